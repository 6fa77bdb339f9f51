/- Small functions walked: balefirelaw01.SameBytes, slices.Clip, slices.Clone. -/
import Derived.Test.YtgibdecgmageeaaGreatDoorBas
namespace Go.Proofs.YtgibdecgmageeaaGreatDoor
open Go.RowKit

set_option maxHeartbeats 400000 in
theorem SameBytes_yes (bs : List Int) (A A' : Option Addr) (c c' : Nat) (w : World) (B : Nat) (hl : bs.length ≤ 140737488351232)
    (hr : Rd w B A (U8 bs)) (hr' : Rd w B A' (U8 bs)) :
    Calls Tryz.prog 15 #[.slice A bs.length c, .slice A' bs.length c'] w (fun e w' => e = .returned (.bool true) ∧ Drawn w w') := by
  go_enter Tryz.func15, Tryz.ntmps15
  go_wp2
  go_loopw [5] (fun i wr => ∃ j : Nat, j ≤ bs.length ∧ i = .int .i64 j ∧ Drawn w wr) (fun i _ => bs.length - (intOf i).toNat)
  case atStart => exact ⟨0, by omega, rfl, Drawn.refl _⟩
  case round =>
    obtain ⟨j, hj, rfl, nq, rfl⟩ := hrel
    by_cases hlt : j < bs.length
    · obtain ⟨ad, rfl, _, hc⟩ := hr (by simp; omega)
      obtain ⟨ad', rfl, _, hc'⟩ := hr' (by simp; omega)
      have c1 : w.cell? (ad.add j) = some (.int .u8 bs[j]) := hc j _ (by simp [U8, hlt])
      have c2 : w.cell? (ad'.add j) = some (.int .u8 bs[j]) := hc' j _ (by simp [U8, hlt])
      obtain ⟨x, hx⟩ : ∃ x, x = bs[j] := ⟨_, rfl⟩
      rw [← hx] at c1 c2
      clear hc hc' hx
      have hjI : (j : Int) < bs.length := by omega
      go_wp2_with fail
      go_quiet (fail)
      go_wp2
      go_roundw
      case rel => exact ⟨j + 1, by omega, by go_num, _, rfl⟩
      case measure => simp [intOf]; omega
    · obtain rfl : j = bs.length := by omega
      go_wp2
      go_ret
      exact ⟨rfl, _, rfl⟩

set_option maxHeartbeats 400000 in
theorem Clip_any (A : Option Addr) (n c : Nat) (w : World) (h : n ≤ c) (_hm : c ≤ 9223372036854775807) :
    Calls Tryz.prog 58 #[.slice A n c] w fun e w' => e = .returned (.slice A n n) ∧ w = w' := by
  go_enter Tryz.func58, Tryz.ntmps58
  go_wp2
  go_ret
  exact ⟨rfl, rfl⟩

set_option maxHeartbeats 400000 in
theorem Clone_any (bs : List Int) (A : Option Addr) (c : Nat) (w : World) (hl : bs.length ≤ 140737488351232) (hA : A = none → bs = [] ∧ c = 0)
    (hr : Rd w w.heap.size A (U8 bs)) :
    Calls Tryz.prog 59 #[.slice A bs.length c] w (RetB w bs) := by
  obtain ⟨i0, hi, hz0, hz1, hz2⟩ := info_parts Tryz.infoByte
  cases A with
  | none =>
    obtain ⟨rfl, rfl⟩ := hA rfl
    have he := fun wx => Lib.run_eql_slice_nil (P := Tryz.prog) wx 22 5 none 0 0 0 0 Tryz.underlying22
    go_enter Tryz.func59, Tryz.ntmps59
    go_wp2
    go_ret
    exact ⟨_, rfl, Own.nil _ _ _ _, Below.refl _ _⟩
  | some ad =>
    have he := fun wx => Lib.run_eql_slice_nil (P := Tryz.prog) wx 22 5 (some ad) bs.length c 0 0 Tryz.underlying22
    go_enter Tryz.func59, Tryz.ntmps59
    have hown : Own (w.alloc (.cells #[] 5)) w.heap.size 5 1 (.slice (some ⟨w.heap.size, 0, none⟩) 0 0) 0 [] :=
      Own.of_blk (rest := []) (Blk.new w _ []) rfl (Nat.le_refl _) (Nat.le_refl _) (by simp) (by omega)
    have hb : Below w.heap.size w (w.alloc (.cells #[] 5)) := (Below.refl _ _).alloc (Nat.le_refl _) _
    have hr1 := hr.below hb (Nat.le_refl _)
    go_wp2_with (first | (at_builtin; refine wpList_append_Own rfl (.tmp 5) (.tmp 6) 22 rfl i0 (.int .u8 0) 1 Tryz.underlying22 hi hz0 hz1 hz2 rfl (by decide) rfl hown w.heap.size (some ad) bs.length c rfl (U8 bs) (by simp) hr1 (oneCell_U8 _) (by omega) (by omega) (by simp) ?_))
    intro v' w' ho _ hm _ _
    have hb2 : Below w.heap.size w w' := hb.trans (hm.below_own (by simp) (fun g hg => (hown.lt g hg).1))
    clear hm
    go_wp2
    go_ret
    exact ⟨v', rfl, by simpa using ho, hb2⟩
end Go.Proofs.YtgibdecgmageeaaGreatDoor
