/- balefirelaw01.TwinBytes, balefirelaw01.LeftBytes walked: a copy with a mark behind it. -/
import Derived.Test.YtgibdecgmageeaaGreatDoorBas
import Derived.Deep.QuietTactic
import Derived.BigQuiet
namespace Go.Proofs.YtgibdecgmageeaaGreatDoor
open Go.RowKit

/-- A copy of l in a block of its own, from 'base' on, a mark behind it. -/
def Twin (w : World) (base : Nat) (g : Nat) (l : List Int) : Prop := base ≤ g ∧ Blk w g 5 (U8 (l ++ [77]))
theorem Twin.own {w : World} {base g : Nat} {l : List Int} (h : Twin w base g l) (hl : l.length ≤ 140737488351232) : Own w base 5 1 (.slice (some ⟨g, 0, none⟩) l.length (l.length + 1)) l.length (U8 l) :=
  Own.of_blk (rest := [.int .u8 77]) (by simpa [U8] using h.2) (by simp) h.1 (by omega) (by simp) (by omega)
theorem Twin.rd {w : World} {base g : Nat} {l : List Int} (h : Twin w base g l) {B : Nat} (hB : g < B) : Rd w B (some ⟨g, 0, none⟩) (U8 l) :=
  Rd.of_blk h.2 0 (fun j u hu => by rw [Nat.zero_add, U8_append, List.getElem?_append_left (List.getElem?_eq_some_iff.1 hu).1]; exact hu) hB
theorem Twin.below {w w' : World} {base g B : Nat} {l : List Int} (h : Twin w base g l) (hm : Below B w w') (hg : g < B) : Twin w' base g l := ⟨h.1, h.2.below hm hg⟩

set_option maxHeartbeats 400000 in
theorem TwinBytes_any (l : List Int) (A : Option Addr) (c : Nat) (w : World) (hl : l.length ≤ 140737488351232) (hr : Rd w w.heap.size A (U8 l)) :
    Calls Tryz.prog 8 #[.slice A l.length c] w (fun e w' => ∃ g, e = .returned (.slice (some ⟨g, 0, none⟩) l.length (l.length + 1)) ∧ Twin w' w.heap.size g l ∧ Below w.heap.size w w') := by
  obtain ⟨i0, hi, hz0, hz1, hz2⟩ := info_parts Tryz.infoByte
  obtain ⟨c0, hc0⟩ : ∃ c0, c0 = List.replicate (l.length + 1) (Value.int .u8 0) := ⟨_, rfl⟩
  have HC0 := Lib.hid hc0; clear hc0
  go_enter Tryz.func8, Tryz.ntmps8
  go_wp2_with (first | (at_make; refine wpList_make_blk rfl _ _ 22 rfl 5 i0 (.int .u8 0) Tryz.underlying22 hi hz0 hz1 rfl _ _ _ _ rfl rfl 0 (l.length + 1) rfl (by omega) (by omega) (by rw [hz2]; omega) (by omega) ?_; intro w1 hw1; have hB1 : Blk w1 w.heap.size 5 c0 := by { rw [hw1, HC0.out]; exact Blk.new _ _ _ }; have hb1 : Below w.heap.size w w1 := by { rw [hw1]; exact (Below.refl _ _).alloc (Nat.le_refl _) _ }; clear hw1))
  have HB1 : Hid (Blk w1 w.heap.size 5 (U8 (l.take 0) ++ List.replicate (l.length + 1 - 0) (Value.int .u8 0))) := by
    rw [HC0.out] at hB1; unfold Hid; simpa [U8] using hB1
  clear hB1
  go_loopw [3, 4] (fun v i wr => ∃ j : Nat, j ≤ l.length ∧ i = .int .i64 j ∧ v = .slice (some ⟨w.heap.size, 0, none⟩) j (l.length + 1) ∧
      Hid (Blk wr w.heap.size 5 (U8 (l.take j) ++ List.replicate (l.length + 1 - j) (Value.int .u8 0))) ∧ Below w.heap.size w wr) (fun _ i _ => l.length - (intOf i).toNat)
  case atStart => exact ⟨0, by omega, rfl, rfl, HB1, hb1⟩
  case round =>
    obtain ⟨j, hj, rfl, rfl, HB, hb⟩ := hrel
    by_cases hlt : j < l.length
    · obtain ⟨ad, rfl, hadb, hcells⟩ := hr (by simp; omega)
      have hc : wr.cell? (ad.add j) = some (.int .u8 l[j]) := by
        rw [hb.cell (by rw [add_block]; exact hadb)]
        exact hcells j _ (by simp [U8, hlt])
      obtain ⟨x, hxe⟩ : ∃ x, x = l[j] := ⟨_, rfl⟩
      rw [← hxe] at hc
      have HX := Lib.hid hxe; clear hxe hcells
      have hjI : (j : Int) < l.length := by omega
      go_wp2_with (first | (at_builtin; refine wpList_append_blk rfl (.tmp 15) (.tmp 20) 22 rfl 5 i0 1 Tryz.underlying22 hi hz1 w.heap.size _ _ _ rfl (HB.out.alloc _) ⟨wr.heap.size, 0, none⟩ 1 1 rfl [.int .u8 x] rfl ?d1 ?d2 (by omega) ?d3 ?_))
      case d1 =>
        intro t u hu
        match t, hu with
        | 0, hu => simp at hu; subst hu; simp [Addr.add]
      case d2 => intro u hu; simp at hu; subst hu; rfl
      case d3 => simp; omega
      intro w3 hB3 hm3
      have hb3 : Below w.heap.size w w3 := (hb.alloc hb.size _).trans (hm3.below_one (by have := hb.size; simp; omega) (Nat.le_refl _))
      have HB3 : Hid (Blk w3 w.heap.size 5 (U8 (l.take (j + 1)) ++ List.replicate (l.length + 1 - (j + 1)) (Value.int .u8 0))) := by
        rw [splice_end _ _ _ _ (by simp; omega)] at hB3
        have e : l.length + 1 - (j + 1) = l.length + 1 - j - 1 := by omega
        rw [e, List.take_succ_eq_append_getElem hlt, U8_append, ← HX.out]
        unfold Hid; simpa [U8] using hB3
      clear hB3 hm3
      go_wp2
      go_roundw
      case rel => exact ⟨j + 1, by omega, by go_num, rfl, HB3, hb3⟩
      case measure => simp [intOf]; omega
    · obtain rfl : j = l.length := by omega
      go_wp2_with (first | (at_builtin; refine wpList_append_blk rfl (.tmp 22) (.tmp 23) 22 rfl 5 i0 1 Tryz.underlying22 hi hz1 w.heap.size _ _ _ rfl (HB.out.alloc _) ⟨wr.heap.size, 0, none⟩ 1 1 rfl [.int .u8 77] rfl ?d1 ?d2 (by omega) ?d3 ?_))
      case d1 =>
        intro t u hu
        match t, hu with
        | 0, hu => simp at hu; subst hu; simp [Addr.add]
      case d2 => intro u hu; simp at hu; subst hu; rfl
      case d3 => simp
      intro w3 hB3 hm3
      have hb3 : Below w.heap.size w w3 := (hb.alloc hb.size _).trans (hm3.below_one (by have := hb.size; simp; omega) (Nat.le_refl _))
      have HB3 : Hid (Blk w3 w.heap.size 5 (U8 (l ++ [77]))) := by
        rw [splice_end _ _ _ _ (by simp)] at hB3
        unfold Hid; simpa [U8] using hB3
      clear hB3 hm3
      go_wp2
      go_ret
      exact ⟨w.heap.size, rfl, ⟨Nat.le_refl _, HB3.out⟩, hb3⟩

set_option maxHeartbeats 400000 in
theorem LeftBytes_yes (l : List Int) (g : Nat) (A : Option Addr) (c : Nat) (w : World) (B : Nat) (hl : l.length ≤ 140737488351232) (hB : Blk w g 5 (U8 (l ++ [77]))) (hr : Rd w B A (U8 l)) :
    Calls Tryz.prog 16 #[.slice (some ⟨g, 0, none⟩) l.length (l.length + 1), .slice A l.length c] w (fun e w' => e = .returned (.bool true) ∧ Drawn w w') := by
  have hm : w.cell? ⟨g, l.length, none⟩ = some (.int .u8 77) := by rw [hB.cell]; simp [U8]
  have hcell : ∀ j (h : j < l.length), w.cell? ⟨g, j, none⟩ = some (.int .u8 l[j]) := by
    intro j h; rw [hB.cell, U8_append, List.getElem?_append_left (by simpa using h)]; simp [U8, h]
  have HC := Lib.hid hcell; clear hcell hB
  go_enter Tryz.func16, Tryz.ntmps16
  go_wp2
  go_loopw [5] (fun i wr => ∃ j : Nat, j ≤ l.length ∧ i = .int .i64 j ∧ Drawn w wr) (fun i _ => l.length - (intOf i).toNat)
  case atStart => exact ⟨0, by omega, rfl, Drawn.refl _⟩
  case round =>
    obtain ⟨j, hj, rfl, nq, rfl⟩ := hrel
    by_cases hlt : j < l.length
    · obtain ⟨ad, rfl, _, hc⟩ := hr (by simp; omega)
      have c1 := HC.out j hlt
      have c2 : w.cell? (ad.add j) = some (.int .u8 l[j]) := hc j _ (by simp [U8, hlt])
      obtain ⟨x, hx⟩ : ∃ x, x = l[j] := ⟨_, rfl⟩
      rw [← hx] at c1 c2
      clear hc hx
      have hjI : (j : Int) < l.length := by omega
      go_wp2_with fail
      go_quiet (fail)
      go_wp2
      go_roundw
      case rel => exact ⟨j + 1, by omega, by go_num, _, rfl⟩
      case measure => simp [intOf]; omega
    · obtain rfl : j = l.length := by omega
      go_wp2
      go_ret
      exact ⟨rfl, _, rfl⟩
end Go.Proofs.YtgibdecgmageeaaGreatDoor
