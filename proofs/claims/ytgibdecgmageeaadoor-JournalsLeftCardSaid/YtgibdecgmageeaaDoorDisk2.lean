/- (*files.table).at walked. -/
import Derived.Test.YtgibdecgmageeaaDoorDisk1
import Derived.Deep.RegionLaw
import Derived.Deep.LoopGhost
namespace Go.Proofs.YtgibdecgmageeaaDoor
open Go.RowKit

theorem bytes_eq {x y : ByteArray} (h : (x.toList == y.toList) = true) : x = y := by
  rw [beq_iff_eq, ByteArray.toList_eq, ByteArray.toList_eq] at h
  exact ByteArray.ext (Array.toList_inj.1 h)
theorem bytes_ne {x y : ByteArray} (h : (x.toList == y.toList) = false) : x ≠ y := by
  rintro rfl
  simp at h

def atI (t : List Pl) (s : ByteArray) : Int := if idx t s < t.length then idx t s else -1

set_option maxHeartbeats 1000000 in
theorem at_any (g o : Nat) (rows : List RowC) (t : List Pl) (s : ByteArray) (w : World) (hl : t.length = 64) (hT : TabAt w g o rows t) (hg : g < w.heap.size) :
    Calls Tryd.prog 54 #[.pointer (some ⟨g, o, none⟩), .string s] w (fun e w' => e = .returned (.int .i64 (atI t s)) ∧ Below w.heap.size w w') := by
  have HT := Lib.hid hT; clear hT
  have HL := Lib.hid hl; clear hl
  go_enter Tryd.func54, Tryd.ntmps54
  go_wp2
  go_step3
  go_wp2
  go_step3
  go_wp2
  go_loopw [4, 9] (fun v i wr => ∃ j : Nat, j ≤ 64 ∧ i = .int .i64 j ∧ v = .int .i64 (-1) ∧ Hid (∀ i (hi : i < t.length), i < j → (t[i]'hi).1 ≠ s) ∧ Below w.heap.size w wr) (fun _ i _ => 64 - (intOf i).toNat)
  case atStart => exact ⟨0, by omega, rfl, rfl, fun _ _ h => absurd h (by omega), Below.refl _ _⟩
  case round =>
    obtain ⟨j, hj, rfl, rfl, HN, hb⟩ := hrel
    by_cases hlt : j < 64
    · have hjl : j < t.length := by rw [HL.out]; exact hlt
      have hgr : g < wr.heap.size := Nat.lt_of_lt_of_le hg hb.size
      have ca : ∀ ob, (wr.alloc ob).cell? ⟨g, o + j * 2, none⟩ = some (.string (t[j]'hjl).1) ∧ (wr.alloc ob).cell? ⟨g, o + j * 2 + 1, none⟩ = some (.pointer ((t[j]'hjl).2.bind fun i => rows[i]?.map fun x => ⟨x.r, 0, none⟩)) := fun ob =>
        (HT.out.below (hb.alloc hb.size ob) hg) j hjl
      have cw := (HT.out.below hb hg) j hjl
      generalize hx : (t[j]'hjl).1 = x at ca cw
      generalize hy : ((t[j]'hjl).2.bind fun i => rows[i]?.map fun x => (⟨x.r, 0, none⟩ : Addr)) = y at ca cw
      obtain ⟨w1, w2⟩ := cw
      have c1 := fun ob => (ca ob).1
      have c2 := fun ob => (ca ob).2
      have HX := Lib.hid hx; clear hx hy ca
      go_wp2
      go_region
      go_wp2
      · have hxs : x = s := bytes_eq (by assumption)
        rw [Exit.noGoto_ret]
        go_ret
        have e : idx t s = j := idx_eq hjl (by rw [HX.out]; exact hxs) (fun i hi => HN.out i (by omega) hi)
        refine ⟨?_, (hb.alloc hb.size _).drew⟩
        rw [atI, if_pos (by rw [e]; exact hjl), e]
        rfl
      · have hxs : x ≠ s := bytes_ne (by assumption)
        go_roundw
        case rel =>
          refine ⟨j + 1, by omega, by go_num, rfl, fun i hi hlt => ?_, (hb.alloc hb.size _).drew⟩
          by_cases hij : i = j
          · subst hij; rw [HX.out]; exact hxs
          · exact HN.out i hi (by omega)
        case measure => simp [intOf]; omega
    · obtain rfl : j = 64 := by omega
      go_wp2
      rw [Exit.noGoto_ret]
      go_ret
      have e : atI t s = -1 := by
        unfold atI
        rw [if_neg]
        intro h
        exact HN.out _ h (by rw [← HL.out]; exact h) (idx_at h)
      exact ⟨by rw [e]; rfl, hb⟩
end Go.Proofs.YtgibdecgmageeaaDoor
