/- nums.PutLong walked, with the four words turned round (slices.Reverse). -/
import Derived.Test.YtgibdecgmageeaaGreatDoorPut2
import Derived.BigRegion
namespace Go.Proofs.YtgibdecgmageeaaGreatDoor
open Go.RowKit

set_option maxHeartbeats 1000000 in
theorem reverse4 (g : Nat) (a b c d : Int) (w : World) (e : TypeId) (hB : Blk w g e (U64 [a, b, c, d])) :
    Calls Tryz.prog 113 #[.slice (some ⟨g, 0, none⟩) 4 4] w
      fun en w' => en = .returned (.tuple #[]) ∧ Blk w' g e (U64 [d, c, b, a]) ∧ Mods (· = g) w w' := by
  have c0 : w.cell? ⟨g, 0, none⟩ = some (.int .u64 a) := by rw [hB.cell]; rfl
  have c1 : w.cell? ⟨g, 1, none⟩ = some (.int .u64 b) := by rw [hB.cell]; rfl
  have c2 : w.cell? ⟨g, 2, none⟩ = some (.int .u64 c) := by rw [hB.cell]; rfl
  have c3 : w.cell? ⟨g, 3, none⟩ = some (.int .u64 d) := by rw [hB.cell]; rfl
  have f0 : ∀ i, w.frozen? ⟨g, i, none⟩ = false := hB.free
  go_enter Tryz.func113, Tryz.ntmps113
  go_wp2
  refine wp_loop_rounds 3 ?_
  rw [rounds_succ]
  go_wp2
  go_region
  go_wp2
  rw [rounds_succ]
  go_wp2
  go_region
  go_wp2
  rw [rounds_succ]
  go_wp2
  go_end0
  refine ⟨rfl, ((((hB.set 0 _).set 3 _).set 1 _).set 2 _).drew.drew, ?_⟩
  exact ((((((Mods.refl _ _).putg 0 _).putg 3 _).putg 1 _).putg 2 _).drw).drw

/-- The bytes of a long number: the highest word first. -/
def long (a b c d : Int) : List Int := bes 8 [d, c, b, a]

set_option maxHeartbeats 400000 in
theorem PutLong_any (bs : List Int) (A : Option Addr) (cb : Nat) (a b c d : Int) (w : World) (hbl : bs.length ≤ 140737488351232)
    (hws : ∀ x ∈ [d, c, b, a], 0 ≤ x ∧ x < 18446744073709551616) (hrb : Rd w w.heap.size A (U8 bs)) :
    Calls Tryz.prog 20 #[.slice A bs.length cb, .agg #[.int .u64 a, .int .u64 b, .int .u64 c, .int .u64 d]] w (NewB w (bs ++ long a b c d)) := by
  go_enter Tryz.func20, Tryz.ntmps20
  go_wp2_with fail
  refine (reverse4 _ a b c d _ _ (Blk.new w 30 (U64 [a, b, c, d]))).mono ?_
  rintro e w1 ⟨rfl, hB, hm⟩
  have hb : Below w.heap.size w w1 := ((Below.refl _ _).alloc (Nat.le_refl _) _).trans (hm.below_one (by simp) (Nat.le_refl _))
  have hrw : Rd w1 w1.heap.size (some ⟨w.heap.size, 0, none⟩) (U64 [d, c, b, a]) := Rd.of_blk hB 0 (fun j u hu => by simpa using hu) hB.lt
  have hrb1 := hrb.below hb hb.size
  clear hm
  go_wp2_with fail
  refine (put_int bs A cb 8 [d, c, b, a] _ 4 4 _ (by omega) (by omega) rfl (by simp) hbl hrb1 hrw hws).mono ?_
  rintro e w2 h
  have h2 := h.later hb
  obtain ⟨g, rfl, hg, hB2, hb2⟩ := h2
  clear h hB
  go_wp2
  go_ret
  exact ⟨g, by simp [long], hg, hB2, hb2⟩
end Go.Proofs.YtgibdecgmageeaaGreatDoor
