/- New, bytes.Clone walked. -/
import Derived.Test.YtgibdecgmageeaaDoorDisk11
namespace Go.Proofs.YtgibdecgmageeaaDoor
open Go.RowKit

theorem New_bad (z : Int) (w : World) (h : z < 1 ∨ 8388608 < z) :
    Calls Tryd.prog 15 #[.int .i64 z] w (fun e w' => e = .returned (.tuple #[.pointer none, .int .i64 1]) ∧ w = w') := by
  rcases h with h | h
  · go_enter Tryd.func15, Tryd.ntmps15
    go_wp2
    go_ret2
    exact ⟨rfl, rfl⟩
  · have h' : ¬ z < 1 := by omega
    go_enter Tryd.func15, Tryd.ntmps15
    go_wp2
    go_ret2
    exact ⟨rfl, rfl⟩

def newCd (g : Nat) (z : Int) : Cd := ⟨g, z, List.replicate 64 free, List.replicate 64 free, []⟩
theorem newCd_m (g : Nat) (z : Int) : (newCd g z).m = newDm z := rfl
theorem newCd_sep (w : World) (z : Int) (b0 : Nat) : Sep (w.alloc (.cells (newCells z).toArray 72)) ((newCd w.heap.size z).asn b0) :=
  Sep.one.2 (Blk.lit w _ _ rfl _ _ rfl)

theorem zero_new (z : Int) : Tryd.zeroCells72.setIfInBounds 0 (.int .i64 z) = (newCells z).toArray := by kernel_rfl
set_option maxRecDepth 100000 in
theorem New_ok (z : Int) (w : World) (h0 : 1 ≤ z) (h1 : z ≤ 8388608) :
    Calls Tryd.prog 15 #[.int .i64 z] w (fun e w' => e = .returned (.tuple #[.pointer (some ⟨w.heap.size, 0, none⟩), .int .i64 0]) ∧ w.alloc (.cells (newCells z).toArray 72) = w') := by
  have hb := zero_new z
  have HB := Lib.hid hb; clear hb
  go_enter Tryd.func15, Tryd.ntmps15
  go_wp2
  go_ret2
  exact ⟨rfl, by rw [← HB.out]⟩

theorem TabOk.free_ (n : Nat) : TabOk n (List.replicate 64 free) := by
  refine ⟨by simp, ?_, ?_, ?_, ?_⟩
  · intro p hp _; rw [List.eq_of_mem_replicate hp]
  · intro p hp i hi; rw [List.eq_of_mem_replicate hp] at hi; cases hi
  · intro i j p q hp _ hs; rw [List.eq_of_mem_replicate (List.mem_of_getElem? hp)] at hs; cases hs
  · intro i j p q hp _ hs; rw [List.eq_of_mem_replicate (List.mem_of_getElem? hp)] at hs; cases hs
theorem newDm_ok {z : Int} (h0 : 0 ≤ z) (h1 : z ≤ 8388608) : (newDm z).ok := ⟨h0, h1, TabOk.free_ _, TabOk.free_ _, by intro f hf; cases hf⟩

set_option maxRecDepth 100000 in
/-- bytes.Clone of what is there. -/
theorem Clone_some (bs : List Int) (ad : Addr) (n c : Nat) (w : World) (hn : n = bs.length) (hl : n ≤ 140737488351232) (hr : Rd w w.heap.size (some ad) (U8 bs)) :
    Calls Tryd.prog 52 #[.slice (some ad) n c] w (fun e w' => ∃ A cap, e = .returned (.slice A n cap) ∧ Own w' w.heap.size 5 1 (.slice A n cap) n (U8 bs) ∧ Below w.heap.size w w') := by
  obtain ⟨i0, hi, hz0, hz1, hz2⟩ := info_parts Tryd.infoByte
  have HN := Lib.hid hn; clear hn
  have hE : Own (w.alloc (.cells #[] 5)) w.heap.size 5 1 (.slice (some ⟨w.heap.size, 0, none⟩) 0 0) 0 [] := Own.of_blk (rest := []) (Blk.lit w _ _ rfl _ _ rfl) rfl (Nat.le_refl _) (Nat.le_refl _) (by simp) (by omega)
  have hr' := hr.below ((Below.refl w.heap.size w).alloc (Nat.le_refl _) (.cells #[] 5)) (Nat.le_refl _)
  have HE := Lib.hid hE; clear hE hr
  have he : ∀ w : World, (binOp .eql 37 (.slice (some ad) n c) (.slice none 0 0)).run Tryd.prog w = .ok (.bool false) w := fun _ => rfl
  go_enter Tryd.func52, Tryd.ntmps52
  go_wp2_with (at_builtin; refine wpList_append_Own rfl (.tmp 5) (.tmp 6) 37 rfl i0 (.int .u8 0) 1 Tryd.underlying37 hi hz0 hz1 hz2 rfl (by decide) rfl HE.out w.heap.size (some ad) n c rfl (U8 bs) (by rw [HN.out]; simp) hr' (oneCell_U8 _) (by omega) (by omega) (by simp) ?_; intro v' w' ho _ hm _ _)
  obtain ⟨A, cap, rfl, _⟩ := ho.shape
  have hb : Below w.heap.size w w' := ((Below.refl w.heap.size w).alloc (Nat.le_refl _) (.cells #[] 5)).trans (hm.below_own (by simp) (fun g hg => (HE.out.lt g hg).1))
  have HO := Lib.hid ho; clear hm ho
  rw [Nat.zero_add] at *
  go_ret
  exact ⟨A, cap, rfl, by simpa using HO.out, hb⟩
end Go.Proofs.YtgibdecgmageeaaDoor
