/- nums.Put walked. -/
import Derived.Test.YtgibdecgmageeaaGreatDoorPut
namespace Go.Proofs.YtgibdecgmageeaaGreatDoor
open Go.RowKit

/-- How many bytes a number gets. -/
def many (b : Int) : Nat := (min 8 (max 0 b)).toNat

theorem Rd.one (w : World) (e : TypeId) (v : Value) {B : Nat} (hB : w.heap.size < B) : Rd (w.alloc (.cells #[v] e)) B (some ⟨w.heap.size, 0, none⟩) [v] :=
  Rd.of_blk (Blk.new w e [v]) 0 (fun j u hu => by simpa using hu) hB

theorem put_int (bs : List Int) (A : Option Addr) (cb : Nat) (k : Int) (ws : List Int) (W : Option Addr) (n cw : Nat) (w : World)
    (hk0 : 0 ≤ k) (hk : k ≤ 8) (hn : n = ws.length) (hw4 : ws.length ≤ 4) (hbl : bs.length ≤ 140737488351232)
    (hrb : Rd w w.heap.size A (U8 bs)) (hrw : Rd w w.heap.size W (U64 ws)) (hws : ∀ x ∈ ws, 0 ≤ x ∧ x < 18446744073709551616) :
    Calls Tryz.prog 112 #[.slice A bs.length cb, .int .i64 k, .slice W n cw] w (NewB w (bs ++ bes k.toNat ws)) := by
  subst hn
  obtain ⟨m, rfl⟩ := Int.eq_ofNat_of_zero_le hk0
  exact put_any bs A cb m ws W cw w (by omega) hw4 hbl hrb hrw hws

set_option maxHeartbeats 400000 in
theorem Put_any (bs : List Int) (A : Option Addr) (cb : Nat) (n b : Int) (w : World)
    (hn0 : 0 ≤ n) (hn1 : n < 18446744073709551616) (hbl : bs.length ≤ 140737488351232)
    (hb0 : -9223372036854775808 ≤ b) (hb1 : b ≤ 9223372036854775807)
    (hrb : Rd w w.heap.size A (U8 bs)) :
    Calls Tryz.prog 19 #[.slice A bs.length cb, .int .u64 n, .int .i64 b] w (NewB w (bs ++ be n.toNat (many b))) := by
  have hws : ∀ x ∈ [n], 0 ≤ x ∧ x < 18446744073709551616 := by intro x hx; simp at hx; subst hx; exact ⟨hn0, hn1⟩
  have hrw := Rd.one w 25 (.int .u64 n) (B := w.heap.size + 1) (by omega)
  have hb2 : Below w.heap.size w (w.alloc (.cells #[.int .u64 n] 25)) := (Below.refl _ _).alloc (Nat.le_refl _) _
  have hrb2 := hrb.below hb2 (B' := w.heap.size + 1) (by omega)
  have key : ∀ (k : Int), 0 ≤ k → k ≤ 8 → k.toNat = many b → Calls Tryz.prog 112 #[.slice A bs.length cb, .int .i64 k, .slice (some ⟨w.heap.size, 0, none⟩) 1 1] (w.alloc (.cells #[.int .u64 n] 25)) (NewB w (bs ++ be n.toNat (many b))) := by
    intro k h0 h8 hk
    refine (put_int bs A cb k [n] _ 1 1 _ h0 h8 rfl (by simp) hbl (by simpa using hrb2) (by simpa [U64] using hrw) hws).mono fun e w' h => ?_
    have h' := h.later hb2
    simpa [bes, hk] using h'
  clear hws hrw hb2 hrb2
  go_enter Tryz.func19, Tryz.ntmps19
  go_wp2_with (first | (go_at_call 112; refine (key _ (by omega) (by omega) (by unfold many; omega)).mono ?_; rintro e w' ⟨g, rfl, hg, hB, hb⟩))
  all_goals
    go_ret
    exact ⟨g, by simp, hg, hB, hb⟩

end Go.Proofs.YtgibdecgmageeaaGreatDoor
