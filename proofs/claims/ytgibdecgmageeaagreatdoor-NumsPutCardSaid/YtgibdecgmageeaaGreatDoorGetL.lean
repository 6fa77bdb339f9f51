/- nums.GetLong walked. -/
import Derived.Test.YtgibdecgmageeaaGreatDoorGet
namespace Go.Proofs.YtgibdecgmageeaaGreatDoor
open Go.RowKit

/-- The word that stands i words from the head of bytes. -/
def wordAt (bs : List Int) (i : Nat) : Int := (num ((bs.drop (8 * i)).take 8) : Nat)

/-- A long number as a value. -/
def Num4 (a b c d : Int) : Value := .agg #[.int .u64 a, .int .u64 b, .int .u64 c, .int .u64 d]

set_option maxHeartbeats 400000 in
theorem GetLong_short (bs : List Int) (A : Option Addr) (cb : Nat) (w : World) (hs : bs.length < 32) :
    Calls Tryz.prog 11 #[.slice A bs.length cb] w (fun e w' => e = .returned (.tuple #[Num4 0 0 0 0, .int .i64 5]) ∧ Below w.heap.size w w') := by
  go_enter Tryz.func11, Tryz.ntmps11
  go_wp2
  exact bodyPost_ret (v := .tuple #[Num4 0 0 0 0, .int .i64 5]) (by simp [results, Tryz.results11, go_sem, Num4]) rfl ⟨rfl, (Below.refl _ _).alloc (Nat.le_refl _) _⟩

set_option maxHeartbeats 1000000 in
theorem GetLong_good (bs : List Int) (A : Option Addr) (cb : Nat) (w : World) (hs : 32 ≤ bs.length) (hc : bs.length ≤ cb) (hcb : cb ≤ 9223372036854775807)
    (hu : IsU8 bs) (hr : Rd w w.heap.size A (U8 bs)) :
    Calls Tryz.prog 11 #[.slice A bs.length cb] w (fun e w' => e = .returned (.tuple #[Num4 (wordAt bs 3) (wordAt bs 2) (wordAt bs 1) (wordAt bs 0), .int .i64 0]) ∧ Below w.heap.size w w') := by
  have key0 : ∀ w1, Below w.heap.size w w1 → Calls Tryz.prog 9 #[.slice A bs.length cb, .int .i64 8] w1 (fun e w' => e = .returned (.tuple #[.int .u64 (wordAt bs 0), .int .i64 0]) ∧ w1 = w') := by
    intro w1 hb
    refine (Get_good bs A cb 8 w1 w.heap.size (by omega) (by omega) hc hcb hu (hr.below hb (Nat.le_refl _))).mono ?_
    rintro e w' ⟨rfl, rfl⟩
    exact ⟨by simp [wordAt], rfl⟩
  obtain ⟨ad, rfl, hadb, hcells⟩ := hr (by simp; omega)
  have key : ∀ (o : Nat) w1, o ≤ 24 → Below w.heap.size w w1 → Calls Tryz.prog 9 #[.slice (some (ad.add o)) (bs.length - o) (cb - o), .int .i64 8] w1 (fun e w' => e = .returned (.tuple #[.int .u64 (num ((bs.drop o).take 8) : Nat), .int .i64 0]) ∧ w1 = w') := by
    intro o w1 ho hb
    have h := Get_good (bs.drop o) (some (ad.add o)) (cb - o) 8 w1 w.heap.size (by omega) (by simp; omega) (by simp; omega) (by omega) (fun x hx => hu x (List.mem_of_mem_drop hx)) (fun _ => ⟨ad.add o, rfl, by rw [add_block]; exact hadb, fun j u hj => by
      rw [hb.cell (by rw [add_block, add_block]; exact hadb), add_add]
      exact hcells _ u (by simpa [U8] using hj)⟩)
    simpa using h
  have H0 := Lib.hid key0; clear key0
  have H := Lib.hid key; clear key
  clear hcells
  go_enter Tryz.func11, Tryz.ntmps11
  go_wp2
  refine wp_loop_rounds 5 ?_
  rw [rounds_succ]
  go_wp2_with fail
  refine (H0.out _ ((Below.refl _ _).alloc (Nat.le_refl _) _)).mono ?_
  rintro e w1 ⟨rfl, rfl⟩
  go_wp2
  rw [rounds_succ]
  go_wp2_with fail
  refine (H.out 8 _ (by omega) ((Below.refl _ _).alloc (Nat.le_refl _) _)).mono ?_
  rintro e w1 ⟨rfl, rfl⟩
  go_wp2
  rw [rounds_succ]
  go_wp2_with fail
  refine (H.out 16 _ (by omega) ((Below.refl _ _).alloc (Nat.le_refl _) _)).mono ?_
  rintro e w1 ⟨rfl, rfl⟩
  go_wp2
  rw [rounds_succ]
  go_wp2_with fail
  refine (H.out 24 _ (by omega) ((Below.refl _ _).alloc (Nat.le_refl _) _)).mono ?_
  rintro e w1 ⟨rfl, rfl⟩
  go_wp2
  rw [rounds_succ]
  go_wp2
  exact bodyPost_ret (v := .tuple #[Num4 (wordAt bs 3) (wordAt bs 2) (wordAt bs 1) (wordAt bs 0), .int .i64 0]) (by simp [results, Tryz.results11, go_sem, Num4, wordAt]) rfl ⟨rfl, (Below.refl _ _).alloc (Nat.le_refl _) _⟩
end Go.Proofs.YtgibdecgmageeaaGreatDoor
