/- What Get.. answers of any bytes: the code's, and the document's. -/
import Derived.Test.YtgibdecgmageeaaGreatDoorRefGet
import Derived.Test.YtgibdecgmageeaaGreatDoorRefPut
import Derived.Test.YtgibdecgmageeaaGreatDoorTwinB
import Derived.Test.YtgibdecgmageeaaGreatDoorBeyond
import Derived.Test.YtgibdecgmageeaaGreatDoorBook6
namespace Go.Proofs.YtgibdecgmageeaaGreatDoor
open Go.RowKit

/-- What GetBytes answers. -/
def resB (bs : List Int) : List Int × Int × Int := match getBytesF bs with | some l => (l, 4 + l.length, 0) | none => ([], 0, 5)
theorem resB_len (bs : List Int) : (resB bs).1.length ≤ bs.length := by
  unfold resB getBytesF
  by_cases h : bs.length < 4
  · rw [if_pos h]; simp
  · rw [if_neg h]
    by_cases h2 : bs.length - 4 < num (bs.take 4)
    · rw [if_pos h2]; simp
    · rw [if_neg h2]; simp; omega

theorem GetBytes_any (bs l : List Int) (tk er : Int) (hres : resB bs = (l, tk, er)) (n : Nat) (hn : n = bs.length) (A : Option Addr) (cb : Nat) (w : World) (hc : n ≤ cb) (hcb : cb ≤ 9223372036854775807) (hbl : n ≤ 140737488351232) (hu : IsU8 bs) (hr : Rd w w.heap.size A (U8 bs)) :
    Calls Tryz.prog 13 #[.slice A n cb] w (fun e w' => ∃ X, e = .returned (.tuple #[.slice X l.length l.length, .int .i64 tk, .int .i64 er]) ∧ Own w' w.heap.size 5 1 (.slice X l.length l.length) l.length (U8 l) ∧ Below w.heap.size w w') := by
  subst hn
  unfold resB at hres
  cases hg : getBytesF bs with
  | none =>
    rw [hg] at hres
    simp only [Prod.mk.injEq] at hres
    obtain ⟨rfl, rfl, rfl⟩ := hres
    refine (GetBytes_short bs A cb w hg hc hcb hu hr).mono ?_
    rintro e w' ⟨rfl, rfl⟩
    exact ⟨none, rfl, Own.nil _ _ _ _, Below.refl _ _⟩
  | some l' =>
    rw [hg] at hres
    simp only [Prod.mk.injEq] at hres
    obtain ⟨rfl, rfl, rfl⟩ := hres
    exact GetBytes_good bs l' A cb w hg hc hcb hbl hu hr

theorem RefGetBytes_any (bs l : List Int) (tk er : Int) (hres : resB bs = (l, tk, er)) (n : Nat) (hn : n = bs.length) (A : Option Addr) (cb : Nat) (w : World) (hc : n ≤ cb) (hcb : cb ≤ 9223372036854775807) (hbl : n ≤ 140737488351232) (hu : IsU8 bs) (hr : Rd w w.heap.size A (U8 bs)) :
    Calls Tryz.prog 14 #[.slice A n cb] w (fun e w' => ∃ X c, e = .returned (.tuple #[.slice X l.length c, .int .i64 tk, .int .i64 er]) ∧ Own w' w.heap.size 5 1 (.slice X l.length c) l.length (U8 l) ∧ Below w.heap.size w w') := by
  subst hn
  unfold resB at hres
  cases hg : getBytesF bs with
  | none =>
    rw [hg] at hres
    simp only [Prod.mk.injEq] at hres
    obtain ⟨rfl, rfl, rfl⟩ := hres
    refine (RefGetBytes_short bs A cb w hg hu hr).mono ?_
    rintro e w' ⟨rfl, rfl⟩
    exact ⟨none, 0, rfl, Own.nil _ _ _ _, Below.refl _ _⟩
  | some l' =>
    rw [hg] at hres
    simp only [Prod.mk.injEq] at hres
    obtain ⟨rfl, rfl, rfl⟩ := hres
    exact RefGetBytes_good bs l' A cb w hg hc hcb hbl hu hr

/-- What GetLong answers. -/
def resL (bs : List Int) : (Int × Int × Int × Int) × Int := if bs.length < 32 then ((0, 0, 0, 0), 5) else ((wordAt bs 3, wordAt bs 2, wordAt bs 1, wordAt bs 0), 0)
theorem GetLong_any (bs : List Int) (a b c d er : Int) (hres : resL bs = ((a, b, c, d), er)) (n : Nat) (hn : n = bs.length) (A : Option Addr) (cb : Nat) (w : World) (hc : n ≤ cb) (hcb : cb ≤ 9223372036854775807) (hu : IsU8 bs) (hr : Rd w w.heap.size A (U8 bs)) :
    Calls Tryz.prog 11 #[.slice A n cb] w (fun e w' => e = .returned (.tuple #[.agg #[.int .u64 a, .int .u64 b, .int .u64 c, .int .u64 d], .int .i64 er]) ∧ Below w.heap.size w w') := by
  subst hn
  unfold resL at hres
  by_cases h : bs.length < 32
  · rw [if_pos h] at hres
    simp only [Prod.mk.injEq] at hres
    obtain ⟨⟨rfl, rfl, rfl, rfl⟩, rfl⟩ := hres
    exact GetLong_short bs A cb w h
  · rw [if_neg h] at hres
    simp only [Prod.mk.injEq] at hres
    obtain ⟨⟨rfl, rfl, rfl, rfl⟩, rfl⟩ := hres
    exact GetLong_good bs A cb w (by omega) hc hcb hu hr
theorem RefGetLong_any (bs : List Int) (a b c d er : Int) (hres : resL bs = ((a, b, c, d), er)) (n : Nat) (hn : n = bs.length) (A : Option Addr) (cb : Nat) (w : World) (hc : n ≤ cb) (hcb : cb ≤ 9223372036854775807) (hu : IsU8 bs) (hr : Rd w w.heap.size A (U8 bs)) :
    Calls Tryz.prog 12 #[.slice A n cb] w (fun e w' => e = .returned (.tuple #[.agg #[.int .u64 a, .int .u64 b, .int .u64 c, .int .u64 d], .int .i64 er]) ∧ Below w.heap.size w w') := by
  subst hn
  unfold resL at hres
  by_cases h : bs.length < 32
  · rw [if_pos h] at hres
    simp only [Prod.mk.injEq] at hres
    obtain ⟨⟨rfl, rfl, rfl, rfl⟩, rfl⟩ := hres
    exact RefGetLong_short bs A cb w h
  · rw [if_neg h] at hres
    simp only [Prod.mk.injEq] at hres
    obtain ⟨⟨rfl, rfl, rfl, rfl⟩, rfl⟩ := hres
    exact RefGetLong_good bs A cb w (by omega) hc hcb hu hr
end Go.Proofs.YtgibdecgmageeaaGreatDoor
