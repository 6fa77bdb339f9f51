/- balefirelaw01.Beyond walked. -/
import Derived.Test.YtgibdecgmageeaaGreatDoorBas
namespace Go.Proofs.YtgibdecgmageeaaGreatDoor
open Go.RowKit

def I64 (l : List Int) : List Value := l.map (Value.int .i64)
@[simp] theorem length_I64 (l : List Int) : (I64 l).length = l.length := by simp [I64]
def total (l : List Int) : Int := l.foldl (· + ·) 0
theorem total_take_succ (l : List Int) (j : Nat) (h : j < l.length) : total (l.take (j + 1)) = total (l.take j) + l[j]'h := by
  unfold total; rw [List.take_succ_eq_append_getElem h, List.foldl_append]; rfl
theorem total_nonneg (l : List Int) (h : ∀ x ∈ l, 0 ≤ x) : 0 ≤ total l := by
  induction l using snoc_ind with
  | h0 => simp [total]
  | hs l c ih =>
    have := ih (fun x hx => h x (by simp [hx]))
    have := h c (by simp)
    simp [total] at *; omega
theorem total_take_le (l : List Int) (h : ∀ x ∈ l, 0 ≤ x) (j : Nat) : total (l.take j) ≤ total l := by
  have e : total l = total (l.take j) + total (l.drop j) := by
    conv => lhs; rw [← List.take_append_drop j l]
    simp only [total, List.foldl_append]
    generalize List.foldl (· + ·) 0 (l.take j) = a
    have : ∀ (m : List Int) (a b : Int), List.foldl (· + ·) (a + b) m = a + List.foldl (· + ·) b m := by
      intro m
      induction m with
      | nil => simp
      | cons c m ih => intro a b; simp only [List.foldl_cons]; rw [Int.add_assoc, ih]
    have := this (l.drop j) a 0
    simpa using this
  have := total_nonneg (l.drop j) (fun x hx => h x (List.mem_of_mem_drop hx))
  omega

set_option maxHeartbeats 400000 in
theorem Beyond_any (zs : List Int) (A : Option Addr) (c : Nat) (w : World) (B : Nat) (yes : Bool) (hl : zs.length ≤ 1000) (hz : ∀ x ∈ zs, 0 ≤ x ∧ x ≤ 140737488351232)
    (hr : Rd w B A (I64 zs)) (hy : yes = decide (1048576 < total zs)) :
    Calls Tryz.prog 7 #[.slice A zs.length c] w (fun e w' => e = .returned (.bool yes) ∧ w = w') := by
  have HY := Lib.hid hy; clear hy
  go_enter Tryz.func7, Tryz.ntmps7
  go_wp2
  go_loop [3, 4] (fun n i => ∃ (j : Nat) (t : Int), j ≤ zs.length ∧ i = .int .i64 j ∧ n = .int .i64 t ∧ Hid (t = total (zs.take j)) ∧ 0 ≤ t ∧ t ≤ 1048576) (fun _ i => zs.length - (intOf i).toNat)
  case atStart => exact ⟨0, 0, by omega, rfl, rfl, by simp [Hid, total], by omega, by omega⟩
  case round =>
    obtain ⟨j, t, hj, rfl, rfl, Ht, ht0, ht1⟩ := hrel
    by_cases hlt : j < zs.length
    · obtain ⟨ad, rfl, _, hc⟩ := hr (by simp; omega)
      have c1 : w.cell? (ad.add j) = some (.int .i64 zs[j]) := hc j _ (by simp [I64, hlt])
      have hx := hz _ (List.getElem_mem hlt)
      have Hn : Hid (total (zs.take (j + 1)) = t + zs[j]) := by rw [Ht.out]; exact total_take_succ _ _ hlt
      obtain ⟨x, hxe⟩ : ∃ x, x = zs[j] := ⟨_, rfl⟩
      rw [← hxe] at c1 hx Hn
      obtain ⟨hx0, hx1⟩ := hx
      have hle := total_take_le zs (fun x hx => (hz x hx).1) (j + 1)
      have Hle := Lib.hid hle
      clear hc hxe hle
      by_cases hb : 1048576 < t + x
      · go_wp2
        go_ret
        refine ⟨?_, rfl⟩
        have h1 := Hle.out
        rw [Hn.out] at h1
        have h2 : yes = true := by rw [HY.out]; simp; omega
        rw [h2]; rfl
      · go_wp2
        go_round
        case rel => exact ⟨j + 1, t + x, by omega, by go_num, rfl, Hn.out.symm, by omega, by omega⟩
        case measure => simp [intOf]; omega
    · obtain rfl : j = zs.length := by omega
      go_wp2
      go_ret
      have h2 : yes = false := by rw [HY.out]; simp [Hid] at Ht; simp; omega
      exact ⟨by rw [h2]; rfl, rfl⟩
end Go.Proofs.YtgibdecgmageeaaGreatDoor
