/- nums.Get walked. -/
import Derived.Test.YtgibdecgmageeaaGreatDoorPut3
namespace Go.Proofs.YtgibdecgmageeaaGreatDoor
open Go.RowKit

/-- What Get answers. -/
def getF (bs : List Int) (b : Int) : Int × Int :=
  if b < 0 ∨ 8 < b then (0, 1) else if (bs.length : Int) < b then (0, 5) else ((num (bs.take b.toNat) : Nat), 0)

set_option maxHeartbeats 400000 in
theorem Get_bad (bs : List Int) (A : Option Addr) (cb : Nat) (b : Int) (w : World) (h : b < 0 ∨ 8 < b) :
    Calls Tryz.prog 9 #[.slice A bs.length cb, .int .i64 b] w (fun e w' => e = .returned (.tuple #[.int .u64 0, .int .i64 1]) ∧ w = w') := by
  rcases h with h | h
  · go_enter Tryz.func9, Tryz.ntmps9
    go_wp2
    go_ret2
    exact ⟨rfl, rfl⟩
  · have h' : ¬ b < 0 := by omega
    go_enter Tryz.func9, Tryz.ntmps9
    go_wp2
    go_ret2
    exact ⟨rfl, rfl⟩

set_option maxHeartbeats 400000 in
theorem Get_short (bs : List Int) (A : Option Addr) (cb : Nat) (b : Int) (w : World) (h0 : 0 ≤ b) (h8 : b ≤ 8) (hs : (bs.length : Int) < b) :
    Calls Tryz.prog 9 #[.slice A bs.length cb, .int .i64 b] w (fun e w' => e = .returned (.tuple #[.int .u64 0, .int .i64 5]) ∧ w = w') := by
  go_enter Tryz.func9, Tryz.ntmps9
  go_wp2
  go_ret2
  exact ⟨rfl, rfl⟩

set_option maxHeartbeats 400000 in
theorem Get_good (bs : List Int) (A : Option Addr) (cb : Nat) (k : Nat) (w : World) (B : Nat) (h8 : k ≤ 8) (hs : k ≤ bs.length) (hc : bs.length ≤ cb) (hcb : cb ≤ 9223372036854775807)
    (hu : IsU8 bs) (hr : Rd w B A (U8 bs)) :
    Calls Tryz.prog 9 #[.slice A bs.length cb, .int .i64 k] w (fun e w' => e = .returned (.tuple #[.int .u64 (num (bs.take k)), .int .i64 0]) ∧ w = w') := by
  go_enter Tryz.func9, Tryz.ntmps9
  go_wp2
  go_loop [4, 24] (fun v i => ∃ j : Nat, j ≤ k ∧ i = .int .i64 j ∧ v = .int .u64 (num (bs.take j))) (fun _ i => k - (intOf i).toNat)
  case atStart => exact ⟨0, by omega, rfl, rfl⟩
  case round =>
    obtain ⟨j, hj, rfl, rfl⟩ := hrel
    by_cases hlt : j < k
    · obtain ⟨ad, rfl, hadb, hcells⟩ := hr (by simp; omega)
      have hjl : j < bs.length := by omega
      have hc : w.cell? (ad.add j) = some (.int .u8 bs[j]) := hcells j _ (by simp [U8, hjl])
      have hx := hu _ (List.getElem_mem hjl)
      have hn : num (bs.take j) < 256 ^ j := by
        have := num_lt (bs.take j) (fun x hx => hu x (List.mem_of_mem_take hx))
        simpa [Nat.min_eq_left (Nat.le_of_lt hjl)] using this
      have hp : 256 ^ j ≤ 256 ^ 7 := Nat.pow_le_pow_right (by omega) (by omega)
      have hnext : Hid (num (bs.take (j + 1)) = num (bs.take j) * 256 + bs[j].toNat) := by
        rw [List.take_succ_eq_append_getElem hjl, num_snoc]; rfl
      obtain ⟨m, hm⟩ : ∃ m, m = num (bs.take j) := ⟨_, rfl⟩
      obtain ⟨x, hxe⟩ : ∃ x, x = bs[j] := ⟨_, rfl⟩
      rw [← hm, ← hxe] at hnext
      rw [← hm] at hn ⊢
      rw [← hxe] at hc hx
      have hm7 : m < 72057594037927936 := by have : 256 ^ 7 = 72057594037927936 := by decide
                                             omega
      clear hcells hn hp hm hxe
      obtain ⟨hx0, hx1⟩ := hx
      go_wp2
      go_round
      case rel => exact ⟨j + 1, by omega, by go_num, by rw [or_byte m x hx0 hx1 hm7, hnext.out]⟩
      case measure => simp [intOf]; omega
    · obtain rfl : j = k := by omega
      go_wp2
      go_ret2
      exact ⟨rfl, rfl⟩

theorem Get_any (bs : List Int) (A : Option Addr) (n cb : Nat) (b : Int) (w : World) (B : Nat) (hn : n = bs.length) (hc : bs.length ≤ cb) (hcb : cb ≤ 9223372036854775807) (hu : IsU8 bs) (hr : Rd w B A (U8 bs)) :
    Calls Tryz.prog 9 #[.slice A n cb, .int .i64 b] w (fun e w' => e = .returned (.tuple #[.int .u64 (getF bs b).1, .int .i64 (getF bs b).2]) ∧ w = w') := by
  subst hn
  unfold getF
  by_cases h : b < 0 ∨ 8 < b
  · rw [if_pos h]; exact Get_bad bs A cb b w h
  · rw [if_neg h]
    by_cases hs : (bs.length : Int) < b
    · rw [if_pos hs]; exact Get_short bs A cb b w (by omega) (by omega) hs
    · rw [if_neg hs]
      obtain ⟨k, rfl⟩ := Int.eq_ofNat_of_zero_le (show 0 ≤ b by omega)
      exact Get_good bs A cb k w B (by omega) (by omega) hc hcb hu hr
end Go.Proofs.YtgibdecgmageeaaGreatDoor
