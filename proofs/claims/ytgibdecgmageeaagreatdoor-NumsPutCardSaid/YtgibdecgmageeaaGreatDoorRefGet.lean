/- balefireref01.Get, GetLong walked. -/
import Derived.Test.YtgibdecgmageeaaGreatDoorBytes
import Derived.Test.YtgibdecgmageeaaGreatDoorGetL
import Derived.Deep.RegionLaw
import Derived.Deep.DeepCutAuto
namespace Go.Proofs.YtgibdecgmageeaaGreatDoor
open Go.RowKit

set_option maxHeartbeats 400000 in
theorem RefGet_bad (bs : List Int) (A : Option Addr) (cb : Nat) (b : Int) (w : World) (h : b < 0 ∨ 8 < b) :
    Calls Tryz.prog 10 #[.slice A bs.length cb, .int .i64 b] w (fun e w' => e = .returned (.tuple #[.int .u64 0, .int .i64 1]) ∧ w = w') := by
  rcases h with h | h
  · go_enter Tryz.func10, Tryz.ntmps10
    go_wp2
    go_ret2
    exact ⟨rfl, rfl⟩
  · have h' : ¬ b < 0 := by omega
    go_enter Tryz.func10, Tryz.ntmps10
    go_wp2
    go_ret2
    exact ⟨rfl, rfl⟩

set_option maxHeartbeats 400000 in
theorem RefGet_short (bs : List Int) (A : Option Addr) (cb : Nat) (b : Int) (w : World) (h0 : 0 ≤ b) (h8 : b ≤ 8) (hs : (bs.length : Int) < b) :
    Calls Tryz.prog 10 #[.slice A bs.length cb, .int .i64 b] w (fun e w' => e = .returned (.tuple #[.int .u64 0, .int .i64 5]) ∧ w = w') := by
  go_enter Tryz.func10, Tryz.ntmps10
  go_wp2
  go_ret2
  exact ⟨rfl, rfl⟩

set_option maxHeartbeats 400000 in
theorem RefGet_good (bs : List Int) (A : Option Addr) (cb : Nat) (k : Nat) (w : World) (B : Nat) (h8 : k ≤ 8) (hs : k ≤ bs.length)
    (hu : IsU8 bs) (hr : Rd w B A (U8 bs)) :
    Calls Tryz.prog 10 #[.slice A bs.length cb, .int .i64 k] w (fun e w' => e = .returned (.tuple #[.int .u64 (num (bs.take k)), .int .i64 0]) ∧ w = w') := by
  go_enter Tryz.func10, Tryz.ntmps10
  go_wp2
  go_loop [6, 7] (fun v i => ∃ j : Nat, j ≤ k ∧ i = .int .i64 j ∧ v = .int .u64 (num (bs.take j))) (fun _ i => k - (intOf i).toNat)
  case atStart => exact ⟨0, by omega, rfl, rfl⟩
  case round =>
    obtain ⟨j, hj, rfl, rfl⟩ := hrel
    by_cases hlt : j < k
    · obtain ⟨ad, rfl, hadb, hcells⟩ := hr (by simp; omega)
      have hjl : j < bs.length := by omega
      have hc : w.cell? (ad.add j) = some (.int .u8 bs[j]) := hcells j _ (by simp [U8, hjl])
      have hx := hu _ (List.getElem_mem hjl)
      have hn : num (bs.take j) < 256 ^ j := by
        have := num_lt (bs.take j) (fun x hx => hu x (List.mem_of_mem_take hx))
        simpa [Nat.min_eq_left (Nat.le_of_lt hjl)] using this
      have hp : 256 ^ j ≤ 256 ^ 7 := Nat.pow_le_pow_right (by omega) (by omega)
      have hnext : Hid (num (bs.take (j + 1)) = num (bs.take j) * 256 + bs[j].toNat) := by
        rw [List.take_succ_eq_append_getElem hjl, num_snoc]; rfl
      obtain ⟨m, hm⟩ : ∃ m, m = num (bs.take j) := ⟨_, rfl⟩
      obtain ⟨x, hxe⟩ : ∃ x, x = bs[j] := ⟨_, rfl⟩
      rw [← hm, ← hxe] at hnext
      rw [← hm] at hn ⊢
      rw [← hxe] at hc hx
      have hm7 : m < 72057594037927936 := by have : 256 ^ 7 = 72057594037927936 := by decide
                                             omega
      clear hcells hn hp hm hxe
      obtain ⟨hx0, hx1⟩ := hx
      have hjI : (j : Int) < bs.length := by omega
      go_wp2
      go_round
      case rel => exact ⟨j + 1, by omega, by go_num, by rw [hnext.out]; congr 1; omega⟩
      case measure => simp [intOf]; omega
    · obtain rfl : j = k := by omega
      go_wp2
      go_ret2
      exact ⟨rfl, rfl⟩

theorem RefGet_any (bs : List Int) (A : Option Addr) (n cb : Nat) (b : Int) (w : World) (B : Nat) (hn : n = bs.length) (hu : IsU8 bs) (hr : Rd w B A (U8 bs)) :
    Calls Tryz.prog 10 #[.slice A n cb, .int .i64 b] w (fun e w' => e = .returned (.tuple #[.int .u64 (getF bs b).1, .int .i64 (getF bs b).2]) ∧ w = w') := by
  subst hn
  unfold getF
  by_cases h : b < 0 ∨ 8 < b
  · rw [if_pos h]; exact RefGet_bad bs A cb b w h
  · rw [if_neg h]
    by_cases hs : (bs.length : Int) < b
    · rw [if_pos hs]; exact RefGet_short bs A cb b w (by omega) (by omega) hs
    · rw [if_neg hs]
      obtain ⟨k, rfl⟩ := Int.eq_ofNat_of_zero_le (show 0 ≤ b by omega)
      exact RefGet_good bs A cb k w B (by omega) (by omega) hu hr

set_option maxHeartbeats 400000 in
theorem RefGetLong_short (bs : List Int) (A : Option Addr) (cb : Nat) (w : World) (hs : bs.length < 32) :
    Calls Tryz.prog 12 #[.slice A bs.length cb] w (fun e w' => e = .returned (.tuple #[Num4 0 0 0 0, .int .i64 5]) ∧ Below w.heap.size w w') := by
  go_enter Tryz.func12, Tryz.ntmps12
  go_wp2
  refine bodyPost_ret (v := .tuple #[Num4 0 0 0 0, .int .i64 5]) (by simp [results, Tryz.results12, go_sem, Num4]) rfl ⟨rfl, ?_⟩
  repeat (first | exact (Below.refl _ _).alloc (Nat.le_refl _) _ | refine Below.setCell ?_ (Nat.le_refl _) _)

set_option maxHeartbeats 1000000 in
theorem RefGetLong_good (bs : List Int) (A : Option Addr) (cb : Nat) (w : World) (hs : 32 ≤ bs.length) (hc : bs.length ≤ cb) (hcb : cb ≤ 9223372036854775807)
    (hu : IsU8 bs) (hr : Rd w w.heap.size A (U8 bs)) :
    Calls Tryz.prog 12 #[.slice A bs.length cb] w (fun e w' => e = .returned (.tuple #[Num4 (wordAt bs 3) (wordAt bs 2) (wordAt bs 1) (wordAt bs 0), .int .i64 0]) ∧ Below w.heap.size w w') := by
  have key0 : ∀ w1, Below w.heap.size w w1 → Calls Tryz.prog 10 #[.slice A bs.length cb, .int .i64 8] w1 (fun e w' => e = .returned (.tuple #[.int .u64 (wordAt bs 0), .int .i64 0]) ∧ w1 = w') := by
    intro w1 hb
    refine (RefGet_good bs A cb 8 w1 w.heap.size (by omega) (by omega) hu (hr.below hb (Nat.le_refl _))).mono ?_
    rintro e w' ⟨rfl, rfl⟩
    exact ⟨by simp [wordAt], rfl⟩
  obtain ⟨ad, rfl, hadb, hcells⟩ := hr (by simp; omega)
  have key : ∀ (o : Nat) w1, o ≤ 24 → Below w.heap.size w w1 → Calls Tryz.prog 10 #[.slice (some (ad.add o)) (bs.length - o) (cb - o), .int .i64 8] w1 (fun e w' => e = .returned (.tuple #[.int .u64 (num ((bs.drop o).take 8) : Nat), .int .i64 0]) ∧ w1 = w') := by
    intro o w1 ho hb
    have h := RefGet_good (bs.drop o) (some (ad.add o)) (cb - o) 8 w1 w.heap.size (by omega) (by simp; omega) (fun x hx => hu x (List.mem_of_mem_drop hx)) (fun _ => ⟨ad.add o, rfl, by rw [add_block]; exact hadb, fun j u hj => by
      rw [hb.cell (by rw [add_block, add_block]; exact hadb), add_add]
      exact hcells _ u (by simpa [U8] using hj)⟩)
    simpa using h
  have H0 := Lib.hid key0; clear key0
  have H := Lib.hid key; clear key
  clear hcells
  go_enter Tryz.func12, Tryz.ntmps12
  go_wp2
  refine wp_loop_rounds 5 ?_
  rw [rounds_succ]
  go_wp2_with fail
  refine (H0.out _ ?_).mono ?_
  · repeat (first | exact (Below.refl _ _).alloc (Nat.le_refl _) _ | refine Below.alloc ?_ (by simp) _)
  rintro e w1 ⟨rfl, rfl⟩
  go_wp2
  rw [rounds_succ]
  go_wp2_with fail
  refine (H.out 8 _ (by omega) ?_).mono ?_
  · repeat (first | exact (Below.refl _ _).alloc (Nat.le_refl _) _ | refine Below.alloc ?_ (by simp) _ | refine Below.setCell ?_ (by simp) _)
  rintro e w1 ⟨rfl, rfl⟩
  go_wp2
  rw [rounds_succ]
  go_wp2_with fail
  refine (H.out 16 _ (by omega) ?_).mono ?_
  · repeat (first | exact (Below.refl _ _).alloc (Nat.le_refl _) _ | refine Below.alloc ?_ (by simp) _ | refine Below.setCell ?_ (by simp) _)
  rintro e w1 ⟨rfl, rfl⟩
  go_wp2
  rw [rounds_succ]
  go_wp2_with fail
  refine (H.out 24 _ (by omega) ?_).mono ?_
  · repeat (first | exact (Below.refl _ _).alloc (Nat.le_refl _) _ | refine Below.alloc ?_ (by simp) _ | refine Below.setCell ?_ (by simp) _)
  rintro e w1 ⟨rfl, rfl⟩
  go_wp2
  rw [rounds_succ]
  go_wp2
  refine bodyPost_ret (v := .tuple #[Num4 (wordAt bs 3) (wordAt bs 2) (wordAt bs 1) (wordAt bs 0), .int .i64 0]) (by simp [results, Tryz.results12, go_sem, Num4, wordAt]) rfl ⟨rfl, ?_⟩
  repeat (first | exact (Below.refl _ _).alloc (Nat.le_refl _) _ | refine Below.alloc ?_ (by simp) _ | refine Below.setCell ?_ (by simp) _)

set_option maxHeartbeats 1000000 in
theorem RefGetBytes_short (bs : List Int) (A : Option Addr) (cb : Nat) (w : World) (hs : getBytesF bs = none) (hu : IsU8 bs) (hr : Rd w w.heap.size A (U8 bs)) :
    Calls Tryz.prog 14 #[.slice A bs.length cb] w (fun e w' => e = .returned (.tuple #[.slice none 0 0, .int .i64 0, .int .i64 5]) ∧ w = w') := by
  unfold getBytesF at hs
  by_cases h4 : bs.length < 4
  · go_enter Tryz.func14, Tryz.ntmps14
    go_wp2_with (first | (go_at_call 10; refine (RefGet_short bs A cb 4 _ (by omega) (by omega) (by omega)).mono ?_; rintro e w' ⟨rfl, rfl⟩))
    go_ret3
    exact ⟨rfl, rfl⟩
  · rw [if_neg h4] at hs
    have hlt : bs.length - 4 < num (bs.take 4) := by
      by_cases h : bs.length - 4 < num (bs.take 4)
      · exact h
      · rw [if_neg h] at hs; cases hs
    have hnum : num (bs.take 4) < 4294967296 := by
      have := num_lt (bs.take 4) (fun x hx => hu x (List.mem_of_mem_take hx))
      rw [List.length_take, Nat.min_eq_left (by omega)] at this
      have e : 256 ^ 4 = 4294967296 := by decide
      omega
    obtain ⟨n, hn⟩ : ∃ n, n = num (bs.take 4) := ⟨_, rfl⟩
    have key := RefGet_good bs A cb 4 w w.heap.size (by omega) (by omega) hu hr
    rw [← hn] at hlt hnum key
    clear hn hs
    go_enter Tryz.func14, Tryz.ntmps14
    go_wp2_with (first | (go_at_call 10; refine key.mono ?_; rintro e w' ⟨rfl, rfl⟩))
    go_ret3
    exact ⟨rfl, rfl⟩

set_option maxRecDepth 100000 in
set_option maxHeartbeats 1000000 in
theorem RefGetBytes_good (bs l : List Int) (A : Option Addr) (cb : Nat) (w : World) (hs : getBytesF bs = some l) (hc : bs.length ≤ cb) (hcb : cb ≤ 9223372036854775807) (hbl : bs.length ≤ 140737488351232) (hu : IsU8 bs) (hr : Rd w w.heap.size A (U8 bs)) :
    Calls Tryz.prog 14 #[.slice A bs.length cb] w (fun e w' => ∃ X c, e = .returned (.tuple #[.slice X l.length c, .int .i64 (4 + l.length), .int .i64 0]) ∧ Own w' w.heap.size 5 1 (.slice X l.length c) l.length (U8 l) ∧ Below w.heap.size w w') := by
  obtain ⟨i0, hi, hz0, hz1, hz2⟩ := info_parts Tryz.infoByte
  unfold getBytesF at hs
  by_cases h4 : bs.length < 4
  · rw [if_pos h4] at hs; cases hs
  rw [if_neg h4] at hs
  by_cases hlt : bs.length - 4 < num (bs.take 4)
  · rw [if_pos hlt] at hs; cases hs
  rw [if_neg hlt] at hs
  have hl := Option.some.inj hs
  have key := RefGet_good bs A cb 4 w w.heap.size (by omega) (by omega) hu hr
  obtain ⟨n, hn⟩ : ∃ n, n = num (bs.take 4) := ⟨_, rfl⟩
  rw [← hn] at hl hlt key
  have hlen : l.length = n := by rw [← hl]; simp; omega
  obtain ⟨ad, rfl, hadb, hcells⟩ := hr (by simp; omega)
  have hrd : Rd w w.heap.size (if cb = 4 then some ad else some (ad.add 4)) (U8 l) := by
    by_cases h0 : cb = 4
    · have : n = 0 := by omega
      have : l = [] := List.eq_nil_of_length_eq_zero (by omega)
      rw [this]; exact Rd.nil _ _ _
    · rw [if_neg h0]
      refine fun _ => ⟨_, rfl, by rw [add_block]; exact hadb, fun j u hj => ?_⟩
      rw [add_add]
      refine hcells _ u ?_
      rw [← hl] at hj
      simp only [U8, List.map_take, List.map_drop, List.getElem?_take, List.getElem?_drop] at hj ⊢
      split at hj
      · exact hj
      · cases hj
  have HK := Lib.hid key
  clear hn hl hs key hcells
  have hnI : (n : Int) < 18446744073709551616 := by omega
  go_enter Tryz.func14, Tryz.ntmps14
  have hle : n ≤ cb - 4 := by omega
  go_upto_region 2 with (go_at_call 10; refine HK.out.mono ?_; rintro e w' ⟨rfl, rfl⟩)
  have hnb : ¬ ((bs.length : Int) - 4 < n) := by omega
  go_upto_region 4 with fail
  rw [show ad.add 4 = ⟨ad.block, ad.off + 4, none⟩ by simp [Addr.add]] at hrd
  obtain ⟨A26, hA⟩ : ∃ A26, (if cb = 4 then some ad else some (⟨ad.block, ad.off + 4, none⟩ : Addr)) = A26 := ⟨_, rfl⟩
  rw [hA] at hrd
  go_wp2_with (first | (at_builtin; refine wpList_append_Own rfl (.const (.slice none 0 0)) (.tmp 26) 22 rfl i0 (.int .u8 0) 1 Tryz.underlying22 hi hz0 hz1 hz2 rfl (by decide) rfl (Own.nil w w.heap.size 5 1) w.heap.size _ (4 + n - 4) _ rfl (U8 l) (by simp [hlen]) hrd (oneCell_U8 _) (by omega) (by omega) (Nat.le_refl _) ?_; intro v w1 ho _ hm _ _; have hb1 : Below w.heap.size w w1 := hm.below_own (Nat.le_refl _) (fun g hg => by { have hg' : (Value.slice none 0 0).ownBlock = some g := hg; simp [Value.ownBlock] at hg' }); clear hm hrd; rw [show 0 + (4 + n - 4) = n by omega, List.nil_append] at ho; obtain ⟨X, c, rfl, hx1, hx2, hx3⟩ := ho.shape; clear hx1 hx2 hx3; have HO := Lib.hid ho; have HB1 := Lib.hid hb1; clear ho hb1))
  go_ret3
  have ho := HO.out
  rw [← hlen] at ho ⊢
  exact ⟨X, c, rfl, ho, HB1.out⟩
end Go.Proofs.YtgibdecgmageeaaGreatDoor
