/- nums.put walked: bytes, and numbers behind them in so many bytes each. -/
import Derived.Test.YtgibdecgmageeaaGreatDoorBas
namespace Go.Proofs.YtgibdecgmageeaaGreatDoor
open Go.RowKit

set_option maxHeartbeats 400000 in
theorem put_any (bs : List Int) (A : Option Addr) (cb k : Nat) (ws : List Int) (W : Option Addr) (cw : Nat) (w : World)
    (hk : k ≤ 8) (hw4 : ws.length ≤ 4) (hbl : bs.length ≤ 140737488351232)
    (hrb : Rd w w.heap.size A (U8 bs)) (hrw : Rd w w.heap.size W (U64 ws)) (hws : ∀ x ∈ ws, 0 ≤ x ∧ x < 18446744073709551616) :
    Calls Tryz.prog 112 #[.slice A bs.length cb, .int .i64 k, .slice W ws.length cw] w (NewB w (bs ++ bes k ws)) := by
  obtain ⟨i0, hi, hz0, hz1, hz2⟩ := info_parts Tryz.infoByte
  obtain ⟨m, hm⟩ : ∃ m, m = k * ws.length := ⟨_, rfl⟩
  have hm32 : m ≤ 32 := by rw [hm]; exact Nat.mul_le_mul hk hw4
  have hmI : (k : Int) * (ws.length : Int) = (m : Int) := by rw [hm]; simp
  have HM := Lib.hid hm; clear hm
  obtain ⟨c0, hc0⟩ : ∃ c0, c0 = List.replicate (bs.length + m) (Value.int .u8 0) := ⟨_, rfl⟩
  have HC0 := Lib.hid hc0; clear hc0
  go_enter Tryz.func112, Tryz.ntmps112
  go_wp2_with (first | (at_make; refine wpList_make_blk rfl _ _ 22 rfl 5 i0 (.int .u8 0) Tryz.underlying22 hi hz0 hz1 rfl _ _ _ _ rfl rfl bs.length (bs.length + m) rfl (by omega) (by omega) (by rw [hz2]; omega) (by omega) ?_; intro w1 hw1; have hB1 : Blk w1 w.heap.size 5 c0 := by { rw [hw1, HC0.out]; exact Blk.new _ _ _ }; have hb1 : Below w.heap.size w w1 := by { rw [hw1]; exact (Below.refl _ _).alloc (Nat.le_refl _) _ }; clear hw1) | (with_reducible refine wpList_copy_blk rfl (.tmp 21) (.tmp 22) _ _ rfl 5 Tryz.underlying22 Tryz.sizeByte _ _ _ _ _ _ rfl rfl w.heap.size 0 c0 5 (by assumption) (U8 bs) (by simp) (fun _ => rfl) w.heap.size ?r1 ?r2 (oneCell_U8 _) ?_))
  case r1 => exact hrb.below hb1 (Nat.le_refl _)
  case r2 => rw [HC0.out]; simp
  intro w2 hB2 hm2
  have hb2 : Below w.heap.size w w2 := hb1.trans (hm2.below_one hb1.size (Nat.le_refl _))
  have HB2 : Hid (Blk w2 w.heap.size 5 (U8 (bs ++ bes k (ws.take 0)) ++ List.replicate (m - 0) (Value.int .u8 0))) := by
    have e : splice c0 0 (U8 bs) = U8 (bs ++ bes k (ws.take 0)) ++ List.replicate (m - 0) (Value.int .u8 0) := by
      rw [HC0.out]; simp [splice, bes]
    rw [← e]; exact hB2
  clear hB2 hm2 hB1 hb1
  go_wp2
  go_loopw [7, 26] (fun v i wr => ∃ j p : Nat, j ≤ ws.length ∧ p ≤ m ∧ Hid (p = k * j) ∧ i = .int .i64 j ∧ v = .slice (some ⟨w.heap.size, 0, none⟩) (bs.length + p) (bs.length + m) ∧
      Hid (Blk wr w.heap.size 5 (U8 (bs ++ bes k (ws.take j)) ++ List.replicate (m - p) (Value.int .u8 0))) ∧ Below w.heap.size w wr) (fun _ i _ => ws.length - (intOf i).toNat)
  case atStart => exact ⟨0, 0, by omega, by omega, by show 0 = k * 0; omega, rfl, rfl, HB2, hb2⟩
  case round =>
    obtain ⟨j, p, hj, hp, Hp, rfl, rfl, HB, hb⟩ := hrel
    by_cases hlt : j < ws.length
    · have hpk : p + k ≤ m := by rw [Hp.out, HM.out, ← Nat.mul_succ]; exact Nat.mul_le_mul_left _ hlt
      have hx := hws _ (List.getElem_mem hlt)
      obtain ⟨ad, rfl, hadb, hcells⟩ := hrw (by simp; omega)
      have hc : wr.cell? (ad.add j) = some (.int .u64 ws[j]) := by
        rw [hb.cell (by rw [add_block]; exact hadb)]
        exact hcells j _ (by simp [U64, hlt])
      obtain ⟨x, hxe⟩ : ∃ x, x = ws[j] := ⟨_, rfl⟩
      rw [← hxe] at hx hc
      have HX := Lib.hid hxe; clear hxe
      obtain ⟨hx0, hx1⟩ := hx
      clear hcells
      have Hlen : Hid ((bes k (ws.take j)).length = p) := by rw [length_bes, List.length_take, Nat.min_eq_left hj, Hp.out]; rfl
      go_wp2
      obtain ⟨wo, rfl⟩ : ∃ wo : World, wo = wr := ⟨_, rfl⟩
      go_loopw [7, 31] (fun v i wr => ∃ q : Nat, q ≤ k ∧ i = .int .i64 q ∧ v = .slice (some ⟨w.heap.size, 0, none⟩) (bs.length + p + q) (bs.length + m) ∧
          Hid (Blk wr w.heap.size 5 (U8 (bs ++ bes k (ws.take j) ++ pre x.toNat k q) ++ List.replicate (m - p - q) (Value.int .u8 0))) ∧ Below w.heap.size w wr) (fun _ i _ => k - (intOf i).toNat)
      case atStart => exact ⟨0, by omega, rfl, rfl, by simpa [pre] using HB, hb⟩
      case round =>
        obtain ⟨q, hq, rfl, rfl, HBq, hbq⟩ := hrel
        by_cases hqk : q < k
        · go_wp2_with (first | (at_builtin; refine wpList_append_blk rfl (.tmp 34) (.tmp 43) 22 rfl 5 i0 1 Tryz.underlying22 hi hz1 w.heap.size _ _ _ rfl (HBq.out.alloc _) ⟨wr.heap.size, 0, none⟩ 1 1 rfl [.int .u8 (x / 2 ^ (8 * (k - 1 - q)) % 256)] rfl ?d1 ?d2 (by omega) ?d3 ?_))
          case d1 =>
            intro t u hu
            match t, hu with
            | 0, hu => simp at hu; subst hu; simp [Addr.add]
          case d2 => intro u hu; simp at hu; subst hu; rfl
          case d3 => simp [Hlen.out]; omega
          intro w3 hB3 hm3
          have hb3 : Below w.heap.size w w3 := (hbq.alloc hbq.size _).trans (hm3.below_one (by have := hbq.size; simp; omega) (Nat.le_refl _))
          have HB3 : Hid (Blk w3 w.heap.size 5 (U8 (bs ++ bes k (ws.take j) ++ pre x.toNat k (q + 1)) ++ List.replicate (m - p - (q + 1)) (Value.int .u8 0))) := by
            rw [splice_end _ _ _ _ (by simp [Hlen.out]; omega)] at hB3
            rw [pre_succ]
            have e : m - p - (q + 1) = m - p - q - 1 := by omega
            rw [dig_eq x hx0] at hB3
            rw [e, ← List.append_assoc (bs ++ bes k (ws.take j)), U8_append]
            unfold Hid; simpa [U8] using hB3
          clear hB3 hm3
          go_wp2
          go_roundw
          case rel => exact ⟨q + 1, by omega, by go_num, by rw [Nat.add_assoc], HB3, hb3⟩
          case measure => simp [intOf]; omega
        · obtain rfl : q = k := by omega
          go_wp2
          go_roundw
          case rel =>
            refine ⟨j + 1, p + q, by omega, by omega, ?_, by go_num, by rw [Nat.add_assoc], ?_, hbq⟩
            · show p + q = q * (j + 1); rw [Hp.out, Nat.mul_succ]
            · have e : bes q (ws.take (j + 1)) = bes q (ws.take j) ++ pre x.toNat q q := by rw [bes_take_succ _ _ _ hlt, HX.out]; rfl
              rw [e, ← List.append_assoc, Nat.sub_add_eq]
              exact HBq
          case measure => simp [intOf]; omega
    · obtain rfl : j = ws.length := by omega
      go_wp2
      go_ret
      obtain rfl : p = m := by rw [Hp.out, HM.out]
      have hl : (bs ++ bes k ws).length = bs.length + p := by rw [List.length_append, length_bes, Hp.out]
      refine ⟨w.heap.size, by rw [hl]; rfl, Nat.le_refl _, ?_, hb⟩
      have := HB.out
      simpa using this
end Go.Proofs.YtgibdecgmageeaaGreatDoor
