/- NumsOrder walked. -/
import Derived.Test.YtckcgdekgnjpiaaAlive
import Derived.Test.YtckcgdekgnjpiaaEqlNum
import Derived.Laws.BytesArg
import Derived.Deep.RegionHeld3
import Derived.Deep.RegionLaw
import Derived.Deep.DeepCutAuto
import Derived.Deep.QuietTactic
namespace Go.Proofs.Ytckcgdekgnjpiaa
open Go.RowKit

/-- The order of two rows of words, the last one in which they part. -/
def lessF (xs ys : List Int) : Nat → Bool
  | 0 => false
  | j + 1 => if xs.getD j 0 ≠ ys.getD j 0 then decide (xs.getD j 0 < ys.getD j 0) else lessF xs ys j

def B8 (l : List Int) : List UInt8 := l.map fun n => UInt8.ofNat n.toNat

theorem u8_lt {a b : Int} (ha : 0 ≤ a ∧ a < 256) (hb : 0 ≤ b ∧ b < 256) : (UInt8.ofNat a.toNat < UInt8.ofNat b.toNat) = (a < b) := by
  rw [UInt8.lt_iff_toNat_lt, UInt8.toNat_ofNat', UInt8.toNat_ofNat', Nat.mod_eq_of_lt (by omega), Nat.mod_eq_of_lt (by omega)]
  apply propext; omega
theorem u8_eq {a b : Int} (ha : 0 ≤ a ∧ a < 256) (hb : 0 ≤ b ∧ b < 256) : (UInt8.ofNat a.toNat = UInt8.ofNat b.toNat) = (a = b) := by
  rw [← UInt8.toNat_inj, UInt8.toNat_ofNat', UInt8.toNat_ofNat', Nat.mod_eq_of_lt (by omega), Nat.mod_eq_of_lt (by omega)]
  apply propext; omega
theorem B8_inj : ∀ {x y : List Int}, IsU8 x → IsU8 y → (B8 x = B8 y ↔ x = y)
  | [], [], _, _ => by simp
  | [], _ :: _, _, _ => by simp [B8]
  | _ :: _, [], _, _ => by simp [B8]
  | a :: x, b :: y, hx, hy => by
    have ih := B8_inj (x := x) (y := y) (fun z hz => hx z (by simp [hz])) (fun z hz => hy z (by simp [hz]))
    unfold B8 at ih ⊢
    rw [List.map_cons, List.map_cons, List.cons.injEq, List.cons.injEq, ih, u8_eq (hx a (by simp)) (hy b (by simp))]
theorem bytesLess_append : ∀ (x y x' y' : List UInt8), x.length = y.length → Op.bytesLess (x ++ x') (y ++ y') = (Op.bytesLess x y || (decide (x = y) && Op.bytesLess x' y'))
  | [], [], _, _, _ => by simp [Op.bytesLess]
  | [], _ :: _, _, _, h => by simp at h
  | _ :: _, [], _, _, h => by simp at h
  | a :: x, b :: y, x', y', h => by
    have ih := bytesLess_append x y x' y' (by simpa using h)
    simp only [List.cons_append, Op.bytesLess, ih]
    have h3 : (a == b) = decide (a = b) := rfl
    rw [h3]
    by_cases h1 : a < b <;> by_cases h2 : a = b <;> simp [h1, h2]
theorem num_cons (c : Int) (x : List Int) : num (c :: x) = c.toNat * 256 ^ x.length + num x := by
  induction x using snoc_ind with
  | h0 => simp [num]
  | hs l d ih =>
    rw [← List.cons_append, num_snoc, num_snoc, ih, List.length_append, List.length_singleton, Nat.pow_succ, Nat.add_mul, Nat.mul_assoc]
    omega
theorem bytesLess_num : ∀ (x y : List Int), IsU8 x → IsU8 y → x.length = y.length → Op.bytesLess (B8 x) (B8 y) = decide (num x < num y)
  | [], [], _, _, _ => by simp [B8, Op.bytesLess]
  | [], _ :: _, _, _, h => by simp at h
  | _ :: _, [], _, _, h => by simp at h
  | a :: x, b :: y, hx, hy, h => by
    have hx' : IsU8 x := fun z hz => hx z (by simp [hz])
    have hy' : IsU8 y := fun z hz => hy z (by simp [hz])
    have hl : x.length = y.length := by simpa using h
    have ih := bytesLess_num x y hx' hy' hl
    have ha := hx a (by simp)
    have hb := hy b (by simp)
    have h1 := num_lt x hx'
    have h2 := num_lt y hy'
    unfold B8 at ih ⊢
    rw [List.map_cons, List.map_cons, Op.bytesLess, ih, num_cons, num_cons, ← hl]
    rw [← hl] at h2
    have e1 : decide (UInt8.ofNat a.toNat < UInt8.ofNat b.toNat) = decide (a < b) := by rw [decide_eq_decide]; exact of_eq (u8_lt ha hb)
    have e2 : (UInt8.ofNat a.toNat == UInt8.ofNat b.toNat) = decide (a = b) := by rw [show (UInt8.ofNat a.toNat == UInt8.ofNat b.toNat) = decide (UInt8.ofNat a.toNat = UInt8.ofNat b.toNat) from rfl, decide_eq_decide]; exact of_eq (u8_eq ha hb)
    rw [e1, e2]
    obtain ⟨m, rfl⟩ := Int.eq_ofNat_of_zero_le ha.1
    obtain ⟨n, rfl⟩ := Int.eq_ofNat_of_zero_le hb.1
    generalize 256 ^ x.length = K at *
    simp only [Int.toNat_natCast]
    rcases Nat.lt_trichotomy m n with hh | hh | hh
    · have : m * K + K ≤ n * K := by rw [← Nat.succ_mul]; exact Nat.mul_le_mul_right K hh
      have e3 : m * K + num x < n * K + num y := by omega
      simp [hh, e3]
    · subst hh; simp
    · have : n * K + K ≤ m * K := by rw [← Nat.succ_mul]; exact Nat.mul_le_mul_right K hh
      have e3 : ¬ m * K + num x < n * K + num y := by omega
      have e4 : ¬ m < n := by omega
      have e5 : ¬ (m : Int) = (n : Int) := by omega
      simp [e3, e4, e5]
where of_eq {a b : Prop} (h : a = b) : a ↔ b := by rw [h]
theorem less_be {x y : Int} (hx : 0 ≤ x ∧ x < 18446744073709551616) (hy : 0 ≤ y ∧ y < 18446744073709551616) : Op.bytesLess (B8 (be x.toNat 8)) (B8 (be y.toNat 8)) = decide (x < y) := by
  rw [bytesLess_num _ _ (isU8_be _ _) (isU8_be _ _) (by simp), num_be, num_be]
  have h1 := low_8 x hx.1 hx.2
  have h2 := low_8 y hy.1 hy.2
  unfold low at h1 h2
  rw [decide_eq_decide]
  omega
theorem eq_be {x y : Int} (hx : 0 ≤ x ∧ x < 18446744073709551616) (hy : 0 ≤ y ∧ y < 18446744073709551616) : B8 (be x.toNat 8) = B8 (be y.toNat 8) ↔ x = y := by
  rw [B8_inj (isU8_be _ _) (isU8_be _ _)]
  constructor
  · intro h
    have h1 := low_8 x hx.1 hx.2
    have h2 := low_8 y hy.1 hy.2
    unfold low at h1 h2
    have := congrArg num h
    rw [num_be, num_be] at this
    omega
  · intro h; rw [h]
theorem B8_append (x y : List Int) : B8 (x ++ y) = B8 x ++ B8 y := by simp [B8]
theorem B8_length (x : List Int) : (B8 x).length = x.length := by simp [B8]

theorem long_less {a0 a1 a2 a3 b0 b1 b2 b3 : Int} (ha : ∀ x ∈ [a3, a2, a1, a0], 0 ≤ x ∧ x < 18446744073709551616) (hb : ∀ x ∈ [b3, b2, b1, b0], 0 ≤ x ∧ x < 18446744073709551616) :
    Op.bytesLess (B8 (long a0 a1 a2 a3)) (B8 (long b0 b1 b2 b3)) = lessF [a0, a1, a2, a3] [b0, b1, b2, b3] 4 := by
  have e : ∀ a b c d : Int, long a b c d = be d.toNat 8 ++ (be c.toNat 8 ++ (be b.toNat 8 ++ be a.toNat 8)) := by intros; simp [long, bes]
  have h3 := less_be (ha a3 (by simp)) (hb b3 (by simp))
  have h2 := less_be (ha a2 (by simp)) (hb b2 (by simp))
  have h1 := less_be (ha a1 (by simp)) (hb b1 (by simp))
  have h0 := less_be (ha a0 (by simp)) (hb b0 (by simp))
  have k3 := eq_be (ha a3 (by simp)) (hb b3 (by simp))
  have k2 := eq_be (ha a2 (by simp)) (hb b2 (by simp))
  have k1 := eq_be (ha a1 (by simp)) (hb b1 (by simp))
  have dd : ∀ {P Q : Prop} [Decidable P] [Decidable Q], (P ↔ Q) → decide P = decide Q := fun h => by rw [decide_eq_decide]; exact h
  rw [e, e, B8_append, B8_append, B8_append, B8_append, B8_append, B8_append, bytesLess_append _ _ _ _ (by simp [B8_length]), bytesLess_append _ _ _ _ (by simp [B8_length]), bytesLess_append _ _ _ _ (by simp [B8_length]),
    h3, h2, h1, h0, dd k3, dd k2, dd k1]
  simp only [lessF, List.getD_cons_zero, List.getD_cons_succ]
  by_cases e3 : a3 = b3 <;> by_cases e2 : a2 = b2 <;> by_cases e1 : a1 = b1 <;> by_cases e0 : a0 = b0 <;> simp [e3, e2, e1, e0] <;> omega
theorem long_eq {a0 a1 a2 a3 b0 b1 b2 b3 : Int} (ha : ∀ x ∈ [a3, a2, a1, a0], 0 ≤ x ∧ x < 18446744073709551616) (hb : ∀ x ∈ [b3, b2, b1, b0], 0 ≤ x ∧ x < 18446744073709551616) :
    B8 (long a0 a1 a2 a3) = B8 (long b0 b1 b2 b3) ↔ a0 = b0 ∧ a1 = b1 ∧ a2 = b2 ∧ a3 = b3 := by
  have e : ∀ a b c d : Int, long a b c d = be d.toNat 8 ++ (be c.toNat 8 ++ (be b.toNat 8 ++ be a.toNat 8)) := by intros; simp [long, bes]
  have k3 := eq_be (ha a3 (by simp)) (hb b3 (by simp))
  have k2 := eq_be (ha a2 (by simp)) (hb b2 (by simp))
  have k1 := eq_be (ha a1 (by simp)) (hb b1 (by simp))
  have k0 := eq_be (ha a0 (by simp)) (hb b0 (by simp))
  rw [e, e, B8_append, B8_append, B8_append, B8_append, B8_append, B8_append]
  constructor
  · intro h
    obtain ⟨q3, h⟩ := List.append_inj h (by simp [B8_length])
    obtain ⟨q2, h⟩ := List.append_inj h (by simp [B8_length])
    obtain ⟨q1, q0⟩ := List.append_inj h (by simp [B8_length])
    exact ⟨k0.1 q0, k1.1 q1, k2.1 q2, k3.1 q3⟩
  · rintro ⟨rfl, rfl, rfl, rfl⟩; rfl

theorem toList_strOfNums (l : List Int) : (strOfNums l).toList = B8 l := by rw [ByteArray.toList_eq, strOfNums_data]; rfl
theorem PutLong_nil (a b c d : Int) (w : World) (hws : ∀ x ∈ [d, c, b, a], 0 ≤ x ∧ x < 18446744073709551616) :
    Calls Try.prog 9 #[.slice none 0 0, .agg #[.int .u64 a, .int .u64 b, .int .u64 c, .int .u64 d]] w (NewB w (long a b c d)) :=
  PutLong_any [] none 0 a b c d w (by simp) hws (Rd.nil _ _ _)
theorem Put_nil (n : Int) (w : World) (hn0 : 0 ≤ n ∧ n < 18446744073709551616) :
    Calls Try.prog 8 #[.slice none 0 0, .int .u64 n, .int .i64 8] w (NewB w (be n.toNat 8)) :=
  Put_any [] none 0 n 8 w hn0.1 hn0.2 (by simp) (by omega) (by omega) (Rd.nil _ _ _)

/-- A block of bytes as a string. -/
theorem conv_blk (w : World) (g c : Nat) (l : List Int) (n : Nat) (hn : n = l.length) (h : Blk w g 5 (U8 l)) :
    Sem.run Try.prog (convert 27 9 (.slice (some ⟨g, 0, none⟩) n c)) w = .ok (.string (strOfNums l)) w := by
  subst hn
  refine run_convert_bytes_arg w 27 5 Try.underlying27 Try.underlying5 g 0 l.length c l rfl (fun i hi => ?_) 9 Try.underlying9
  rw [Nat.zero_add, h.cell, U8, List.getElem?_map, List.getElem?_eq_getElem hi]
  simp [List.getD, hi]

set_option maxRecDepth 100000 in
set_option maxHeartbeats 1000000 in
theorem NumsOrder_all (m n a0 a1 a2 a3 b0 b1 b2 b3 : Int) (w : World) (hm : 0 ≤ m ∧ m < 18446744073709551616) (hn : 0 ≤ n ∧ n < 18446744073709551616)
    (ha : ∀ x ∈ [a3, a2, a1, a0], 0 ≤ x ∧ x < 18446744073709551616) (hb : ∀ x ∈ [b3, b2, b1, b0], 0 ≤ x ∧ x < 18446744073709551616) :
    Calls Try.prog 5 #[.int .u64 m, .int .u64 n, .agg #[.int .u64 a0, .int .u64 a1, .int .u64 a2, .int .u64 a3, .int .u64 b0, .int .u64 b1, .int .u64 b2, .int .u64 b3]] w
      (fun e w' => e = .returned (.bool true) ∧ Below w.heap.size w w') := by
  obtain ⟨L, hL⟩ : ∃ L, L = [a0, a1, a2, a3] := ⟨_, rfl⟩
  obtain ⟨M, hM⟩ : ∃ M, M = [b0, b1, b2, b3] := ⟨_, rfl⟩
  obtain ⟨wb, hwb⟩ : ∃ wb, wb = w.alloc (.cells #[.int .u64 a0, .int .u64 a1, .int .u64 a2, .int .u64 a3, .int .u64 b0, .int .u64 b1, .int .u64 b2, .int .u64 b3] 45) := ⟨_, rfl⟩
  have lB : Blk wb w.heap.size 45 (U64 (L ++ M)) := by rw [hwb]; exact Blk.lit w _ _ rfl _ _ (by simp [hL, hM, U64])
  have facts : ∀ wx, Below (w.heap.size + 1) wb wx →
      ((∀ j, j < 4 → wx.cell? ⟨w.heap.size, j, none⟩ = some (.int .u64 (L.getD j 0)) ∧ wx.cell? ⟨w.heap.size, 4 + j, none⟩ = some (.int .u64 (M.getD j 0))) ∧
       (wx.cell? ⟨w.heap.size, 0, none⟩ = some (.int .u64 a0) ∧ wx.cell? ⟨w.heap.size, 1, none⟩ = some (.int .u64 a1) ∧ wx.cell? ⟨w.heap.size, 2, none⟩ = some (.int .u64 a2) ∧ wx.cell? ⟨w.heap.size, 3, none⟩ = some (.int .u64 a3) ∧
        wx.cell? ⟨w.heap.size, 4, none⟩ = some (.int .u64 b0) ∧ wx.cell? ⟨w.heap.size, 5, none⟩ = some (.int .u64 b1) ∧ wx.cell? ⟨w.heap.size, 6, none⟩ = some (.int .u64 b2) ∧ wx.cell? ⟨w.heap.size, 7, none⟩ = some (.int .u64 b3))) ∧
      Below w.heap.size w wx ∧ w.heap.size + 1 ≤ wx.heap.size := by
    intro wx hx
    have h1 := lB.below hx (by omega)
    have hz : w.heap.size + 1 ≤ wb.heap.size := by rw [hwb]; simp
    refine ⟨⟨fun j hj => ?_, ?_⟩, (show Below w.heap.size w wb by rw [hwb]; exact (Below.refl _ _).alloc (Nat.le_refl _) _).trans (hx.mono (by omega)), by have := hx.size; omega⟩
    · rw [h1.cell, h1.cell, hL, hM]
      match j, hj with
      | 0, _ => exact ⟨rfl, rfl⟩
      | 1, _ => exact ⟨rfl, rfl⟩
      | 2, _ => exact ⟨rfl, rfl⟩
      | 3, _ => exact ⟨rfl, rfl⟩
    · rw [hL, hM] at h1
      refine ⟨?_, ?_, ?_, ?_, ?_, ?_, ?_, ?_⟩ <;> (rw [h1.cell]; rfl)
  have HF := Lib.hid facts; clear facts lB
  have HL := Lib.hid hL; have HM := Lib.hid hM; clear hL hM
  have f0 := Below.refl (w.heap.size + 1) wb
  go_enter Try.func5, Try.ntmps5
  go_wp2_with fail
  rw [← hwb]
  clear hwb
  refine (PutLong_nil a0 a1 a2 a3 _ ha).mono ?_
  rintro e w1 ⟨g1, rfl, hg1, hB1, hb1⟩
  have hlA : (long a0 a1 a2 a3).length = 32 := by simp [long, length_bes]
  rw [hlA]
  have s0 : w.heap.size + 1 ≤ wb.heap.size := (HF.out _ f0).2.2
  have f1 : Below (w.heap.size + 1) wb w1 := hb1.mono s0
  obtain ⟨⟨_, e0, e1, e2, e3, e4, e5, e6, e7⟩, bw1, s1⟩ := HF.out _ f1
  go_wp2_with fail
  refine (PutLong_nil b0 b1 b2 b3 _ hb).mono ?_
  rintro e w2 ⟨g2, rfl, hg2, hB2, hb2⟩
  have hlB : (long b0 b1 b2 b3).length = 32 := by simp [long, length_bes]
  rw [hlB]
  have f2 : Below (w.heap.size + 1) wb w2 := f1.trans (hb2.mono s1)
  have hB1' := hB1.below hb2 hB1.lt
  clear e0 e1 e2 e3 e4 e5 e6 e7
  obtain ⟨⟨hj, e0, e1, e2, e3, e4, e5, e6, e7⟩, bw2, s2⟩ := HF.out _ f2
  have HJ := Lib.hid hj; clear hj
  go_wp2_with fail
  go_loopw [9, 10] (fun x i wr => ∃ j : Nat, j ≤ 4 ∧ i = .int .i64 j ∧ x = .bool (lessF L M j) ∧ Drawn w2 wr) (fun _ i _ => 4 - (intOf i).toNat)
  case atStart => exact ⟨0, by omega, rfl, rfl, Drawn.refl _⟩
  case round =>
    obtain ⟨j, hj, rfl, rfl, nq, rfl⟩ := hrel
    by_cases hlt : j < 4
    · obtain ⟨c1, c2⟩ := HJ.out j hlt
      obtain ⟨x, hx⟩ : ∃ x, x = L.getD j 0 := ⟨_, rfl⟩
      obtain ⟨y, hy⟩ : ∃ y, y = M.getD j 0 := ⟨_, rfl⟩
      rw [← hx] at c1
      rw [← hy] at c2
      obtain ⟨bb, hbb⟩ : ∃ bb, bb = lessF L M j := ⟨_, rfl⟩
      rw [← hbb]
      have hjI : (j : Int) < 4 := by omega
      have hstep : lessF L M (j + 1) = if x ≠ y then decide (x < y) else bb := by rw [hx, hy, hbb]; rfl
      have HS := Lib.hid hstep; clear hstep hx hy hbb
      go_wp2_with fail
      go_quiet (fail)
      by_cases hxy : x = y
      · subst hxy
        go_wp2_with fail
        go_roundw
        case rel => exact ⟨j + 1, by omega, by go_num, by rw [HS.out]; simp, _, rfl⟩
        case measure => simp [intOf]; omega
      · go_wp2_with fail
        go_quiet (fail)
        go_wp2_with fail
        go_roundw
        case rel => exact ⟨j + 1, by omega, by go_num, by rw [HS.out]; simp [hxy], _, rfl⟩
        case measure => simp [intOf]; omega
    · obtain rfl : j = 4 := by omega
      have hless : lessF L M 4 = Op.bytesLess (B8 (long a0 a1 a2 a3)) (B8 (long b0 b1 b2 b3)) := by rw [HL.out, HM.out]; exact (long_less ha hb).symm
      rw [hless]
      clear hless
      have hl1 : Op.bytesLess (strOfNums (be m.toNat 8)).toList (strOfNums (be n.toNat 8)).toList = decide (m < n) := by rw [toList_strOfNums, toList_strOfNums]; exact less_be hm hn
      have hl2 : Op.bytesLess (strOfNums (long a0 a1 a2 a3)).toList (strOfNums (long b0 b1 b2 b3)).toList = Op.bytesLess (B8 (long a0 a1 a2 a3)) (B8 (long b0 b1 b2 b3)) := by rw [toList_strOfNums, toList_strOfNums]
      have hl3 : ((strOfNums (long a0 a1 a2 a3)).toList == (strOfNums (long b0 b1 b2 b3)).toList) = (a0 == b0 && (a1 == b1 && (a2 == b2 && a3 == b3))) := by
        rw [toList_strOfNums, toList_strOfNums]
        have h := long_eq ha hb
        rw [Bool.eq_iff_iff]
        simp only [beq_iff_eq, Bool.and_eq_true]
        exact h
      clear e0 e1 e2 e3 e4 e5 e6 e7 HJ HL HM
      have f3 : Below (w.heap.size + 1) wb (w2.drewN nq) := Below.dr f2 nq
      have hBa := hB1'.dr nq
      have hBb := hB2.dr nq
      generalize w2.drewN nq = w3 at f3 hBa hBb
      have hgA : g1 < w3.heap.size := hBa.lt
      have hgB : g2 < w3.heap.size := hBb.lt
      have HBa := Lib.hid hBa; have HBb := Lib.hid hBb
      clear hBa hBb hB1' hB2 hB1 hb1 hb2 f2 f1 f0 hlt hj
      have hq := Try.guardNum
      have heq := eql_num a0 a1 a2 a3 b0 b1 b2 b3
      have SK : ∀ W, Below w3.heap.size w3 W → (Sem.run Try.prog (convert 27 9 (.slice (some ⟨g1, 0, none⟩) 32 32)) W = .ok (.string (strOfNums (long a0 a1 a2 a3))) W ∧ Sem.run Try.prog (convert 27 9 (.slice (some ⟨g2, 0, none⟩) 32 32)) W = .ok (.string (strOfNums (long b0 b1 b2 b3))) W) ∧
          (W.cell? ⟨w.heap.size, 0, none⟩ = some (.int .u64 a0) ∧ W.cell? ⟨w.heap.size, 1, none⟩ = some (.int .u64 a1) ∧ W.cell? ⟨w.heap.size, 2, none⟩ = some (.int .u64 a2) ∧ W.cell? ⟨w.heap.size, 3, none⟩ = some (.int .u64 a3) ∧
            W.cell? ⟨w.heap.size, 4, none⟩ = some (.int .u64 b0) ∧ W.cell? ⟨w.heap.size, 5, none⟩ = some (.int .u64 b1) ∧ W.cell? ⟨w.heap.size, 6, none⟩ = some (.int .u64 b2) ∧ W.cell? ⟨w.heap.size, 7, none⟩ = some (.int .u64 b3)) := by
        intro W hW
        have f := f3.trans (hW.mono (HF.out _ f3).2.2)
        exact ⟨⟨conv_blk W g1 32 _ 32 hlA.symm (HBa.out.below hW hgA), conv_blk W g2 32 _ 32 hlB.symm (HBb.out.below hW hgB)⟩, (HF.out _ f).1.2⟩
      have HS := Lib.hid SK; clear SK
      have bw3 := (HF.out _ f3).2.1
      have r3 := Below.refl w3.heap.size w3
      go_wp2_with fail
      go_region_held (fun W => (Sem.run Try.prog (convert 27 9 (.slice (some ⟨g1, 0, none⟩) 32 32)) W = .ok (.string (strOfNums (long a0 a1 a2 a3))) W ∧ Sem.run Try.prog (convert 27 9 (.slice (some ⟨g2, 0, none⟩) 32 32)) W = .ok (.string (strOfNums (long b0 b1 b2 b3))) W) ∧
          (W.cell? ⟨w.heap.size, 0, none⟩ = some (.int .u64 a0) ∧ W.cell? ⟨w.heap.size, 1, none⟩ = some (.int .u64 a1) ∧ W.cell? ⟨w.heap.size, 2, none⟩ = some (.int .u64 a2) ∧ W.cell? ⟨w.heap.size, 3, none⟩ = some (.int .u64 a3) ∧
            W.cell? ⟨w.heap.size, 4, none⟩ = some (.int .u64 b0) ∧ W.cell? ⟨w.heap.size, 5, none⟩ = some (.int .u64 b1) ∧ W.cell? ⟨w.heap.size, 6, none⟩ = some (.int .u64 b2) ∧ W.cell? ⟨w.heap.size, 7, none⟩ = some (.int .u64 b3)))
        (exact HS.out _ (by first | assumption | exact r3.drew))
        (first
        | (go_at_call 6; refine (alive_true _).mono ?_; rintro e w4 ⟨rfl, h4⟩; have r4 : Below w3.heap.size w3 w4 := r3.drew.trans h4)
        | ((with_reducible refine Calls.mono (Put_nil m _ hm) ?_); rintro e w5 ⟨gm, rfl, hgm, hBm, hbm⟩; have r5 := r4.trans (hbm.mono r4.size); have cm5 := conv_blk w5 gm 8 _ 8 (by simp) hBm; have hBm' := Lib.hid hBm; clear hBm)
        | ((with_reducible refine Calls.mono (Put_nil n _ hn) ?_); rintro e w6 ⟨gn, rfl, hgn, hBn, hbn⟩; have r6 := r5.trans (hbn.mono r5.size); have cn6 := conv_blk w6 gn 8 _ 8 (by simp) hBn; have cm6 := conv_blk w6 gm 8 _ 8 (by simp) (hBm'.out.below hbn hBm'.out.lt); clear hBn))
      all_goals
        go_wp2
        go_ret
        exact ⟨rfl, bw3.trans (r6.mono (by have := (HF.out _ f3).2.2; omega))⟩
end Go.Proofs.Ytckcgdekgnjpiaa
