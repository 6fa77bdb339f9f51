/- NumsBack walked. -/
import Derived.Test.YtckcgdekgnjpiaaAlive
import Derived.Test.YtckcgdekgnjpiaaBeyond
import Derived.Test.YtckcgdekgnjpiaaEqlNum
import Derived.Deep.RegionHeld3
import Derived.Deep.RegionLaw
import Derived.Deep.DeepCutAuto
namespace Go.Proofs.Ytckcgdekgnjpiaa
open Go.RowKit

theorem Get_back (N : Int) (k : Nat) (hk : k ≤ 8) (q : List Int) (hq : IsU8 q) (C : Option Addr) (n c : Nat) (w : World) (B : Nat) (hn : n = k + q.length) (hc : n ≤ c) (hcm : c ≤ 9223372036854775807) (hr : Rd w B C (U8 (be N.toNat k) ++ U8 q)) :
    Calls Try.prog 11 #[.slice C n c, .int .i64 k] w (fun e w' => e = .returned (.tuple #[.int .u64 (low N k), .int .i64 0]) ∧ w = w') := by
  have hl : n = (be N.toNat k ++ q).length := by simp [hn]
  subst hl
  refine (Get_good _ C c k w B hk (by simp) hc hcm (isU8_append (isU8_be _ _) hq) (by rw [U8_append]; exact hr)).mono ?_
  rintro e w' ⟨rfl, rfl⟩
  refine ⟨?_, rfl⟩
  rw [take_be, num_be]; rfl

theorem wordAt_long (a b c d : Int) (q : List Int) (h : ∀ x ∈ [d, c, b, a], 0 ≤ x ∧ x < 18446744073709551616) :
    wordAt (long a b c d ++ q) 0 = d ∧ wordAt (long a b c d ++ q) 1 = c ∧ wordAt (long a b c d ++ q) 2 = b ∧ wordAt (long a b c d ++ q) 3 = a := by
  have key : ∀ (x : Int) (r : List Int), 0 ≤ x → x < 18446744073709551616 → ((num ((be x.toNat 8 ++ r).take 8) : Nat) : Int) = x := by
    intro x r h0 h1
    rw [take_be, num_be]
    exact low_8 x h0 h1
  have hd := h d (by simp)
  have hc := h c (by simp)
  have hb := h b (by simp)
  have ha := h a (by simp)
  have e : long a b c d ++ q = be d.toNat 8 ++ (be c.toNat 8 ++ (be b.toNat 8 ++ (be a.toNat 8 ++ q))) := by simp [long, bes]
  have dr : ∀ (x : Int) (r : List Int), (be x.toNat 8 ++ r).drop 8 = r := by intro x r; exact List.drop_left' (by simp)
  unfold wordAt
  rw [e]
  refine ⟨?_, ?_, ?_, ?_⟩
  · exact key d _ hd.1 hd.2
  · rw [show 8 * 1 = 8 from rfl, dr]; exact key c _ hc.1 hc.2
  · rw [show 8 * 2 = 8 + 8 from rfl, ← List.drop_drop, dr, dr]; exact key b _ hb.1 hb.2
  · rw [show 8 * 3 = 8 + (8 + 8) from rfl, ← List.drop_drop, ← List.drop_drop, dr, dr, dr]; exact key a _ ha.1 ha.2

theorem GetLong_back (a b c d : Int) (h : ∀ x ∈ [d, c, b, a], 0 ≤ x ∧ x < 18446744073709551616) (q : List Int) (hq : IsU8 q) (C : Option Addr) (n k : Nat) (w : World) (hn : n = 32 + q.length) (hc : n ≤ k) (hcm : k ≤ 9223372036854775807) (hr : Rd w w.heap.size C (U8 (long a b c d) ++ U8 q)) :
    Calls Try.prog 12 #[.slice C n k] w (fun e w' => e = .returned (.tuple #[.agg #[.int .u64 a, .int .u64 b, .int .u64 c, .int .u64 d], .int .i64 0]) ∧ Below w.heap.size w w') := by
  have hl : n = (long a b c d ++ q).length := by simp [hn, long, length_bes]
  subst hl
  refine (GetLong_good _ C k w (by simp [long, length_bes]) hc hcm (isU8_append (isU8_bes _ _) hq) (by rw [U8_append]; exact hr)).mono ?_
  rintro e w' ⟨rfl, hb⟩
  obtain ⟨e0, e1, e2, e3⟩ := wordAt_long a b c d q h
  rw [e0, e1, e2, e3]
  exact ⟨rfl, hb⟩

set_option maxRecDepth 100000 in
set_option maxHeartbeats 1000000 in
theorem NumsBack_beyond (N b a0 a1 a2 a3 : Int) (p q : List Int) (A0 A1 : Option Addr) (c0 c1 : Nat) (w : World) (hp : p.length ≤ 140737488351232) (hq : q.length ≤ 140737488351232)
    (hb : 1048576 < p.length + q.length) :
    Calls Try.prog 3 #[.agg #[.int .u64 N, .int .i64 b, .int .u64 a0, .int .u64 a1, .int .u64 a2, .int .u64 a3], .agg #[.slice A0 p.length c0, .slice A1 q.length c1]] w
      (fun e w' => e = .returned (.bool true) ∧ Below w.heap.size w w') := by
  go_enter Try.func3, Try.ntmps3
  go_wp2_with fail
  refine (alive_true _).mono ?_
  rintro e w1 ⟨rfl, h1⟩
  have b1 : Below w.heap.size w w1 := ((Below.refl _ _).alloc (Nat.le_refl _) _).alloc (by simp) _ |>.trans (h1.mono (by simp; omega))
  have aB : Blk w1 (w.heap.size + 1) 28 [.slice A0 p.length c0, .slice A1 q.length c1] := (Blk.lit (w.alloc _) _ _ (by simp) _ _ rfl).below h1 (by simp)
  have e0 : w1.cell? ⟨w.heap.size + 1, 0, none⟩ = some (.slice A0 p.length c0) := by rw [aB.cell]; rfl
  have e1 : w1.cell? ⟨w.heap.size + 1, 1, none⟩ = some (.slice A1 q.length c1) := by rw [aB.cell]; rfl
  clear h1
  go_wp2_with fail
  refine (Beyond_any [(p.length : Int), (q.length : Int)] _ 2 _ (w1.heap.size + 1) true (by simp) (by intro x hx; simp at hx; omega) (Rd.lit w1 _ (I64 [(p.length : Int), (q.length : Int)]) (Nat.lt_succ_self _)) (by simp [total]; omega)).mono ?_
  rintro e w2 ⟨rfl, h2⟩
  have b2 : Below w.heap.size w w2 := by rw [← h2]; exact b1.alloc b1.size _
  clear h2 e0 e1 b1 aB
  go_wp2_with fail
  refine (alive_true _).mono ?_
  rintro e w3 ⟨rfl, h3⟩
  have b3 := b2.trans (h3.mono b2.size)
  go_wp2
  go_ret
  exact ⟨rfl, b3⟩

set_option maxRecDepth 100000 in
set_option maxHeartbeats 1000000 in
theorem NumsBack_within (N b a0 a1 a2 a3 : Int) (p q : List Int) (A0 A1 : Option Addr) (c0 c1 : Nat) (w : World) (hpq : p.length + q.length ≤ 1048576)
    (hN : 0 ≤ N ∧ N < 18446744073709551616) (hb0 : -9223372036854775808 ≤ b) (hb1 : b ≤ 9223372036854775807) (ha : ∀ x ∈ [a3, a2, a1, a0], 0 ≤ x ∧ x < 18446744073709551616)
    (huq : IsU8 q) (hrp : Rd w w.heap.size A0 (U8 p)) (hrq : Rd w w.heap.size A1 (U8 q)) :
    Calls Try.prog 3 #[.agg #[.int .u64 N, .int .i64 b, .int .u64 a0, .int .u64 a1, .int .u64 a2, .int .u64 a3], .agg #[.slice A0 p.length c0, .slice A1 q.length c1]] w
      (fun e w' => e = .returned (.bool true) ∧ Below w.heap.size w w') := by
  go_enter Try.func3, Try.ntmps3
  go_wp2_with fail
  refine (alive_true _).mono ?_
  rintro e w1 ⟨rfl, h1⟩
  have b1 : Below w.heap.size w w1 := ((Below.refl _ _).alloc (Nat.le_refl _) _).alloc (by simp) _ |>.trans (h1.mono (by simp; omega))
  have aB : Blk w1 (w.heap.size + 1) 28 [.slice A0 p.length c0, .slice A1 q.length c1] := (Blk.lit (w.alloc _) _ _ (by simp) _ _ rfl).below h1 (by simp)
  have e0 : w1.cell? ⟨w.heap.size + 1, 0, none⟩ = some (.slice A0 p.length c0) := by rw [aB.cell]; rfl
  have e1 : w1.cell? ⟨w.heap.size + 1, 1, none⟩ = some (.slice A1 q.length c1) := by rw [aB.cell]; rfl
  have zB : Blk w1 w.heap.size 26 [.int .u64 N, .int .i64 b, .int .u64 a0, .int .u64 a1, .int .u64 a2, .int .u64 a3] := ((Blk.lit w _ _ rfl _ _ rfl).alloc _).below h1 (by simp; omega)
  have hs1 : w.heap.size + 2 ≤ w1.heap.size := by have := h1.size; simp at this; omega
  clear h1
  go_wp2_with fail
  refine (Beyond_any [(p.length : Int), (q.length : Int)] _ 2 _ (w1.heap.size + 1) false (by simp) (by intro x hx; simp at hx; omega) (Rd.lit w1 _ (I64 [(p.length : Int), (q.length : Int)]) (Nat.lt_succ_self _)) (by simp [total]; omega)).mono ?_
  rintro e w2 ⟨rfl, h2⟩
  have hb12 : Below w1.heap.size w1 w2 := by rw [← h2]; exact (Below.refl _ _).alloc (Nat.le_refl _) _
  have facts : ∀ wx, Below (w.heap.size + 2) w1 wx → (wx.cell? ⟨w.heap.size + 1, 0, none⟩ = some (.slice A0 p.length c0) ∧ wx.cell? ⟨w.heap.size + 1, 1, none⟩ = some (.slice A1 q.length c1) ∧
      wx.cell? ⟨w.heap.size, 0, none⟩ = some (.int .u64 N) ∧ wx.cell? ⟨w.heap.size, 1, none⟩ = some (.int .i64 b) ∧ wx.cell? ⟨w.heap.size, 2, none⟩ = some (.int .u64 a0) ∧ wx.cell? ⟨w.heap.size, 3, none⟩ = some (.int .u64 a1) ∧
      wx.cell? ⟨w.heap.size, 4, none⟩ = some (.int .u64 a2) ∧ wx.cell? ⟨w.heap.size, 5, none⟩ = some (.int .u64 a3)) ∧ Below w.heap.size w wx ∧ w.heap.size + 2 ≤ wx.heap.size := by
    intro wx hx
    have h1 := aB.below hx (by omega)
    have h2 := zB.below hx (by omega)
    refine ⟨⟨?_, ?_, ?_, ?_, ?_, ?_, ?_, ?_⟩, b1.trans (hx.mono (by omega)), by have := hx.size; omega⟩
    · rw [h1.cell]; rfl
    · rw [h1.cell]; rfl
    all_goals (rw [h2.cell]; rfl)
  have HF := Lib.hid facts; clear facts
  have f2 : Below (w.heap.size + 2) w1 w2 := hb12.mono hs1
  clear h2 e0 e1 b1 zB aB hs1 hb12
  obtain ⟨⟨e0, e1, z0, z1, z2, z3, z4, z5⟩, b2, s2⟩ := HF.out _ f2
  go_upto_region 3 with fail
  go_cut [5] (fun s5 wx => s5 = .int .i64 (many b : Nat) ∧ w2 = wx)
  case first =>
    go_wp2
    all_goals
      go_meet
      refine ⟨?_, rfl⟩
      congr 1
      unfold many
      omega
  case rest =>
    obtain ⟨rfl, rfl⟩ := hcut
    have hm8 : many b ≤ 8 := by unfold many; omega
    go_wp2_with fail
    refine (Put_any p A0 c0 N b _ hN.1 hN.2 (by omega) hb0 hb1 (hrp.below b2 (by omega))).mono ?_
    rintro e w3 ⟨g, rfl, hg, hB3, hb23⟩
    have f3 : Below (w.heap.size + 2) w1 w3 := f2.trans (hb23.mono s2)
    have hgs : w.heap.size + 2 ≤ g := by omega
    clear e0 e1 z0 z1 z2 z3 z4 z5 b2 s2 f2 hb23 hg
    obtain ⟨⟨e0, e1, z0, z1, z2, z3, z4, z5⟩, b3, s3⟩ := HF.out _ f3
    go_wp2_with fail
    refine (PutLong_any p A0 c0 a0 a1 a2 a3 _ (by omega) ha (hrp.below b3 (by omega))).mono ?_
    rintro e w4 ⟨k, rfl, hk, hB4, hb34⟩
    have f4 : Below (w.heap.size + 2) w1 w4 := f3.trans (hb34.mono s3)
    have hks : w.heap.size + 2 ≤ k := by omega
    have hB3' := hB3.below hb34 hB3.lt
    clear e0 e1 z0 z1 z2 z3 z4 z5 b3 s3 f3 hb34 hk hB3
    obtain ⟨⟨e0, e1, z0, z1, z2, z3, z4, z5⟩, b4, s4⟩ := HF.out _ f4
    have hl4 : (long a0 a1 a2 a3).length = 32 := by simp [long, length_bes]
    have hra : Rd w4 w4.heap.size (some ⟨g, 0, none⟩) (U8 p) := Rd.of_blk hB3' 0 (fun j u hu => by rw [Nat.zero_add, U8_append, List.getElem?_append_left (List.getElem?_eq_some_iff.1 hu).1]; exact hu) hB3'.lt
    have hrb : Rd w4 w4.heap.size (some ⟨k, 0, none⟩) (U8 p) := Rd.of_blk hB4 0 (fun j u hu => by rw [Nat.zero_add, U8_append, List.getElem?_append_left (List.getElem?_eq_some_iff.1 hu).1]; exact hu) hB4.lt
    have hrp4 := hrp.below b4 (show w.heap.size ≤ w4.heap.size by omega)
    have same1 : ∀ n c, Calls Try.prog 10 #[.slice (some ⟨g, 0, none⟩) p.length c, .slice A0 p.length c0] (w4.drewN n) (fun e w' => e = .returned (.bool true) ∧ ∃ m, w' = (w4.drewN n).drewN m) := by
      intro n c
      exact SameBytes_yes p _ _ c c0 _ w4.heap.size (by omega) (hra.dr n) (hrp4.dr n)
    have same2 : ∀ n c, Calls Try.prog 10 #[.slice (some ⟨k, 0, none⟩) p.length c, .slice A0 p.length c0] (w4.drewN n) (fun e w' => e = .returned (.bool true) ∧ ∃ m, w' = (w4.drewN n).drewN m) := by
      intro n c
      exact SameBytes_yes p _ _ c c0 _ w4.heap.size (by omega) (hrb.dr n) (hrp4.dr n)
    have S1 := Lib.hid same1; clear same1
    have S2 := Lib.hid same2; clear same2
    go_wp2_with fail
    go_quiet ((first | (go_at_call_of 10 (Value.slice (some ⟨g, 0, none⟩) p.length (p.length + many b)); refine Calls.quiet_of (S1.out _ _)) | (refine Calls.quiet_of (S2.out _ _))))
    have hle1 : (p.length : Int) ≤ (p.length : Int) + (many b : Int) := by omega
    have hle2 : (p.length : Int) ≤ (p.length : Int) + 32 := by omega
    obtain ⟨i0, hi, hz0, hz1, hz2⟩ := info_parts Try.infoByte
    go_upto_region 9 with fail
    go_cut [9, 10] (fun s9 s10 wx => s9 = .int .u64 (low N (many b)) ∧ s10 = .int .i64 0 ∧ Below (w.heap.size + 2) w1 wx ∧ Blk wx k 5 (U8 (p ++ long a0 a1 a2 a3)))
    case first =>
      obtain ⟨A80, hA80⟩ : ∃ A80, (if many b = 0 then some (⟨g, 0, none⟩ : Addr) else some ⟨g, p.length, none⟩) = A80 := ⟨_, rfl⟩
      have hrk : Rd w4 w4.heap.size A80 (U8 (be N.toNat (many b))) := by
        rw [← hA80]
        by_cases h : many b = 0
        · rw [h]; exact Rd.nil _ _ _
        · rw [if_neg h]; exact Rd.of_blk hB3' p.length (fun j u hu => by rw [U8_append, List.getElem?_append_right (by simp)]; simpa using hu) hB3'.lt
      have hrq4 := hrq.below b4 (show w.heap.size ≤ w4.heap.size by omega)
      have HK := Lib.hid hrk; clear hrk
      go_region_law (first | (refine step_append_full rfl (.tmp 80) (.tmp 82) 27 rfl i0 (.int .u8 0) 1 Try.underlying27 hi hz0 hz1 hz2 (by decide) _ _ _ rfl rfl (U8 (be N.toNat (many b))) (by simp) (HK.out.dr _) _ _ _ rfl (U8 q) (by simp) (hrq4.dr _) (by omega) (by omega) ?_; intro C c' w5 hC hb5 hc5 hc5') | (go_simp; go_at_call 11; refine (Get_back N (many b) hm8 q huq C _ c' w5 _ rfl hc5 hc5' hC).mono ?_; rintro e w6 ⟨rfl, rfl⟩))
      have f5 : Below (w.heap.size + 2) w1 w5 := f4.trans ((Below.dr (Below.refl (w.heap.size + 2) w4) _).trans (hb5.mono (by simpa using s4)))
      have hB5 := (hB4.dr (nq + 1)).below hb5 (by have := hB4.lt; simpa using this)
      go_wp2_with fail
      go_meet
      exact ⟨rfl, rfl, f5, hB5⟩
    case rest =>
      obtain ⟨rfl, rfl, f5, hB5⟩ := hcut
      clear e0 e1 z0 z1 z2 z3 z4 z5 b4 s4 f4 hrp4 hra hrb S1 S2 hB4 hB3'
      obtain ⟨⟨e0, e1, z0, z1, z2, z3, z4, z5⟩, b5, s5⟩ := HF.out _ f5
      have hrq5 := hrq.below b5 (show w.heap.size ≤ wc.heap.size by omega)
      have hrl : Rd wc wc.heap.size (some ⟨k, p.length, none⟩) (U8 (long a0 a1 a2 a3)) :=
        Rd.of_blk hB5 p.length (fun j u hu => by rw [U8_append, List.getElem?_append_right (by simp)]; simpa using hu) hB5.lt
      go_upto_region 10 with fail
      go_cut [11, 12] (fun s11 s12 wy => ∃ r, s11 = .pointer (some ⟨r, 0, none⟩) ∧ s12 = .int .i64 0 ∧ Below (w.heap.size + 2) w1 wy ∧ Blk wy r 24 [.int .u64 a0, .int .u64 a1, .int .u64 a2, .int .u64 a3])
      case first =>
        have hfr : ∀ W, Below wc.heap.size wc W → Rd W W.heap.size (some ⟨k, p.length, none⟩) (U8 (long a0 a1 a2 a3)) ∧ Rd W W.heap.size A1 (U8 q) := fun W h => ⟨hrl.below h h.size, hrq5.below h h.size⟩
        have HFR := Lib.hid hfr; clear hfr hrl hrq5
        have s5' : w.heap.size + 1 < wc.heap.size := by omega
        go_region_law (first | (refine step_append_full rfl (.tmp 91) (.tmp 93) 27 rfl i0 (.int .u8 0) 1 Try.underlying27 hi hz0 hz1 hz2 (by decide) _ _ _ rfl rfl (U8 (long a0 a1 a2 a3)) (by simp [hl4]) ?_ _ _ _ rfl (U8 q) (by simp) ?_ (by omega) (by omega) ?_; (· refine (HFR.out _ ?_).1; repeat (first | exact Below.refl _ _ | refine Below.drew ?_ | refine Below.dr ?_ _ | refine Below.alloc ?_ (by simp) _)); (· refine (HFR.out _ ?_).2; repeat (first | exact Below.refl _ _ | refine Below.drew ?_ | refine Below.dr ?_ _ | refine Below.alloc ?_ (by simp) _)); intro C2 c2 w6 hC hb6 hc6 hc6'; try (have qA : Blk w6 wc.heap.size 24 [.int .u64 0, .int .u64 0, .int .u64 0, .int .u64 0] := (Blk.drew (Blk.lit wc 24 _ rfl #[.int .u64 0, .int .u64 0, .int .u64 0, .int .u64 0] [.int .u64 0, .int .u64 0, .int .u64 0, .int .u64 0] rfl)).below hb6 (by simp))) | (go_simp; go_at_call 12; (first | ((with_reducible refine (GetLong_back a0 a1 a2 a3 ha q huq C2 _ c2 (w6.alloc _) rfl hc6 hc6' (hC.below ((Below.refl _ _).alloc (Nat.le_refl _) _) (by simp))).mono ?_); rintro e w7 ⟨rfl, hb7⟩; have qB := (Blk.lit w6 24 _ rfl #[.int .u64 0, .int .u64 0, .int .u64 0, .int .u64 0] [.int .u64 0, .int .u64 0, .int .u64 0, .int .u64 0] rfl).below hb7 (by simp); have q0 : w7.cell? ⟨w6.heap.size, 0, none⟩ = some (.int .u64 0) := by { rw [qB.cell]; rfl }; have q1 : w7.cell? ⟨w6.heap.size, 1, none⟩ = some (.int .u64 0) := by { rw [qB.cell]; rfl }; have q2 : w7.cell? ⟨w6.heap.size, 2, none⟩ = some (.int .u64 0) := by { rw [qB.cell]; rfl }; have q3 : w7.cell? ⟨w6.heap.size, 3, none⟩ = some (.int .u64 0) := by { rw [qB.cell]; rfl }; have qf := qB.free) | ((with_reducible refine (GetLong_back a0 a1 a2 a3 ha q huq C2 _ c2 w6 rfl hc6 hc6' hC).mono ?_); rintro e w7 ⟨rfl, hb7⟩; try (have qC := qA.below hb7 qA.lt; have q0 : w7.cell? ⟨wc.heap.size, 0, none⟩ = some (.int .u64 0) := by { rw [qC.cell]; rfl }; have q1 : w7.cell? ⟨wc.heap.size, 1, none⟩ = some (.int .u64 0) := by { rw [qC.cell]; rfl }; have q2 : w7.cell? ⟨wc.heap.size, 2, none⟩ = some (.int .u64 0) := by { rw [qC.cell]; rfl }; have q3 : w7.cell? ⟨wc.heap.size, 3, none⟩ = some (.int .u64 0) := by { rw [qC.cell]; rfl }; have qf := qC.free)))))
        all_goals
          have f6 : Below (w.heap.size + 2) w1 w6 := f5.trans (Below.trans (b := _) (by repeat (first | exact Below.refl _ _ | refine Below.drew ?_ | refine Below.dr ?_ _ | refine Below.alloc ?_ (by simpa using s5) _)) (hb6.mono (by have := s5; simp; omega)))
          have hs6 : w.heap.size + 2 ≤ w6.heap.size := by have := hb6.size; simp at this; omega
          go_wp2_with fail
          go_meet
        all_goals
          first
            | (have f7 : Below (w.heap.size + 2) w1 w7 := f6.trans (((Below.refl _ w6).alloc hs6 _).trans (hb7.mono (by simp; omega)))
               exact ⟨_, rfl, rfl, (((f7.setCell (p := ⟨w6.heap.size, 0, none⟩) hs6 _).setCell (p := ⟨w6.heap.size, 1, none⟩) hs6 _).setCell (p := ⟨w6.heap.size, 2, none⟩) hs6 _).setCell (p := ⟨w6.heap.size, 3, none⟩) hs6 _, (((qB.set 0 _).set 1 _).set 2 _).set 3 _⟩)
            | (have f7 : Below (w.heap.size + 2) w1 w7 := f6.trans (hb7.mono hs6)
               exact ⟨_, rfl, rfl, (((f7.setCell (p := ⟨wc.heap.size, 0, none⟩) s5 _).setCell (p := ⟨wc.heap.size, 1, none⟩) s5 _).setCell (p := ⟨wc.heap.size, 2, none⟩) s5 _).setCell (p := ⟨wc.heap.size, 3, none⟩) s5 _, (((qC.set 0 _).set 1 _).set 2 _).set 3 _⟩)
            | (have f7 : Below (w.heap.size + 2) w1 w7 := f6.trans (hb7.mono hs6)
               have hs7 : w.heap.size + 2 ≤ w7.heap.size := Nat.le_trans hs6 hb7.size
               exact ⟨_, rfl, rfl, f7.alloc hs7 _, Blk.lit _ _ _ rfl _ _ rfl⟩)
      case rest =>
        obtain ⟨r, rfl, rfl, f7, hBr⟩ := hcut
        clear e0 e1 z0 z1 z2 z3 z4 z5 b5 s5 f5 hB5 hrq5 hrl
        obtain ⟨⟨e0, e1, z0, z1, z2, z3, z4, z5⟩, b7, s7⟩ := HF.out _ f7
        have r0 : wc.cell? ⟨r, 0, none⟩ = some (.int .u64 a0) := by rw [hBr.cell]; rfl
        have r1 : wc.cell? ⟨r, 1, none⟩ = some (.int .u64 a1) := by rw [hBr.cell]; rfl
        have r2 : wc.cell? ⟨r, 2, none⟩ = some (.int .u64 a2) := by rw [hBr.cell]; rfl
        have r3 : wc.cell? ⟨r, 3, none⟩ = some (.int .u64 a3) := by rw [hBr.cell]; rfl
        have hq := eql_num a0 a1 a2 a3 a0 a1 a2 a3 wc
        have hgd := Try.guardNum
        by_cases hm : many b < 8
        · have hmask := mask_low N (many b) hm hN.1 hN.2
          go_wp2
          go_ret
          exact ⟨rfl, b7⟩
        · have hm' : many b = 8 := by omega
          rw [hm', low_8 N hN.1 hN.2]
          go_wp2
          go_ret
          exact ⟨rfl, b7⟩
end Go.Proofs.Ytckcgdekgnjpiaa
