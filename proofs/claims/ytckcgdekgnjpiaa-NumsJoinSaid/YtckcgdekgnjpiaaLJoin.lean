/- NumsJoin walked. -/
import Derived.Test.YtckcgdekgnjpiaaAlive
import Derived.Test.YtckcgdekgnjpiaaBeyond
import Derived.Deep.RegionHeld3
import Derived.Deep.RegionLaw
import Derived.Deep.DeepCutAuto
namespace Go.Proofs.Ytckcgdekgnjpiaa
open Go.RowKit

theorem isU8_lenB {q : List Int} (hq : IsU8 q) : IsU8 (lenB q) := isU8_append (isU8_be _ _) hq
theorem num_lenB (q r : List Int) (h : q.length < 4294967296) : num ((lenB q ++ r).take 4) = q.length := by
  unfold lenB
  rw [List.append_assoc, take_be, num_be]
  exact Nat.mod_eq_of_lt (by rw [show 256 ^ 4 = 4294967296 by decide]; exact h)
theorem getBytesF_lenB (q r : List Int) (h : q.length < 4294967296) : getBytesF (lenB q ++ r) = some q := by
  unfold getBytesF
  rw [num_lenB q r h]
  have hl : (lenB q ++ r).length = 4 + q.length + r.length := by simp [lenB]; omega
  rw [hl, if_neg (by omega), if_neg (by omega)]
  congr 1
  have e : (lenB q ++ r).drop 4 = q ++ r := by unfold lenB; rw [List.append_assoc]; exact List.drop_left' (by simp)
  rw [e]; simp
theorem getBytesF_cut (q : List Int) (h : q.length < 4294967296) (k : Nat) (hk : k < 4 + q.length) : getBytesF ((lenB q).take k) = none := by
  unfold getBytesF
  have hl : ((lenB q).take k).length = k := by simp [lenB]; omega
  rw [hl]
  by_cases h4 : k < 4
  · rw [if_pos h4]
  · rw [if_neg h4]
    have e : ((lenB q).take k).take 4 = (lenB q ++ []).take 4 := by rw [List.take_take, Nat.min_eq_left (by omega), List.append_nil]
    rw [e, num_lenB q [] h, if_pos (by omega)]

theorem PutBytes_n (bs l : List Int) (n : Nat) (hn : n = bs.length) (A L : Option Addr) (cb cl : Nat) (w : World) (hbl : bs.length + l.length ≤ 140737488351232)
    (hrb : Rd w w.heap.size A (U8 bs)) (hrl : Rd w w.heap.size L (U8 l)) :
    Calls Try.prog 13 #[.slice A n cb, .slice L l.length cl] w (RetB w (bs ++ lenB l)) := by
  subst hn; exact PutBytes_any bs l A L cb cl w hbl hrb hrl

theorem Rd.behind {w : World} {B : Nat} {A : Option Addr} {xs ys : List Value} (h : Rd w B A (xs ++ ys)) : Rd w B (A.map (·.add xs.length)) ys := by
  intro h0
  obtain ⟨ad, rfl, hb, hc⟩ := h (by simp; omega)
  refine ⟨_, rfl, by rw [add_block]; exact hb, fun j u hu => ?_⟩
  rw [add_add]
  refine hc _ u ?_
  rw [List.getElem?_append_right (by omega), Nat.add_sub_cancel_left]; exact hu
theorem Rd.front {w : World} {B : Nat} {A : Option Addr} {xs ys : List Value} (h : Rd w B A (xs ++ ys)) : Rd w B A xs := by
  intro h0
  obtain ⟨ad, rfl, hb, hc⟩ := h (by simp; omega)
  refine ⟨_, rfl, hb, fun j u hu => hc _ u ?_⟩
  rw [List.getElem?_append_left (List.getElem?_eq_some_iff.1 hu).1]; exact hu

theorem GetBytes_n (bs l : List Int) (n : Nat) (hn : n = bs.length) (A : Option Addr) (cb : Nat) (w : World) (hs : getBytesF bs = some l) (hc : n ≤ cb) (hcb : cb ≤ 9223372036854775807) (hbl : n ≤ 140737488351232) (hu : IsU8 bs) (hr : Rd w w.heap.size A (U8 bs)) :
    Calls Try.prog 14 #[.slice A n cb] w (fun e w' => ∃ X, e = .returned (.tuple #[.slice X l.length l.length, .int .i64 (4 + l.length), .int .i64 0]) ∧ Own w' w.heap.size 5 1 (.slice X l.length l.length) l.length (U8 l) ∧ Below w.heap.size w w') := by
  subst hn; exact GetBytes_good bs l A cb w hs hc hcb hbl hu hr
theorem GetBytes_s (bs : List Int) (n : Nat) (hn : n = bs.length) (A : Option Addr) (cb : Nat) (w : World) (hs : getBytesF bs = none) (hc : n ≤ cb) (hcb : cb ≤ 9223372036854775807) (hu : IsU8 bs) (hr : Rd w w.heap.size A (U8 bs)) :
    Calls Try.prog 14 #[.slice A n cb] w (fun e w' => e = .returned (.tuple #[.slice none 0 0, .int .i64 0, .int .i64 5]) ∧ w = w') := by
  subst hn; exact GetBytes_short bs A cb w hs hc hcb hu hr

theorem NumsJoin_beyond (cut : Int) (p q : List Int) (A0 A1 : Option Addr) (c0 c1 : Nat) (w : World) (hp : p.length ≤ 140737488351232) (hq : q.length ≤ 140737488351232)
    (hb : 1048576 < p.length + q.length) :
    Calls Try.prog 4 #[.agg #[.slice A0 p.length c0, .slice A1 q.length c1], .int .u16 cut] w
      (fun e w' => e = .returned (.bool true) ∧ Below w.heap.size w w') := by
  go_enter Try.func4, Try.ntmps4
  go_wp2_with fail
  refine (alive_true _).mono ?_
  rintro e w1 ⟨rfl, h1⟩
  have b1 : Below w.heap.size w w1 := ((Below.refl _ _).alloc (Nat.le_refl _) _) |>.trans (h1.mono (by simp))
  have aB : Blk w1 w.heap.size 28 [.slice A0 p.length c0, .slice A1 q.length c1] := (Blk.lit w _ _ rfl _ _ rfl).below h1 (by simp)
  have e0 : w1.cell? ⟨w.heap.size, 0, none⟩ = some (.slice A0 p.length c0) := by rw [aB.cell]; rfl
  have e1 : w1.cell? ⟨w.heap.size, 1, none⟩ = some (.slice A1 q.length c1) := by rw [aB.cell]; rfl
  clear h1
  go_wp2_with fail
  refine (Beyond_any [(p.length : Int), (q.length : Int)] _ 2 _ (w1.heap.size + 1) true (by simp) (by intro x hx; simp at hx; omega) (Rd.lit w1 _ (I64 [(p.length : Int), (q.length : Int)]) (Nat.lt_succ_self _)) (by simp [total]; omega)).mono ?_
  rintro e w2 ⟨rfl, h2⟩
  have b2 : Below w.heap.size w w2 := by rw [← h2]; exact b1.alloc b1.size _
  clear h2 e0 e1 b1 aB
  go_wp2_with fail
  refine (alive_true _).mono ?_
  rintro e w3 ⟨rfl, h3⟩
  have b3 := b2.trans (h3.mono b2.size)
  go_wp2
  go_ret
  exact ⟨rfl, b3⟩

set_option maxRecDepth 100000 in
set_option maxHeartbeats 1000000 in
theorem NumsJoin_within (cut : Int) (p q : List Int) (A0 A1 : Option Addr) (c0 c1 : Nat) (w : World) (hpq : p.length + q.length ≤ 1048576)
    (hc0 : 0 ≤ cut) (hc1 : cut < 65536) (hup : IsU8 p) (huq : IsU8 q) (hrp : Rd w w.heap.size A0 (U8 p)) (hrq : Rd w w.heap.size A1 (U8 q)) :
    Calls Try.prog 4 #[.agg #[.slice A0 p.length c0, .slice A1 q.length c1], .int .u16 cut] w
      (fun e w' => e = .returned (.bool true) ∧ Below w.heap.size w w') := by
  go_enter Try.func4, Try.ntmps4
  go_wp2_with fail
  refine (alive_true _).mono ?_
  rintro e w1 ⟨rfl, h1⟩
  have b1 : Below w.heap.size w w1 := ((Below.refl _ _).alloc (Nat.le_refl _) _) |>.trans (h1.mono (by simp))
  have aB : Blk w1 w.heap.size 28 [.slice A0 p.length c0, .slice A1 q.length c1] := (Blk.lit w _ _ rfl _ _ rfl).below h1 (by simp)
  have e0 : w1.cell? ⟨w.heap.size, 0, none⟩ = some (.slice A0 p.length c0) := by rw [aB.cell]; rfl
  have e1 : w1.cell? ⟨w.heap.size, 1, none⟩ = some (.slice A1 q.length c1) := by rw [aB.cell]; rfl
  have hs1 : w.heap.size + 1 ≤ w1.heap.size := by have := h1.size; simp at this; omega
  clear h1
  go_wp2_with fail
  refine (Beyond_any [(p.length : Int), (q.length : Int)] _ 2 _ (w1.heap.size + 1) false (by simp) (by intro x hx; simp at hx; omega) (Rd.lit w1 _ (I64 [(p.length : Int), (q.length : Int)]) (Nat.lt_succ_self _)) (by simp [total]; omega)).mono ?_
  rintro e w2 ⟨rfl, h2⟩
  have hb12 : Below w1.heap.size w1 w2 := by rw [← h2]; exact (Below.refl _ _).alloc (Nat.le_refl _) _
  have facts : ∀ wx, Below (w.heap.size + 1) w1 wx → (wx.cell? ⟨w.heap.size, 0, none⟩ = some (.slice A0 p.length c0) ∧ wx.cell? ⟨w.heap.size, 1, none⟩ = some (.slice A1 q.length c1)) ∧ Below w.heap.size w wx ∧ w.heap.size + 1 ≤ wx.heap.size := by
    intro wx hx
    have h1 := aB.below hx (by omega)
    refine ⟨⟨?_, ?_⟩, b1.trans (hx.mono (by omega)), by have := hx.size; omega⟩
    · rw [h1.cell]; rfl
    · rw [h1.cell]; rfl
  have HF := Lib.hid facts; clear facts
  have f2 : Below (w.heap.size + 1) w1 w2 := hb12.mono hs1
  clear h2 e0 e1 b1 aB hs1 hb12
  obtain ⟨⟨e0, e1⟩, b2, s2⟩ := HF.out _ f2
  go_upto_region 4 with fail
  go_cut [5] (fun s5 wx => ∃ X cx, s5 = .slice X (4 + p.length + (4 + q.length)) cx ∧ 4 + p.length + (4 + q.length) ≤ cx ∧ cx ≤ 9223372036854775807 ∧ Below (w.heap.size + 1) w1 wx ∧ Rd wx wx.heap.size X (U8 (lenB p ++ lenB q)))
  case first =>
    have hfr : ∀ W, Below (w.heap.size + 1) w1 W → Rd W W.heap.size A0 (U8 p) ∧ Rd W W.heap.size A1 (U8 q) ∧ w.heap.size + 1 ≤ W.heap.size ∧ W.cell? ⟨w.heap.size, 0, none⟩ = some (.slice A0 p.length c0) ∧ W.cell? ⟨w.heap.size, 1, none⟩ = some (.slice A1 q.length c1) := fun W h => by
      obtain ⟨⟨x0, x1⟩, b, s⟩ := HF.out W h
      exact ⟨hrp.below b (by omega), hrq.below b (by omega), s, x0, x1⟩
    have HFR := Lib.hid hfr; clear hfr
    go_region_law (go_simp; (first | (go_at_call_of 13 (Value.slice none 0 0); ((with_reducible refine Calls.mono (PutBytes_n [] p 0 rfl none A0 0 c0 _ (by simp; omega) (Rd.nil _ _ _) ?_) ?_); (· refine (HFR.out _ ?_).1; repeat (first | exact f2 | refine Below.drew ?_ | refine Below.dr ?_ _)); rintro e w3 ⟨v, rfl, hv, hb3⟩; obtain ⟨X, cx, rfl, hx1, hx2, hx3⟩ := hv.shape; have f3 : Below (w.heap.size + 1) w1 w3 := Below.trans (b := _) (by repeat (first | exact f2 | refine Below.drew ?_ | refine Below.dr ?_ _)) (hb3.mono (by simpa using s2)); have hr3 := hv.rd rfl (Nat.le_refl _); obtain ⟨_, hq3, s3, q0, q1⟩ := HFR.out _ f3)) | ((with_reducible refine Calls.mono (PutBytes_n (lenB p) q _ rfl X A1 cx c1 _ (by simp [lenB]; omega) ?_ ?_) ?_); (· first | exact hr3 | exact hr3.dr 1); (· first | exact hq3 | exact hq3.dr 1); rintro e w4 ⟨v2, rfl, hv2, hb4⟩; obtain ⟨X2, cx2, rfl, hy1, hy2, hy3⟩ := hv2.shape)))
    all_goals
      have f4 := f3.trans (Below.trans (b := _) (by repeat (first | exact Below.refl _ _ | refine Below.drew ?_ | refine Below.dr ?_ _)) (hb4.mono (by simpa using s3)))
      have hr4 := hv2.rd rfl (Nat.le_refl _)
      have hlp : (lenB p).length = 4 + p.length := by simp [lenB]
      have hlq : (lenB q).length = 4 + q.length := by simp [lenB]
      rw [List.length_append, hlp, hlq] at hy1
      go_wp2_with fail
      go_meet
      exact ⟨X2, cx2, by rw [hlp, hlq], hy1, hy2, f4, hr4⟩
  case rest =>
    obtain ⟨X, cx, rfl, hl, hcx, f5, hrX⟩ := hcut
    clear e0 e1 b2 s2 f2
    have s5 := (HF.out _ f5).2.2
    have hlen : (lenB p ++ lenB q).length = 4 + p.length + (4 + q.length) := by simp [lenB]; omega
    go_wp2_with fail
    refine (GetBytes_n (lenB p ++ lenB q) p _ hlen.symm X cx _ (getBytesF_lenB p (lenB q) (by omega)) hl hcx (by omega) (isU8_append (isU8_lenB hup) (isU8_lenB huq)) hrX).mono ?_
    rintro e w6 ⟨X1, rfl, hv1, hb6⟩
    have f6 := f5.trans (hb6.mono s5)
    obtain ⟨⟨e0, e1⟩, b6, s6⟩ := HF.out _ f6
    have hrp6 := hrp.below b6 (show w.heap.size ≤ w6.heap.size by omega)
    go_wp2_with fail
    refine (SameBytes_yes p X1 A0 _ c0 _ _ (by omega) (hv1.rd rfl (Nat.le_refl _)) hrp6).mono ?_
    rintro e w7 ⟨rfl, n7, rfl⟩
    go_wp2_with fail
    have hlq : (lenB q).length = 4 + q.length := by simp [lenB]
    have hlp : (lenB p).length = 4 + p.length := by simp [lenB]
    have hrX6 := hrX.below hb6 hb6.size
    have hrY : Rd w6 w6.heap.size (X.map (·.add (4 + p.length))) (U8 (lenB q)) := by
      rw [U8_append] at hrX6
      have := hrX6.behind
      rwa [length_U8, hlp] at this
    refine (GetBytes_n (lenB q) q _ hlq.symm _ _ _ (by have := getBytesF_lenB q [] (by omega); rwa [List.append_nil] at this) (by omega) (by omega) (by omega) (isU8_lenB huq) (hrY.dr n7)).mono ?_
    rintro e w8 ⟨X2, rfl, hv2, hb8⟩
    have f8 := f6.trans ((Below.dr (Below.refl (w.heap.size + 1) w6) n7).trans (hb8.mono (by simpa using s6)))
    have hrY8 := (hrY.dr n7).below hb8 (show w6.heap.size ≤ w8.heap.size by simpa using hb8.size)
    clear e0 e1 b6 f6 f5 hrX6 hrX hrY hv1 hb6 hrp6
    obtain ⟨⟨e0, e1⟩, b8, s8⟩ := HF.out _ f8
    have hrq8 := hrq.below b8 (show w.heap.size ≤ w8.heap.size by omega)
    have hr2 := hv2.rd rfl (Nat.le_refl _)
    go_upto_region 10 with fail
    go_cut [12] (fun s12 wx => ∃ k : Nat, s12 = .int .i64 k ∧ k < 4 + q.length ∧ w8 = wx)
    case first =>
      go_wp2_with fail
      go_meet
      have h0 : 0 ≤ cut % (4 + (q.length : Int)) := Int.emod_nonneg _ (by omega)
      have h1 : cut % (4 + (q.length : Int)) < 4 + (q.length : Int) := Int.emod_lt_of_pos _ (by omega)
      exact ⟨(cut % (4 + (q.length : Int))).toNat, by rw [Int.toNat_of_nonneg h0], by omega, rfl⟩
    case rest =>
      obtain ⟨k, rfl, hk, rfl⟩ := hcut
      go_wp2_with fail
      have hrk : Rd w8 w8.heap.size (X.map (·.add (4 + p.length))) (U8 ((lenB q).take k)) := by
        have h := hrY8
        rw [← List.take_append_drop k (lenB q), U8_append] at h
        exact h.front
      refine (GetBytes_s ((lenB q).take k) k (by simp; omega) _ _ _ (getBytesF_cut q (by omega) k hk) (by omega) (by omega) (fun x hx => isU8_lenB huq x (List.mem_of_mem_take hx)) hrk).mono ?_
      rintro e w9 ⟨rfl, rfl⟩
      go_wp2_with fail
      refine (SameBytes_yes q X2 A1 _ c1 _ _ (by omega) hr2 hrq8).mono ?_
      rintro e w9 ⟨rfl, n9, rfl⟩
      go_wp2
      go_ret
      exact ⟨rfl, Below.dr b8 _⟩
end Go.Proofs.Ytckcgdekgnjpiaa
