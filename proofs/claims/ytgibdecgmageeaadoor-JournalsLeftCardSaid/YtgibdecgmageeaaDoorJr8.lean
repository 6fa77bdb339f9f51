/- What the statements of layer 18 ask, walked: RecordsSize, many, end, check, row. -/
import Derived.Test.YtgibdecgmageeaaDoorJr7
namespace Go.Proofs.YtgibdecgmageeaaDoor
open Go.RowKit

def rszGo (T : Nat) : List Src → Nat
  | [] => T
  | x :: r => if T ≤ 1048576 then rszGo (T + x.2.1.length) r else T
/-- What RecordsSize answers. -/
def rsz (l : List Src) : Nat := rszGo l.length l
theorem rszGo_sum (l : List Src) : ∀ T, rszGo T l ≤ 1048576 → rszGo T l + l.length * 8 = T + endR (bsOf l) := by
  induction l with
  | nil => intro T _; simp [rszGo, endR, bsOf]
  | cons x r ih =>
    intro T h
    unfold rszGo at h ⊢
    have e : endR (bsOf (x :: r)) = (x.2.1.length + 8) + endR (bsOf r) := by simp [endR, bsOf]
    by_cases hT : T ≤ 1048576
    · rw [if_pos hT] at h ⊢
      have := ih _ h
      simp only [List.length_cons]
      omega
    · rw [if_neg hT] at h; exact absurd h hT
theorem rsz_sum {l : List Src} (h : rsz l ≤ 1048576) : rsz l + l.length * 8 = l.length + endR (bsOf l) := rszGo_sum l _ h

set_option maxHeartbeats 400000 in
theorem BytesSize_any (A : Option Addr) (n c : Nat) (w : World) : Calls Tryd.prog 63 #[.slice A n c] w (fun e w' => e = .returned (.int .i64 n) ∧ w = w') := by
  go_enter Tryd.func63, Tryd.ntmps63
  go_wp2
  go_ret
  exact ⟨rfl, rfl⟩
set_option maxHeartbeats 1000000 in
theorem RecordsSize_at (l : List Src) (A : Option Addr) (n cap B : Nat) (w : World) (hn : n = l.length) (hl : n ≤ 140737488351232) (hr : RecsIn w B A l) :
    Calls Tryd.prog 46 #[.slice A n cap] w (fun e w' => e = .returned (.int .i64 (rsz l : Nat)) ∧ rsz l ≤ 1000000000000000 ∧ w = w') := by
  have HR := Lib.hid hr
  have HN := Lib.hid hn
  clear hr
  have h00 : rszGo n (l.drop 0) = rsz l := by rw [List.drop_zero, hn]; rfl
  have H00 := Lib.hid h00
  clear h00 hn
  go_enter Tryd.func46, Tryd.ntmps46
  go_wp2_with fail
  go_loop [3, 4] (fun t i => ∃ (T j : Nat), t = .int .i64 T ∧ i = .int .i64 j ∧ j ≤ n ∧ Hid (rszGo T (l.drop j) = rsz l) ∧ T ≤ 1000000000000000) (fun _ i => n - (intOf i).toNat)
  case atStart => exact ⟨n, 0, rfl, rfl, by omega, H00, by omega⟩
  case round =>
    obtain ⟨T, j, rfl, rfl, hj, HT, hTb⟩ := hrel
    clear H00
    by_cases hgo : j < n ∧ T ≤ 1048576
    · obtain ⟨h1, h2⟩ := hgo
      have hjl : j < l.length := by have := HN.out; omega
      obtain ⟨ad, rfl, hab, hc⟩ := HR.out.rd (by simp; omega)
      have c0 : w.cell? (ad.add j) = some (SV l[j]) := hc j _ (by simp [hjl])
      have hsz := (HR.out.each _ (List.getElem_mem hjl)).2.2
      have hstep : rszGo (T + (l[j]'hjl).2.1.length) (l.drop (j + 1)) = rsz l := by
        have h := HT.out
        rw [List.drop_eq_getElem_cons hjl] at h
        unfold rszGo at h
        rw [if_pos h2] at h
        exact h
      have HS := Lib.hid hstep
      rw [SV_eq] at c0
      generalize (l[j]'hjl) = x at c0 hsz HS
      obtain ⟨X, xs, xc⟩ := x
      simp only at c0 hsz HS
      generalize xs.length = xn at c0 hsz HS
      clear hstep hc
      go_wp2_with (go_at_call 63; (with_reducible refine (BytesSize_any _ _ _ _).mono ?_); rintro e w' ⟨rfl, rfl⟩)
      go_round
      case rel => exact ⟨T + xn, j + 1, by go_num, by go_num, by omega, HS, by omega⟩
      case measure => simp [intOf] <;> omega
    · have hfin : T = rsz l := by
        have h := HT.out
        by_cases hjn : j < n
        · have hjl : j < l.length := by have := HN.out; omega
          rw [List.drop_eq_getElem_cons hjl] at h
          unfold rszGo at h
          rw [if_neg (by omega)] at h
          exact h
        · rw [List.drop_of_length_le (by have := HN.out; omega)] at h
          exact h
      have HF := Lib.hid hfin
      clear hfin
      go_wp2_with fail
      all_goals
        go_ret
        exact ⟨by rw [← HF.out]; rfl, by rw [← HF.out]; exact hTb, rfl⟩
/-- More than is gone through. -/
def manyB (l : List Src) : Bool := decide (40 < l.length) || decide (40000 < rsz l)
theorem manyB_no {l : List Src} (h : manyB l = false) : l.length ≤ 40 ∧ endR (bsOf l) ≤ 40320 ∧ ∀ r ∈ bsOf l, r.length ≤ 65536 := by
  unfold manyB at h
  simp only [Bool.or_eq_false_iff, decide_eq_false_iff_not, Nat.not_lt] at h
  obtain ⟨h1, h2⟩ := h
  have h3 := rsz_sum (l := l) (by omega)
  have h4 : endR (bsOf l) ≤ 40320 := by omega
  refine ⟨h1, h4, fun r hr => ?_⟩
  obtain ⟨a, b, e⟩ := List.append_of_mem hr
  rw [e, endR_append] at h4
  have : endR (r :: b) = (r.length + 8) + endR b := by simp [endR]
  omega
set_option maxHeartbeats 1000000 in
theorem many_at (l : List Src) (A : Option Addr) (n cap B : Nat) (w : World) (hn : n = l.length) (hl : n ≤ 140737488351232) (hr : RecsIn w B A l) :
    Calls Tryd.prog 17 #[.slice A n cap] w (fun e w' => e = .returned (.bool (manyB l)) ∧ w = w') := by
  have H := Lib.hid (RecordsSize_at l A n cap B w hn hl hr)
  have HN := Lib.hid hn
  clear hr hn
  by_cases h40 : 40 < n
  · have hb : (40 : Int) < n := by omega
    have hB : Hid (manyB l = true) := by show manyB l = true; unfold manyB; rw [← HN.out, decide_eq_true h40]; rfl
    go_enter Tryd.func17, Tryd.ntmps17
    go_wp2_with fail
    go_ret
    exact ⟨by rw [hB.out]; rfl, rfl⟩
  · have hb : ¬ (40 : Int) < n := by omega
    have hB : Hid (manyB l = decide (40000 < rsz l)) := by show manyB l = _; unfold manyB; rw [← HN.out, decide_eq_false h40]; rfl
    rw [hB.out]
    generalize rsz l = Z at H
    go_enter Tryd.func17, Tryd.ntmps17
    go_wp2_with fail
    (with_reducible refine H.out.mono ?_)
    rintro e w' ⟨rfl, hz, rfl⟩
    by_cases hz2 : 40000 < Z
    · have hz3 : (40000 : Int) < Z := by omega
      go_wp2_with fail
      go_ret
      exact ⟨by rw [decide_eq_true hz2]; simp <;> omega, rfl⟩
    · have hz3 : ¬ (40000 : Int) < Z := by omega
      go_wp2_with fail
      go_ret
      exact ⟨by rw [decide_eq_false hz2]; simp <;> omega, rfl⟩

theorem endR_take_succ (l : List Src) (j : Nat) (h : j < l.length) : endR (bsOf (l.take (j + 1))) = endR (bsOf (l.take j)) + (l[j].2.1.length + 8) := by
  unfold bsOf
  rw [List.take_succ_eq_append_getElem h, List.map_append, endR_append]
  simp [endR]
theorem endR_take_le (l : List (List Int)) (j : Nat) : endR (l.take j) ≤ endR l := by
  conv => rhs; rw [← List.take_append_drop j l]
  rw [endR_append]; omega
set_option maxHeartbeats 1000000 in
theorem end_at (l : List Src) (A : Option Addr) (n cap B k : Nat) (w : World) (hn : n = l.length) (hk : k ≤ n) (hb : endR (bsOf l) ≤ 1048576) (hr : RecsIn w B A l) :
    Calls Tryd.prog 23 #[.slice A n cap, .int .i64 k] w (fun e w' => e = .returned (.int .i64 (endR (bsOf (l.take k)) : Nat)) ∧ w = w') := by
  have HR := Lib.hid hr
  have HN := Lib.hid hn
  have hk8 : k * 8 ≤ 1048576 := by
    have h1 := endR_count (bsOf l)
    unfold bsOf at h1 hb
    rw [List.length_map] at h1
    omega
  clear hr hn
  go_enter Tryd.func23, Tryd.ntmps23
  go_wp2_with fail
  go_loop [5, 6] (fun t i => ∃ (T j : Nat), t = .int .i64 T ∧ i = .int .i64 j ∧ j ≤ k ∧ Hid (T + j * 8 = endR (bsOf (l.take j)) + k * 8) ∧ T ≤ 2097152) (fun _ i => k - (intOf i).toNat)
  case atStart => exact ⟨8 * k, 0, by go_num, rfl, by omega, (by show 8 * k + 0 * 8 = endR (bsOf (l.take 0)) + k * 8; simp [bsOf, endR]; omega), by omega⟩
  case round =>
    obtain ⟨T, j, rfl, rfl, hj, HT, hTb⟩ := hrel
    by_cases hlt : j < k
    · have hjl : j < l.length := by have := HN.out; omega
      have hjn : (j : Int) < n := by omega
      obtain ⟨ad, rfl, hab, hc⟩ := HR.out.rd (by simp; omega)
      have c0 : w.cell? (ad.add j) = some (SV l[j]) := hc j _ (by simp [hjl])
      have hstep := endR_take_succ l j hjl
      have hle : endR (bsOf (l.take (j + 1))) ≤ 1048576 := by
        have h := endR_take_le (bsOf l) (j + 1)
        unfold bsOf at h hb ⊢
        rw [List.map_take]
        omega
      rw [SV_eq] at c0
      generalize (l[j]'hjl) = x at c0 hstep
      obtain ⟨X, xs, xc⟩ := x
      simp only at c0 hstep
      generalize xs.length = xn at c0 hstep
      have hT1 := HT.out
      have hnew : Hid (T + xn + (j + 1) * 8 = endR (bsOf (l.take (j + 1))) + k * 8) := by show _ = _; omega
      have hnb : T + xn ≤ 2097152 := by omega
      clear hstep hc hle hT1
      go_wp2_with fail
      go_round
      case rel => exact ⟨T + xn, j + 1, by go_num, by go_num, by omega, hnew, hnb⟩
      case measure => simp [intOf] <;> omega
    · have hfin : Hid (T = endR (bsOf (l.take k))) := by
        have h := HT.out
        have : j = k := by omega
        rw [this] at h
        show T = _
        omega
      go_wp2_with fail
      go_ret
      exact ⟨by rw [← hfin.out]; rfl, rfl⟩

/-- The bytes of the check that stands ahead of a place. -/
def checkS (b : List Int) (k : Nat) : ByteArray := if k < 4 ∨ b.length < k then ⟨#[255, 255, 255, 255]⟩ else strOfNums ((b.drop (k - 4)).take 4)
set_option maxRecDepth 100000 in
set_option maxHeartbeats 1000000 in
theorem check_at (b : List Int) (A : Option Addr) (n cap B k : Nat) (w : World) (hn : n = b.length) (hc : n ≤ cap) (hcap : cap ≤ 9223372036854775807) (hk : k ≤ 1048576) (hr : Rd w B A (U8 b)) :
    Calls Tryd.prog 26 #[.slice A n cap, .int .i64 k] w (fun e w' => e = .returned (.string (checkS b k)) ∧ w = w') := by
  have HN := Lib.hid hn
  by_cases h4 : k < 4
  · have h4I : (k : Int) < 4 := by omega
    have hS : Hid (checkS b k = ⟨#[255, 255, 255, 255]⟩) := if_pos (.inl h4)
    rw [hS.out]
    clear hn hr
    go_enter Tryd.func26, Tryd.ntmps26
    go_wp2_with fail
    go_ret
    exact ⟨rfl, rfl⟩
  · have h4I : ¬ (k : Int) < 4 := by omega
    by_cases hbig : n < k
    · have hbI : (n : Int) < k := by omega
      have hS : Hid (checkS b k = ⟨#[255, 255, 255, 255]⟩) := if_pos (.inr (by omega))
      rw [hS.out]
      clear hn hr
      go_enter Tryd.func26, Tryd.ntmps26
      go_wp2_with fail
      go_ret
      exact ⟨rfl, rfl⟩
    · have hbI : ¬ (n : Int) < k := by omega
      have hS : Hid (checkS b k = strOfNums ((b.drop (k - 4)).take 4)) := if_neg (by omega)
      rw [hS.out]
      have hlen : k - (k - 4) = ((b.drop (k - 4)).take 4).length := by simp only [List.length_take, List.length_drop]; omega
      obtain ⟨ad, rfl, hab, hcell⟩ := hr (by simp; omega)
      have hrd : Rd w B (if cap = k - 4 then some ad else some (ad.add (k - 4))) (U8 ((b.drop (k - 4)).take 4)) := by
        have h := Rd.cut (A := some ad) (xs := U8 b) (fun _ => ⟨ad, rfl, hab, hcell⟩) (k - 4) cap 4 1 (by intro e; simp; omega)
        rw [U8_take, U8_drop]
        simpa using h
      have hrun := run_str (P := Tryd.prog) w 37 5 9 Tryd.underlying37 Tryd.underlying5 Tryd.underlying9 (if cap = k - 4 then some ad else some (ad.add (k - 4))) (k - (k - 4)) (cap - (k - 4)) ((b.drop (k - 4)).take 4) hlen B hrd
      have hne : ¬ cap = k - 4 := by omega
      rw [if_neg hne] at hrun
      clear hn hcell hrd hlen
      go_enter Tryd.func26, Tryd.ntmps26
      go_wp2_with fail
      go_ret
      exact ⟨rfl, rfl⟩

section
variable {b0 g : Nat} {w : World} {m : Dm} {L : List (Nat × Dm)} {R : List Asn} {s : ByteArray}
set_option maxHeartbeats 1000000 in
theorem row_at (h : Disks b0 w ((g, m) :: L) R) (hs : s.size ≤ 9223372036854775807) (hf : m.finds true s = 0) :
    Calls Tryd.prog 22 #[.pointer (some ⟨g, 0, none⟩), .string s] w (fun e w' => ∃ X, e = .returned (.slice X (m.at s).1.length (m.at s).1.length) ∧ Own w' w.heap.size 5 1 (.slice X (m.at s).1.length (m.at s).1.length) (m.at s).1.length (U8 (m.at s).1) ∧ Below w.heap.size w w') := by
  have hsz := Dm.sizeOf_ok hf
  have hok := Dm.row_ok h.ok (m.file (idx m.now s))
  have hread := Dm.read_all hf
  obtain ⟨bs, hbs⟩ : ∃ bs, bs = (m.at s).1 := ⟨_, rfl⟩
  obtain ⟨n, hn⟩ : ∃ n, n = bs.length := ⟨_, rfl⟩
  have hlen : n ≤ 1048576 := by rw [hn, hbs]; exact hok.2.1
  rw [← hbs, ← hn] at hsz hread ⊢
  have H1 := Lib.hid (Size_at (s := s) h hs)
  rw [hsz] at H1
  have H2 : Hid (∀ W, Below w.heap.size w W → Calls Tryd.prog 36 #[.pointer (some ⟨g, 0, none⟩), .string s, .int .i64 0, .int .i64 n] W (RetRead W (bs, 0))) := fun W hW => by
    rw [← hread]
    exact Read_at (h.below hW) hs (by omega) (by omega) (by omega) (by omega)
  have HN := Lib.hid hn
  clear h hsz hok hread hbs hn
  go_enter Tryd.func22, Tryd.ntmps22
  go_wp2_with fail
  (with_reducible refine H1.out.mono ?_)
  rintro e w1 ⟨rfl, b1⟩
  go_wp2_with fail
  (with_reducible refine (H2.out w1 b1).mono ?_)
  rintro e w2 ⟨X, rfl, ho, b2⟩
  have HO := Lib.hid ho
  simp only [← HN.out]
  clear ho
  go_wp2_with fail
  go_ret
  refine ⟨X, rfl, ?_, b1.trans (b2.mono b1.size)⟩
  have := HO.out
  simp only [← HN.out] at this
  exact this.rebase (fun k hk => Nat.le_trans b1.size (this.lt k hk).1)
end
end Go.Proofs.YtgibdecgmageeaaDoor
