/- What the statements of layer 18 ask, walked: SameRecords, RecordsSize, many, end, check, row. -/
import Derived.Test.YtgibdecgmageeaaDoorJPlain
namespace Go.Proofs.YtgibdecgmageeaaDoor
open Go.RowKit

/-- Records that are read somewhere. -/
structure RecsIn (w : World) (B : Nat) (A : Option Addr) (l : List Src) : Prop where
  rd : Rd w B A (l.map SV)
  each : ∀ s ∈ l, Rd w B s.1 (U8 s.2.1) ∧ IsU8 s.2.1 ∧ s.2.1.length ≤ 140737488351232
theorem RecsIn.below {w w' : World} {B B' : Nat} {A : Option Addr} {l : List Src} (h : RecsIn w B A l) (hb : Below B w w') (hB : B ≤ B') : RecsIn w' B' A l :=
  ⟨h.rd.below hb hB, fun s hs => ⟨(h.each s hs).1.below hb hB, (h.each s hs).2⟩⟩
theorem RecsIn.mono {w : World} {B B' : Nat} {A : Option Addr} {l : List Src} (h : RecsIn w B A l) (hB : B ≤ B') : RecsIn w B' A l :=
  ⟨h.rd.mono hB, fun s hs => ⟨(h.each s hs).1.mono hB, (h.each s hs).2⟩⟩
theorem RecsIn.dr {w : World} {B : Nat} {A : Option Addr} {l : List Src} (h : RecsIn w B A l) (k : Nat) : RecsIn (w.drewN k) B A l := ⟨h.rd, h.each⟩
theorem RecsIn.take {w : World} {B : Nat} {A : Option Addr} {l : List Src} (h : RecsIn w B A l) (k : Nat) : RecsIn w B A (l.take k) :=
  ⟨by rw [List.map_take]; exact h.rd.first k, fun s hs => h.each s (List.mem_of_mem_take hs)⟩
/-- The records' bytes. -/
def bsOf (l : List Src) : List (List Int) := l.map (·.2.1)

set_option maxHeartbeats 1000000 in
theorem SameBytes_any (xs ys : List Int) (A A' : Option Addr) (n m c c' : Nat) (w : World) (B : Nat) (hn : n = xs.length) (hm : m = ys.length) (hl : n ≤ 140737488351232) (hr : Rd w B A (U8 xs)) (hr' : Rd w B A' (U8 ys)) :
    Calls Tryd.prog 43 #[.slice A n c, .slice A' m c'] w (fun e w' => e = .returned (.bool (decide (xs = ys))) ∧ Drawn w w') := by
  have HN := Lib.hid hn
  have HM := Lib.hid hm
  have HR := Lib.hid hr
  have HR' := Lib.hid hr'
  clear hn hm hr hr'
  by_cases hnm : n = m
  · have hnb : ((n : Int) != (m : Int)) = false := by rw [hnm]; simp
    have HNM := Lib.hid hnm
    clear hnm
    go_enter Tryd.func43, Tryd.ntmps43
    go_wp2_with fail
    go_loopw [5] (fun i wr => ∃ j : Nat, j ≤ n ∧ i = .int .i64 j ∧ Hid (xs.take j = ys.take j) ∧ Drawn w wr) (fun i _ => n - (intOf i).toNat)
    case atStart => exact ⟨0, by omega, rfl, rfl, Drawn.refl _⟩
    case round =>
      obtain ⟨j, hj, rfl, HT, nq, rfl⟩ := hrel
      by_cases hlt : j < n
      · have hx : j < xs.length := by have := HN.out; omega
        have hy : j < ys.length := by have := HM.out; have := HNM.out; omega
        obtain ⟨ad, rfl, _, hc⟩ := HR.out (by simp; omega)
        obtain ⟨ad', rfl, _, hc'⟩ := HR'.out (by simp; omega)
        have c1 : w.cell? (ad.add j) = some (.int .u8 xs[j]) := hc j _ (by simp [U8, hx])
        have c2 : w.cell? (ad'.add j) = some (.int .u8 ys[j]) := hc' j _ (by simp [U8, hy])
        have t1 := List.take_succ_eq_append_getElem hx
        have t2 := List.take_succ_eq_append_getElem hy
        generalize xs[j] = x at c1 t1
        generalize ys[j] = y at c2 t2
        have T1 := Lib.hid t1
        have T2 := Lib.hid t2
        clear hc hc' t1 t2
        have hjI : (j : Int) < n := by omega
        have hjM : (j : Int) < m := by have := HNM.out; omega
        by_cases hxy : x = y
        · have hb : (x != y) = false := by rw [hxy]; simp
          have hnx : Hid (xs.take (j + 1) = ys.take (j + 1)) := by
            show xs.take (j + 1) = ys.take (j + 1)
            rw [T1.out, T2.out, HT.out, hxy]
          clear hxy
          go_wp2_with fail
          go_quiet (fail)
          go_wp2_with fail
          go_roundw
          case rel => exact ⟨j + 1, by omega, by go_num, hnx, _, rfl⟩
          case measure => simp [intOf] <;> omega
        · have hb : (x != y) = true := by simpa using hxy
          have hne : Hid (decide (xs = ys) = false) := decide_eq_false (fun e => by
            have h1 := T1.out
            have h2 := T2.out
            rw [e, h2] at h1
            have h3 := congrArg List.getLast? h1
            simp only [List.getLast?_append, List.getLast?_singleton, Option.some_or, Option.some.injEq] at h3
            exact hxy h3.symm)
          clear hxy
          go_wp2_with fail
          go_quiet (fail)
          go_wp2_with fail
          go_ret
          exact ⟨by rw [hne.out]; rfl, Drawn.trans ⟨_, rfl⟩ ⟨_, rfl⟩⟩
      · have hfin : Hid (decide (xs = ys) = true) := decide_eq_true (by
          have h := HT.out
          rw [List.take_of_length_le (by have := HN.out; omega), List.take_of_length_le (by have := HM.out; have := HNM.out; omega)] at h
          exact h)
        go_wp2_with fail
        go_ret
        exact ⟨by rw [hfin.out]; rfl, _, rfl⟩
  · have hnb : ((n : Int) != (m : Int)) = true := by simp <;> omega
    have hne : Hid (decide (xs = ys) = false) := decide_eq_false (fun e => hnm (by rw [HN.out, HM.out, e]))
    clear hnm
    go_enter Tryd.func43, Tryd.ntmps43
    go_wp2_with fail
    go_ret
    exact ⟨by rw [hne.out]; rfl, 0, rfl⟩

theorem SV_eq (s : Src) : SV s = .slice s.1 s.2.1.length s.2.2 := rfl
set_option maxRecDepth 100000 in
set_option maxHeartbeats 2000000 in
theorem SameRecords_any (l m : List Src) (A A' : Option Addr) (n k c c' : Nat) (w : World) (B : Nat) (hn : n = l.length) (hm : k = m.length) (hl : n ≤ 140737488351232) (hr : RecsIn w B A l) (hr' : RecsIn w B A' m) :
    Calls Tryd.prog 19 #[.slice A n c, .slice A' k c'] w (fun e w' => e = .returned (.bool (decide (bsOf l = bsOf m))) ∧ Drawn w w') := by
  have HN := Lib.hid hn
  have HM := Lib.hid hm
  have HR := Lib.hid hr
  have HR' := Lib.hid hr'
  clear hn hm hr hr'
  by_cases hnm : n = k
  · have hnb : ((n : Int) != (k : Int)) = false := by rw [hnm]; simp
    have HNM := Lib.hid hnm
    clear hnm
    go_enter Tryd.func19, Tryd.ntmps19
    go_wp2_with fail
    go_loopw [5] (fun i wr => ∃ j : Nat, j ≤ n ∧ i = .int .i64 j ∧ Hid ((bsOf l).take j = (bsOf m).take j) ∧ Drawn w wr) (fun i _ => n - (intOf i).toNat)
    case atStart => exact ⟨0, by omega, rfl, rfl, Drawn.refl _⟩
    case round =>
      obtain ⟨j, hj, rfl, HT, hd⟩ := hrel
      by_cases hlt : j < n
      · have hx : j < l.length := by have := HN.out; omega
        have hy : j < m.length := by have := HM.out; have := HNM.out; omega
        obtain ⟨nq, rfl⟩ := hd
        obtain ⟨ad, rfl, _, hc⟩ := (HR.out.dr nq).rd (by simp; omega)
        obtain ⟨ad', rfl, _, hc'⟩ := (HR'.out.dr nq).rd (by simp; omega)
        have c1 := hc j (SV l[j]) (by simp [hx])
        have c2 := hc' j (SV m[j]) (by simp [hy])
        rw [SV_eq] at c1 c2
        have q1 := (HR.out.dr nq).each _ (List.getElem_mem hx)
        have q2 := (HR'.out.dr nq).each _ (List.getElem_mem hy)
        have t1 : (bsOf l).take (j + 1) = (bsOf l).take j ++ [l[j].2.1] := by unfold bsOf; rw [← List.map_take, List.take_succ_eq_append_getElem hx, List.map_append, List.map_take]; rfl
        have t2 : (bsOf m).take (j + 1) = (bsOf m).take j ++ [m[j].2.1] := by unfold bsOf; rw [← List.map_take, List.take_succ_eq_append_getElem hy, List.map_append, List.map_take]; rfl
        generalize l[j] = x at c1 t1 q1
        generalize m[j] = y at c2 t2 q2
        generalize hW : w.drewN nq = W0 at c1 c2 q1 q2 ⊢
        have hd : Drawn w W0 := ⟨nq, hW.symm⟩
        obtain ⟨X, xs, xc⟩ := x
        obtain ⟨Y, ys, yc⟩ := y
        simp only at c1 c2 q1 q2 t1 t2
        obtain ⟨xn, hxn⟩ : ∃ xn, xn = xs.length := ⟨_, rfl⟩
        obtain ⟨yn, hyn⟩ : ∃ yn, yn = ys.length := ⟨_, rfl⟩
        have hsb : ∀ W, Drawn W0 W → Calls Tryd.prog 43 #[.slice X xn xc, .slice Y yn yc] W (fun e w' => e = .returned (.bool (decide (xs = ys))) ∧ Drawn W w') := fun W hD => by
          obtain ⟨n', rfl⟩ := hD
          exact SameBytes_any xs ys X Y xn yn xc yc _ B hxn hyn (by have := q1.2.2; omega) (q1.1.dr n') (q2.1.dr n')
        rw [← hxn] at c1
        rw [← hyn] at c2
        have T1 := Lib.hid t1
        have T2 := Lib.hid t2
        have hcc : ∀ W, Drawn W0 W → W.cell? (ad.add j) = some (.slice X xn xc) ∧ W.cell? (ad'.add j) = some (.slice Y yn yc) := fun W hD => by
          obtain ⟨n', rfl⟩ := hD
          exact ⟨c1, c2⟩
        have HCC := Lib.hid hcc
        have hjI : (j : Int) < n := by omega
        have hjM : (j : Int) < k := by have := HNM.out; omega
        by_cases hxy : xs = ys
        · rw [decide_eq_true hxy] at hsb
          have hnx : Hid ((bsOf l).take (j + 1) = (bsOf m).take (j + 1)) := by
            show (bsOf l).take (j + 1) = (bsOf m).take (j + 1)
            rw [T1.out, T2.out, HT.out, hxy]
          have HSB := Lib.hid hsb
          clear hc hc' t1 t2 q1 q2 hxn hyn hW hcc hsb hxy
          go_wp2_with fail
          have Bd : Drawn W0 W0.drew := ⟨1, rfl⟩
          go_region_held (fun W => W.cell? (ad.add j) = some (.slice X xn xc) ∧ W.cell? (ad'.add j) = some (.slice Y yn yc)) (first | exact HCC.out _ (by assumption)) (first
            | (go_at_call 43; (with_reducible refine (HSB.out _ Bd).mono ?_); rintro e wL ⟨rfl, dL⟩; have BL := Bd.trans dL))
          go_wp2_with fail
          go_roundw
          case rel => exact ⟨j + 1, by omega, by go_num, hnx, hd.trans BL⟩
          case measure => simp [intOf] <;> omega
        · rw [decide_eq_false hxy] at hsb
          have hne : Hid (decide (bsOf l = bsOf m) = false) := decide_eq_false (fun e => by
            have h1 := T1.out
            have h2 := T2.out
            rw [e, h2] at h1
            have h3 := congrArg List.getLast? h1
            simp only [List.getLast?_append, List.getLast?_singleton, Option.some_or, Option.some.injEq] at h3
            exact hxy h3.symm)
          have HSB := Lib.hid hsb
          clear hc hc' t1 t2 q1 q2 hxn hyn hW hcc hsb hxy
          go_wp2_with fail
          have Bd : Drawn W0 W0.drew := ⟨1, rfl⟩
          go_region_held (fun W => W.cell? (ad.add j) = some (.slice X xn xc) ∧ W.cell? (ad'.add j) = some (.slice Y yn yc)) (first | exact HCC.out _ (by assumption)) (first
            | (go_at_call 43; (with_reducible refine (HSB.out _ Bd).mono ?_); rintro e wL ⟨rfl, dL⟩; have BL := Bd.trans dL))
          go_wp2_with fail
          go_ret
          exact ⟨by rw [hne.out]; rfl, hd.trans BL⟩
      · have hfin : Hid (decide (bsOf l = bsOf m) = true) := decide_eq_true (by
          have h := HT.out
          rw [List.take_of_length_le (by unfold bsOf; rw [List.length_map]; have := HN.out; omega), List.take_of_length_le (by unfold bsOf; rw [List.length_map]; have := HM.out; have := HNM.out; omega)] at h
          exact h)
        go_wp2_with fail
        go_ret
        exact ⟨by rw [hfin.out]; rfl, hd⟩
  · have hnb : ((n : Int) != (k : Int)) = true := by simp <;> omega
    have hne : Hid (decide (bsOf l = bsOf m) = false) := decide_eq_false (fun e => hnm (by have := congrArg List.length e; unfold bsOf at this; rw [List.length_map, List.length_map] at this; rw [HN.out, HM.out, this]))
    clear hnm
    go_enter Tryd.func19, Tryd.ntmps19
    go_wp2_with fail
    go_ret
    exact ⟨by rw [hne.out]; rfl, 0, rfl⟩
end Go.Proofs.YtgibdecgmageeaaDoor
