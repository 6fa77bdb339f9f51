/- Journals in memory; there, Sync, Add walked. -/
import Derived.Test.YtgibdecgmageeaaDoorJr1
import Derived.Test.YtgibdecgmageeaaDoorBeside
import Derived.Deep.RegionHeld3
namespace Go.Proofs.YtgibdecgmageeaaDoor
open Go.RowKit

/-- A journal: how long it is, its last check. -/
structure Jm where
  long : Nat
  last : Nat
def jCells (g : Nat) (s : ByteArray) (j : Jm) : List Value := [.pointer (some ⟨g, 0, none⟩), .string s, .int .i64 j.long, .int .u32 j.last]
/-- A journal in memory: its block. -/
abbrev Jn (gj g : Nat) (s : ByteArray) (j : Jm) : Asn := Asn.blk gj 94 (jCells g s j)
def Dm.add (m : Dm) (s : ByteArray) (j : Jm) (bs : List Int) : Int × Dm × Jm :=
  if 65536 < bs.length then (3, m, j) else
  if m.finds true s ≠ 0 then (m.finds true s, m, j) else
  if (m.at s).1.length ≠ j.long then (9, m, j) else
  if (m.append s (laidB j.last bs)).1 = 0 then (0, (m.append s (laidB j.last bs)).2, ⟨j.long + (bs.length + 8), nextC j.last bs⟩) else ((m.append s (laidB j.last bs)).1, (m.append s (laidB j.last bs)).2, j)

set_option maxHeartbeats 400000 in
theorem there_any (gj : Nat) (a : Addr) (w : World) (h : w.cell? ⟨gj, 0, none⟩ = some (.pointer (some a))) :
    Calls Tryd.prog 48 #[.pointer (some ⟨gj, 0, none⟩)] w (fun e w' => e = .returned (.bool true) ∧ w = w') := by
  go_enter Tryd.func48, Tryd.ntmps48
  go_wp2_with fail
  go_ret
  exact ⟨rfl, rfl⟩

section
variable {b0 g gj : Nat} {w : World} {m m' : Dm} {L : List (Nat × Dm)} {R : List Asn} {r : Int} {s : ByteArray} {j j' : Jm}

theorem Jn.cells (h : Disks b0 w L (Jn gj g s j :: R)) : w.cell? ⟨gj, 0, none⟩ = some (.pointer (some ⟨g, 0, none⟩)) ∧ w.cell? ⟨gj, 1, none⟩ = some (.string s) ∧ w.cell? ⟨gj, 2, none⟩ = some (.int .i64 j.long) ∧ w.cell? ⟨gj, 3, none⟩ = some (.int .u32 j.last) :=
  ⟨h.cell 0, h.cell 1, h.cell 2, h.cell 3⟩
theorem Jn.free (h : Disks b0 w L (Jn gj g s j :: R)) (i : Nat) : w.frozen? ⟨gj, i, none⟩ = false :=
  Blk.free (show Blk w gj 94 _ from h.rest.head) i

set_option maxHeartbeats 1000000 in
theorem JSync_at (h : Disks b0 w ((g, m) :: L) (Jn gj g s j :: R)) (hs : s.size ≤ 9223372036854775807) (hr : m.sync s = (r, m')) :
    Calls Tryd.prog 47 #[.pointer (some ⟨gj, 0, none⟩)] w (fun e w' => e = .returned (.int .i64 r) ∧ Disks b0 w' ((g, m') :: L) (Jn gj g s j :: R) ∧ Below b0 w w') := by
  have H := Lib.hid h
  have HR := Lib.hid hr
  obtain ⟨c0, c1, _, _⟩ := Jn.cells h
  clear h hr
  go_enter Tryd.func47, Tryd.ntmps47
  go_wp2_with fail
  refine (there_any gj _ w c0).mono ?_
  rintro e w1 ⟨rfl, rfl⟩
  go_wp2_with fail
  have Bd := (Below.refl b0 w).drew
  have HD := Lib.hid (H.out.drew)
  go_region_held (fun W => W.cell? ⟨gj, 0, none⟩ = some (.pointer (some ⟨g, 0, none⟩)) ∧ W.cell? ⟨gj, 1, none⟩ = some (.string s)) (first | exact ⟨(Jn.cells HD.out).1, (Jn.cells HD.out).2.1⟩ | exact ⟨(Jn.cells HS.out).1, (Jn.cells HS.out).2.1⟩) (first
    | (go_at_call 27; (with_reducible refine (Sync_at HD.out hs HR.out).mono ?_); rintro e wL ⟨rfl, dL, bL⟩; have HS := Lib.hid dL))
  go_wp2_with fail
  go_ret
  exact ⟨rfl, HS.out, Bd.trans bL⟩

/-- Ahead of all else Add asks how long the file is. -/
theorem Dm.sizeOf_ok {m : Dm} {s : ByteArray} (h : m.finds true s = 0) : m.sizeOf s = ((((m.at s).1.length : Nat) : Int), 0) := by
  unfold Dm.sizeOf; rw [if_neg (by simp [h])]
theorem Dm.sizeOf_no {m : Dm} {s : ByteArray} (h : m.finds true s ≠ 0) : m.sizeOf s = (0, m.finds true s) := by
  unfold Dm.sizeOf; rw [if_pos h]

set_option maxHeartbeats 2000000 in
theorem JAdd_at {bs : List Int} {A : Option Addr} {n cb : Nat} (h : Disks b0 w ((g, m) :: L) (Jn gj g s j :: R)) (hgj : b0 ≤ gj) (hs : s.size ≤ 9223372036854775807) (hj : j.last < 4294967296) (hjl : j.long ≤ 1048576)
    (hn : n = bs.length) (hnl : n ≤ 140737488351232) (hu : IsU8 bs) (hA : Rd w w.heap.size A (U8 bs)) (hr : m.add s j bs = (r, m', j')) :
    Calls Tryd.prog 21 #[.pointer (some ⟨gj, 0, none⟩), .slice A n cb] w (fun e w' => e = .returned (.int .i64 r) ∧ Disks b0 w' ((g, m') :: L) (Jn gj g s j' :: R) ∧ Below b0 w w') := by
  have hb0 := h.size
  have H := Lib.hid h
  have HN := Lib.hid hn
  have HA := Lib.hid hA
  obtain ⟨c0, _, _, _⟩ := Jn.cells h
  clear hA
  unfold Dm.add at hr
  by_cases hbig : 65536 < bs.length
  · rw [if_pos hbig] at hr
    simp only [Prod.mk.injEq] at hr
    obtain ⟨rfl, rfl, rfl⟩ := hr
    have hbI : (65536 : Int) < n := by omega
    clear h hn
    go_enter Tryd.func21, Tryd.ntmps21
    go_wp2_with fail
    refine (there_any gj _ w c0).mono ?_
    rintro e w1 ⟨rfl, rfl⟩
    go_wp2_with fail
    go_ret
    exact ⟨rfl, H.out, Below.refl _ _⟩
  rw [if_neg hbig] at hr
  by_cases hf : m.finds true s = 0
  · rw [if_neg (by simp [hf])] at hr
    have hsz := Dm.sizeOf_ok hf
    have hlen := h.ok
    obtain ⟨q, hq⟩ : ∃ q, q = (m.at s).1.length := ⟨_, rfl⟩
    rw [← hq] at hsz hr
    have HSZ := Lib.hid hsz
    have hbI : ¬ (65536 : Int) < n := by omega
    have HS := fun (W : World) (hd : Disks b0 W ((g, m) :: L) (Jn gj g s j :: R)) => Size_at (s := s) hd hs
    rw [hsz] at HS
    have HSS := Lib.hid HS
    clear HS hsz hlen hq hf
    by_cases hlong : q = j.long
    · rw [if_neg (by simp [hlong])] at hr
      have hqb : ((q : Int) != (j.long : Int)) = false := by rw [hlong]; simp
      have hlay := fun (W : World) (hW : Below w.heap.size w W) => laid_any j.last bs A n cb W hj hn (by omega) hu (HA.out.below hW hW.size)
      have HLAY := Lib.hid hlay
      obtain ⟨X, hX⟩ : ∃ X, X = laidB j.last bs := ⟨_, rfl⟩
      obtain ⟨N, hN⟩ : ∃ N, N = nextC j.last bs := ⟨_, rfl⟩
      have hXl : X.length = n + 8 := by rw [hX, length_laidB, hn]
      have hXu : IsU8 X := by rw [hX]; exact isU8_laidB hu
      rw [← hX, ← hN] at hr HLAY
      obtain ⟨q1, m1, hap⟩ : ∃ q1 m1, m.append s X = (q1, m1) := ⟨_, _, rfl⟩
      rw [hap] at hr
      have HXL := Lib.hid hXl
      have HAP := Lib.hid hap
      clear hlay hX hN hXl hap hn hlong h
      go_enter Tryd.func21, Tryd.ntmps21
      go_wp2_with fail
      refine (there_any gj _ w c0).mono ?_
      rintro e w1 ⟨rfl, rfl⟩
      go_wp2_with fail
      have Bd := (Below.refl b0 w).drew
      have HD := Lib.hid (H.out.drew)
      go_region_held (fun W => W.cell? ⟨gj, 0, none⟩ = some (.pointer (some ⟨g, 0, none⟩)) ∧ W.cell? ⟨gj, 1, none⟩ = some (.string s)) (first | exact ⟨(Jn.cells HD.out).1, (Jn.cells HD.out).2.1⟩ | exact ⟨(Jn.cells HE.out).1, (Jn.cells HE.out).2.1⟩) (first
        | (go_at_call 37; (with_reducible refine (HSS.out _ HD.out).mono ?_); rintro e wL ⟨rfl, bL⟩; have HE := Lib.hid (HD.out.below bL); have HW := Lib.hid (Below.trans (Below.drew (Below.refl w.heap.size w)) bL); have BL := Bd.trans (bL.mono HD.out.size)))
      obtain ⟨_, _, c2, c3⟩ := Jn.cells HE.out
      clear HD
      go_wp2_with fail
      (with_reducible refine (HLAY.out _ HW.out).mono ?_)
      rintro e w2 ⟨X1, cap, rfl, ho, hb2⟩
      have hrd := ho.rd rfl (Nat.le_refl w2.heap.size)
      have HRD := Lib.hid (show Rd w2.drew w2.drew.heap.size X1 (U8 X) from hrd)
      have HE2 := Lib.hid (HE.out.below hb2)
      have BL2 := BL.trans (hb2.mono HE.out.size)
      clear ho hrd hb2 c2 c3 HLAY HW HE BL HSS
      go_wp2_with fail
      have HD2 := Lib.hid (HE2.out.drew)
      have BD2 := BL2.drew
      go_region_held (fun W => W.cell? ⟨gj, 0, none⟩ = some (.pointer (some ⟨g, 0, none⟩)) ∧ W.cell? ⟨gj, 1, none⟩ = some (.string s)) (first | exact ⟨(Jn.cells HD2.out).1, (Jn.cells HD2.out).2.1⟩ | exact ⟨(Jn.cells HE3.out).1, (Jn.cells HE3.out).2.1⟩) (first
        | (go_at_call 33; (with_reducible refine (Append_at HD2.out hs HXL.out.symm (by omega) hXu HRD.out HAP.out).mono ?_); rintro e wL3 ⟨rfl, dL3, bL3⟩; have HE3 := Lib.hid dL3; have BL3 := BD2.trans bL3))
      clear HE2 HD2 BD2 BL2 HRD
      by_cases hq1 : q1 = 0
      · rw [if_pos hq1] at hr
        simp only [Prod.mk.injEq] at hr
        obtain ⟨rfl, rfl, rfl⟩ := hr
        subst hq1
        obtain ⟨_, _, c2, c3⟩ := Jn.cells HE3.out
        have f2 := Jn.free HE3.out 2
        have f3 := Jn.free HE3.out 3
        go_wp2_with fail
        go_ret
        have e : (j.long : Int) + ((n : Int) + 8) = ((j.long + (bs.length + 8) : Nat) : Int) := by have := HN.out; omega
        have hput := (HE3.out.put 2 (.int .i64 ((j.long + (bs.length + 8) : Nat) : Int))).put 3 (.int .u32 (N : Int))
        have hbb := (BL3.setCell (p := ⟨gj, 2, none⟩) hgj (.int .i64 ((j.long + (bs.length + 8) : Nat) : Int))).setCell (p := ⟨gj, 3, none⟩) hgj (.int .u32 (N : Int))
        rw [e]
        exact ⟨rfl, hput, hbb⟩
      · rw [if_neg hq1] at hr
        simp only [Prod.mk.injEq] at hr
        obtain ⟨rfl, rfl, rfl⟩ := hr
        have hqq : (q1 == 0) = false := by simpa using hq1
        clear hq1
        go_wp2_with fail
        go_ret
        exact ⟨rfl, HE3.out, BL3⟩
    · rw [if_pos hlong] at hr
      simp only [Prod.mk.injEq] at hr
      obtain ⟨rfl, rfl, rfl⟩ := hr
      have hqb : ((q : Int) != (j.long : Int)) = true := by simp <;> omega
      clear hlong h hn HN
      go_enter Tryd.func21, Tryd.ntmps21
      go_wp2_with fail
      refine (there_any gj _ w c0).mono ?_
      rintro e w1 ⟨rfl, rfl⟩
      go_wp2_with fail
      have Bd := (Below.refl b0 w).drew
      have HD := Lib.hid (H.out.drew)
      go_region_held (fun W => W.cell? ⟨gj, 0, none⟩ = some (.pointer (some ⟨g, 0, none⟩)) ∧ W.cell? ⟨gj, 1, none⟩ = some (.string s)) (first | exact ⟨(Jn.cells HD.out).1, (Jn.cells HD.out).2.1⟩ | exact ⟨(Jn.cells HE.out).1, (Jn.cells HE.out).2.1⟩) (first
        | (go_at_call 37; (with_reducible refine (HSS.out _ HD.out).mono ?_); rintro e wL ⟨rfl, bL⟩; have HE := Lib.hid (HD.out.below bL); have BL := Bd.trans (bL.mono HD.out.size)))
      obtain ⟨_, _, c2, c3⟩ := Jn.cells HE.out
      go_wp2_with fail
      go_ret
      exact ⟨rfl, HE.out, BL⟩
  · rw [if_pos hf] at hr
    simp only [Prod.mk.injEq] at hr
    obtain ⟨rfl, rfl, rfl⟩ := hr
    have hbI : ¬ (65536 : Int) < n := by omega
    have hsz := Dm.sizeOf_no hf
    have HS := fun (W : World) (hd : Disks b0 W ((g, m) :: L) (Jn gj g s j :: R)) => Size_at (s := s) hd hs
    rw [hsz] at HS
    have HSS := Lib.hid HS
    obtain ⟨E, hE⟩ : ∃ E, E = m.finds true s := ⟨_, rfl⟩
    rw [← hE] at hf HSS ⊢
    have hE0 : (E == 0) = false := by simpa using hf
    have hE1 : (E != 0) = true := by simpa using hf
    clear HS hsz hE hf h hn HN
    go_enter Tryd.func21, Tryd.ntmps21
    go_wp2_with fail
    refine (there_any gj _ w c0).mono ?_
    rintro e w1 ⟨rfl, rfl⟩
    go_wp2_with fail
    have Bd := (Below.refl b0 w).drew
    have HD := Lib.hid (H.out.drew)
    go_region_held (fun W => W.cell? ⟨gj, 0, none⟩ = some (.pointer (some ⟨g, 0, none⟩)) ∧ W.cell? ⟨gj, 1, none⟩ = some (.string s)) (first | exact ⟨(Jn.cells HD.out).1, (Jn.cells HD.out).2.1⟩ | exact ⟨(Jn.cells HE.out).1, (Jn.cells HE.out).2.1⟩) (first
      | (go_at_call 37; (with_reducible refine (HSS.out _ HD.out).mono ?_); rintro e wL ⟨rfl, bL⟩; have HE := Lib.hid (HD.out.below bL); have BL := Bd.trans (bL.mono HD.out.size)))
    obtain ⟨_, _, c2, c3⟩ := Jn.cells HE.out
    go_wp2_with fail
    go_ret
    exact ⟨rfl, HE.out, BL⟩
end
end Go.Proofs.YtgibdecgmageeaaDoor
