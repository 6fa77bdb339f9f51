/- All, SameTexts, alike, fail (of balefirelaw17) walked. -/
import Derived.Test.YtgibdecgmageeaaDoorApi
import Derived.Deep.RegionHeld3
namespace Go.Proofs.YtgibdecgmageeaaDoor
open Go.RowKit

/-- A file's bytes; none: none. -/
def Dm.all (m : Dm) (s : ByteArray) : List Int := (m.read s 0 (m.sizeOf s).1).1
theorem Dm.sizeOf_bounds {m : Dm} (hk : m.ok) (s : ByteArray) : 0 ≤ (m.sizeOf s).1 ∧ (m.sizeOf s).1 ≤ 1048576 := by
  unfold Dm.sizeOf
  by_cases h : m.finds true s ≠ 0
  · rw [if_pos h]; simp
  · rw [if_neg h]
    have := (Dm.row_ok hk (m.file (idx m.now s))).2.1
    show (0 : Int) ≤ ((m.at s).1.length : Nat) ∧ _
    unfold Dm.at
    omega
theorem Dm.read_len {m : Dm} (hk : m.ok) (s : ByteArray) (a n : Int) : (m.read s a n).1.length ≤ 1048576 := by
  unfold Dm.read
  by_cases h : m.finds (decide (0 ≤ min a n)) s ≠ 0
  · rw [if_pos h]; simp
  · rw [if_neg h]
    have h3 : (m.at s).1.length ≤ 1048576 := (Dm.row_ok hk (m.file (idx m.now s))).2.1
    by_cases h2 : a ≤ (m.at s).1.length ∧ n ≤ (m.at s).1.length - a
    · rw [if_pos h2]
      show (List.take n.toNat (List.drop a.toNat (m.at s).1)).length ≤ _
      rw [List.length_take, List.length_drop]; omega
    · rw [if_neg h2]; simp

theorem All_at {b0 g : Nat} {w : World} {m : Dm} {L : List (Nat × Dm)} {R : List Asn} {s : ByteArray} (h : Disks b0 w ((g, m) :: L) R) (hs : s.size ≤ 9223372036854775807) :
    Calls Tryd.prog 42 #[.pointer (some ⟨g, 0, none⟩), .string s] w (fun e w' => e = .returned (.string (strOfNums (m.all s))) ∧ Below w.heap.size w w') := by
  have hz := Dm.sizeOf_bounds h.ok s
  have hrl := Dm.read_len h.ok s 0 (m.sizeOf s).1
  have H1 := Lib.hid (Size_at h hs)
  have hr : ∀ w', Below w.heap.size w w' → Calls Tryd.prog 36 #[.pointer (some ⟨g, 0, none⟩), .string s, .int .i64 0, .int .i64 (m.sizeOf s).1] w' (RetRead w' (m.read s 0 (m.sizeOf s).1)) := fun w' hb =>
    Read_at (h.below hb) hs (by omega) (by omega) (by omega) (by omega)
  have H2 := Lib.hid hr
  have hall : (m.read s 0 (m.sizeOf s).1).1 = m.all s := rfl
  generalize (m.sizeOf s).1 = n at *
  generalize (m.sizeOf s).2 = er at *
  generalize m.read s 0 n = rd at *
  rw [← hall]
  clear h hr hall
  go_enter Tryd.func42, Tryd.ntmps42
  go_wp2_with fail
  (with_reducible refine H1.out.mono ?_)
  rintro e w1 ⟨rfl, hb⟩
  go_wp2_with fail
  (with_reducible refine (H2.out w1 hb).mono ?_)
  rintro e w2 ⟨X, rfl, ho, hb2⟩
  have hrd := ho.rd rfl (Nat.le_refl _)
  have HR := Lib.hid hrd
  clear ho hrd
  go_wp2_with (refine wpList_str rfl 37 9 (.tmp 22) rfl 5 Tryd.underlying37 Tryd.underlying5 Tryd.underlying9 X rd.1.length rd.1.length rfl rd.1 rfl w2.heap.size HR.out ?_)
  go_ret
  exact ⟨rfl, hb.trans (hb2.mono hb.size)⟩

set_option maxHeartbeats 400000 in
theorem SameTexts_yes (l : List ByteArray) (n : Nat) (hn : n = l.length) (A A' : Option Addr) (c c' : Nat) (w : World) (B : Nat) (hl : n ≤ 140737488351232)
    (hr : Rd w B A (Strs l)) (hr' : Rd w B A' (Strs l)) :
    Calls Tryd.prog 53 #[.slice A n c, .slice A' n c'] w (fun e w' => e = .returned (.bool true) ∧ Drawn w w') := by
  subst hn
  go_enter Tryd.func53, Tryd.ntmps53
  go_wp2
  go_loopw [5] (fun i wr => ∃ j : Nat, j ≤ l.length ∧ i = .int .i64 j ∧ Drawn w wr) (fun i _ => l.length - (intOf i).toNat)
  case atStart => exact ⟨0, by omega, rfl, Drawn.refl _⟩
  case round =>
    obtain ⟨j, hj, rfl, nq, rfl⟩ := hrel
    by_cases hlt : j < l.length
    · obtain ⟨ad, rfl, _, hc⟩ := hr (by simp; omega)
      obtain ⟨ad', rfl, _, hc'⟩ := hr' (by simp; omega)
      have c1 : w.cell? (ad.add j) = some (.string l[j]) := hc j _ (by simp [Strs, hlt])
      have c2 : w.cell? (ad'.add j) = some (.string l[j]) := hc' j _ (by simp [Strs, hlt])
      obtain ⟨x, hx⟩ : ∃ x, x = l[j] := ⟨_, rfl⟩
      rw [← hx] at c1 c2
      clear hc hc' hx
      have hjI : (j : Int) < l.length := by omega
      go_wp2_with fail
      go_quiet (fail)
      go_wp2
      go_roundw
      case rel => exact ⟨j + 1, by omega, by go_num, _, rfl⟩
      case measure => simp [intOf]; omega
    · obtain rfl : j = l.length := by omega
      go_wp2
      go_ret
      exact ⟨rfl, _, rfl⟩

/-- Disks that have the same names, with the same bytes, and as much room. -/
def Alike (m k : Dm) : Prop := m.list = k.list ∧ m.left = k.left ∧ ∀ s ∈ m.list, m.all s = k.all s
theorem Alike.refl (m : Dm) : Alike m m := ⟨rfl, rfl, fun _ _ => rfl⟩
theorem Dm.list_len {m : Dm} (hk : m.ok) : m.list.length ≤ 64 := by
  rw [Dm.list_eq, length_sorted]
  have := namesOf_le m.now
  rw [hk.now.len] at this
  exact this
theorem mem_sorted {l : List ByteArray} {s : ByteArray} (h : s ∈ sorted l) : s ∈ l := by
  unfold sorted at h
  obtain ⟨x, hx, rfl⟩ := List.mem_map.1 h
  rw [List.mem_mergeSort] at hx
  obtain ⟨y, hy, rfl⟩ := List.mem_map.1 hx
  have : (⟨y.data.toList.toArray⟩ : ByteArray) = y := by cases y; rfl
  rw [this]; exact hy
theorem Dm.list_name {m : Dm} (hk : m.ok) {s : ByteArray} (h : s ∈ m.list) : nameB s = true := by
  have h1 := mem_sorted h
  unfold namesOf at h1
  obtain ⟨p, hp, rfl⟩ := List.mem_map.1 h1
  obtain ⟨h2, h3⟩ := List.mem_filter.1 hp
  obtain ⟨i, hi⟩ := Option.isSome_iff_exists.1 h3
  exact (hk.now.some_ p h2 i hi).1
theorem nameB_size {s : ByteArray} (h : nameB s = true) : s.size ≤ 9223372036854775807 := by
  unfold nameB at h
  simp at h
  omega

theorem Disks.two {b0 : Nat} {w : World} {a b : Nat × Dm} {L : List (Nat × Dm)} {R : List Asn} (h : Disks b0 w (a :: b :: L) R) : Disks b0 w (a :: b :: []) [] := by
  obtain ⟨cs, h1, h2, h3, h4⟩ := h
  match cs, h1 with
  | c :: d :: cs, h1 =>
    simp only [List.map_cons, List.cons.injEq] at h1
    refine ⟨[c, d], by simp [h1.1, h1.2.1], fun e he => h2 e (by simp at he ⊢; rcases he with rfl | rfl <;> simp), ?_, h4⟩
    have e : (c :: d :: cs).flatMap (Cd.asn b0) ++ R = ([c, d].flatMap (Cd.asn b0) ++ []) ++ (cs.flatMap (Cd.asn b0) ++ R) := by simp
    rw [e] at h3
    exact (Sep.append.1 h3).1

set_option maxRecDepth 100000 in
set_option maxHeartbeats 2000000 in
theorem alike_yes {b0 g k : Nat} {w : World} {m n : Dm} {L : List (Nat × Dm)} {R : List Asn} (h : Disks b0 w ((g, m) :: (k, n) :: L) R) (heq : Alike m n) :
    Calls Tryd.prog 34 #[.pointer (some ⟨g, 0, none⟩), .pointer (some ⟨k, 0, none⟩)] w (fun e w' => e = .returned (.bool true) ∧ Below w.heap.size w w') := by
  obtain ⟨h1, h2, h3⟩ := heq
  have hok := h.ok
  have hll := Dm.list_len hok
  have hnm : ∀ j (hj : j < m.list.length), (m.list[j]'hj).size ≤ 9223372036854775807 := fun j hj => nameB_size (Dm.list_name hok (List.getElem_mem hj))
  have HL1 : Hid (∀ W, Below w.heap.size w W → Calls Tryd.prog 38 #[.pointer (some ⟨g, 0, none⟩)] W (RetS W m.list)) := fun W hb => List_at (h.below hb)
  have HL2 : Hid (∀ W, Below w.heap.size w W → Calls Tryd.prog 38 #[.pointer (some ⟨k, 0, none⟩)] W (RetS W m.list)) := fun W hb => by rw [h1]; exact List_at (h.below hb).swap
  have HF1 : Hid (∀ W, Below w.heap.size w W → Calls Tryd.prog 20 #[.pointer (some ⟨g, 0, none⟩)] W (fun e w' => e = .returned (.int .i64 m.left) ∧ Below W.heap.size W w')) := fun W hb => Left_at (h.below hb)
  have HF2 : Hid (∀ W, Below w.heap.size w W → Calls Tryd.prog 20 #[.pointer (some ⟨k, 0, none⟩)] W (fun e w' => e = .returned (.int .i64 m.left) ∧ Below W.heap.size W w')) := fun W hb => by rw [h2]; exact Left_at (h.below hb).swap
  have HA1 : Hid (∀ W j (hj : j < m.list.length), Below w.heap.size w W → Calls Tryd.prog 42 #[.pointer (some ⟨g, 0, none⟩), .string (m.list[j]'hj)] W (fun e w' => e = .returned (.string (strOfNums (m.all (m.list[j]'hj)))) ∧ Below W.heap.size W w')) := fun W j hj hb => All_at (h.below hb) (hnm j hj)
  have HA2 : Hid (∀ W j (hj : j < m.list.length), Below w.heap.size w W → Calls Tryd.prog 42 #[.pointer (some ⟨k, 0, none⟩), .string (m.list[j]'hj)] W (fun e w' => e = .returned (.string (strOfNums (m.all (m.list[j]'hj)))) ∧ Below W.heap.size W w')) := fun W j hj hb => by
    rw [h3 _ (List.getElem_mem hj)]; exact All_at (h.below hb).swap (hnm j hj)
  generalize m.left = lf at HF1 HF2
  clear h1 h2 h3 hok hnm h
  generalize m.list = l at *
  go_enter Tryd.func34, Tryd.ntmps34
  go_wp2_with fail
  (with_reducible refine (HL1.out w (Below.refl _ _)).mono ?_)
  rintro e w1 ⟨A1, rfl, o1, b1⟩
  have R1 := Lib.hid (o1.rd rfl (Nat.le_refl _)); clear o1
  go_wp2_with fail
  (with_reducible refine (HL2.out w1 b1).mono ?_)
  rintro e w2 ⟨A2, rfl, o2, b2⟩
  have R2 := Lib.hid (o2.rd rfl (Nat.le_refl _)); clear o2
  have R1' := Lib.hid (R1.out.below b2 b2.size); clear R1
  have b2' := b1.trans (b2.mono b1.size); clear b1 b2
  have HST := Lib.hid (SameTexts_yes l _ rfl A1 A2 l.length l.length w2 _ (by omega) R1'.out R2.out)
  go_wp2_with fail
  (with_reducible refine HST.out.mono ?_)
  rintro e w3 ⟨rfl, hd⟩
  have b3 := b2'.trans (hd.below _)
  have R3 := Lib.hid (R1'.out.below (hd.below w2.heap.size) (hd.below 0).size)
  clear hd R1' R2 HST b2'
  go_wp2_with fail
  (with_reducible refine (HF1.out w3 b3).mono ?_)
  rintro e w4 ⟨rfl, b4⟩
  have R4 := Lib.hid (R3.out.below b4 b4.size); clear R3
  have b4' := b3.trans (b4.mono b3.size); clear b3 b4
  go_wp2_with fail
  (with_reducible refine (HF2.out w4 b4').mono ?_)
  rintro e w5 ⟨rfl, b5⟩
  have R5 := Lib.hid (R4.out.below b5 b5.size); clear R4
  have b5' := b4'.trans (b5.mono b4'.size); clear b4' b5
  have HB1 : Hid (∀ W j (hj : j < l.length), Below w5.heap.size w5 W → Calls Tryd.prog 42 #[.pointer (some ⟨g, 0, none⟩), .string (l[j]'hj)] W (fun e w' => e = .returned (.string (strOfNums (m.all (l[j]'hj)))) ∧ Below W.heap.size W w')) := fun W j hj hb => HA1.out W j hj (b5'.trans (hb.mono b5'.size))
  have HB2 : Hid (∀ W j (hj : j < l.length), Below w5.heap.size w5 W → Calls Tryd.prog 42 #[.pointer (some ⟨k, 0, none⟩), .string (l[j]'hj)] W (fun e w' => e = .returned (.string (strOfNums (m.all (l[j]'hj)))) ∧ Below W.heap.size W w')) := fun W j hj hb => HA2.out W j hj (b5'.trans (hb.mono b5'.size))
  clear HA1 HA2 HL1 HL2 HF1 HF2
  go_wp2_with fail
  go_loopw [6] (fun i wr => ∃ j : Nat, j ≤ l.length ∧ i = .int .i64 j ∧ Below w5.heap.size w5 wr) (fun i _ => l.length - (intOf i).toNat)
  case atStart => exact ⟨0, by omega, rfl, Below.refl _ _⟩
  case round =>
    obtain ⟨j, hj, rfl, hb⟩ := hrel
    by_cases hlt : j < l.length
    · have hjI : (j : Int) < l.length := by omega
      obtain ⟨ad, rfl, hab, hc⟩ := R5.out (by simp; omega)
      have hcell : ∀ W, Below w5.heap.size w5 W → W.cell? (ad.add j) = some (.string (l[j]'hlt)) := fun W hW => by
        rw [hW.cell (by rw [add_block]; exact hab)]
        exact hc j _ (by simp [Strs, hlt])
      have H1 := Lib.hid (fun W hW => HB1.out W j hlt hW)
      have H2 := Lib.hid (fun W hW => HB2.out W j hlt hW)
      generalize (l[j]'hlt) = x at hcell H1 H2
      generalize strOfNums (m.all x) = y at H1 H2
      have HC := Lib.hid hcell
      clear hc hcell HB1 HB2
      have c0 := HC.out wr hb
      go_wp2_with fail
      go_region_held3 (fun W => W.cell? (ad.add j) = some (.string x)) (exact HC.out _ (by first | assumption | exact hb.drew)) (first
        | ((with_reducible refine (H1.out _ (by first | assumption | exact hb.drew)).mono ?_); rintro e wA ⟨rfl, bA0⟩; have bA : Below w5.heap.size w5 wA := (by first | exact hb.drew.trans (bA0.mono hb.drew.size) | exact bB.trans (bA0.mono bB.size)))
        | ((with_reducible refine (H2.out _ (by first | assumption | exact hb.drew)).mono ?_); rintro e wB ⟨rfl, bB0⟩; have bB : Below w5.heap.size w5 wB := (by first | exact hb.drew.trans (bB0.mono hb.drew.size) | exact bA.trans (bB0.mono bA.size))))
      all_goals
        go_wp2
        go_roundw
        case rel => exact ⟨j + 1, by omega, by go_num, by first | exact bB | exact bA⟩
        case measure => simp [intOf]; omega
    · obtain rfl : j = l.length := by omega
      clear HB1 HB2 R5
      go_wp2
      go_ret
      exact ⟨rfl, b5'.trans (hb.mono b5'.size)⟩

set_option maxRecDepth 100000 in
set_option maxHeartbeats 2000000 in
theorem fail_yes {b0 g k : Nat} {w : World} {m n : Dm} {L : List (Nat × Dm)} {R : List Asn} {keep : Int} (h : Disks b0 w ((g, m) :: (k, n) :: L) R) (hm : 1 ≤ m.size) (hn : 1 ≤ n.size) (hk0 : 0 ≤ keep) (hk1 : keep ≤ 9223372036854775807) (hA : ∀ b, Alike (m.fail keep b) (n.fail keep b)) :
    Calls Tryd.prog 35 #[.pointer (some ⟨g, 0, none⟩), .pointer (some ⟨k, 0, none⟩), .int .i64 keep] w (fun e w' => e = .returned (.bool true) ∧ Below w.heap.size w w') := by
  have H : Hid (∀ W, Below w.heap.size w W → Disks b0 W ((g, m) :: (k, n) :: L) R) := fun W hb => h.below hb
  have HF1 : Hid (∀ W b, Disks b0 W ((g, m) :: (k, n) :: L) R → Calls Tryd.prog 29 #[.pointer (some ⟨g, 0, none⟩), .int .i64 keep, .bool b] W (fun e w' => ∃ g', e = .returned (.tuple #[.pointer (some ⟨g', 0, none⟩), .int .i64 0]) ∧ Disks b0 w' ((g', m.fail keep b) :: (g, m) :: (k, n) :: L) R ∧ Below W.heap.size W w')) := fun W b hd => Fail_at hd hm hk0 hk1
  have HF2 : Hid (∀ W b g', Disks b0 W ((g', m.fail keep b) :: (g, m) :: (k, n) :: L) R → Calls Tryd.prog 29 #[.pointer (some ⟨k, 0, none⟩), .int .i64 keep, .bool b] W (fun e w' => ∃ k', e = .returned (.tuple #[.pointer (some ⟨k', 0, none⟩), .int .i64 0]) ∧ Disks b0 w' ((g', m.fail keep b) :: (k', n.fail keep b) :: []) [] ∧ Below W.heap.size W w')) := fun W b g' hd => by
    have hp : Disks b0 W ((k, n) :: (g', m.fail keep b) :: (g, m) :: L) R := hd.perm ((List.Perm.cons _ (List.Perm.swap _ _ _)).trans (List.Perm.swap _ _ _))
    refine (Fail_at hp hn hk0 hk1).mono ?_
    rintro e w' ⟨k', rfl, hd', hb⟩
    refine ⟨k', rfl, ?_, hb⟩
    have h1 : Disks b0 w' ((g', m.fail keep b) :: (k', n.fail keep b) :: (k, n) :: (g, m) :: L) R := hd'.perm ((List.Perm.cons _ (List.Perm.swap _ _ _)).trans (List.Perm.swap _ _ _))
    exact h1.two
  have HAL : Hid (∀ W b g' k', Disks b0 W ((g', m.fail keep b) :: (k', n.fail keep b) :: []) [] → Calls Tryd.prog 34 #[.pointer (some ⟨g', 0, none⟩), .pointer (some ⟨k', 0, none⟩)] W (fun e w' => e = .returned (.bool true) ∧ Below W.heap.size W w')) := fun W b g' k' hd => alike_yes hd (hA b)
  clear h hA hm hn
  go_enter Tryd.func35, Tryd.ntmps35
  go_wp2_with fail
  refine wp_loop_rounds 3 ?_
  rw [rounds_succ]
  have D0 := Lib.hid (H.out w (Below.refl _ _))
  go_wp2_with fail
  (with_reducible refine (HF1.out w false D0.out).mono ?_)
  rintro e w1 ⟨g1, rfl, d1, b1⟩
  have D1 := Lib.hid d1; clear d1 D0
  go_wp2_with fail
  (with_reducible refine (HF2.out w1 false g1 D1.out).mono ?_)
  rintro e w2 ⟨k1, rfl, d2, b2⟩
  have D2 := Lib.hid d2; clear d2 D1
  have b2' := b1.trans (b2.mono b1.size); clear b1 b2
  go_wp2_with fail
  (with_reducible refine (HAL.out w2 false g1 k1 D2.out).mono ?_)
  rintro e w3 ⟨rfl, b3⟩
  have b3' := b2'.trans (b3.mono b2'.size); clear b2' b3 D2
  have D3 := Lib.hid (H.out w3 b3')
  go_wp2_with fail
  rw [rounds_succ]
  go_wp2_with fail
  (with_reducible refine (HF1.out w3 true D3.out).mono ?_)
  rintro e w4 ⟨g2, rfl, d4, b4⟩
  have D4 := Lib.hid d4; clear d4 D3
  have b4' := b3'.trans (b4.mono b3'.size); clear b3' b4
  go_wp2_with fail
  (with_reducible refine (HF2.out w4 true g2 D4.out).mono ?_)
  rintro e w5 ⟨k2, rfl, d5, b5⟩
  have D5 := Lib.hid d5; clear d5 D4
  have b5' := b4'.trans (b5.mono b4'.size); clear b4' b5
  go_wp2_with fail
  (with_reducible refine (HAL.out w5 true g2 k2 D5.out).mono ?_)
  rintro e w6 ⟨rfl, b6⟩
  have b6' := b5'.trans (b6.mono b5'.size); clear b5' b6 D5
  go_wp2_with fail
  rw [rounds_succ]
  go_wp2
  go_ret
  exact ⟨rfl, b6'⟩
end Go.Proofs.YtgibdecgmageeaaDoor
