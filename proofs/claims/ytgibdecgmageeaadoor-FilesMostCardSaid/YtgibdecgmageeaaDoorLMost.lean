/- FilesMost walked. -/
import Derived.Test.YtgibdecgmageeaaDoorAlive17
import Derived.Test.YtgibdecgmageeaaDoorMost
import Derived.Deep.DeepCutAuto
import Derived.Deep.CutRange
import Derived.Deep.RegionHeld3
namespace Go.Proofs.YtgibdecgmageeaaDoor
open Go.RowKit

/-- Is one of the first i names. -/
def isNm (i : Nat) (s : ByteArray) : Prop := ∃ j, j < i ∧ s = nm j

set_option maxRecDepth 100000 in
set_option maxHeartbeats 4000000 in
theorem FilesMost_all (y z0 z1 : Int) (tk : Bool) (w : World) (hy0 : 0 ≤ y) (hy1 : y < 256) (hz0 : 0 ≤ z0) (hz1 : z0 < 256) (hz2 : 0 ≤ z1) (hz3 : z1 < 256) :
    Calls Tryd.prog 13 #[.int .u8 y, .agg #[.int .u8 z0, .int .u8 z1], .bool tk] w (fun e w' => e = .returned (.bool true) ∧ Below w.heap.size w w') := by
  obtain ⟨N, hN⟩ : ∃ N : Nat, (1 : Int) + y % 80 = N := ⟨(1 + y % 80).toNat, by omega⟩
  have hN1 : 1 ≤ N := by omega
  have hN2 : N ≤ 80 := by omega
  go_enter Tryd.func13, Tryd.ntmps13
  have hbA := (Below.refl w.heap.size w).alloc (Nat.le_refl _) (.cells #[.int .u8 z0, .int .u8 z1] 46)
  have hB := Blk.lit w 46 _ rfl #[.int .u8 z0, .int .u8 z1] _ rfl
  have d1 : Disks (w.heap.size + 1) (w.alloc (.cells #[.int .u8 z0, .int .u8 z1] 46)) [] [] := Disks.none_ (Sep.nil _) (by simp)
  have hcf : ∀ W, Below (w.heap.size + 1) (w.alloc (.cells #[.int .u8 z0, .int .u8 z1] 46)) W → W.cell? ⟨w.heap.size, 0, none⟩ = some (.int .u8 z0) ∧ W.cell? ⟨w.heap.size, 1, none⟩ = some (.int .u8 z1) := fun W hW => by
    have h := hB.below hW (by simp)
    exact ⟨by rw [h.cell]; rfl, by rw [h.cell]; rfl⟩
  have HC := Lib.hid hcf
  have H := Lib.hid (New_at (z := 10) d1 (by omega) (by omega))
  clear d1 hcf hB
  go_wp2_with fail
  (with_reducible refine H.out.mono ?_)
  rintro e w1 ⟨g, rfl, d2, b2⟩
  have B2 : Below (w.heap.size + 1) (w.alloc (.cells #[.int .u8 z0, .int .u8 z1] 46)) w1 := by simpa using b2
  have D2 := Lib.hid d2
  clear H d2 b2
  generalize hg1 : w.heap.size + 1 = g1 at *
  have HG := Lib.hid hg1
  clear hg1
  have hcnt := Cnt.new10
  go_wp2_with fail
  go_loopw [10] (fun i wr => ∃ (j : Nat) (m : Dm), i = .int .i64 j ∧ j ≤ N ∧ Disks g1 wr [(g, m)] [] ∧ Cnt m (min j 64) (isNm j) ∧ Below g1 (w.alloc (.cells #[.int .u8 z0, .int .u8 z1] 46)) wr) (fun i _ => N - (intOf i).toNat)
  case atStart => exact ⟨0, newDm 10, rfl, by omega, D2.out, hcnt.mono (fun _ h => h.elim), B2⟩
  case round =>
    obtain ⟨j, m, rfl, hj, dr, hm, br⟩ := hrel
    have DR := Lib.hid dr
    have HM := Lib.hid hm
    clear dr hm hcnt
    by_cases hlt : j < N
    · have hj80 : j < 80 := by omega
      have hnm : strOfNums [(97 : Int) + j / 10, 48 + j % 10] = nm j := by unfold nm; push_cast; rfl
      have hcv : (convert 37 9 (.slice (some ⟨wr.heap.size, 0, none⟩) 2 2)).run Tryd.prog (wr.alloc (.cells #[.int .u8 (97 + j / 10), .int .u8 (48 + j % 10)] 5)) = .ok (.string (nm j)) (wr.alloc (.cells #[.int .u8 (97 + j / 10), .int .u8 (48 + j % 10)] 5)) := by
        rw [run_str (P := Tryd.prog) (wr.alloc (.cells #[.int .u8 (97 + j / 10), .int .u8 (48 + j % 10)] 5)) 37 5 9 Tryd.underlying37 Tryd.underlying5 Tryd.underlying9 (some ⟨wr.heap.size, 0, none⟩) 2 2 [(97 : Int) + j / 10, 48 + j % 10] rfl _ (Rd.list wr 5 _ rfl _ (U8 [(97 : Int) + j / 10, 48 + j % 10]) rfl), hnm]
      clear hnm
      have DA := Lib.hid (DR.out.alloc (.cells #[.int .u8 (97 + j / 10), .int .u8 (48 + j % 10)] 5))
      have BA := br.alloc DR.out.size (.cells #[.int .u8 (97 + j / 10), .int .u8 (48 + j % 10)] 5)
      clear DR br
      have hnot : nm j ∉ namesOf m.now := fun hi => by
        obtain ⟨k, hk, he⟩ := HM.out.sub _ hi
        have := nm_inj hj80 (by omega) he
        omega
      by_cases h64 : j < 64
      · have hc := HM.out.mono (S' := isNm (j + 1)) (fun s ⟨k, hk, he⟩ => ⟨k, by omega, he⟩)
        obtain ⟨m', e1, hc', _⟩ := hc.create (nm_name hj80) ⟨j, by omega, rfl⟩ hnot (by omega)
        have H := Lib.hid (Create_at DA.out (Nat.le_trans (nameB_size (nm_name hj80)) (Nat.le_refl _)) e1)
        have HC' := Lib.hid hc'
        clear e1 hc hc' HM hnot DA
        go_wp2_with fail
        (with_reducible refine H.out.mono ?_)
        rintro e w2 ⟨rfl, d3, b3⟩
        have D3 := Lib.hid d3
        have B3 := BA.trans b3
        clear H BA d3 b3 hcv
        go_wp2_with fail
        go_roundw
        case rel => exact ⟨j + 1, m', by go_num, by omega, D3.out, by have h := HC'.out; rw [show min (j + 1) 64 = min j 64 + 1 by omega]; exact h, B3⟩
        case measure => simp [intOf] <;> omega
      · have e1 := HM.out.full (nm_name hj80) hnot (by omega)
        have H := Lib.hid (Create_at DA.out (Nat.le_trans (nameB_size (nm_name hj80)) (Nat.le_refl _)) e1)
        have HC' := Lib.hid (HM.out.mono (S' := isNm (j + 1)) (fun s ⟨k, hk, he⟩ => ⟨k, by omega, he⟩))
        clear e1 HM hnot DA
        go_wp2_with fail
        (with_reducible refine H.out.mono ?_)
        rintro e w2 ⟨rfl, d3, b3⟩
        have D3 := Lib.hid d3
        have B3 := BA.trans b3
        clear H BA d3 b3 hcv
        go_wp2_with fail
        go_roundw
        case rel => exact ⟨j + 1, m, by go_num, by omega, D3.out, by have h := HC'.out; rw [show min (j + 1) 64 = min j 64 by omega]; exact h, B3⟩
        case measure => simp [intOf] <;> omega
    · have e1 : j = N := by omega
      have hc := HM.out
      rw [e1] at hc
      have hj1 := Nat.le_of_eq e1
      clear e1 HM
      obtain ⟨K, hK⟩ : ∃ K : Nat, K = min N 64 := ⟨_, rfl⟩
      rw [← hK] at hc
      have hKm : min (N : Int) 64 = K := by omega
      have hK1 : 1 ≤ K := by omega
      have hK2 : K ≤ 64 := by omega
      have hc8 : Cnt m K (isNm 80) := hc.mono (fun s ⟨k, hk, he⟩ => ⟨k, by omega, he⟩)
      have HM := Lib.hid hc8
      have H := Lib.hid (List_at DR.out)
      have HLen := Lib.hid hc8.list_len
      clear hc hc8 hK
      go_wp2_with fail
      (with_reducible refine H.out.mono ?_)
      rintro e w2 ⟨A2, rfl, o2, b2⟩
      have R2 := Lib.hid (o2.rd rfl (Nat.le_refl _))
      have D3 := Lib.hid (DR.out.below b2)
      have B3 := br.trans (b2.mono DR.out.size)
      clear H o2 b2 DR br
      rw [HLen.out]
      obtain ⟨c0, c1⟩ := HC.out w2 B3
      obtain ⟨q0, hq0⟩ : ∃ q : Nat, z0 % (K : Int) = q := ⟨(z0 % (K : Int)).toNat, (Int.toNat_of_nonneg (Int.emod_nonneg _ (by omega))).symm⟩
      obtain ⟨q1, hq1⟩ : ∃ q : Nat, z1 % (K : Int) = q := ⟨(z1 % (K : Int)).toNat, (Int.toNat_of_nonneg (Int.emod_nonneg _ (by omega))).symm⟩
      have hq0K : q0 < K := by
        have := Int.emod_lt_of_pos z0 (show (0 : Int) < K by omega)
        omega
      have hq1K : q1 < K := by
        have := Int.emod_lt_of_pos z1 (show (0 : Int) < K by omega)
        omega
      have hl0 : q0 < m.list.length := by rw [HLen.out]; exact hq0K
      have hl1 : q1 < m.list.length := by rw [HLen.out]; exact hq1K
      obtain ⟨ad, rfl, hab, hcl⟩ := R2.out (by simp; omega)
      have ca : w2.cell? (ad.add q0) = some (.string (m.list[q0]'hl0)) := hcl q0 _ (by simp [Strs, hl0])
      have cb : w2.cell? (ad.add q1) = some (.string (m.list[q1]'hl1)) := hcl q1 _ (by simp [Strs, hl1])
      have ia := HM.out.of_list (List.getElem_mem hl0)
      have ib := HM.out.of_list (List.getElem_mem hl1)
      generalize (m.list[q0]'hl0) = a at ca ia
      generalize (m.list[q1]'hl1) = b at cb ib
      clear hl0 hl1 hcl R2 HLen
      have na : nameB a = true := by obtain ⟨k, hk, rfl⟩ := HM.out.sub _ ia; exact nm_name hk
      have nb : nameB b = true := by obtain ⟨k, hk, rfl⟩ := HM.out.sub _ ib; exact nm_name hk
      have sna := HM.out.sub _ ia
      have HG1 : w.heap.size ≤ g1 := by have := HG.out; omega
      obtain ⟨m1, e1, k1, nota, keep1⟩ := HM.out.remove na ia
      have KC1 := Lib.hid k1
      have SA := Lib.hid sna
      have IA := Lib.hid ia
      have IB := Lib.hid ib
      have NA := Lib.hid na
      have NB := Lib.hid nb
      have NOT := Lib.hid nota
      have KP := Lib.hid keep1
      have H := Lib.hid (Remove_at D3.out (nameB_size na) e1)
      clear k1 sna ia ib na nb nota keep1 e1 D3
      go_wp2_with fail
      (with_reducible refine H.out.mono ?_)
      rintro e w3 ⟨rfl, d4, b4⟩
      have D4 := Lib.hid d4
      have B4 := B3.trans b4
      clear H d4 b4 B3 c0 c1 ca cb
      cases tk with
      | false =>
        go_wp2_with fail
        have H := Lib.hid (List_at D4.out)
        have HL := Lib.hid KC1.out.list_len
        (with_reducible refine H.out.mono ?_)
        rintro e w6 ⟨A6, rfl, _, b6⟩
        have D6 := Lib.hid (D4.out.below b6)
        have B6 := B4.trans (b6.mono D4.out.size)
        rw [HL.out]
        clear H HL D4 B4 b6
        have hmore : (⟨#[111, 110, 101, 46, 109, 111, 114, 101]⟩ : ByteArray) ∉ namesOf m1.now := fun hi => by
          obtain ⟨k, hk, he⟩ := KC1.out.sub _ hi
          exact nm_more hk he.symm
        obtain ⟨m9, e9, _⟩ := (KC1.out.mono (S' := fun _ => True) (fun _ _ => trivial)).create (s := (⟨#[111, 110, 101, 46, 109, 111, 114, 101]⟩ : ByteArray)) (by decide) trivial hmore (by omega)
        have H := Lib.hid (Create_at D6.out (by decide) e9)
        clear e9 hmore KC1
        go_wp2_with fail
        (with_reducible refine H.out.mono ?_)
        rintro e w7 ⟨rfl, d7, b7⟩
        have B7 := hbA.trans ((B6.trans b7).mono HG1)
        clear H B6 b7 d7 D6
        go_wp2_with fail
        (with_reducible refine (alive17 _).mono ?_)
        rintro e w8 ⟨rfl, b8⟩
        have B8 := B7.trans (b8.mono B7.size)
        go_wp2
        go_ret
        exact ⟨rfl, B8⟩
      | true =>
        obtain ⟨m2, e2, k2, ia2, keep2⟩ := KC1.out.create NA.out SA.out NOT.out (by omega)
        have hb2 : b ∈ namesOf m2.now := by
          by_cases he : b = a
          · rw [he]; exact ia2
          · exact keep2 b (KP.out b IB.out he)
        have KC2 := Lib.hid (show Cnt m2 K (isNm 80) by have h := k2; rw [show K - 1 + 1 = K by omega] at h; exact h)
        have IA2 := Lib.hid ia2
        have IB2 := Lib.hid hb2
        have H := Lib.hid (Create_at D4.out (nameB_size NA.out) e2)
        clear k2 ia2 keep2 hb2 e2 D4
        go_wp2_with fail
        (with_reducible refine H.out.mono ?_)
        rintro e w4 ⟨rfl, d5, b5⟩
        have D5 := Lib.hid d5
        have B5 := B4.trans b5
        clear H d5 b5 B4
        by_cases hab' : a = b
        · subst hab'
          have H := Lib.hid (Rename_at D5.out (nameB_size NA.out) (nameB_size NA.out) (KC2.out.rename_same NA.out IA2.out))
          clear D5
          go_wp2_with fail
          (with_reducible refine H.out.mono ?_)
          rintro e w5 ⟨rfl, d5, b5⟩
          have D5 := Lib.hid d5
          have B5' := B5.trans b5
          clear H d5 b5 B5
          by_cases hK64 : K < 64
          · go_wp2_with fail
            have H := Lib.hid (List_at D5.out)
            have HL := Lib.hid KC2.out.list_len
            (with_reducible refine H.out.mono ?_)
            rintro e w6 ⟨A6, rfl, _, b6⟩
            have D6 := Lib.hid (D5.out.below b6)
            have B6 := B5'.trans (b6.mono D5.out.size)
            rw [HL.out]
            clear H HL D5 B5' b6
            have hmore : (⟨#[111, 110, 101, 46, 109, 111, 114, 101]⟩ : ByteArray) ∉ namesOf m2.now := fun hi => by
              obtain ⟨k, hk, he⟩ := KC2.out.sub _ hi
              exact nm_more hk he.symm
            obtain ⟨m9, e9, _⟩ := (KC2.out.mono (S' := fun _ => True) (fun _ _ => trivial)).create (s := (⟨#[111, 110, 101, 46, 109, 111, 114, 101]⟩ : ByteArray)) (by decide) trivial hmore (by omega)
            have H := Lib.hid (Create_at D6.out (by decide) e9)
            clear e9 hmore KC2
            go_wp2_with fail
            (with_reducible refine H.out.mono ?_)
            rintro e w7 ⟨rfl, d7, b7⟩
            have B7 := hbA.trans ((B6.trans b7).mono HG1)
            clear H B6 b7 d7 D6
            go_wp2_with fail
            (with_reducible refine (alive17 _).mono ?_)
            rintro e w8 ⟨rfl, b8⟩
            have B8 := B7.trans (b8.mono B7.size)
            go_wp2
            go_ret
            exact ⟨rfl, B8⟩
          · go_wp2_with fail
            have H := Lib.hid (List_at D5.out)
            have HL := Lib.hid KC2.out.list_len
            (with_reducible refine H.out.mono ?_)
            rintro e w6 ⟨A6, rfl, _, b6⟩
            have D6 := Lib.hid (D5.out.below b6)
            have B6 := B5'.trans (b6.mono D5.out.size)
            rw [HL.out]
            clear H HL D5 B5' b6
            have hmore : (⟨#[111, 110, 101, 46, 109, 111, 114, 101]⟩ : ByteArray) ∉ namesOf m2.now := fun hi => by
              obtain ⟨k, hk, he⟩ := KC2.out.sub _ hi
              exact nm_more hk he.symm
            have e9 := KC2.out.full (s := (⟨#[111, 110, 101, 46, 109, 111, 114, 101]⟩ : ByteArray)) (by decide) hmore (by omega)
            have H := Lib.hid (Create_at D6.out (by decide) e9)
            clear e9 hmore KC2
            go_wp2_with fail
            (with_reducible refine H.out.mono ?_)
            rintro e w7 ⟨rfl, d7, b7⟩
            have B7 := hbA.trans ((B6.trans b7).mono HG1)
            clear H B6 b7 d7 D6
            go_wp2_with fail
            (with_reducible refine (alive17 _).mono ?_)
            rintro e w8 ⟨rfl, b8⟩
            have B8 := B7.trans (b8.mono B7.size)
            go_wp2
            go_ret
            exact ⟨by simp; omega, B8⟩
        · obtain ⟨m3, e3, k3⟩ := KC2.out.rename NA.out NB.out IA2.out IB2.out hab'
          have KC3 := Lib.hid k3
          have hbe : (a.toList == b.toList) = false := by rw [string_eq_dec]; exact decide_eq_false hab'
          have H := Lib.hid (Rename_at D5.out (nameB_size NA.out) (nameB_size NB.out) e3)
          clear D5 e3 k3
          go_wp2_with fail
          (with_reducible refine H.out.mono ?_)
          rintro e w5 ⟨rfl, d5, b5⟩
          have D5 := Lib.hid d5
          have B5' := B5.trans b5
          clear H d5 b5 B5
          go_wp2_with fail
          have H := Lib.hid (List_at D5.out)
          have HL := Lib.hid KC3.out.list_len
          (with_reducible refine H.out.mono ?_)
          rintro e w6 ⟨A6, rfl, _, b6⟩
          have D6 := Lib.hid (D5.out.below b6)
          have B6 := B5'.trans (b6.mono D5.out.size)
          rw [HL.out]
          clear H HL D5 B5' b6
          have hmore : (⟨#[111, 110, 101, 46, 109, 111, 114, 101]⟩ : ByteArray) ∉ namesOf m3.now := fun hi => by
            obtain ⟨k, hk, he⟩ := KC3.out.sub _ hi
            exact nm_more hk he.symm
          obtain ⟨m9, e9, _⟩ := (KC3.out.mono (S' := fun _ => True) (fun _ _ => trivial)).create (s := (⟨#[111, 110, 101, 46, 109, 111, 114, 101]⟩ : ByteArray)) (by decide) trivial hmore (by omega)
          have H := Lib.hid (Create_at D6.out (by decide) e9)
          clear e9 hmore KC3
          go_wp2_with fail
          (with_reducible refine H.out.mono ?_)
          rintro e w7 ⟨rfl, d7, b7⟩
          have B7 := hbA.trans ((B6.trans b7).mono HG1)
          clear H B6 b7 d7 D6
          go_wp2_with fail
          (with_reducible refine (alive17 _).mono ?_)
          rintro e w8 ⟨rfl, b8⟩
          have B8 := B7.trans (b8.mono B7.size)
          go_wp2
          go_ret
          exact ⟨rfl, B8⟩
end Go.Proofs.YtgibdecgmageeaaDoor
