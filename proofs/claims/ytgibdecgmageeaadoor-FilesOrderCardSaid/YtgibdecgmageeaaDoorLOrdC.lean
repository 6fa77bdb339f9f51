/- FilesOrder walked where neither of both is longer than 20. -/
import Derived.Test.YtgibdecgmageeaaDoorLOrdX
namespace Go.Proofs.YtgibdecgmageeaaDoor
open Go.RowKit

theorem Disks.less {b0 : Nat} {w : World} {L : List (Nat × Dm)} {a : Asn} {R : List Asn} (h : Disks b0 w L (a :: R)) : Disks b0 w L R := by
  obtain ⟨ds, h1, h2, h3, h4⟩ := h
  exact ⟨ds, h1, h2, (Sep.cons.1 (h3.perm List.perm_middle)).2.2, h4⟩
/-- What there is when so many ways are over. -/
def OrdL (M : Dm) : Nat → List (Nat × Dm) → List Value → Prop
  | 0, L, ps => L = [] ∧ ps = [.pointer none, .pointer none]
  | 1, L, ps => ∃ g, L = [(g, M)] ∧ ps = [.pointer (some ⟨g, 0, none⟩), .pointer none]
  | _, L, ps => ∃ g k, L = [(k, M), (g, M)] ∧ ps = [.pointer (some ⟨g, 0, none⟩), .pointer (some ⟨k, 0, none⟩)]
theorem OrdL.two {M : Dm} {v : Nat} {L : List (Nat × Dm)} {ps : List Value} (h : OrdL M v L ps) : ∃ p0 p1, ps = [p0, p1] := by
  match v, h with
  | 0, h => exact ⟨_, _, h.2⟩
  | 1, h => obtain ⟨g, _, h⟩ := h; exact ⟨_, _, h⟩
  | _ + 2, h => obtain ⟨g, k, _, h⟩ := h; exact ⟨_, _, h⟩
theorem OrdL.next {M : Dm} {v g : Nat} {L : List (Nat × Dm)} {ps : List Value} (h : OrdL M v L ps) (hv : v < 2) : OrdL M (v + 1) ((g, M) :: L) (ps.set v (.pointer (some ⟨g, 0, none⟩))) := by
  have hv' : v = 0 ∨ v = 1 := by omega
  rcases hv' with rfl | rfl
  · obtain ⟨rfl, rfl⟩ := h
    exact ⟨g, rfl, rfl⟩
  · obtain ⟨k, rfl, rfl⟩ := h
    exact ⟨k, g, rfl, rfl⟩

set_option maxRecDepth 100000 in
set_option maxHeartbeats 4000000 in
theorem FilesOrder_c (X Y : List ByteArray) (Bs : List Bool) (A0 A1 T : Option Addr) (n0 c0 n1 c1 tn tc : Nat) (k : Int) (w : World) (h0 : n0 = X.length) (h1 : n1 = Y.length) (l0 : n0 ≤ 140737488351232) (l1 : n1 ≤ 140737488351232)
    (s0 : ∀ s ∈ X, s.size ≤ 140737488351232) (s1 : ∀ s ∈ Y, s.size ≤ 140737488351232) (r0 : Rd w w.heap.size A0 (Strs X)) (r1 : Rd w w.heap.size A1 (Strs Y)) (ha : n0 ≤ 20) (hb : n1 ≤ 20)
    (ht : tn = Bs.length) (htl : tn ≤ 140737488351232) (hT : Rd w w.heap.size T (Bs.map Value.bool)) (hk0 : 0 ≤ k) (hk1 : k < 256) :
    Calls Tryd.prog 7 #[.agg #[.slice A0 n0 c0, .slice A1 n1 c1], .slice T tn tc, .int .u8 k] w (fun e w' => e = .returned (.bool true) ∧ Below w.heap.size w w') := by
  have hbA := (Below.refl w.heap.size w).alloc (Nat.le_refl _) (.cells #[.slice A0 n0 c0, .slice A1 n1 c1] 53)
  have hB := Blk.lit w 53 _ rfl #[.slice A0 n0 c0, .slice A1 n1 c1] _ rfl
  have hcf : ∀ W, Below (w.heap.size + 1) (w.alloc (.cells #[.slice A0 n0 c0, .slice A1 n1 c1] 53)) W → W.cell? ⟨w.heap.size, 0, none⟩ = some (.slice A0 n0 c0) ∧ W.cell? ⟨w.heap.size, 1, none⟩ = some (.slice A1 n1 c1) := fun W hW => by
    have h := hB.below hW (by simp)
    exact ⟨by rw [h.cell]; rfl, by rw [h.cell]; rfl⟩
  have HC := Lib.hid hcf
  have R0 := Lib.hid (r0.below (B' := w.heap.size + 1) hbA (Nat.le_succ _))
  have R1 := Lib.hid (r1.below (B' := w.heap.size + 1) hbA (Nat.le_succ _))
  have HG1 : w.heap.size ≤ w.heap.size + 1 := Nat.le_succ _
  have hg0 : w.heap.size + 1 ≤ (w.alloc (.cells #[.slice A0 n0 c0, .slice A1 n1 c1] 53)).heap.size := by simp
  have RT := Lib.hid (hT.below (B' := w.heap.size + 1) hbA (Nat.le_succ _))
  have NT := Lib.hid ht
  have N0 := Lib.hid h0
  have N1 := Lib.hid h1
  clear hcf hB h0 h1 r0 r1 hT ht
  go_enter Tryd.func7, Tryd.ntmps7
  go_upto_region 1 with fail
  generalize hg1 : w.heap.size + 1 = g1 at *
  generalize hgx : w.heap.size = gx at HC ⊢
  generalize w.alloc (.cells #[.slice A0 n0 c0, .slice A1 n1 c1] 53) = w0 at *
  clear hg1
  have HTX : Hid (∀ W, Below g1 w0 W → Calls Tryd.prog 31 #[.slice A0 n0 c0] W (fun e w' => e = .returned (.int .i64 (tsz X : Nat)) ∧ tsz X ≤ 1000000000000000 ∧ Below g1 w0 w')) := fun W hW => by
    refine (TextsSize_at X A0 n0 c0 g1 W N0.out l0 s0 (R0.out.below hW (Nat.le_refl _))).mono ?_
    rintro e w' ⟨rfl, hb, hd⟩
    exact ⟨rfl, hb, hW.trans (hd.below g1)⟩
  have HTY : Hid (∀ W, Below g1 w0 W → Calls Tryd.prog 31 #[.slice A1 n1 c1] W (fun e w' => e = .returned (.int .i64 (tsz Y : Nat)) ∧ tsz Y ≤ 1000000000000000 ∧ Below g1 w0 w')) := fun W hW => by
    refine (TextsSize_at Y A1 n1 c1 g1 W N1.out l1 s1 (R1.out.below hW (Nat.le_refl _))).mono ?_
    rintro e w' ⟨rfl, hb, hd⟩
    exact ⟨rfl, hb, hW.trans (hd.below g1)⟩
  have HAL : Hid (∀ W, Below g1 w0 W → Calls Tryd.prog 30 #[] W (fun e w' => e = .returned (.bool true) ∧ Below g1 w0 w')) := fun W hW => by
    refine (alive17 W).mono ?_
    rintro e w' ⟨rfl, hb⟩
    exact ⟨rfl, hW.trans (hb.mono (Nat.le_trans hg0 hW.size))⟩
  have Bd := (Below.refl g1 w0).drew
  have hTX : Hid (tsz X ≤ 20000 → sizes X ≤ tsz X) := fun h => by rw [tsz_sum h]; omega
  have hTY : Hid (tsz Y ≤ 20000 → sizes Y ≤ tsz Y) := fun h => by rw [tsz_sum h]; omega
  have SX := Lib.hid s0
  have SY := Lib.hid s1
  clear s0 s1
  generalize tsz X = TX at HTX hTX
  generalize tsz Y = TY at HTY hTY
  have hba : decide ((20 : Int) < n0) = false := decide_eq_false (by omega)
  have hbb : decide ((20 : Int) < n1) = false := decide_eq_false (by omega)
  go_region_held (fun W => W.cell? ⟨gx, 0, none⟩ = some (.slice A0 n0 c0) ∧ W.cell? ⟨gx, 1, none⟩ = some (.slice A1 n1 c1) ∧ (decide ((20 : Int) < n0) = false) ∧ (decide ((20 : Int) < n1) = false)) (first | exact ⟨(HC.out _ (by assumption)).1, (HC.out _ (by assumption)).2, hba, hbb⟩) (first
    | (go_at_call 30; (with_reducible refine (HAL.out _ (by assumption)).mono ?_); rintro e wL ⟨rfl, bL⟩)
    | (go_at_call 31; (first | (with_reducible refine (HTX.out _ (by assumption)).mono ?_) | (with_reducible refine (HTY.out _ (by assumption)).mono ?_)); rintro e wL ⟨rfl, tL, bL⟩))
  clear HTX HTY hba hbb
  have hwr := IntKind.wrap_i64 ((TX : Int) + TY)
  have HWR := Lib.hid hwr
  clear hwr
  by_cases hbig : (20000 : Int) < IntKind.i64.wrap ((TX : Int) + TY)
  · go_wp2_with fail
    (with_reducible refine (HAL.out _ (by assumption)).mono ?_)
    rintro e wM ⟨rfl, bM⟩
    go_wp2
    go_ret
    exact ⟨rfl, hbA.trans (bM.mono (hgx ▸ HG1))⟩
  · have hsum0 : sizes X + sizes Y ≤ 20000 := by
      have h0 := HWR.out
      have h1 := hTX.out
      have h2 := hTY.out
      omega
    have HS := Lib.hid hsum0
    have d0 : Disks g1 _ [] [] := Disks.none_ (Sep.nil _) (Nat.le_trans hg0 bL.size)
    have BL := bL
    have D0 := Lib.hid (d0.with_ 55 #[.pointer none, .pointer none])
    have BX := BL.alloc (Nat.le_trans hg0 BL.size) (.cells #[.pointer none, .pointer none] 55)
    clear d0 hTX hTY HWR hsum0 HAL
    obtain ⟨gB, hgB⟩ : ∃ gB, gB = wL.heap.size := ⟨_, rfl⟩
    rw [← hgB] at D0
    obtain ⟨M, hM⟩ : ∃ M : Dm, M = { (both (fil X n0) (fil Y n1)) with safe := twoT } := ⟨_, rfl⟩
    have HM := Lib.hid hM
    clear hM
    go_wp2_with fail
    rw [← hgB]
    have HGB := Lib.hid (show g1 ≤ gB by rw [hgB]; exact Nat.le_trans hg0 BL.size)
    clear hgB
    go_loopw [8] (fun s8 wr => ∃ (v : Nat) (L : List (Nat × Dm)) (ps : List Value), s8 = .int .i64 v ∧ v ≤ 2 ∧ Hid (OrdL M v L ps) ∧ Disks g1 wr L [Asn.blk gB 55 ps] ∧ Below g1 w0 wr) (fun s8 _ => 2 - (intOf s8).toNat)
    case atStart => exact ⟨0, [], _, rfl, by omega, ⟨rfl, rfl⟩, D0.out, BX⟩
    case round =>
      obtain ⟨v, L, ps, rfl, hv, HO, dr, br⟩ := hrel
      have DR := Lib.hid dr
      clear D0 BX dr
      by_cases hlt : v < 2
      · have hN := Lib.hid (New_at (z := 50000) DR.out (by omega) (by omega))
        go_wp2_with fail
        (with_reducible refine hN.out.mono ?_)
        rintro e wa ⟨gd, rfl, da, ba⟩
        have Ba := br.trans (ba.mono DR.out.size)
        have Da := Lib.hid da
        clear hN da ba DR br
        have hN := Lib.hid (Create_at Da.out (by decide) both_create_a)
        go_wp2_with fail
        (with_reducible refine hN.out.mono ?_)
        rintro e wb ⟨rfl, db, bb⟩
        have Bb := Ba.trans bb
        have Db := Lib.hid db
        clear hN db bb Da Ba
        have hN := Lib.hid (Create_at Db.out (by decide) both_create_b)
        go_wp2_with fail
        (with_reducible refine hN.out.mono ?_)
        rintro e wc ⟨rfl, dc, bc⟩
        have Bc := (Bb.trans bc).alloc (Nat.le_trans dc.size (Nat.le_refl _)) (.cells #[.int .i64 0, .int .i64 0] 56)
        have Dc := Lib.hid (dc.with_ 56 #[.int .i64 0, .int .i64 0])
        have hgc := dc.size
        clear hN dc bc Db Bb
        obtain ⟨gA, hgA⟩ : ∃ gA, gA = wc.heap.size := ⟨_, rfl⟩
        rw [← hgA] at Dc
        have HGA := Lib.hid (show g1 ≤ gA by rw [hgA]; exact hgc)
        go_wp2_with fail
        rw [← hgA]
        clear hgA
        go_loopw [12] (fun s12 wr => ∃ (i j q : Nat), s12 = .int .i64 q ∧ q ≤ i + j ∧ i + j ≤ q ∧ i ≤ n0 ∧ j ≤ n1 ∧ Disks g1 wr ((gd, both (fil X i) (fil Y j)) :: L) [Asn.blk gA 56 [.int .i64 i, .int .i64 j], Asn.blk gB 55 ps] ∧ Below g1 w0 wr) (fun s12 _ => n0 + n1 - (intOf s12).toNat)
        case atStart => exact ⟨0, 0, 0, rfl, by omega, by omega, by omega, by omega, Dc.out, Bc⟩
        case round =>
          obtain ⟨i, j, q, rfl, hq1, hq2, hi, hj, dr, br⟩ := hrel
          have DR := Lib.hid dr
          have a0 : wr.cell? ⟨gA, 0, none⟩ = some (.int .i64 i) := dr.cell 0
          have a1 : wr.cell? ⟨gA, 1, none⟩ = some (.int .i64 j) := dr.cell 1
          obtain ⟨e0, e1⟩ := HC.out wr br
          clear dr Dc Bc
          by_cases hgo : i + j < n0 + n1
          · have hgoI : (i : Int) + j < n0 + n1 := by omega
            go_upto_region 15 with fail
            go_cut [96] (fun s96 wx => ∃ b : Bool, s96 = .bool b ∧ (b = false → i < n0) ∧ wr = wx)
            case first =>
              have hv' : v = 0 ∨ v = 1 := by omega
              rcases hv' with rfl | rfl
              · have hv0 := hv
                by_cases hi0 : i = n0
                · have hib : ((i : Int) == n0) = true := by rw [hi0]; simp
                  go_wp2_with fail
                  go_meet
                  exact ⟨true, rfl, (fun h => Bool.noConfusion h), rfl⟩
                · have hib : ((i : Int) == n0) = false := by simp <;> omega
                  go_wp2_with fail
                  go_meet
                  exact ⟨false, rfl, (fun _ => by omega), rfl⟩
              · by_cases hqt : q < tn
                · have hqI : (q : Int) < tn := by omega
                  have hqb : q < (Bs.map Value.bool).length := by have := NT.out; rw [List.length_map]; omega
                  obtain ⟨ad, rfl, hab, hc⟩ := (RT.out.below br (Nat.le_refl _)) (by omega)
                  have c0 : wr.cell? (ad.add q) = some (.bool (Bs[q]'(by simpa using hqb))) := hc q _ (by simp)
                  generalize (Bs[q]'(by simpa using hqb)) = tb at c0
                  clear hc hqb hab
                  cases tb with
                  | true =>
                    go_wp2_with fail
                    go_meet
                    exact ⟨true, rfl, (fun h => Bool.noConfusion h), rfl⟩
                  | false =>
                    by_cases hi0 : i = n0
                    · have hib : ((i : Int) == n0) = true := by rw [hi0]; simp
                      go_wp2_with fail
                      go_meet
                      exact ⟨true, rfl, (fun h => Bool.noConfusion h), rfl⟩
                    · have hib : ((i : Int) == n0) = false := by simp <;> omega
                      go_wp2_with fail
                      go_meet
                      exact ⟨false, rfl, (fun _ => by omega), rfl⟩
                · have hqI : decide ((q : Int) < tn) = false := decide_eq_false (by omega)
                  by_cases hi0 : i = n0
                  · have hib : ((i : Int) == n0) = true := by rw [hi0]; simp
                    go_wp2_with fail
                    go_meet
                    exact ⟨true, rfl, (fun h => Bool.noConfusion h), rfl⟩
                  · have hib : ((i : Int) == n0) = false := by simp <;> omega
                    go_wp2_with fail
                    go_meet
                    exact ⟨false, rfl, (fun _ => by omega), rfl⟩
            case rest =>
              obtain ⟨b, rfl, hbi, rfl⟩ := hcut
              cases b with
              | false =>
                have hin : i < n0 := hbi rfl
                have hib : ((i : Int) == n0) = false := by simp <;> omega
                clear hbi
                go_wp2_with fail
                go_quiet (fail)
                go_wp2_with fail
                have hnm : (⟨#[97, 98]⟩ : ByteArray).extract 0 1 = ⟨#[97]⟩ := by decide
                rw [hnm]
                have hil : i < X.length := by have := N0.out; omega
                obtain ⟨ad, rfl, hab, hc⟩ := R0.out (by simp [Strs]; omega)
                have hcx : w0.cell? (ad.add i) = some (.string (X[i]'hil)) := hc i _ (by simp [Strs, hil])
                have hgd : X.getD i ⟨#[]⟩ = X[i]'hil := by simp [List.getD, hil]
                have hxs := SX.out _ (List.getElem_mem hil)
                have HAP := step_a X Y i j (by have := N0.out; omega) (by have := N1.out; omega) HS.out
                rw [hgd] at HAP
                generalize (X[i]'hil) = x at hcx hxs HAP
                have hS : ∀ W F R, Below g1 w0 W → Disks g1 W F (Asn.blk gA 56 [.int .i64 i, .int .i64 j] :: R) → W.cell? ⟨gx, 0, none⟩ = some (.slice (some ad) n0 c0) ∧ W.cell? ⟨gA, 0, none⟩ = some (.int .i64 i) ∧ W.cell? (ad.add i) = some (.string x) := fun W F R hW hD =>
                  ⟨(HC.out W hW).1, hD.cell 0, by rw [hW.cell (by rw [add_block]; exact hab)]; exact hcx⟩
                have HSS := Lib.hid hS
                have HAP2 := Lib.hid HAP
                have DW := Lib.hid ((DR.out.below (Below.dr (Below.refl _ _) nq)).drew)
                have BW := (Below.dr br nq).drew
                have HMD := Lib.hid (Int.tmod_eq_emod_of_nonneg (b := 3) (Int.natCast_nonneg i))
                clear hS HAP hgd hc hcx a0 a1 e0 e1 DR br hnm
                generalize wr.drewN nq = W0 at DW BW ⊢
                have hiI : (i : Int) < n0 := by omega
                by_cases hmm : i % 3 = 1
                · have hm1 : (((i : Int) % 3 == 1) = true) := by rw [beq_iff_eq]; omega
                  have hm2 : (((i : Int).tmod 3 == 1) = true) := by rw [HMD.out]; exact hm1
                  have hkt := conv_text
                  refine wp_region_held_drew (S := fun W => (W.cell? ⟨gx, 0, none⟩ = some (.slice (some ad) n0 c0) ∧ W.cell? ⟨gA, 0, none⟩ = some (.int .i64 i) ∧ W.cell? (ad.add i) = some (.string x)) ∧ (((i : Int).tmod 3 == 1) = true) ∧ (((i : Int) % 3 == 1) = true)) (by kernel_rfl) ⟨HSS.out _ _ _ BW DW.out, hm2, hm1⟩ (fun hHeld => ?_)
                  refine wpAnyH_take (i := 0) (oi := ⟨some 111, _, _, _, _, _⟩) (v := ?vxs0) rfl (by kernel_rfl) (by kernel_rfl) (by kernel_rfl) (fun _ _ _ h => h) (Or.inl ⟨by kernel_rfl, ?hyxs0⟩) (by assumption) ?restxs0
                  case hyxs0 => (intro w hSw; (try dsimp only at hSw); go_simp; try with_reducible rfl)
                  (try simp only [Act.put, List.setIfInBounds_toArray, List.set_cons_zero, List.set_cons_succ])
                  refine wpAnyH_take (i := 1) (oi := ⟨some 112, _, _, _, _, _⟩) (v := ?vxs1) rfl (by kernel_rfl) (by kernel_rfl) (by kernel_rfl) (fun _ _ _ h => h) (Or.inl ⟨by kernel_rfl, ?hyxs1⟩) (by assumption) ?restxs1
                  case hyxs1 => (intro w hSw; (try dsimp only at hSw); go_simp; try with_reducible rfl)
                  (try simp only [Act.put, List.setIfInBounds_toArray, List.set_cons_zero, List.set_cons_succ])
                  refine wpAnyH_take (i := 2) (oi := ⟨some 113, _, _, _, _, _⟩) (v := ?vxs2) rfl (by kernel_rfl) (by kernel_rfl) (by kernel_rfl) (fun _ _ _ h => h) (Or.inl ⟨by kernel_rfl, ?hyxs2⟩) (by assumption) ?restxs2
                  case hyxs2 => (intro w hSw; (try dsimp only at hSw); go_simp; try with_reducible rfl)
                  (try simp only [Act.put, List.setIfInBounds_toArray, List.set_cons_zero, List.set_cons_succ])
                  refine wpAnyH_take (i := 3) (oi := ⟨some 114, _, _, _, _, _⟩) (v := ?vxs3) rfl (by kernel_rfl) (by kernel_rfl) (by kernel_rfl) (fun _ _ _ h => h) (Or.inl ⟨by kernel_rfl, ?hyxs3⟩) (by assumption) ?restxs3
                  case hyxs3 => (intro w hSw; (try dsimp only at hSw); go_simp; try with_reducible rfl)
                  (try simp only [Act.put, List.setIfInBounds_toArray, List.set_cons_zero, List.set_cons_succ])
                  refine wpAnyH_take (i := 4) (oi := ⟨some 115, _, _, _, _, _⟩) (v := ?vxs4) rfl (by kernel_rfl) (by kernel_rfl) (by kernel_rfl) (fun _ _ _ h => h) (Or.inl ⟨by kernel_rfl, ?hyxs4⟩) (by assumption) ?restxs4
                  case hyxs4 => (intro w hSw; (try dsimp only at hSw); go_simp; try with_reducible rfl)
                  (try simp only [Act.put, List.setIfInBounds_toArray, List.set_cons_zero, List.set_cons_succ])
                  refine wpAnyH_take (i := 5) (oi := ⟨some 116, _, _, _, _, _⟩) (v := ?vxs5) rfl (by kernel_rfl) (by kernel_rfl) (by kernel_rfl) (fun _ _ _ h => h) (Or.inl ⟨by kernel_rfl, ?hyxs5⟩) (by assumption) ?restxs5
                  case hyxs5 => (intro w hSw; (try dsimp only at hSw); go_simp; try with_reducible rfl)
                  (try simp only [Act.put, List.setIfInBounds_toArray, List.set_cons_zero, List.set_cons_succ])
                  refine wpAnyH_take (i := 6) (oi := ⟨some 117, _, _, _, _, _⟩) (v := ?vxs6) rfl (by kernel_rfl) (by kernel_rfl) (by kernel_rfl) (fun _ _ _ h => h) (Or.inl ⟨by kernel_rfl, ?hyxs6⟩) (by assumption) ?restxs6
                  case hyxs6 => (intro w hSw; (try dsimp only at hSw); go_simp; try with_reducible rfl)
                  (try simp only [Act.put, List.setIfInBounds_toArray, List.set_cons_zero, List.set_cons_succ])
                  refine wpAnyH_take (i := 7) (oi := ⟨some 118, _, _, _, _, _⟩) (v := ?vxs7) rfl (by kernel_rfl) (by kernel_rfl) (by kernel_rfl) (fun _ _ _ h => h) (Or.inl ⟨by kernel_rfl, ?hyxs7⟩) (by assumption) ?restxs7
                  case hyxs7 => (intro w hSw; (try dsimp only at hSw); go_simp; try with_reducible rfl)
                  (try simp only [Act.put, List.setIfInBounds_toArray, List.set_cons_zero, List.set_cons_succ])
                  refine wpAnyH_take (i := 8) (oi := ⟨some 119, _, _, _, _, _⟩) (v := ?vxs8) rfl (by kernel_rfl) (by kernel_rfl) (by kernel_rfl) (fun _ _ _ h => h) (Or.inl ⟨by kernel_rfl, ?hyxs8⟩) (by assumption) ?restxs8
                  case hyxs8 => (intro w hSw; (try dsimp only at hSw); go_simp; try with_reducible rfl)
                  (try simp only [Act.put, List.setIfInBounds_toArray, List.set_cons_zero, List.set_cons_succ])
                  refine wpAnyH_take (i := 9) (oi := ⟨some 120, _, _, _, _, _⟩) (v := ?vxs9) rfl (by kernel_rfl) (by kernel_rfl) (by kernel_rfl) (fun _ _ _ h => h) (Or.inl ⟨by kernel_rfl, ?hyxs9⟩) (by assumption) ?restxs9
                  case hyxs9 => (intro w hSw; (try dsimp only at hSw); go_simp; try with_reducible rfl)
                  (try simp only [Act.put, List.setIfInBounds_toArray, List.set_cons_zero, List.set_cons_succ])
                  refine wpAnyH_ready (rs := [10]) (by kernel_rfl) (by simp) ?_
                  refine AllReadyH.cons rfl (fun K hK => ?_) AllReadyH.nil
                  go_simp
                  have DC := Lib.hid (DW.out.below (below_text W0.drew 5 x))
                  have HRD := Lib.hid (show Rd _ _ (some ⟨W0.heap.size, 0, none⟩) _ from rd_text W0.drew 5 x)
                  have BC := BW.trans ((below_text W0.drew 5 x).mono (Nat.le_trans hg0 BW.size))
                  refine hK.out _ _ ⟨HSS.out _ _ _ BC DC.out, hm2, hm1⟩ (fun hHeld2 => ?_)
                  clear hK K hHeld hkt
                  refine wpAnyH_ready (rs := [11]) (by kernel_rfl) (by simp) ?_
                  refine AllReadyH.cons rfl (fun K hK => ?_) AllReadyH.nil
                  go_simp
                  (with_reducible refine (Append_at (bs := bys x) DC.out (by decide) (by rw [length_bys]) (by omega) (isU8_bys _) HRD.out HAP2.out).mono ?_)
                  rintro e wA ⟨rfl, dA, bA⟩
                  have BA := BC.trans bA
                  have DA := Lib.hid dA
                  clear BC DC dA bA DW BW
                  go_simp
                  refine hK.out _ _ ⟨HSS.out _ _ _ BA DA.out, hm2, hm1⟩ (fun hHeld3 => ?_)
                  clear hK K hHeld2
                  refine wpAnyH_take (i := 12) (oi := ⟨some 123, _, _, _, _, _⟩) (v := ?vxs12) rfl (by kernel_rfl) (by kernel_rfl) (by kernel_rfl) (fun _ _ _ h => h) (Or.inl ⟨by kernel_rfl, ?hyxs12⟩) (by assumption) ?restxs12
                  case hyxs12 => (intro w hSw; (try dsimp only at hSw); go_simp; try with_reducible rfl)
                  (try simp only [Act.put, List.setIfInBounds_toArray, List.set_cons_zero, List.set_cons_succ])
                  refine wpAnyH_take (i := 13) (oi := ⟨some 124, _, _, _, _, _⟩) (v := ?vxs13) rfl (by kernel_rfl) (by kernel_rfl) (by kernel_rfl) (fun _ _ _ h => h) (Or.inl ⟨by kernel_rfl, ?hyxs13⟩) (by assumption) ?restxs13
                  case hyxs13 => (intro w hSw; (try dsimp only at hSw); go_simp; try with_reducible rfl)
                  (try simp only [Act.put, List.setIfInBounds_toArray, List.set_cons_zero, List.set_cons_succ])
                  refine wpAnyH_take (i := 14) (oi := ⟨some 125, _, _, _, _, _⟩) (v := ?vxs14) rfl (by kernel_rfl) (by kernel_rfl) (by kernel_rfl) (fun _ _ _ h => h) (Or.inl ⟨by kernel_rfl, ?hyxs14⟩) (by assumption) ?restxs14
                  case hyxs14 => (intro w hSw; (try dsimp only at hSw); go_simp; try with_reducible rfl)
                  (try simp only [Act.put, List.setIfInBounds_toArray, List.set_cons_zero, List.set_cons_succ])
                  refine wpAnyH_take (i := 15) (oi := ⟨some 126, _, _, _, _, _⟩) (v := ?vxs15) rfl (by kernel_rfl) (by kernel_rfl) (by kernel_rfl) (fun _ _ _ h => h) (Or.inl ⟨by kernel_rfl, ?hyxs15⟩) (by assumption) ?restxs15
                  case hyxs15 => (intro w hSw; (try dsimp only at hSw); go_simp; try with_reducible rfl)
                  (try simp only [Act.put, List.setIfInBounds_toArray, List.set_cons_zero, List.set_cons_succ])
                  refine wpAnyH_take (i := 16) (oi := ⟨some 127, _, _, _, _, _⟩) (v := ?vxs16) rfl (by kernel_rfl) (by kernel_rfl) (by kernel_rfl) (fun _ _ _ h => h) (Or.inl ⟨by kernel_rfl, ?hyxs16⟩) (by assumption) ?restxs16
                  case hyxs16 => (intro w hSw; (try dsimp only at hSw); go_simp; try with_reducible rfl)
                  (try simp only [Act.put, List.setIfInBounds_toArray, List.set_cons_zero, List.set_cons_succ])
                  refine wpAnyH_take (i := 17) (oi := ⟨some 128, _, _, _, _, _⟩) (v := ?vxs17) rfl (by kernel_rfl) (by kernel_rfl) (by kernel_rfl) (fun _ _ _ h => h) (Or.inl ⟨by kernel_rfl, ?hyxs17⟩) (by assumption) ?restxs17
                  case hyxs17 => (intro w hSw; (try dsimp only at hSw); go_simp; try with_reducible rfl)
                  (try simp only [Act.put, List.setIfInBounds_toArray, List.set_cons_zero, List.set_cons_succ])
                  refine wpAnyH_take (i := 18) (oi := ⟨some 129, _, _, _, _, _⟩) (v := ?vxs18) rfl (by kernel_rfl) (by kernel_rfl) (by kernel_rfl) (fun _ _ _ h => h) (Or.inl ⟨by kernel_rfl, ?hyxs18⟩) (by assumption) ?restxs18
                  case hyxs18 => (intro w hSw; (try dsimp only at hSw); go_simp; try with_reducible rfl)
                  (try simp only [Act.put, List.setIfInBounds_toArray, List.set_cons_zero, List.set_cons_succ])
                  refine wpAnyH_take (i := 19) (oi := ⟨some 130, _, _, _, _, _⟩) (v := ?vxs19) rfl (by kernel_rfl) (by kernel_rfl) (by kernel_rfl) (fun _ _ _ h => h) (Or.inl ⟨by kernel_rfl, ?hyxs19⟩) (by assumption) ?restxs19
                  case hyxs19 => (intro w hSw; (try dsimp only at hSw); go_simp; try with_reducible rfl)
                  (try simp only [Act.put, List.setIfInBounds_toArray, List.set_cons_zero, List.set_cons_succ])
                  refine wpAnyH_take (i := 20) (oi := ⟨some 131, _, _, _, _, _⟩) (v := ?vxs20) rfl (by kernel_rfl) (by kernel_rfl) (by kernel_rfl) (fun _ _ _ h => h) (Or.inl ⟨by kernel_rfl, ?hyxs20⟩) (by assumption) ?restxs20
                  case hyxs20 => (intro w hSw; (try dsimp only at hSw); go_simp; try with_reducible rfl)
                  (try simp only [Act.put, List.setIfInBounds_toArray, List.set_cons_zero, List.set_cons_succ])
                  refine wpAnyH_take (i := 21) (oi := ⟨some 132, _, _, _, _, _⟩) (v := ?vxs21) rfl (by kernel_rfl) (by kernel_rfl) (by kernel_rfl) (fun _ _ _ h => h) (Or.inl ⟨by kernel_rfl, ?hyxs21⟩) (by assumption) ?restxs21
                  case hyxs21 => (intro w hSw; (try dsimp only at hSw); go_simp; try with_reducible rfl)
                  (try simp only [Act.put, List.setIfInBounds_toArray, List.set_cons_zero, List.set_cons_succ])
                  refine wpAnyH_ready (rs := [22]) (by kernel_rfl) (by simp) ?_
                  refine AllReadyH.cons rfl (fun K hK => ?_) AllReadyH.nil
                  go_simp
                  (with_reducible refine (Sync_at DA.out (by decide) (safe_a X Y i j (by omega))).mono ?_)
                  rintro e wS ⟨rfl, dS, bS⟩
                  have BS := BA.trans bS
                  have DS := Lib.hid dS
                  clear BA DA dS bS
                  go_simp
                  refine hK.out _ _ ⟨HSS.out _ _ _ BS DS.out, hm2, hm1⟩ (fun hHeld4 => ?_)
                  clear hK K hHeld3
                  refine wpAnyH_take (i := 23) (oi := ⟨some 134, _, _, _, _, _⟩) (v := ?vxs23) rfl (by kernel_rfl) (by kernel_rfl) (by kernel_rfl) (fun _ _ _ h => h) (Or.inl ⟨by kernel_rfl, ?hyxs23⟩) (by assumption) ?restxs23
                  case hyxs23 => (intro w hSw; (try dsimp only at hSw); go_simp; try with_reducible rfl)
                  (try simp only [Act.put, List.setIfInBounds_toArray, List.set_cons_zero, List.set_cons_succ])
                  refine wpAnyH_take (i := 24) (oi := ⟨some 135, _, _, _, _, _⟩) (v := ?vxs24) rfl (by kernel_rfl) (by kernel_rfl) (by kernel_rfl) (fun _ _ _ h => h) (Or.inl ⟨by kernel_rfl, ?hyxs24⟩) (by assumption) ?restxs24
                  case hyxs24 => (intro w hSw; (try dsimp only at hSw); go_simp; try with_reducible rfl)
                  (try simp only [Act.put, List.setIfInBounds_toArray, List.set_cons_zero, List.set_cons_succ])
                  refine wpAnyH_take (i := 25) (oi := ⟨some 136, _, _, _, _, _⟩) (v := ?vxs25) rfl (by kernel_rfl) (by kernel_rfl) (by kernel_rfl) (fun _ _ _ h => h) (Or.inl ⟨by kernel_rfl, ?hyxs25⟩) (by assumption) ?restxs25
                  case hyxs25 => (intro w hSw; (try dsimp only at hSw); go_simp; try with_reducible rfl)
                  (try simp only [Act.put, List.setIfInBounds_toArray, List.set_cons_zero, List.set_cons_succ])
                  refine wpAnyH_done (by kernel_rfl) ?_ _
                  clear hHeld4 hm1 hm2 hab
                  have a0 : wS.cell? ⟨gA, 0, none⟩ = some (.int .i64 i) := DS.out.cell 0
                  have a1 : wS.frozen? ⟨gA, 0, none⟩ = false := Blk.free (show Blk wS gA 56 _ from DS.out.rest.head) 0
                  have DE := DS.out.put 0 (.int .i64 ((i + 1 : Nat) : Int))
                  have BE := BS.setCell (p := ⟨gA, 0, none⟩) (HGA.out) (.int .i64 ((i + 1 : Nat) : Int))
                  go_wp2_with fail
                  go_roundw
                  case rel => exact ⟨i + 1, j, q + 1, by go_num, by omega, by omega, by omega, by omega, DE, BE⟩
                  case measure => simp [intOf] <;> omega
                · have hm1 : (((i : Int) % 3 == 1) = false) := by rw [beq_eq_false_iff_ne]; omega
                  have hm2 : (((i : Int).tmod 3 == 1) = false) := by rw [HMD.out]; exact hm1
                  have hkt := conv_text
                  refine wp_region_held_drew (S := fun W => (W.cell? ⟨gx, 0, none⟩ = some (.slice (some ad) n0 c0) ∧ W.cell? ⟨gA, 0, none⟩ = some (.int .i64 i) ∧ W.cell? (ad.add i) = some (.string x)) ∧ (((i : Int).tmod 3 == 1) = false) ∧ (((i : Int) % 3 == 1) = false)) (by kernel_rfl) ⟨HSS.out _ _ _ BW DW.out, hm2, hm1⟩ (fun hHeld => ?_)
                  refine wpAnyH_take (i := 0) (oi := ⟨some 111, _, _, _, _, _⟩) (v := ?vxn0) rfl (by kernel_rfl) (by kernel_rfl) (by kernel_rfl) (fun _ _ _ h => h) (Or.inl ⟨by kernel_rfl, ?hyxn0⟩) (by assumption) ?restxn0
                  case hyxn0 => (intro w hSw; (try dsimp only at hSw); go_simp; try with_reducible rfl)
                  (try simp only [Act.put, List.setIfInBounds_toArray, List.set_cons_zero, List.set_cons_succ])
                  refine wpAnyH_take (i := 1) (oi := ⟨some 112, _, _, _, _, _⟩) (v := ?vxn1) rfl (by kernel_rfl) (by kernel_rfl) (by kernel_rfl) (fun _ _ _ h => h) (Or.inl ⟨by kernel_rfl, ?hyxn1⟩) (by assumption) ?restxn1
                  case hyxn1 => (intro w hSw; (try dsimp only at hSw); go_simp; try with_reducible rfl)
                  (try simp only [Act.put, List.setIfInBounds_toArray, List.set_cons_zero, List.set_cons_succ])
                  refine wpAnyH_take (i := 2) (oi := ⟨some 113, _, _, _, _, _⟩) (v := ?vxn2) rfl (by kernel_rfl) (by kernel_rfl) (by kernel_rfl) (fun _ _ _ h => h) (Or.inl ⟨by kernel_rfl, ?hyxn2⟩) (by assumption) ?restxn2
                  case hyxn2 => (intro w hSw; (try dsimp only at hSw); go_simp; try with_reducible rfl)
                  (try simp only [Act.put, List.setIfInBounds_toArray, List.set_cons_zero, List.set_cons_succ])
                  refine wpAnyH_take (i := 3) (oi := ⟨some 114, _, _, _, _, _⟩) (v := ?vxn3) rfl (by kernel_rfl) (by kernel_rfl) (by kernel_rfl) (fun _ _ _ h => h) (Or.inl ⟨by kernel_rfl, ?hyxn3⟩) (by assumption) ?restxn3
                  case hyxn3 => (intro w hSw; (try dsimp only at hSw); go_simp; try with_reducible rfl)
                  (try simp only [Act.put, List.setIfInBounds_toArray, List.set_cons_zero, List.set_cons_succ])
                  refine wpAnyH_take (i := 4) (oi := ⟨some 115, _, _, _, _, _⟩) (v := ?vxn4) rfl (by kernel_rfl) (by kernel_rfl) (by kernel_rfl) (fun _ _ _ h => h) (Or.inl ⟨by kernel_rfl, ?hyxn4⟩) (by assumption) ?restxn4
                  case hyxn4 => (intro w hSw; (try dsimp only at hSw); go_simp; try with_reducible rfl)
                  (try simp only [Act.put, List.setIfInBounds_toArray, List.set_cons_zero, List.set_cons_succ])
                  refine wpAnyH_take (i := 5) (oi := ⟨some 116, _, _, _, _, _⟩) (v := ?vxn5) rfl (by kernel_rfl) (by kernel_rfl) (by kernel_rfl) (fun _ _ _ h => h) (Or.inl ⟨by kernel_rfl, ?hyxn5⟩) (by assumption) ?restxn5
                  case hyxn5 => (intro w hSw; (try dsimp only at hSw); go_simp; try with_reducible rfl)
                  (try simp only [Act.put, List.setIfInBounds_toArray, List.set_cons_zero, List.set_cons_succ])
                  refine wpAnyH_take (i := 6) (oi := ⟨some 117, _, _, _, _, _⟩) (v := ?vxn6) rfl (by kernel_rfl) (by kernel_rfl) (by kernel_rfl) (fun _ _ _ h => h) (Or.inl ⟨by kernel_rfl, ?hyxn6⟩) (by assumption) ?restxn6
                  case hyxn6 => (intro w hSw; (try dsimp only at hSw); go_simp; try with_reducible rfl)
                  (try simp only [Act.put, List.setIfInBounds_toArray, List.set_cons_zero, List.set_cons_succ])
                  refine wpAnyH_take (i := 7) (oi := ⟨some 118, _, _, _, _, _⟩) (v := ?vxn7) rfl (by kernel_rfl) (by kernel_rfl) (by kernel_rfl) (fun _ _ _ h => h) (Or.inl ⟨by kernel_rfl, ?hyxn7⟩) (by assumption) ?restxn7
                  case hyxn7 => (intro w hSw; (try dsimp only at hSw); go_simp; try with_reducible rfl)
                  (try simp only [Act.put, List.setIfInBounds_toArray, List.set_cons_zero, List.set_cons_succ])
                  refine wpAnyH_take (i := 8) (oi := ⟨some 119, _, _, _, _, _⟩) (v := ?vxn8) rfl (by kernel_rfl) (by kernel_rfl) (by kernel_rfl) (fun _ _ _ h => h) (Or.inl ⟨by kernel_rfl, ?hyxn8⟩) (by assumption) ?restxn8
                  case hyxn8 => (intro w hSw; (try dsimp only at hSw); go_simp; try with_reducible rfl)
                  (try simp only [Act.put, List.setIfInBounds_toArray, List.set_cons_zero, List.set_cons_succ])
                  refine wpAnyH_take (i := 9) (oi := ⟨some 120, _, _, _, _, _⟩) (v := ?vxn9) rfl (by kernel_rfl) (by kernel_rfl) (by kernel_rfl) (fun _ _ _ h => h) (Or.inl ⟨by kernel_rfl, ?hyxn9⟩) (by assumption) ?restxn9
                  case hyxn9 => (intro w hSw; (try dsimp only at hSw); go_simp; try with_reducible rfl)
                  (try simp only [Act.put, List.setIfInBounds_toArray, List.set_cons_zero, List.set_cons_succ])
                  refine wpAnyH_ready (rs := [10]) (by kernel_rfl) (by simp) ?_
                  refine AllReadyH.cons rfl (fun K hK => ?_) AllReadyH.nil
                  go_simp
                  have DC := Lib.hid (DW.out.below (below_text W0.drew 5 x))
                  have HRD := Lib.hid (show Rd _ _ (some ⟨W0.heap.size, 0, none⟩) _ from rd_text W0.drew 5 x)
                  have BC := BW.trans ((below_text W0.drew 5 x).mono (Nat.le_trans hg0 BW.size))
                  refine hK.out _ _ ⟨HSS.out _ _ _ BC DC.out, hm2, hm1⟩ (fun hHeld2 => ?_)
                  clear hK K hHeld hkt
                  refine wpAnyH_ready (rs := [11]) (by kernel_rfl) (by simp) ?_
                  refine AllReadyH.cons rfl (fun K hK => ?_) AllReadyH.nil
                  go_simp
                  (with_reducible refine (Append_at (bs := bys x) DC.out (by decide) (by rw [length_bys]) (by omega) (isU8_bys _) HRD.out HAP2.out).mono ?_)
                  rintro e wA ⟨rfl, dA, bA⟩
                  have BA := BC.trans bA
                  have DA := Lib.hid dA
                  clear BC DC dA bA DW BW
                  go_simp
                  refine hK.out _ _ ⟨HSS.out _ _ _ BA DA.out, hm2, hm1⟩ (fun hHeld3 => ?_)
                  clear hK K hHeld2
                  refine wpAnyH_take (i := 12) (oi := ⟨some 123, _, _, _, _, _⟩) (v := ?vxn12) rfl (by kernel_rfl) (by kernel_rfl) (by kernel_rfl) (fun _ _ _ h => h) (Or.inl ⟨by kernel_rfl, ?hyxn12⟩) (by assumption) ?restxn12
                  case hyxn12 => (intro w hSw; (try dsimp only at hSw); go_simp; try with_reducible rfl)
                  (try simp only [Act.put, List.setIfInBounds_toArray, List.set_cons_zero, List.set_cons_succ])
                  refine wpAnyH_take (i := 13) (oi := ⟨some 124, _, _, _, _, _⟩) (v := ?vxn13) rfl (by kernel_rfl) (by kernel_rfl) (by kernel_rfl) (fun _ _ _ h => h) (Or.inl ⟨by kernel_rfl, ?hyxn13⟩) (by assumption) ?restxn13
                  case hyxn13 => (intro w hSw; (try dsimp only at hSw); go_simp; try with_reducible rfl)
                  (try simp only [Act.put, List.setIfInBounds_toArray, List.set_cons_zero, List.set_cons_succ])
                  refine wpAnyH_take (i := 14) (oi := ⟨some 125, _, _, _, _, _⟩) (v := ?vxn14) rfl (by kernel_rfl) (by kernel_rfl) (by kernel_rfl) (fun _ _ _ h => h) (Or.inl ⟨by kernel_rfl, ?hyxn14⟩) (by assumption) ?restxn14
                  case hyxn14 => (intro w hSw; (try dsimp only at hSw); go_simp; try with_reducible rfl)
                  (try simp only [Act.put, List.setIfInBounds_toArray, List.set_cons_zero, List.set_cons_succ])
                  refine wpAnyH_take (i := 15) (oi := ⟨some 126, _, _, _, _, _⟩) (v := ?vxn15) rfl (by kernel_rfl) (by kernel_rfl) (by kernel_rfl) (fun _ _ _ h => h) (Or.inl ⟨by kernel_rfl, ?hyxn15⟩) (by assumption) ?restxn15
                  case hyxn15 => (intro w hSw; (try dsimp only at hSw); go_simp; try with_reducible rfl)
                  (try simp only [Act.put, List.setIfInBounds_toArray, List.set_cons_zero, List.set_cons_succ])
                  refine wpAnyH_take (i := 16) (oi := ⟨some 127, _, _, _, _, _⟩) (v := ?vxn16) rfl (by kernel_rfl) (by kernel_rfl) (by kernel_rfl) (fun _ _ _ h => h) (Or.inl ⟨by kernel_rfl, ?hyxn16⟩) (by assumption) ?restxn16
                  case hyxn16 => (intro w hSw; (try dsimp only at hSw); go_simp; try with_reducible rfl)
                  (try simp only [Act.put, List.setIfInBounds_toArray, List.set_cons_zero, List.set_cons_succ])
                  refine wpAnyH_take (i := 17) (oi := ⟨some 128, _, _, _, _, _⟩) (v := ?vxn17) rfl (by kernel_rfl) (by kernel_rfl) (by kernel_rfl) (fun _ _ _ h => h) (Or.inl ⟨by kernel_rfl, ?hyxn17⟩) (by assumption) ?restxn17
                  case hyxn17 => (intro w hSw; (try dsimp only at hSw); go_simp; try with_reducible rfl)
                  (try simp only [Act.put, List.setIfInBounds_toArray, List.set_cons_zero, List.set_cons_succ])
                  refine wpAnyH_take (i := 18) (oi := ⟨some 129, _, _, _, _, _⟩) (v := ?vxn18) rfl (by kernel_rfl) (by kernel_rfl) (by kernel_rfl) (fun _ _ _ h => h) (Or.inl ⟨by kernel_rfl, ?hyxn18⟩) (by assumption) ?restxn18
                  case hyxn18 => (intro w hSw; (try dsimp only at hSw); go_simp; try with_reducible rfl)
                  (try simp only [Act.put, List.setIfInBounds_toArray, List.set_cons_zero, List.set_cons_succ])
                  refine wpAnyH_take (i := 19) (oi := ⟨some 130, _, _, _, _, _⟩) (v := ?vxn19) rfl (by kernel_rfl) (by kernel_rfl) (by kernel_rfl) (fun _ _ _ h => h) (Or.inl ⟨by kernel_rfl, ?hyxn19⟩) (by assumption) ?restxn19
                  case hyxn19 => (intro w hSw; (try dsimp only at hSw); go_simp; try with_reducible rfl)
                  (try simp only [Act.put, List.setIfInBounds_toArray, List.set_cons_zero, List.set_cons_succ])
                  have DS := Lib.hid (show Disks g1 wA ((gd, both (fil X (i + 1)) (fil Y j)) :: L) _ from none_a X Y i j (by omega) ▸ DA.out)
                  have BS := BA
                  clear BA DA
                  refine wpAnyH_take (i := 20) (oi := ⟨some 131, _, _, _, _, _⟩) (v := undef) rfl (by kernel_rfl) (by kernel_rfl) (by kernel_rfl) (fun _ _ _ h => h) (Or.inr ⟨by kernel_rfl, rfl⟩) (by assumption) ?_
                  (try simp only [Act.put, List.setIfInBounds_toArray, List.set_cons_zero, List.set_cons_succ])
                  refine wpAnyH_take (i := 21) (oi := ⟨some 132, _, _, _, _, _⟩) (v := undef) rfl (by kernel_rfl) (by kernel_rfl) (by kernel_rfl) (fun _ _ _ h => h) (Or.inr ⟨by kernel_rfl, rfl⟩) (by assumption) ?_
                  (try simp only [Act.put, List.setIfInBounds_toArray, List.set_cons_zero, List.set_cons_succ])
                  refine wpAnyH_take (i := 22) (oi := ⟨some 133, _, _, _, _, _⟩) (v := undef) rfl (by kernel_rfl) (by kernel_rfl) (by kernel_rfl) (fun _ _ _ h => h) (Or.inr ⟨by kernel_rfl, rfl⟩) (by assumption) ?_
                  (try simp only [Act.put, List.setIfInBounds_toArray, List.set_cons_zero, List.set_cons_succ])
                  refine wpAnyH_take (i := 23) (oi := ⟨some 134, _, _, _, _, _⟩) (v := undef) rfl (by kernel_rfl) (by kernel_rfl) (by kernel_rfl) (fun _ _ _ h => h) (Or.inr ⟨by kernel_rfl, rfl⟩) (by assumption) ?_
                  (try simp only [Act.put, List.setIfInBounds_toArray, List.set_cons_zero, List.set_cons_succ])
                  refine wpAnyH_take (i := 24) (oi := ⟨some 135, _, _, _, _, _⟩) (v := ?vxn24) rfl (by kernel_rfl) (by kernel_rfl) (by kernel_rfl) (fun _ _ _ h => h) (Or.inl ⟨by kernel_rfl, ?hyxn24⟩) (by assumption) ?restxn24
                  case hyxn24 => (intro w hSw; (try dsimp only at hSw); go_simp; try with_reducible rfl)
                  (try simp only [Act.put, List.setIfInBounds_toArray, List.set_cons_zero, List.set_cons_succ])
                  refine wpAnyH_take (i := 25) (oi := ⟨some 136, _, _, _, _, _⟩) (v := ?vxn25) rfl (by kernel_rfl) (by kernel_rfl) (by kernel_rfl) (fun _ _ _ h => h) (Or.inl ⟨by kernel_rfl, ?hyxn25⟩) (by assumption) ?restxn25
                  case hyxn25 => (intro w hSw; (try dsimp only at hSw); go_simp; try with_reducible rfl)
                  (try simp only [Act.put, List.setIfInBounds_toArray, List.set_cons_zero, List.set_cons_succ])
                  refine wpAnyH_done (by kernel_rfl) ?_ _
                  clear hHeld3 hm1 hm2 hab
                  have a0 : wA.cell? ⟨gA, 0, none⟩ = some (.int .i64 i) := DS.out.cell 0
                  have a1 : wA.frozen? ⟨gA, 0, none⟩ = false := Blk.free (show Blk wA gA 56 _ from DS.out.rest.head) 0
                  have DE := DS.out.put 0 (.int .i64 ((i + 1 : Nat) : Int))
                  have BE := BS.setCell (p := ⟨gA, 0, none⟩) (HGA.out) (.int .i64 ((i + 1 : Nat) : Int))
                  go_wp2_with fail
                  go_roundw
                  case rel => exact ⟨i + 1, j, q + 1, by go_num, by omega, by omega, by omega, by omega, DE, BE⟩
                  case measure => simp [intOf] <;> omega
              | true =>
                clear hbi
                by_cases hj1 : j = n1
                · have hin : i < n0 := by omega
                  have hjb : ((j : Int) == n1) = true := by rw [hj1]; simp
                  go_wp2_with fail
                  go_quiet (fail)
                  go_wp2_with fail
                  have hnm : (⟨#[97, 98]⟩ : ByteArray).extract 0 1 = ⟨#[97]⟩ := by decide
                  rw [hnm]
                  have hil : i < X.length := by have := N0.out; omega
                  obtain ⟨ad, rfl, hab, hc⟩ := R0.out (by simp [Strs]; omega)
                  have hcx : w0.cell? (ad.add i) = some (.string (X[i]'hil)) := hc i _ (by simp [Strs, hil])
                  have hgd : X.getD i ⟨#[]⟩ = X[i]'hil := by simp [List.getD, hil]
                  have hxs := SX.out _ (List.getElem_mem hil)
                  have HAP := step_a X Y i j (by have := N0.out; omega) (by have := N1.out; omega) HS.out
                  rw [hgd] at HAP
                  generalize (X[i]'hil) = x at hcx hxs HAP
                  have hS : ∀ W F R, Below g1 w0 W → Disks g1 W F (Asn.blk gA 56 [.int .i64 i, .int .i64 j] :: R) → W.cell? ⟨gx, 0, none⟩ = some (.slice (some ad) n0 c0) ∧ W.cell? ⟨gA, 0, none⟩ = some (.int .i64 i) ∧ W.cell? (ad.add i) = some (.string x) := fun W F R hW hD =>
                    ⟨(HC.out W hW).1, hD.cell 0, by rw [hW.cell (by rw [add_block]; exact hab)]; exact hcx⟩
                  have HSS := Lib.hid hS
                  have HAP2 := Lib.hid HAP
                  have DW := Lib.hid ((DR.out.below (Below.dr (Below.refl _ _) nq)).drew)
                  have BW := (Below.dr br nq).drew
                  have HMD := Lib.hid (Int.tmod_eq_emod_of_nonneg (b := 3) (Int.natCast_nonneg i))
                  clear hS HAP hgd hc hcx a0 a1 e0 e1 DR br hnm
                  generalize wr.drewN nq = W0 at DW BW ⊢
                  have hiI : (i : Int) < n0 := by omega
                  by_cases hmm : i % 3 = 1
                  · have hm1 : (((i : Int) % 3 == 1) = true) := by rw [beq_iff_eq]; omega
                    have hm2 : (((i : Int).tmod 3 == 1) = true) := by rw [HMD.out]; exact hm1
                    have hkt := conv_text
                    refine wp_region_held_drew (S := fun W => (W.cell? ⟨gx, 0, none⟩ = some (.slice (some ad) n0 c0) ∧ W.cell? ⟨gA, 0, none⟩ = some (.int .i64 i) ∧ W.cell? (ad.add i) = some (.string x)) ∧ (((i : Int).tmod 3 == 1) = true) ∧ (((i : Int) % 3 == 1) = true)) (by kernel_rfl) ⟨HSS.out _ _ _ BW DW.out, hm2, hm1⟩ (fun hHeld => ?_)
                    refine wpAnyH_take (i := 0) (oi := ⟨some 111, _, _, _, _, _⟩) (v := ?vys0) rfl (by kernel_rfl) (by kernel_rfl) (by kernel_rfl) (fun _ _ _ h => h) (Or.inl ⟨by kernel_rfl, ?hyys0⟩) (by assumption) ?restys0
                    case hyys0 => (intro w hSw; (try dsimp only at hSw); go_simp; try with_reducible rfl)
                    (try simp only [Act.put, List.setIfInBounds_toArray, List.set_cons_zero, List.set_cons_succ])
                    refine wpAnyH_take (i := 1) (oi := ⟨some 112, _, _, _, _, _⟩) (v := ?vys1) rfl (by kernel_rfl) (by kernel_rfl) (by kernel_rfl) (fun _ _ _ h => h) (Or.inl ⟨by kernel_rfl, ?hyys1⟩) (by assumption) ?restys1
                    case hyys1 => (intro w hSw; (try dsimp only at hSw); go_simp; try with_reducible rfl)
                    (try simp only [Act.put, List.setIfInBounds_toArray, List.set_cons_zero, List.set_cons_succ])
                    refine wpAnyH_take (i := 2) (oi := ⟨some 113, _, _, _, _, _⟩) (v := ?vys2) rfl (by kernel_rfl) (by kernel_rfl) (by kernel_rfl) (fun _ _ _ h => h) (Or.inl ⟨by kernel_rfl, ?hyys2⟩) (by assumption) ?restys2
                    case hyys2 => (intro w hSw; (try dsimp only at hSw); go_simp; try with_reducible rfl)
                    (try simp only [Act.put, List.setIfInBounds_toArray, List.set_cons_zero, List.set_cons_succ])
                    refine wpAnyH_take (i := 3) (oi := ⟨some 114, _, _, _, _, _⟩) (v := ?vys3) rfl (by kernel_rfl) (by kernel_rfl) (by kernel_rfl) (fun _ _ _ h => h) (Or.inl ⟨by kernel_rfl, ?hyys3⟩) (by assumption) ?restys3
                    case hyys3 => (intro w hSw; (try dsimp only at hSw); go_simp; try with_reducible rfl)
                    (try simp only [Act.put, List.setIfInBounds_toArray, List.set_cons_zero, List.set_cons_succ])
                    refine wpAnyH_take (i := 4) (oi := ⟨some 115, _, _, _, _, _⟩) (v := ?vys4) rfl (by kernel_rfl) (by kernel_rfl) (by kernel_rfl) (fun _ _ _ h => h) (Or.inl ⟨by kernel_rfl, ?hyys4⟩) (by assumption) ?restys4
                    case hyys4 => (intro w hSw; (try dsimp only at hSw); go_simp; try with_reducible rfl)
                    (try simp only [Act.put, List.setIfInBounds_toArray, List.set_cons_zero, List.set_cons_succ])
                    refine wpAnyH_take (i := 5) (oi := ⟨some 116, _, _, _, _, _⟩) (v := ?vys5) rfl (by kernel_rfl) (by kernel_rfl) (by kernel_rfl) (fun _ _ _ h => h) (Or.inl ⟨by kernel_rfl, ?hyys5⟩) (by assumption) ?restys5
                    case hyys5 => (intro w hSw; (try dsimp only at hSw); go_simp; try with_reducible rfl)
                    (try simp only [Act.put, List.setIfInBounds_toArray, List.set_cons_zero, List.set_cons_succ])
                    refine wpAnyH_take (i := 6) (oi := ⟨some 117, _, _, _, _, _⟩) (v := ?vys6) rfl (by kernel_rfl) (by kernel_rfl) (by kernel_rfl) (fun _ _ _ h => h) (Or.inl ⟨by kernel_rfl, ?hyys6⟩) (by assumption) ?restys6
                    case hyys6 => (intro w hSw; (try dsimp only at hSw); go_simp; try with_reducible rfl)
                    (try simp only [Act.put, List.setIfInBounds_toArray, List.set_cons_zero, List.set_cons_succ])
                    refine wpAnyH_take (i := 7) (oi := ⟨some 118, _, _, _, _, _⟩) (v := ?vys7) rfl (by kernel_rfl) (by kernel_rfl) (by kernel_rfl) (fun _ _ _ h => h) (Or.inl ⟨by kernel_rfl, ?hyys7⟩) (by assumption) ?restys7
                    case hyys7 => (intro w hSw; (try dsimp only at hSw); go_simp; try with_reducible rfl)
                    (try simp only [Act.put, List.setIfInBounds_toArray, List.set_cons_zero, List.set_cons_succ])
                    refine wpAnyH_take (i := 8) (oi := ⟨some 119, _, _, _, _, _⟩) (v := ?vys8) rfl (by kernel_rfl) (by kernel_rfl) (by kernel_rfl) (fun _ _ _ h => h) (Or.inl ⟨by kernel_rfl, ?hyys8⟩) (by assumption) ?restys8
                    case hyys8 => (intro w hSw; (try dsimp only at hSw); go_simp; try with_reducible rfl)
                    (try simp only [Act.put, List.setIfInBounds_toArray, List.set_cons_zero, List.set_cons_succ])
                    refine wpAnyH_take (i := 9) (oi := ⟨some 120, _, _, _, _, _⟩) (v := ?vys9) rfl (by kernel_rfl) (by kernel_rfl) (by kernel_rfl) (fun _ _ _ h => h) (Or.inl ⟨by kernel_rfl, ?hyys9⟩) (by assumption) ?restys9
                    case hyys9 => (intro w hSw; (try dsimp only at hSw); go_simp; try with_reducible rfl)
                    (try simp only [Act.put, List.setIfInBounds_toArray, List.set_cons_zero, List.set_cons_succ])
                    refine wpAnyH_ready (rs := [10]) (by kernel_rfl) (by simp) ?_
                    refine AllReadyH.cons rfl (fun K hK => ?_) AllReadyH.nil
                    go_simp
                    have DC := Lib.hid (DW.out.below (below_text W0.drew 5 x))
                    have HRD := Lib.hid (show Rd _ _ (some ⟨W0.heap.size, 0, none⟩) _ from rd_text W0.drew 5 x)
                    have BC := BW.trans ((below_text W0.drew 5 x).mono (Nat.le_trans hg0 BW.size))
                    refine hK.out _ _ ⟨HSS.out _ _ _ BC DC.out, hm2, hm1⟩ (fun hHeld2 => ?_)
                    clear hK K hHeld hkt
                    refine wpAnyH_ready (rs := [11]) (by kernel_rfl) (by simp) ?_
                    refine AllReadyH.cons rfl (fun K hK => ?_) AllReadyH.nil
                    go_simp
                    (with_reducible refine (Append_at (bs := bys x) DC.out (by decide) (by rw [length_bys]) (by omega) (isU8_bys _) HRD.out HAP2.out).mono ?_)
                    rintro e wA ⟨rfl, dA, bA⟩
                    have BA := BC.trans bA
                    have DA := Lib.hid dA
                    clear BC DC dA bA DW BW
                    go_simp
                    refine hK.out _ _ ⟨HSS.out _ _ _ BA DA.out, hm2, hm1⟩ (fun hHeld3 => ?_)
                    clear hK K hHeld2
                    refine wpAnyH_take (i := 12) (oi := ⟨some 123, _, _, _, _, _⟩) (v := ?vys12) rfl (by kernel_rfl) (by kernel_rfl) (by kernel_rfl) (fun _ _ _ h => h) (Or.inl ⟨by kernel_rfl, ?hyys12⟩) (by assumption) ?restys12
                    case hyys12 => (intro w hSw; (try dsimp only at hSw); go_simp; try with_reducible rfl)
                    (try simp only [Act.put, List.setIfInBounds_toArray, List.set_cons_zero, List.set_cons_succ])
                    refine wpAnyH_take (i := 13) (oi := ⟨some 124, _, _, _, _, _⟩) (v := ?vys13) rfl (by kernel_rfl) (by kernel_rfl) (by kernel_rfl) (fun _ _ _ h => h) (Or.inl ⟨by kernel_rfl, ?hyys13⟩) (by assumption) ?restys13
                    case hyys13 => (intro w hSw; (try dsimp only at hSw); go_simp; try with_reducible rfl)
                    (try simp only [Act.put, List.setIfInBounds_toArray, List.set_cons_zero, List.set_cons_succ])
                    refine wpAnyH_take (i := 14) (oi := ⟨some 125, _, _, _, _, _⟩) (v := ?vys14) rfl (by kernel_rfl) (by kernel_rfl) (by kernel_rfl) (fun _ _ _ h => h) (Or.inl ⟨by kernel_rfl, ?hyys14⟩) (by assumption) ?restys14
                    case hyys14 => (intro w hSw; (try dsimp only at hSw); go_simp; try with_reducible rfl)
                    (try simp only [Act.put, List.setIfInBounds_toArray, List.set_cons_zero, List.set_cons_succ])
                    refine wpAnyH_take (i := 15) (oi := ⟨some 126, _, _, _, _, _⟩) (v := ?vys15) rfl (by kernel_rfl) (by kernel_rfl) (by kernel_rfl) (fun _ _ _ h => h) (Or.inl ⟨by kernel_rfl, ?hyys15⟩) (by assumption) ?restys15
                    case hyys15 => (intro w hSw; (try dsimp only at hSw); go_simp; try with_reducible rfl)
                    (try simp only [Act.put, List.setIfInBounds_toArray, List.set_cons_zero, List.set_cons_succ])
                    refine wpAnyH_take (i := 16) (oi := ⟨some 127, _, _, _, _, _⟩) (v := ?vys16) rfl (by kernel_rfl) (by kernel_rfl) (by kernel_rfl) (fun _ _ _ h => h) (Or.inl ⟨by kernel_rfl, ?hyys16⟩) (by assumption) ?restys16
                    case hyys16 => (intro w hSw; (try dsimp only at hSw); go_simp; try with_reducible rfl)
                    (try simp only [Act.put, List.setIfInBounds_toArray, List.set_cons_zero, List.set_cons_succ])
                    refine wpAnyH_take (i := 17) (oi := ⟨some 128, _, _, _, _, _⟩) (v := ?vys17) rfl (by kernel_rfl) (by kernel_rfl) (by kernel_rfl) (fun _ _ _ h => h) (Or.inl ⟨by kernel_rfl, ?hyys17⟩) (by assumption) ?restys17
                    case hyys17 => (intro w hSw; (try dsimp only at hSw); go_simp; try with_reducible rfl)
                    (try simp only [Act.put, List.setIfInBounds_toArray, List.set_cons_zero, List.set_cons_succ])
                    refine wpAnyH_take (i := 18) (oi := ⟨some 129, _, _, _, _, _⟩) (v := ?vys18) rfl (by kernel_rfl) (by kernel_rfl) (by kernel_rfl) (fun _ _ _ h => h) (Or.inl ⟨by kernel_rfl, ?hyys18⟩) (by assumption) ?restys18
                    case hyys18 => (intro w hSw; (try dsimp only at hSw); go_simp; try with_reducible rfl)
                    (try simp only [Act.put, List.setIfInBounds_toArray, List.set_cons_zero, List.set_cons_succ])
                    refine wpAnyH_take (i := 19) (oi := ⟨some 130, _, _, _, _, _⟩) (v := ?vys19) rfl (by kernel_rfl) (by kernel_rfl) (by kernel_rfl) (fun _ _ _ h => h) (Or.inl ⟨by kernel_rfl, ?hyys19⟩) (by assumption) ?restys19
                    case hyys19 => (intro w hSw; (try dsimp only at hSw); go_simp; try with_reducible rfl)
                    (try simp only [Act.put, List.setIfInBounds_toArray, List.set_cons_zero, List.set_cons_succ])
                    refine wpAnyH_take (i := 20) (oi := ⟨some 131, _, _, _, _, _⟩) (v := ?vys20) rfl (by kernel_rfl) (by kernel_rfl) (by kernel_rfl) (fun _ _ _ h => h) (Or.inl ⟨by kernel_rfl, ?hyys20⟩) (by assumption) ?restys20
                    case hyys20 => (intro w hSw; (try dsimp only at hSw); go_simp; try with_reducible rfl)
                    (try simp only [Act.put, List.setIfInBounds_toArray, List.set_cons_zero, List.set_cons_succ])
                    refine wpAnyH_take (i := 21) (oi := ⟨some 132, _, _, _, _, _⟩) (v := ?vys21) rfl (by kernel_rfl) (by kernel_rfl) (by kernel_rfl) (fun _ _ _ h => h) (Or.inl ⟨by kernel_rfl, ?hyys21⟩) (by assumption) ?restys21
                    case hyys21 => (intro w hSw; (try dsimp only at hSw); go_simp; try with_reducible rfl)
                    (try simp only [Act.put, List.setIfInBounds_toArray, List.set_cons_zero, List.set_cons_succ])
                    refine wpAnyH_ready (rs := [22]) (by kernel_rfl) (by simp) ?_
                    refine AllReadyH.cons rfl (fun K hK => ?_) AllReadyH.nil
                    go_simp
                    (with_reducible refine (Sync_at DA.out (by decide) (safe_a X Y i j (by omega))).mono ?_)
                    rintro e wS ⟨rfl, dS, bS⟩
                    have BS := BA.trans bS
                    have DS := Lib.hid dS
                    clear BA DA dS bS
                    go_simp
                    refine hK.out _ _ ⟨HSS.out _ _ _ BS DS.out, hm2, hm1⟩ (fun hHeld4 => ?_)
                    clear hK K hHeld3
                    refine wpAnyH_take (i := 23) (oi := ⟨some 134, _, _, _, _, _⟩) (v := ?vys23) rfl (by kernel_rfl) (by kernel_rfl) (by kernel_rfl) (fun _ _ _ h => h) (Or.inl ⟨by kernel_rfl, ?hyys23⟩) (by assumption) ?restys23
                    case hyys23 => (intro w hSw; (try dsimp only at hSw); go_simp; try with_reducible rfl)
                    (try simp only [Act.put, List.setIfInBounds_toArray, List.set_cons_zero, List.set_cons_succ])
                    refine wpAnyH_take (i := 24) (oi := ⟨some 135, _, _, _, _, _⟩) (v := ?vys24) rfl (by kernel_rfl) (by kernel_rfl) (by kernel_rfl) (fun _ _ _ h => h) (Or.inl ⟨by kernel_rfl, ?hyys24⟩) (by assumption) ?restys24
                    case hyys24 => (intro w hSw; (try dsimp only at hSw); go_simp; try with_reducible rfl)
                    (try simp only [Act.put, List.setIfInBounds_toArray, List.set_cons_zero, List.set_cons_succ])
                    refine wpAnyH_take (i := 25) (oi := ⟨some 136, _, _, _, _, _⟩) (v := ?vys25) rfl (by kernel_rfl) (by kernel_rfl) (by kernel_rfl) (fun _ _ _ h => h) (Or.inl ⟨by kernel_rfl, ?hyys25⟩) (by assumption) ?restys25
                    case hyys25 => (intro w hSw; (try dsimp only at hSw); go_simp; try with_reducible rfl)
                    (try simp only [Act.put, List.setIfInBounds_toArray, List.set_cons_zero, List.set_cons_succ])
                    refine wpAnyH_done (by kernel_rfl) ?_ _
                    clear hHeld4 hm1 hm2 hab
                    have a0 : wS.cell? ⟨gA, 0, none⟩ = some (.int .i64 i) := DS.out.cell 0
                    have a1 : wS.frozen? ⟨gA, 0, none⟩ = false := Blk.free (show Blk wS gA 56 _ from DS.out.rest.head) 0
                    have DE := DS.out.put 0 (.int .i64 ((i + 1 : Nat) : Int))
                    have BE := BS.setCell (p := ⟨gA, 0, none⟩) (HGA.out) (.int .i64 ((i + 1 : Nat) : Int))
                    go_wp2_with fail
                    go_roundw
                    case rel => exact ⟨i + 1, j, q + 1, by go_num, by omega, by omega, by omega, by omega, DE, BE⟩
                    case measure => simp [intOf] <;> omega
                  · have hm1 : (((i : Int) % 3 == 1) = false) := by rw [beq_eq_false_iff_ne]; omega
                    have hm2 : (((i : Int).tmod 3 == 1) = false) := by rw [HMD.out]; exact hm1
                    have hkt := conv_text
                    refine wp_region_held_drew (S := fun W => (W.cell? ⟨gx, 0, none⟩ = some (.slice (some ad) n0 c0) ∧ W.cell? ⟨gA, 0, none⟩ = some (.int .i64 i) ∧ W.cell? (ad.add i) = some (.string x)) ∧ (((i : Int).tmod 3 == 1) = false) ∧ (((i : Int) % 3 == 1) = false)) (by kernel_rfl) ⟨HSS.out _ _ _ BW DW.out, hm2, hm1⟩ (fun hHeld => ?_)
                    refine wpAnyH_take (i := 0) (oi := ⟨some 111, _, _, _, _, _⟩) (v := ?vyn0) rfl (by kernel_rfl) (by kernel_rfl) (by kernel_rfl) (fun _ _ _ h => h) (Or.inl ⟨by kernel_rfl, ?hyyn0⟩) (by assumption) ?restyn0
                    case hyyn0 => (intro w hSw; (try dsimp only at hSw); go_simp; try with_reducible rfl)
                    (try simp only [Act.put, List.setIfInBounds_toArray, List.set_cons_zero, List.set_cons_succ])
                    refine wpAnyH_take (i := 1) (oi := ⟨some 112, _, _, _, _, _⟩) (v := ?vyn1) rfl (by kernel_rfl) (by kernel_rfl) (by kernel_rfl) (fun _ _ _ h => h) (Or.inl ⟨by kernel_rfl, ?hyyn1⟩) (by assumption) ?restyn1
                    case hyyn1 => (intro w hSw; (try dsimp only at hSw); go_simp; try with_reducible rfl)
                    (try simp only [Act.put, List.setIfInBounds_toArray, List.set_cons_zero, List.set_cons_succ])
                    refine wpAnyH_take (i := 2) (oi := ⟨some 113, _, _, _, _, _⟩) (v := ?vyn2) rfl (by kernel_rfl) (by kernel_rfl) (by kernel_rfl) (fun _ _ _ h => h) (Or.inl ⟨by kernel_rfl, ?hyyn2⟩) (by assumption) ?restyn2
                    case hyyn2 => (intro w hSw; (try dsimp only at hSw); go_simp; try with_reducible rfl)
                    (try simp only [Act.put, List.setIfInBounds_toArray, List.set_cons_zero, List.set_cons_succ])
                    refine wpAnyH_take (i := 3) (oi := ⟨some 114, _, _, _, _, _⟩) (v := ?vyn3) rfl (by kernel_rfl) (by kernel_rfl) (by kernel_rfl) (fun _ _ _ h => h) (Or.inl ⟨by kernel_rfl, ?hyyn3⟩) (by assumption) ?restyn3
                    case hyyn3 => (intro w hSw; (try dsimp only at hSw); go_simp; try with_reducible rfl)
                    (try simp only [Act.put, List.setIfInBounds_toArray, List.set_cons_zero, List.set_cons_succ])
                    refine wpAnyH_take (i := 4) (oi := ⟨some 115, _, _, _, _, _⟩) (v := ?vyn4) rfl (by kernel_rfl) (by kernel_rfl) (by kernel_rfl) (fun _ _ _ h => h) (Or.inl ⟨by kernel_rfl, ?hyyn4⟩) (by assumption) ?restyn4
                    case hyyn4 => (intro w hSw; (try dsimp only at hSw); go_simp; try with_reducible rfl)
                    (try simp only [Act.put, List.setIfInBounds_toArray, List.set_cons_zero, List.set_cons_succ])
                    refine wpAnyH_take (i := 5) (oi := ⟨some 116, _, _, _, _, _⟩) (v := ?vyn5) rfl (by kernel_rfl) (by kernel_rfl) (by kernel_rfl) (fun _ _ _ h => h) (Or.inl ⟨by kernel_rfl, ?hyyn5⟩) (by assumption) ?restyn5
                    case hyyn5 => (intro w hSw; (try dsimp only at hSw); go_simp; try with_reducible rfl)
                    (try simp only [Act.put, List.setIfInBounds_toArray, List.set_cons_zero, List.set_cons_succ])
                    refine wpAnyH_take (i := 6) (oi := ⟨some 117, _, _, _, _, _⟩) (v := ?vyn6) rfl (by kernel_rfl) (by kernel_rfl) (by kernel_rfl) (fun _ _ _ h => h) (Or.inl ⟨by kernel_rfl, ?hyyn6⟩) (by assumption) ?restyn6
                    case hyyn6 => (intro w hSw; (try dsimp only at hSw); go_simp; try with_reducible rfl)
                    (try simp only [Act.put, List.setIfInBounds_toArray, List.set_cons_zero, List.set_cons_succ])
                    refine wpAnyH_take (i := 7) (oi := ⟨some 118, _, _, _, _, _⟩) (v := ?vyn7) rfl (by kernel_rfl) (by kernel_rfl) (by kernel_rfl) (fun _ _ _ h => h) (Or.inl ⟨by kernel_rfl, ?hyyn7⟩) (by assumption) ?restyn7
                    case hyyn7 => (intro w hSw; (try dsimp only at hSw); go_simp; try with_reducible rfl)
                    (try simp only [Act.put, List.setIfInBounds_toArray, List.set_cons_zero, List.set_cons_succ])
                    refine wpAnyH_take (i := 8) (oi := ⟨some 119, _, _, _, _, _⟩) (v := ?vyn8) rfl (by kernel_rfl) (by kernel_rfl) (by kernel_rfl) (fun _ _ _ h => h) (Or.inl ⟨by kernel_rfl, ?hyyn8⟩) (by assumption) ?restyn8
                    case hyyn8 => (intro w hSw; (try dsimp only at hSw); go_simp; try with_reducible rfl)
                    (try simp only [Act.put, List.setIfInBounds_toArray, List.set_cons_zero, List.set_cons_succ])
                    refine wpAnyH_take (i := 9) (oi := ⟨some 120, _, _, _, _, _⟩) (v := ?vyn9) rfl (by kernel_rfl) (by kernel_rfl) (by kernel_rfl) (fun _ _ _ h => h) (Or.inl ⟨by kernel_rfl, ?hyyn9⟩) (by assumption) ?restyn9
                    case hyyn9 => (intro w hSw; (try dsimp only at hSw); go_simp; try with_reducible rfl)
                    (try simp only [Act.put, List.setIfInBounds_toArray, List.set_cons_zero, List.set_cons_succ])
                    refine wpAnyH_ready (rs := [10]) (by kernel_rfl) (by simp) ?_
                    refine AllReadyH.cons rfl (fun K hK => ?_) AllReadyH.nil
                    go_simp
                    have DC := Lib.hid (DW.out.below (below_text W0.drew 5 x))
                    have HRD := Lib.hid (show Rd _ _ (some ⟨W0.heap.size, 0, none⟩) _ from rd_text W0.drew 5 x)
                    have BC := BW.trans ((below_text W0.drew 5 x).mono (Nat.le_trans hg0 BW.size))
                    refine hK.out _ _ ⟨HSS.out _ _ _ BC DC.out, hm2, hm1⟩ (fun hHeld2 => ?_)
                    clear hK K hHeld hkt
                    refine wpAnyH_ready (rs := [11]) (by kernel_rfl) (by simp) ?_
                    refine AllReadyH.cons rfl (fun K hK => ?_) AllReadyH.nil
                    go_simp
                    (with_reducible refine (Append_at (bs := bys x) DC.out (by decide) (by rw [length_bys]) (by omega) (isU8_bys _) HRD.out HAP2.out).mono ?_)
                    rintro e wA ⟨rfl, dA, bA⟩
                    have BA := BC.trans bA
                    have DA := Lib.hid dA
                    clear BC DC dA bA DW BW
                    go_simp
                    refine hK.out _ _ ⟨HSS.out _ _ _ BA DA.out, hm2, hm1⟩ (fun hHeld3 => ?_)
                    clear hK K hHeld2
                    refine wpAnyH_take (i := 12) (oi := ⟨some 123, _, _, _, _, _⟩) (v := ?vyn12) rfl (by kernel_rfl) (by kernel_rfl) (by kernel_rfl) (fun _ _ _ h => h) (Or.inl ⟨by kernel_rfl, ?hyyn12⟩) (by assumption) ?restyn12
                    case hyyn12 => (intro w hSw; (try dsimp only at hSw); go_simp; try with_reducible rfl)
                    (try simp only [Act.put, List.setIfInBounds_toArray, List.set_cons_zero, List.set_cons_succ])
                    refine wpAnyH_take (i := 13) (oi := ⟨some 124, _, _, _, _, _⟩) (v := ?vyn13) rfl (by kernel_rfl) (by kernel_rfl) (by kernel_rfl) (fun _ _ _ h => h) (Or.inl ⟨by kernel_rfl, ?hyyn13⟩) (by assumption) ?restyn13
                    case hyyn13 => (intro w hSw; (try dsimp only at hSw); go_simp; try with_reducible rfl)
                    (try simp only [Act.put, List.setIfInBounds_toArray, List.set_cons_zero, List.set_cons_succ])
                    refine wpAnyH_take (i := 14) (oi := ⟨some 125, _, _, _, _, _⟩) (v := ?vyn14) rfl (by kernel_rfl) (by kernel_rfl) (by kernel_rfl) (fun _ _ _ h => h) (Or.inl ⟨by kernel_rfl, ?hyyn14⟩) (by assumption) ?restyn14
                    case hyyn14 => (intro w hSw; (try dsimp only at hSw); go_simp; try with_reducible rfl)
                    (try simp only [Act.put, List.setIfInBounds_toArray, List.set_cons_zero, List.set_cons_succ])
                    refine wpAnyH_take (i := 15) (oi := ⟨some 126, _, _, _, _, _⟩) (v := ?vyn15) rfl (by kernel_rfl) (by kernel_rfl) (by kernel_rfl) (fun _ _ _ h => h) (Or.inl ⟨by kernel_rfl, ?hyyn15⟩) (by assumption) ?restyn15
                    case hyyn15 => (intro w hSw; (try dsimp only at hSw); go_simp; try with_reducible rfl)
                    (try simp only [Act.put, List.setIfInBounds_toArray, List.set_cons_zero, List.set_cons_succ])
                    refine wpAnyH_take (i := 16) (oi := ⟨some 127, _, _, _, _, _⟩) (v := ?vyn16) rfl (by kernel_rfl) (by kernel_rfl) (by kernel_rfl) (fun _ _ _ h => h) (Or.inl ⟨by kernel_rfl, ?hyyn16⟩) (by assumption) ?restyn16
                    case hyyn16 => (intro w hSw; (try dsimp only at hSw); go_simp; try with_reducible rfl)
                    (try simp only [Act.put, List.setIfInBounds_toArray, List.set_cons_zero, List.set_cons_succ])
                    refine wpAnyH_take (i := 17) (oi := ⟨some 128, _, _, _, _, _⟩) (v := ?vyn17) rfl (by kernel_rfl) (by kernel_rfl) (by kernel_rfl) (fun _ _ _ h => h) (Or.inl ⟨by kernel_rfl, ?hyyn17⟩) (by assumption) ?restyn17
                    case hyyn17 => (intro w hSw; (try dsimp only at hSw); go_simp; try with_reducible rfl)
                    (try simp only [Act.put, List.setIfInBounds_toArray, List.set_cons_zero, List.set_cons_succ])
                    refine wpAnyH_take (i := 18) (oi := ⟨some 129, _, _, _, _, _⟩) (v := ?vyn18) rfl (by kernel_rfl) (by kernel_rfl) (by kernel_rfl) (fun _ _ _ h => h) (Or.inl ⟨by kernel_rfl, ?hyyn18⟩) (by assumption) ?restyn18
                    case hyyn18 => (intro w hSw; (try dsimp only at hSw); go_simp; try with_reducible rfl)
                    (try simp only [Act.put, List.setIfInBounds_toArray, List.set_cons_zero, List.set_cons_succ])
                    refine wpAnyH_take (i := 19) (oi := ⟨some 130, _, _, _, _, _⟩) (v := ?vyn19) rfl (by kernel_rfl) (by kernel_rfl) (by kernel_rfl) (fun _ _ _ h => h) (Or.inl ⟨by kernel_rfl, ?hyyn19⟩) (by assumption) ?restyn19
                    case hyyn19 => (intro w hSw; (try dsimp only at hSw); go_simp; try with_reducible rfl)
                    (try simp only [Act.put, List.setIfInBounds_toArray, List.set_cons_zero, List.set_cons_succ])
                    have DS := Lib.hid (show Disks g1 wA ((gd, both (fil X (i + 1)) (fil Y j)) :: L) _ from none_a X Y i j (by omega) ▸ DA.out)
                    have BS := BA
                    clear BA DA
                    refine wpAnyH_take (i := 20) (oi := ⟨some 131, _, _, _, _, _⟩) (v := undef) rfl (by kernel_rfl) (by kernel_rfl) (by kernel_rfl) (fun _ _ _ h => h) (Or.inr ⟨by kernel_rfl, rfl⟩) (by assumption) ?_
                    (try simp only [Act.put, List.setIfInBounds_toArray, List.set_cons_zero, List.set_cons_succ])
                    refine wpAnyH_take (i := 21) (oi := ⟨some 132, _, _, _, _, _⟩) (v := undef) rfl (by kernel_rfl) (by kernel_rfl) (by kernel_rfl) (fun _ _ _ h => h) (Or.inr ⟨by kernel_rfl, rfl⟩) (by assumption) ?_
                    (try simp only [Act.put, List.setIfInBounds_toArray, List.set_cons_zero, List.set_cons_succ])
                    refine wpAnyH_take (i := 22) (oi := ⟨some 133, _, _, _, _, _⟩) (v := undef) rfl (by kernel_rfl) (by kernel_rfl) (by kernel_rfl) (fun _ _ _ h => h) (Or.inr ⟨by kernel_rfl, rfl⟩) (by assumption) ?_
                    (try simp only [Act.put, List.setIfInBounds_toArray, List.set_cons_zero, List.set_cons_succ])
                    refine wpAnyH_take (i := 23) (oi := ⟨some 134, _, _, _, _, _⟩) (v := undef) rfl (by kernel_rfl) (by kernel_rfl) (by kernel_rfl) (fun _ _ _ h => h) (Or.inr ⟨by kernel_rfl, rfl⟩) (by assumption) ?_
                    (try simp only [Act.put, List.setIfInBounds_toArray, List.set_cons_zero, List.set_cons_succ])
                    refine wpAnyH_take (i := 24) (oi := ⟨some 135, _, _, _, _, _⟩) (v := ?vyn24) rfl (by kernel_rfl) (by kernel_rfl) (by kernel_rfl) (fun _ _ _ h => h) (Or.inl ⟨by kernel_rfl, ?hyyn24⟩) (by assumption) ?restyn24
                    case hyyn24 => (intro w hSw; (try dsimp only at hSw); go_simp; try with_reducible rfl)
                    (try simp only [Act.put, List.setIfInBounds_toArray, List.set_cons_zero, List.set_cons_succ])
                    refine wpAnyH_take (i := 25) (oi := ⟨some 136, _, _, _, _, _⟩) (v := ?vyn25) rfl (by kernel_rfl) (by kernel_rfl) (by kernel_rfl) (fun _ _ _ h => h) (Or.inl ⟨by kernel_rfl, ?hyyn25⟩) (by assumption) ?restyn25
                    case hyyn25 => (intro w hSw; (try dsimp only at hSw); go_simp; try with_reducible rfl)
                    (try simp only [Act.put, List.setIfInBounds_toArray, List.set_cons_zero, List.set_cons_succ])
                    refine wpAnyH_done (by kernel_rfl) ?_ _
                    clear hHeld3 hm1 hm2 hab
                    have a0 : wA.cell? ⟨gA, 0, none⟩ = some (.int .i64 i) := DS.out.cell 0
                    have a1 : wA.frozen? ⟨gA, 0, none⟩ = false := Blk.free (show Blk wA gA 56 _ from DS.out.rest.head) 0
                    have DE := DS.out.put 0 (.int .i64 ((i + 1 : Nat) : Int))
                    have BE := BS.setCell (p := ⟨gA, 0, none⟩) (HGA.out) (.int .i64 ((i + 1 : Nat) : Int))
                    go_wp2_with fail
                    go_roundw
                    case rel => exact ⟨i + 1, j, q + 1, by go_num, by omega, by omega, by omega, by omega, DE, BE⟩
                    case measure => simp [intOf] <;> omega
                · have hjn : j < n1 := by omega
                  have hjb : ((j : Int) == n1) = false := by simp <;> omega
                  go_wp2_with fail
                  go_quiet (fail)
                  go_wp2_with fail
                  have hnm : (⟨#[97, 98]⟩ : ByteArray).extract 1 2 = ⟨#[98]⟩ := by decide
                  rw [hnm]
                  have hil : j < Y.length := by have := N1.out; omega
                  obtain ⟨ad, rfl, hab, hc⟩ := R1.out (by simp [Strs]; omega)
                  have hcx : w0.cell? (ad.add j) = some (.string (Y[j]'hil)) := hc j _ (by simp [Strs, hil])
                  have hgd : Y.getD j ⟨#[]⟩ = Y[j]'hil := by simp [List.getD, hil]
                  have hxs := SY.out _ (List.getElem_mem hil)
                  have HAP := step_b X Y i j (by have := N0.out; omega) (by have := N1.out; omega) HS.out
                  rw [hgd] at HAP
                  generalize (Y[j]'hil) = x at hcx hxs HAP
                  have hS : ∀ W F R, Below g1 w0 W → Disks g1 W F (Asn.blk gA 56 [.int .i64 i, .int .i64 j] :: R) → W.cell? ⟨gx, 1, none⟩ = some (.slice (some ad) n1 c1) ∧ W.cell? ⟨gA, 1, none⟩ = some (.int .i64 j) ∧ W.cell? (ad.add j) = some (.string x) := fun W F R hW hD =>
                    ⟨(HC.out W hW).2, hD.cell 1, by rw [hW.cell (by rw [add_block]; exact hab)]; exact hcx⟩
                  have HSS := Lib.hid hS
                  have HAP2 := Lib.hid HAP
                  have DW := Lib.hid ((DR.out.below (Below.dr (Below.refl _ _) nq)).drew)
                  have BW := (Below.dr br nq).drew
                  have HMD := Lib.hid (Int.tmod_eq_emod_of_nonneg (b := 3) (Int.natCast_nonneg j))
                  clear hS HAP hgd hc hcx a0 a1 e0 e1 DR br hnm
                  generalize wr.drewN nq = W0 at DW BW ⊢
                  have hiI : (j : Int) < n1 := by omega
                  by_cases hmm : j % 3 = 1
                  · have hm1 : (((j : Int) % 3 == 1) = true) := by rw [beq_iff_eq]; omega
                    have hm2 : (((j : Int).tmod 3 == 1) = true) := by rw [HMD.out]; exact hm1
                    have hkt := conv_text
                    refine wp_region_held_drew (S := fun W => (W.cell? ⟨gx, 1, none⟩ = some (.slice (some ad) n1 c1) ∧ W.cell? ⟨gA, 1, none⟩ = some (.int .i64 j) ∧ W.cell? (ad.add j) = some (.string x)) ∧ (((j : Int).tmod 3 == 1) = true) ∧ (((j : Int) % 3 == 1) = true)) (by kernel_rfl) ⟨HSS.out _ _ _ BW DW.out, hm2, hm1⟩ (fun hHeld => ?_)
                    refine wpAnyH_take (i := 0) (oi := ⟨some 111, _, _, _, _, _⟩) (v := ?vzs0) rfl (by kernel_rfl) (by kernel_rfl) (by kernel_rfl) (fun _ _ _ h => h) (Or.inl ⟨by kernel_rfl, ?hyzs0⟩) (by assumption) ?restzs0
                    case hyzs0 => (intro w hSw; (try dsimp only at hSw); go_simp; try with_reducible rfl)
                    (try simp only [Act.put, List.setIfInBounds_toArray, List.set_cons_zero, List.set_cons_succ])
                    refine wpAnyH_take (i := 1) (oi := ⟨some 112, _, _, _, _, _⟩) (v := ?vzs1) rfl (by kernel_rfl) (by kernel_rfl) (by kernel_rfl) (fun _ _ _ h => h) (Or.inl ⟨by kernel_rfl, ?hyzs1⟩) (by assumption) ?restzs1
                    case hyzs1 => (intro w hSw; (try dsimp only at hSw); go_simp; try with_reducible rfl)
                    (try simp only [Act.put, List.setIfInBounds_toArray, List.set_cons_zero, List.set_cons_succ])
                    refine wpAnyH_take (i := 2) (oi := ⟨some 113, _, _, _, _, _⟩) (v := ?vzs2) rfl (by kernel_rfl) (by kernel_rfl) (by kernel_rfl) (fun _ _ _ h => h) (Or.inl ⟨by kernel_rfl, ?hyzs2⟩) (by assumption) ?restzs2
                    case hyzs2 => (intro w hSw; (try dsimp only at hSw); go_simp; try with_reducible rfl)
                    (try simp only [Act.put, List.setIfInBounds_toArray, List.set_cons_zero, List.set_cons_succ])
                    refine wpAnyH_take (i := 3) (oi := ⟨some 114, _, _, _, _, _⟩) (v := ?vzs3) rfl (by kernel_rfl) (by kernel_rfl) (by kernel_rfl) (fun _ _ _ h => h) (Or.inl ⟨by kernel_rfl, ?hyzs3⟩) (by assumption) ?restzs3
                    case hyzs3 => (intro w hSw; (try dsimp only at hSw); go_simp; try with_reducible rfl)
                    (try simp only [Act.put, List.setIfInBounds_toArray, List.set_cons_zero, List.set_cons_succ])
                    refine wpAnyH_take (i := 4) (oi := ⟨some 115, _, _, _, _, _⟩) (v := ?vzs4) rfl (by kernel_rfl) (by kernel_rfl) (by kernel_rfl) (fun _ _ _ h => h) (Or.inl ⟨by kernel_rfl, ?hyzs4⟩) (by assumption) ?restzs4
                    case hyzs4 => (intro w hSw; (try dsimp only at hSw); go_simp; try with_reducible rfl)
                    (try simp only [Act.put, List.setIfInBounds_toArray, List.set_cons_zero, List.set_cons_succ])
                    refine wpAnyH_take (i := 5) (oi := ⟨some 116, _, _, _, _, _⟩) (v := ?vzs5) rfl (by kernel_rfl) (by kernel_rfl) (by kernel_rfl) (fun _ _ _ h => h) (Or.inl ⟨by kernel_rfl, ?hyzs5⟩) (by assumption) ?restzs5
                    case hyzs5 => (intro w hSw; (try dsimp only at hSw); go_simp; try with_reducible rfl)
                    (try simp only [Act.put, List.setIfInBounds_toArray, List.set_cons_zero, List.set_cons_succ])
                    refine wpAnyH_take (i := 6) (oi := ⟨some 117, _, _, _, _, _⟩) (v := ?vzs6) rfl (by kernel_rfl) (by kernel_rfl) (by kernel_rfl) (fun _ _ _ h => h) (Or.inl ⟨by kernel_rfl, ?hyzs6⟩) (by assumption) ?restzs6
                    case hyzs6 => (intro w hSw; (try dsimp only at hSw); go_simp; try with_reducible rfl)
                    (try simp only [Act.put, List.setIfInBounds_toArray, List.set_cons_zero, List.set_cons_succ])
                    refine wpAnyH_take (i := 7) (oi := ⟨some 118, _, _, _, _, _⟩) (v := ?vzs7) rfl (by kernel_rfl) (by kernel_rfl) (by kernel_rfl) (fun _ _ _ h => h) (Or.inl ⟨by kernel_rfl, ?hyzs7⟩) (by assumption) ?restzs7
                    case hyzs7 => (intro w hSw; (try dsimp only at hSw); go_simp; try with_reducible rfl)
                    (try simp only [Act.put, List.setIfInBounds_toArray, List.set_cons_zero, List.set_cons_succ])
                    refine wpAnyH_take (i := 8) (oi := ⟨some 119, _, _, _, _, _⟩) (v := ?vzs8) rfl (by kernel_rfl) (by kernel_rfl) (by kernel_rfl) (fun _ _ _ h => h) (Or.inl ⟨by kernel_rfl, ?hyzs8⟩) (by assumption) ?restzs8
                    case hyzs8 => (intro w hSw; (try dsimp only at hSw); go_simp; try with_reducible rfl)
                    (try simp only [Act.put, List.setIfInBounds_toArray, List.set_cons_zero, List.set_cons_succ])
                    refine wpAnyH_take (i := 9) (oi := ⟨some 120, _, _, _, _, _⟩) (v := ?vzs9) rfl (by kernel_rfl) (by kernel_rfl) (by kernel_rfl) (fun _ _ _ h => h) (Or.inl ⟨by kernel_rfl, ?hyzs9⟩) (by assumption) ?restzs9
                    case hyzs9 => (intro w hSw; (try dsimp only at hSw); go_simp; try with_reducible rfl)
                    (try simp only [Act.put, List.setIfInBounds_toArray, List.set_cons_zero, List.set_cons_succ])
                    refine wpAnyH_ready (rs := [10]) (by kernel_rfl) (by simp) ?_
                    refine AllReadyH.cons rfl (fun K hK => ?_) AllReadyH.nil
                    go_simp
                    have DC := Lib.hid (DW.out.below (below_text W0.drew 5 x))
                    have HRD := Lib.hid (show Rd _ _ (some ⟨W0.heap.size, 0, none⟩) _ from rd_text W0.drew 5 x)
                    have BC := BW.trans ((below_text W0.drew 5 x).mono (Nat.le_trans hg0 BW.size))
                    refine hK.out _ _ ⟨HSS.out _ _ _ BC DC.out, hm2, hm1⟩ (fun hHeld2 => ?_)
                    clear hK K hHeld hkt
                    refine wpAnyH_ready (rs := [11]) (by kernel_rfl) (by simp) ?_
                    refine AllReadyH.cons rfl (fun K hK => ?_) AllReadyH.nil
                    go_simp
                    (with_reducible refine (Append_at (bs := bys x) DC.out (by decide) (by rw [length_bys]) (by omega) (isU8_bys _) HRD.out HAP2.out).mono ?_)
                    rintro e wA ⟨rfl, dA, bA⟩
                    have BA := BC.trans bA
                    have DA := Lib.hid dA
                    clear BC DC dA bA DW BW
                    go_simp
                    refine hK.out _ _ ⟨HSS.out _ _ _ BA DA.out, hm2, hm1⟩ (fun hHeld3 => ?_)
                    clear hK K hHeld2
                    refine wpAnyH_take (i := 12) (oi := ⟨some 123, _, _, _, _, _⟩) (v := ?vzs12) rfl (by kernel_rfl) (by kernel_rfl) (by kernel_rfl) (fun _ _ _ h => h) (Or.inl ⟨by kernel_rfl, ?hyzs12⟩) (by assumption) ?restzs12
                    case hyzs12 => (intro w hSw; (try dsimp only at hSw); go_simp; try with_reducible rfl)
                    (try simp only [Act.put, List.setIfInBounds_toArray, List.set_cons_zero, List.set_cons_succ])
                    refine wpAnyH_take (i := 13) (oi := ⟨some 124, _, _, _, _, _⟩) (v := ?vzs13) rfl (by kernel_rfl) (by kernel_rfl) (by kernel_rfl) (fun _ _ _ h => h) (Or.inl ⟨by kernel_rfl, ?hyzs13⟩) (by assumption) ?restzs13
                    case hyzs13 => (intro w hSw; (try dsimp only at hSw); go_simp; try with_reducible rfl)
                    (try simp only [Act.put, List.setIfInBounds_toArray, List.set_cons_zero, List.set_cons_succ])
                    refine wpAnyH_take (i := 14) (oi := ⟨some 125, _, _, _, _, _⟩) (v := ?vzs14) rfl (by kernel_rfl) (by kernel_rfl) (by kernel_rfl) (fun _ _ _ h => h) (Or.inl ⟨by kernel_rfl, ?hyzs14⟩) (by assumption) ?restzs14
                    case hyzs14 => (intro w hSw; (try dsimp only at hSw); go_simp; try with_reducible rfl)
                    (try simp only [Act.put, List.setIfInBounds_toArray, List.set_cons_zero, List.set_cons_succ])
                    refine wpAnyH_take (i := 15) (oi := ⟨some 126, _, _, _, _, _⟩) (v := ?vzs15) rfl (by kernel_rfl) (by kernel_rfl) (by kernel_rfl) (fun _ _ _ h => h) (Or.inl ⟨by kernel_rfl, ?hyzs15⟩) (by assumption) ?restzs15
                    case hyzs15 => (intro w hSw; (try dsimp only at hSw); go_simp; try with_reducible rfl)
                    (try simp only [Act.put, List.setIfInBounds_toArray, List.set_cons_zero, List.set_cons_succ])
                    refine wpAnyH_take (i := 16) (oi := ⟨some 127, _, _, _, _, _⟩) (v := ?vzs16) rfl (by kernel_rfl) (by kernel_rfl) (by kernel_rfl) (fun _ _ _ h => h) (Or.inl ⟨by kernel_rfl, ?hyzs16⟩) (by assumption) ?restzs16
                    case hyzs16 => (intro w hSw; (try dsimp only at hSw); go_simp; try with_reducible rfl)
                    (try simp only [Act.put, List.setIfInBounds_toArray, List.set_cons_zero, List.set_cons_succ])
                    refine wpAnyH_take (i := 17) (oi := ⟨some 128, _, _, _, _, _⟩) (v := ?vzs17) rfl (by kernel_rfl) (by kernel_rfl) (by kernel_rfl) (fun _ _ _ h => h) (Or.inl ⟨by kernel_rfl, ?hyzs17⟩) (by assumption) ?restzs17
                    case hyzs17 => (intro w hSw; (try dsimp only at hSw); go_simp; try with_reducible rfl)
                    (try simp only [Act.put, List.setIfInBounds_toArray, List.set_cons_zero, List.set_cons_succ])
                    refine wpAnyH_take (i := 18) (oi := ⟨some 129, _, _, _, _, _⟩) (v := ?vzs18) rfl (by kernel_rfl) (by kernel_rfl) (by kernel_rfl) (fun _ _ _ h => h) (Or.inl ⟨by kernel_rfl, ?hyzs18⟩) (by assumption) ?restzs18
                    case hyzs18 => (intro w hSw; (try dsimp only at hSw); go_simp; try with_reducible rfl)
                    (try simp only [Act.put, List.setIfInBounds_toArray, List.set_cons_zero, List.set_cons_succ])
                    refine wpAnyH_take (i := 19) (oi := ⟨some 130, _, _, _, _, _⟩) (v := ?vzs19) rfl (by kernel_rfl) (by kernel_rfl) (by kernel_rfl) (fun _ _ _ h => h) (Or.inl ⟨by kernel_rfl, ?hyzs19⟩) (by assumption) ?restzs19
                    case hyzs19 => (intro w hSw; (try dsimp only at hSw); go_simp; try with_reducible rfl)
                    (try simp only [Act.put, List.setIfInBounds_toArray, List.set_cons_zero, List.set_cons_succ])
                    refine wpAnyH_take (i := 20) (oi := ⟨some 131, _, _, _, _, _⟩) (v := ?vzs20) rfl (by kernel_rfl) (by kernel_rfl) (by kernel_rfl) (fun _ _ _ h => h) (Or.inl ⟨by kernel_rfl, ?hyzs20⟩) (by assumption) ?restzs20
                    case hyzs20 => (intro w hSw; (try dsimp only at hSw); go_simp; try with_reducible rfl)
                    (try simp only [Act.put, List.setIfInBounds_toArray, List.set_cons_zero, List.set_cons_succ])
                    refine wpAnyH_take (i := 21) (oi := ⟨some 132, _, _, _, _, _⟩) (v := ?vzs21) rfl (by kernel_rfl) (by kernel_rfl) (by kernel_rfl) (fun _ _ _ h => h) (Or.inl ⟨by kernel_rfl, ?hyzs21⟩) (by assumption) ?restzs21
                    case hyzs21 => (intro w hSw; (try dsimp only at hSw); go_simp; try with_reducible rfl)
                    (try simp only [Act.put, List.setIfInBounds_toArray, List.set_cons_zero, List.set_cons_succ])
                    refine wpAnyH_ready (rs := [22]) (by kernel_rfl) (by simp) ?_
                    refine AllReadyH.cons rfl (fun K hK => ?_) AllReadyH.nil
                    go_simp
                    (with_reducible refine (Sync_at DA.out (by decide) (safe_b X Y i j (by omega))).mono ?_)
                    rintro e wS ⟨rfl, dS, bS⟩
                    have BS := BA.trans bS
                    have DS := Lib.hid dS
                    clear BA DA dS bS
                    go_simp
                    refine hK.out _ _ ⟨HSS.out _ _ _ BS DS.out, hm2, hm1⟩ (fun hHeld4 => ?_)
                    clear hK K hHeld3
                    refine wpAnyH_take (i := 23) (oi := ⟨some 134, _, _, _, _, _⟩) (v := ?vzs23) rfl (by kernel_rfl) (by kernel_rfl) (by kernel_rfl) (fun _ _ _ h => h) (Or.inl ⟨by kernel_rfl, ?hyzs23⟩) (by assumption) ?restzs23
                    case hyzs23 => (intro w hSw; (try dsimp only at hSw); go_simp; try with_reducible rfl)
                    (try simp only [Act.put, List.setIfInBounds_toArray, List.set_cons_zero, List.set_cons_succ])
                    refine wpAnyH_take (i := 24) (oi := ⟨some 135, _, _, _, _, _⟩) (v := ?vzs24) rfl (by kernel_rfl) (by kernel_rfl) (by kernel_rfl) (fun _ _ _ h => h) (Or.inl ⟨by kernel_rfl, ?hyzs24⟩) (by assumption) ?restzs24
                    case hyzs24 => (intro w hSw; (try dsimp only at hSw); go_simp; try with_reducible rfl)
                    (try simp only [Act.put, List.setIfInBounds_toArray, List.set_cons_zero, List.set_cons_succ])
                    refine wpAnyH_take (i := 25) (oi := ⟨some 136, _, _, _, _, _⟩) (v := ?vzs25) rfl (by kernel_rfl) (by kernel_rfl) (by kernel_rfl) (fun _ _ _ h => h) (Or.inl ⟨by kernel_rfl, ?hyzs25⟩) (by assumption) ?restzs25
                    case hyzs25 => (intro w hSw; (try dsimp only at hSw); go_simp; try with_reducible rfl)
                    (try simp only [Act.put, List.setIfInBounds_toArray, List.set_cons_zero, List.set_cons_succ])
                    refine wpAnyH_done (by kernel_rfl) ?_ _
                    clear hHeld4 hm1 hm2 hab
                    have a0 : wS.cell? ⟨gA, 1, none⟩ = some (.int .i64 j) := DS.out.cell 1
                    have a1 : wS.frozen? ⟨gA, 1, none⟩ = false := Blk.free (show Blk wS gA 56 _ from DS.out.rest.head) 1
                    have DE := DS.out.put 1 (.int .i64 ((j + 1 : Nat) : Int))
                    have BE := BS.setCell (p := ⟨gA, 1, none⟩) (HGA.out) (.int .i64 ((j + 1 : Nat) : Int))
                    go_wp2_with fail
                    go_roundw
                    case rel => exact ⟨i, j + 1, q + 1, by go_num, by omega, by omega, by omega, by omega, DE, BE⟩
                    case measure => simp [intOf] <;> omega
                  · have hm1 : (((j : Int) % 3 == 1) = false) := by rw [beq_eq_false_iff_ne]; omega
                    have hm2 : (((j : Int).tmod 3 == 1) = false) := by rw [HMD.out]; exact hm1
                    have hkt := conv_text
                    refine wp_region_held_drew (S := fun W => (W.cell? ⟨gx, 1, none⟩ = some (.slice (some ad) n1 c1) ∧ W.cell? ⟨gA, 1, none⟩ = some (.int .i64 j) ∧ W.cell? (ad.add j) = some (.string x)) ∧ (((j : Int).tmod 3 == 1) = false) ∧ (((j : Int) % 3 == 1) = false)) (by kernel_rfl) ⟨HSS.out _ _ _ BW DW.out, hm2, hm1⟩ (fun hHeld => ?_)
                    refine wpAnyH_take (i := 0) (oi := ⟨some 111, _, _, _, _, _⟩) (v := ?vzn0) rfl (by kernel_rfl) (by kernel_rfl) (by kernel_rfl) (fun _ _ _ h => h) (Or.inl ⟨by kernel_rfl, ?hyzn0⟩) (by assumption) ?restzn0
                    case hyzn0 => (intro w hSw; (try dsimp only at hSw); go_simp; try with_reducible rfl)
                    (try simp only [Act.put, List.setIfInBounds_toArray, List.set_cons_zero, List.set_cons_succ])
                    refine wpAnyH_take (i := 1) (oi := ⟨some 112, _, _, _, _, _⟩) (v := ?vzn1) rfl (by kernel_rfl) (by kernel_rfl) (by kernel_rfl) (fun _ _ _ h => h) (Or.inl ⟨by kernel_rfl, ?hyzn1⟩) (by assumption) ?restzn1
                    case hyzn1 => (intro w hSw; (try dsimp only at hSw); go_simp; try with_reducible rfl)
                    (try simp only [Act.put, List.setIfInBounds_toArray, List.set_cons_zero, List.set_cons_succ])
                    refine wpAnyH_take (i := 2) (oi := ⟨some 113, _, _, _, _, _⟩) (v := ?vzn2) rfl (by kernel_rfl) (by kernel_rfl) (by kernel_rfl) (fun _ _ _ h => h) (Or.inl ⟨by kernel_rfl, ?hyzn2⟩) (by assumption) ?restzn2
                    case hyzn2 => (intro w hSw; (try dsimp only at hSw); go_simp; try with_reducible rfl)
                    (try simp only [Act.put, List.setIfInBounds_toArray, List.set_cons_zero, List.set_cons_succ])
                    refine wpAnyH_take (i := 3) (oi := ⟨some 114, _, _, _, _, _⟩) (v := ?vzn3) rfl (by kernel_rfl) (by kernel_rfl) (by kernel_rfl) (fun _ _ _ h => h) (Or.inl ⟨by kernel_rfl, ?hyzn3⟩) (by assumption) ?restzn3
                    case hyzn3 => (intro w hSw; (try dsimp only at hSw); go_simp; try with_reducible rfl)
                    (try simp only [Act.put, List.setIfInBounds_toArray, List.set_cons_zero, List.set_cons_succ])
                    refine wpAnyH_take (i := 4) (oi := ⟨some 115, _, _, _, _, _⟩) (v := ?vzn4) rfl (by kernel_rfl) (by kernel_rfl) (by kernel_rfl) (fun _ _ _ h => h) (Or.inl ⟨by kernel_rfl, ?hyzn4⟩) (by assumption) ?restzn4
                    case hyzn4 => (intro w hSw; (try dsimp only at hSw); go_simp; try with_reducible rfl)
                    (try simp only [Act.put, List.setIfInBounds_toArray, List.set_cons_zero, List.set_cons_succ])
                    refine wpAnyH_take (i := 5) (oi := ⟨some 116, _, _, _, _, _⟩) (v := ?vzn5) rfl (by kernel_rfl) (by kernel_rfl) (by kernel_rfl) (fun _ _ _ h => h) (Or.inl ⟨by kernel_rfl, ?hyzn5⟩) (by assumption) ?restzn5
                    case hyzn5 => (intro w hSw; (try dsimp only at hSw); go_simp; try with_reducible rfl)
                    (try simp only [Act.put, List.setIfInBounds_toArray, List.set_cons_zero, List.set_cons_succ])
                    refine wpAnyH_take (i := 6) (oi := ⟨some 117, _, _, _, _, _⟩) (v := ?vzn6) rfl (by kernel_rfl) (by kernel_rfl) (by kernel_rfl) (fun _ _ _ h => h) (Or.inl ⟨by kernel_rfl, ?hyzn6⟩) (by assumption) ?restzn6
                    case hyzn6 => (intro w hSw; (try dsimp only at hSw); go_simp; try with_reducible rfl)
                    (try simp only [Act.put, List.setIfInBounds_toArray, List.set_cons_zero, List.set_cons_succ])
                    refine wpAnyH_take (i := 7) (oi := ⟨some 118, _, _, _, _, _⟩) (v := ?vzn7) rfl (by kernel_rfl) (by kernel_rfl) (by kernel_rfl) (fun _ _ _ h => h) (Or.inl ⟨by kernel_rfl, ?hyzn7⟩) (by assumption) ?restzn7
                    case hyzn7 => (intro w hSw; (try dsimp only at hSw); go_simp; try with_reducible rfl)
                    (try simp only [Act.put, List.setIfInBounds_toArray, List.set_cons_zero, List.set_cons_succ])
                    refine wpAnyH_take (i := 8) (oi := ⟨some 119, _, _, _, _, _⟩) (v := ?vzn8) rfl (by kernel_rfl) (by kernel_rfl) (by kernel_rfl) (fun _ _ _ h => h) (Or.inl ⟨by kernel_rfl, ?hyzn8⟩) (by assumption) ?restzn8
                    case hyzn8 => (intro w hSw; (try dsimp only at hSw); go_simp; try with_reducible rfl)
                    (try simp only [Act.put, List.setIfInBounds_toArray, List.set_cons_zero, List.set_cons_succ])
                    refine wpAnyH_take (i := 9) (oi := ⟨some 120, _, _, _, _, _⟩) (v := ?vzn9) rfl (by kernel_rfl) (by kernel_rfl) (by kernel_rfl) (fun _ _ _ h => h) (Or.inl ⟨by kernel_rfl, ?hyzn9⟩) (by assumption) ?restzn9
                    case hyzn9 => (intro w hSw; (try dsimp only at hSw); go_simp; try with_reducible rfl)
                    (try simp only [Act.put, List.setIfInBounds_toArray, List.set_cons_zero, List.set_cons_succ])
                    refine wpAnyH_ready (rs := [10]) (by kernel_rfl) (by simp) ?_
                    refine AllReadyH.cons rfl (fun K hK => ?_) AllReadyH.nil
                    go_simp
                    have DC := Lib.hid (DW.out.below (below_text W0.drew 5 x))
                    have HRD := Lib.hid (show Rd _ _ (some ⟨W0.heap.size, 0, none⟩) _ from rd_text W0.drew 5 x)
                    have BC := BW.trans ((below_text W0.drew 5 x).mono (Nat.le_trans hg0 BW.size))
                    refine hK.out _ _ ⟨HSS.out _ _ _ BC DC.out, hm2, hm1⟩ (fun hHeld2 => ?_)
                    clear hK K hHeld hkt
                    refine wpAnyH_ready (rs := [11]) (by kernel_rfl) (by simp) ?_
                    refine AllReadyH.cons rfl (fun K hK => ?_) AllReadyH.nil
                    go_simp
                    (with_reducible refine (Append_at (bs := bys x) DC.out (by decide) (by rw [length_bys]) (by omega) (isU8_bys _) HRD.out HAP2.out).mono ?_)
                    rintro e wA ⟨rfl, dA, bA⟩
                    have BA := BC.trans bA
                    have DA := Lib.hid dA
                    clear BC DC dA bA DW BW
                    go_simp
                    refine hK.out _ _ ⟨HSS.out _ _ _ BA DA.out, hm2, hm1⟩ (fun hHeld3 => ?_)
                    clear hK K hHeld2
                    refine wpAnyH_take (i := 12) (oi := ⟨some 123, _, _, _, _, _⟩) (v := ?vzn12) rfl (by kernel_rfl) (by kernel_rfl) (by kernel_rfl) (fun _ _ _ h => h) (Or.inl ⟨by kernel_rfl, ?hyzn12⟩) (by assumption) ?restzn12
                    case hyzn12 => (intro w hSw; (try dsimp only at hSw); go_simp; try with_reducible rfl)
                    (try simp only [Act.put, List.setIfInBounds_toArray, List.set_cons_zero, List.set_cons_succ])
                    refine wpAnyH_take (i := 13) (oi := ⟨some 124, _, _, _, _, _⟩) (v := ?vzn13) rfl (by kernel_rfl) (by kernel_rfl) (by kernel_rfl) (fun _ _ _ h => h) (Or.inl ⟨by kernel_rfl, ?hyzn13⟩) (by assumption) ?restzn13
                    case hyzn13 => (intro w hSw; (try dsimp only at hSw); go_simp; try with_reducible rfl)
                    (try simp only [Act.put, List.setIfInBounds_toArray, List.set_cons_zero, List.set_cons_succ])
                    refine wpAnyH_take (i := 14) (oi := ⟨some 125, _, _, _, _, _⟩) (v := ?vzn14) rfl (by kernel_rfl) (by kernel_rfl) (by kernel_rfl) (fun _ _ _ h => h) (Or.inl ⟨by kernel_rfl, ?hyzn14⟩) (by assumption) ?restzn14
                    case hyzn14 => (intro w hSw; (try dsimp only at hSw); go_simp; try with_reducible rfl)
                    (try simp only [Act.put, List.setIfInBounds_toArray, List.set_cons_zero, List.set_cons_succ])
                    refine wpAnyH_take (i := 15) (oi := ⟨some 126, _, _, _, _, _⟩) (v := ?vzn15) rfl (by kernel_rfl) (by kernel_rfl) (by kernel_rfl) (fun _ _ _ h => h) (Or.inl ⟨by kernel_rfl, ?hyzn15⟩) (by assumption) ?restzn15
                    case hyzn15 => (intro w hSw; (try dsimp only at hSw); go_simp; try with_reducible rfl)
                    (try simp only [Act.put, List.setIfInBounds_toArray, List.set_cons_zero, List.set_cons_succ])
                    refine wpAnyH_take (i := 16) (oi := ⟨some 127, _, _, _, _, _⟩) (v := ?vzn16) rfl (by kernel_rfl) (by kernel_rfl) (by kernel_rfl) (fun _ _ _ h => h) (Or.inl ⟨by kernel_rfl, ?hyzn16⟩) (by assumption) ?restzn16
                    case hyzn16 => (intro w hSw; (try dsimp only at hSw); go_simp; try with_reducible rfl)
                    (try simp only [Act.put, List.setIfInBounds_toArray, List.set_cons_zero, List.set_cons_succ])
                    refine wpAnyH_take (i := 17) (oi := ⟨some 128, _, _, _, _, _⟩) (v := ?vzn17) rfl (by kernel_rfl) (by kernel_rfl) (by kernel_rfl) (fun _ _ _ h => h) (Or.inl ⟨by kernel_rfl, ?hyzn17⟩) (by assumption) ?restzn17
                    case hyzn17 => (intro w hSw; (try dsimp only at hSw); go_simp; try with_reducible rfl)
                    (try simp only [Act.put, List.setIfInBounds_toArray, List.set_cons_zero, List.set_cons_succ])
                    refine wpAnyH_take (i := 18) (oi := ⟨some 129, _, _, _, _, _⟩) (v := ?vzn18) rfl (by kernel_rfl) (by kernel_rfl) (by kernel_rfl) (fun _ _ _ h => h) (Or.inl ⟨by kernel_rfl, ?hyzn18⟩) (by assumption) ?restzn18
                    case hyzn18 => (intro w hSw; (try dsimp only at hSw); go_simp; try with_reducible rfl)
                    (try simp only [Act.put, List.setIfInBounds_toArray, List.set_cons_zero, List.set_cons_succ])
                    refine wpAnyH_take (i := 19) (oi := ⟨some 130, _, _, _, _, _⟩) (v := ?vzn19) rfl (by kernel_rfl) (by kernel_rfl) (by kernel_rfl) (fun _ _ _ h => h) (Or.inl ⟨by kernel_rfl, ?hyzn19⟩) (by assumption) ?restzn19
                    case hyzn19 => (intro w hSw; (try dsimp only at hSw); go_simp; try with_reducible rfl)
                    (try simp only [Act.put, List.setIfInBounds_toArray, List.set_cons_zero, List.set_cons_succ])
                    have DS := Lib.hid (show Disks g1 wA ((gd, both (fil X i) (fil Y (j + 1))) :: L) _ from none_b X Y i j (by omega) ▸ DA.out)
                    have BS := BA
                    clear BA DA
                    refine wpAnyH_take (i := 20) (oi := ⟨some 131, _, _, _, _, _⟩) (v := undef) rfl (by kernel_rfl) (by kernel_rfl) (by kernel_rfl) (fun _ _ _ h => h) (Or.inr ⟨by kernel_rfl, rfl⟩) (by assumption) ?_
                    (try simp only [Act.put, List.setIfInBounds_toArray, List.set_cons_zero, List.set_cons_succ])
                    refine wpAnyH_take (i := 21) (oi := ⟨some 132, _, _, _, _, _⟩) (v := undef) rfl (by kernel_rfl) (by kernel_rfl) (by kernel_rfl) (fun _ _ _ h => h) (Or.inr ⟨by kernel_rfl, rfl⟩) (by assumption) ?_
                    (try simp only [Act.put, List.setIfInBounds_toArray, List.set_cons_zero, List.set_cons_succ])
                    refine wpAnyH_take (i := 22) (oi := ⟨some 133, _, _, _, _, _⟩) (v := undef) rfl (by kernel_rfl) (by kernel_rfl) (by kernel_rfl) (fun _ _ _ h => h) (Or.inr ⟨by kernel_rfl, rfl⟩) (by assumption) ?_
                    (try simp only [Act.put, List.setIfInBounds_toArray, List.set_cons_zero, List.set_cons_succ])
                    refine wpAnyH_take (i := 23) (oi := ⟨some 134, _, _, _, _, _⟩) (v := undef) rfl (by kernel_rfl) (by kernel_rfl) (by kernel_rfl) (fun _ _ _ h => h) (Or.inr ⟨by kernel_rfl, rfl⟩) (by assumption) ?_
                    (try simp only [Act.put, List.setIfInBounds_toArray, List.set_cons_zero, List.set_cons_succ])
                    refine wpAnyH_take (i := 24) (oi := ⟨some 135, _, _, _, _, _⟩) (v := ?vzn24) rfl (by kernel_rfl) (by kernel_rfl) (by kernel_rfl) (fun _ _ _ h => h) (Or.inl ⟨by kernel_rfl, ?hyzn24⟩) (by assumption) ?restzn24
                    case hyzn24 => (intro w hSw; (try dsimp only at hSw); go_simp; try with_reducible rfl)
                    (try simp only [Act.put, List.setIfInBounds_toArray, List.set_cons_zero, List.set_cons_succ])
                    refine wpAnyH_take (i := 25) (oi := ⟨some 136, _, _, _, _, _⟩) (v := ?vzn25) rfl (by kernel_rfl) (by kernel_rfl) (by kernel_rfl) (fun _ _ _ h => h) (Or.inl ⟨by kernel_rfl, ?hyzn25⟩) (by assumption) ?restzn25
                    case hyzn25 => (intro w hSw; (try dsimp only at hSw); go_simp; try with_reducible rfl)
                    (try simp only [Act.put, List.setIfInBounds_toArray, List.set_cons_zero, List.set_cons_succ])
                    refine wpAnyH_done (by kernel_rfl) ?_ _
                    clear hHeld3 hm1 hm2 hab
                    have a0 : wA.cell? ⟨gA, 1, none⟩ = some (.int .i64 j) := DS.out.cell 1
                    have a1 : wA.frozen? ⟨gA, 1, none⟩ = false := Blk.free (show Blk wA gA 56 _ from DS.out.rest.head) 1
                    have DE := DS.out.put 1 (.int .i64 ((j + 1 : Nat) : Int))
                    have BE := BS.setCell (p := ⟨gA, 1, none⟩) (HGA.out) (.int .i64 ((j + 1 : Nat) : Int))
                    go_wp2_with fail
                    go_roundw
                    case rel => exact ⟨i, j + 1, q + 1, by go_num, by omega, by omega, by omega, by omega, DE, BE⟩
                    case measure => simp [intOf] <;> omega
          · have hi2 : i = n0 := by omega
            have hj2 : j = n1 := by omega
            have hlast : ¬ ((i : Int) + j < n0 + n1) := by omega
            have hD : Disks g1 wr ((gd, both (fil X n0) (fil Y n1)) :: L) [Asn.blk gA 56 [.int .i64 i, .int .i64 j], Asn.blk gB 55 ps] := by
              have h := DR.out
              rw [hi2, hj2] at h ⊢
              exact h
            have HD := Lib.hid hD
            have hN := Lib.hid (Names_at HD.out (Dm.names_of (show (1 : Int) ≤ 50000 by omega)))
            clear hD DR
            go_wp2_with fail
            (with_reducible refine hN.out.mono ?_)
            rintro e wd ⟨rfl, dd, bd⟩
            have Bd := br.trans bd
            have Dd := Lib.hid (show Disks g1 wd ((gd, M) :: L) [Asn.blk gB 55 ps] from by
              rw [HM.out]
              exact (dd.perm (List.Perm.refl _)).less)
            clear hN dd bd HD br a0 a1 e0 e1 hi2 hj2
            obtain ⟨p0, p1, hps⟩ := HO.out.two
            have f0 : wd.frozen? ⟨gB, v, none⟩ = false := Blk.free (show Blk wd gB 55 _ from Dd.out.rest.head) v
            have c0 : wd.cell? ⟨gB, 0, none⟩ = some p0 := by rw [Dd.out.cell 0, hps]; rfl
            have c1 : wd.cell? ⟨gB, 1, none⟩ = some p1 := by rw [Dd.out.cell 1, hps]; rfl
            have DE := Dd.out.put v (.pointer (some ⟨gd, 0, none⟩))
            have BE := Bd.setCell (p := ⟨gB, v, none⟩) (HGB.out) (.pointer (some ⟨gd, 0, none⟩))
            have HO2 := Lib.hid (HO.out.next (g := gd) hlt)
            clear hps Dd Bd
            have hv' : v = 0 ∨ v = 1 := by omega
            rcases hv' with rfl | rfl
            · go_wp2_with fail
              go_roundw
              case rel => exact ⟨1, _, _, rfl, by omega, HO2, DE, BE⟩
              case measure => simp [intOf] <;> omega
            · go_wp2_with fail
              go_roundw
              case rel => exact ⟨2, _, _, rfl, by omega, HO2, DE, BE⟩
              case measure => simp [intOf] <;> omega
      · have hv2 : v = 2 := by omega
        subst hv2
        obtain ⟨g, h, rfl, rfl⟩ := HO.out
        have c0 : wr.cell? ⟨gB, 0, none⟩ = some (.pointer (some ⟨g, 0, none⟩)) := DR.out.cell 0
        have c1 : wr.cell? ⟨gB, 1, none⟩ = some (.pointer (some ⟨h, 0, none⟩)) := DR.out.cell 1
        have hN := Lib.hid (alike_yes DR.out.swap (Alike.refl _))
        go_wp2_with fail
        (with_reducible refine hN.out.mono ?_)
        rintro e wa ⟨rfl, ba⟩
        have Da := Lib.hid (DR.out.below ba)
        have Ba := br.trans (ba.mono DR.out.size)
        clear hN ba c0 c1 DR br
        have c0 : wa.cell? ⟨gB, 0, none⟩ = some (.pointer (some ⟨g, 0, none⟩)) := Da.out.cell 0
        have c1 : wa.cell? ⟨gB, 1, none⟩ = some (.pointer (some ⟨h, 0, none⟩)) := Da.out.cell 1
        have hN := Lib.hid (fail_yes (keep := k) Da.out.swap (by rw [HM.out]; show (1 : Int) ≤ 50000; omega) (by rw [HM.out]; show (1 : Int) ≤ 50000; omega) hk0 (by omega) (fun _ => Alike.refl _))
        go_wp2_with fail
        (with_reducible refine hN.out.mono ?_)
        rintro e wb ⟨rfl, bb⟩
        have Bb := Ba.trans (bb.mono Da.out.size)
        clear hN bb c0 c1 Da Ba
        go_wp2
        go_ret
        exact ⟨rfl, hbA.trans (Bb.mono (hgx ▸ HG1))⟩
end Go.Proofs.YtgibdecgmageeaaDoor
