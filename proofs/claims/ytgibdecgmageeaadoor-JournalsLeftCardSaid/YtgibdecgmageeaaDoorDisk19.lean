/- Fail walked. -/
import Derived.Test.YtgibdecgmageeaaDoorDisk18
import Derived.Test.YtgibdecgmageeaaDoorDisk13
import Derived.Deep.DeepCutAuto
import Derived.Deep.CutRange
import Derived.Deep.RegionHeld3
namespace Go.Proofs.YtgibdecgmageeaaDoor
open Go.RowKit

theorem CloneB_any (bs : List Int) (A : Option Addr) (n c : Nat) (w : World) (hn : n = bs.length) (hl : n ≤ 140737488351232) (hA : A = none → n = 0) (hr : Rd w w.heap.size A (U8 bs)) :
    Calls Tryd.prog 52 #[.slice A n c] w (fun e w' => ∃ A' cap, e = .returned (.slice A' n cap) ∧ Own w' w.heap.size 5 1 (.slice A' n cap) n (U8 bs) ∧ Below w.heap.size w w') := by
  cases A with
  | none =>
    obtain rfl := hA rfl
    have hb : bs = [] := List.eq_nil_of_length_eq_zero hn.symm
    subst hb
    refine (CloneB_nil 0 c w).mono ?_
    rintro e w' ⟨rfl, rfl⟩
    exact ⟨none, 0, rfl, Own.nil _ _ _ _, Below.refl _ _⟩
  | some ad => exact Clone_some bs ad n c w hn hl hr

/-- What Fail hands back: a disk of its own. -/
def RetFail (w : World) (m : Dm) (e : Ending) (w' : World) : Prop :=
  ∃ c' : Cd, e = .returned (.tuple #[.pointer (some ⟨c'.g, 0, none⟩), .int .i64 0]) ∧ c'.m = m ∧ Sep w' (c'.asn w.heap.size) ∧ w.heap.size ≤ c'.g ∧ Below w.heap.size w w'

set_option maxRecDepth 100000 in
set_option maxHeartbeats 4000000 in
theorem Fail_any (c : Cd) (b0 : Nat) (keep : Int) (names : Bool) (w : World) (hS : Sep w (c.asn b0)) (hk : c.m.ok) (h1 : 1 ≤ c.size) (hk0 : 0 ≤ keep) (_hk1 : keep ≤ 9223372036854775807) :
    Calls Tryd.prog 29 #[.pointer (some ⟨c.g, 0, none⟩), .int .i64 keep, .bool names] w (RetFail w (c.m.fail keep names)) := by
  have hg : c.m.goes true ⟨#[97]⟩ = 0 := by
    unfold Dm.goes
    rw [if_neg (show ¬ c.m.size < 1 by show ¬ c.size < 1; omega)]
    rfl
  have HG := goes_all c true ⟨#[97]⟩ w (Cd.blk hS) (by decide)
  rw [hg] at HG
  have hS' : ∀ w', Below w.heap.size w w' → Sep w' (c.asn b0) := fun w' hb => hS.below hb (fun _ hk => hS.lt hk)
  have hl : c.now.length = 64 := hk.now.len
  have hls : c.safe.length = 64 := hk.safe.len
  -- the table that is taken
  obtain ⟨t, ht⟩ : ∃ t, t = (if names then c.now else c.safe) := ⟨_, rfl⟩
  have htl : t.length = 64 := by rw [ht]; cases names <;> assumption
  have htok : TabOk c.rows.length t := by
    have e : c.m.rows.length = c.rows.length := by simp [Cd.m]
    rw [← e, ht]
    cases names
    · exact hk.safe
    · exact hk.now
  have hfail : c.m.fail keep names = ⟨c.size, anewT 0 t, anewT 0 t, c.m.anewR keep t⟩ := by rw [ht]; rfl
  have hcells : ∀ w', Below w.heap.size w w' → w'.cell? ⟨c.g, 0, none⟩ = some (.int .i64 c.size) ∧ w'.rangeAt c.g 1 (tabCells c.rows c.now) ∧ w'.rangeAt c.g 129 (tabCells c.rows c.safe) := fun w' hb =>
    ⟨Cd.size_cell (Cd.blk (hS' w' hb)), Cd.tab_range (Cd.blk (hS' w' hb)), Cd.safe_range (Cd.blk (hS' w' hb)) hl⟩
  have hln : (Tryd.prog.info? 70).map (·.size) = some (tabCells c.rows c.now).length := by rw [Tryd.sizeTable, length_tabCells, hl]
  have hlsn : (Tryd.prog.info? 70).map (·.size) = some (tabCells c.rows c.safe).length := by rw [Tryd.sizeTable, length_tabCells, hls]
  have hltn : (Tryd.prog.info? 70).map (·.size) = some (tabCells c.rows t).length := by rw [Tryd.sizeTable, length_tabCells, htl]
  have hidx := run_index_tab c.rows t htl
  have hft : tabCells c.rows t = if names then tabCells c.rows c.now else tabCells c.rows c.safe := by rw [ht]; cases names <;> rfl
  obtain ⟨CN, hCN⟩ : ∃ CN, CN = tabCells c.rows c.now := ⟨_, rfl⟩
  obtain ⟨CS, hCS⟩ : ∃ CS, CS = tabCells c.rows c.safe := ⟨_, rfl⟩
  obtain ⟨CT, hCT⟩ : ∃ CT, CT = tabCells c.rows t := ⟨_, rfl⟩
  rw [← hCN, ← hCS] at hcells hft
  rw [← hCN] at hln
  rw [← hCS] at hlsn
  rw [← hCT] at hltn hidx hft
  have hzero : Value.int .i64 c.size :: (CT ++ tabCells [] (List.replicate 64 free)) = failCells c.size c.rows [] t 0 := by rw [failCells_zero, hCT]
  -- what stands at a place of it
  have HAT : Hid (∀ j (h : j < t.length), FailAt c w keep t j (ptr c.rows (t[j]'h).2)) := fail_at c b0 keep w t hS hk hk0 htok
  have HEND : Hid (∀ (gx : Nat) (nr : List RowC) (W : World), Hid (nr.map (fun x => (x.bs, x.mark)) = c.m.anewR keep (t.take 64)) → Hid (Sep W (Asn.blk gx 72 (failCells c.size c.rows nr t 64) :: nr.map (RowC.asn w.heap.size))) → w.heap.size ≤ gx → Below w.heap.size w W →
      Calls Tryd.prog 28 #[.pointer (some ⟨gx, 0, none⟩)] W (fun e w' => e = .returned (.int .i64 0) ∧ ∃ c' : Cd, c'.g = gx ∧ c'.m = ⟨c.size, anewT 0 t, anewT 0 t, c.m.anewR keep t⟩ ∧ Sep w' (c'.asn w.heap.size) ∧ Below w.heap.size w w')) := fail_end c keep w t h1 htl
  have HFL := Lib.hid hfail
  have HX := Lib.hid hidx; have HFT := Lib.hid hft; have HZ0 := Lib.hid hzero; have HTL := Lib.hid htl; have HLT := Lib.hid hltn
  have HONE : Hid (CN.toArray.all (·.oneCell') = true) := by rw [hCN]; exact all_oneCell_toArray (oneCell_tab _ _)
  have HGo := Lib.hid HG; have HC := Lib.hid hcells; have HLN := Lib.hid hln; have HLS := Lib.hid hlsn
  clear HG hcells hln hlsn hg hS hS' hk hl hls hCN hCS hCT ht htl htok hfail hltn hidx hft hzero
  go_enter Tryd.func29, Tryd.ntmps29
  go_wp2_with fail
  rw [may_one]
  (with_reducible refine HGo.out.mono ?_)
  rintro e w1 ⟨rfl, hb⟩
  obtain ⟨k1, k2, k3⟩ := HC.out w1 hb
  have hu := Tryd.underlying70
  have his := HLS.out
  have h128 : CS.length = 128 := by have := HLS.out; rw [Tryd.sizeTable] at this; exact (Option.some.inj this).symm
  go_upto_region 4 with fail
  go_region_held3 (fun W => W.cell? ⟨c.g, 0, none⟩ = some (.int .i64 c.size) ∧ W.rangeAt c.g 129 CS) (exact ⟨(HC.out _ (by first | assumption | exact hb.drew | exact (hb.alloc hb.size _).drew)).1, (HC.out _ (by first | assumption | exact hb.drew | exact (hb.alloc hb.size _).drew)).2.2⟩) (first | fail)
  rw [built_fold _ _ h128]
  have hBx : Blk (w1.alloc (.cells (.int .i64 c.size :: (CS ++ tabCells [] (List.replicate 64 free))).toArray 72)).drew w1.heap.size 72 (.int .i64 c.size :: (CS ++ tabCells [] (List.replicate 64 free))) := (Blk.lit w1 _ _ rfl _ _ rfl).drew
  have hbx : Below w.heap.size w (w1.alloc (.cells (.int .i64 c.size :: (CS ++ tabCells [] (List.replicate 64 free))).toArray 72)).drew := (hb.alloc hb.size _).drew
  obtain ⟨gx, hgx⟩ : ∃ gx, gx = w1.heap.size := ⟨_, rfl⟩
  have hgw : w.heap.size ≤ gx := by rw [hgx]; exact hb.size
  rw [← hgx] at hBx ⊢
  generalize (w1.alloc (.cells (.int .i64 c.size :: (CS ++ tabCells [] (List.replicate 64 free))).toArray 72)).drew = w2 at hBx hbx
  rename_i hHeld
  clear hHeld hgx k1 k2 k3 his hu hb
  have HBx := Lib.hid hBx
  have HRG : Hid (∀ W, Blk W gx 72 (.int .i64 c.size :: (CT ++ tabCells [] (List.replicate 64 free))) → W.rangeAt gx 1 CT) := by
    intro W h j v hv
    rw [h.cell, Nat.add_comm 1, List.getElem?_cons_succ, List.getElem?_append_left (List.getElem?_eq_some_iff.1 hv).1]
    exact hv
  go_upto_if 32 with fail
  go_cut [] (fun wx => Hid (Blk wx gx 72 (.int .i64 c.size :: (CT ++ tabCells [] (List.replicate 64 free)))) ∧ Below w.heap.size w wx)
  case first =>
    have hth : w2.there gx 1 CN.toArray.size := by
      intro j hj
      have hnl : CN.length = 128 := by have := HLN.out; rw [Tryd.sizeTable] at this; exact (Option.some.inj this).symm
      have hj' : j < 128 := by simp [hnl] at hj; exact hj
      refine ⟨?_, hBx.free _⟩
      rw [hBx.cell]
      have : 1 + j < (Value.int .i64 c.size :: (CS ++ tabCells [] (List.replicate 64 free))).length := by simp [length_tabCells, h128]; omega
      rw [List.getElem?_eq_getElem this]; rfl
    have hrn := (HC.out w2 hbx).2.1
    have hsz2 : (Tryd.prog.info? 70).map (·.size) = some CN.toArray.size := by rw [HLN.out]; simp
    have fin : Blk (w2.setCells gx 1 CN.toArray.toList) gx 72 (.int .i64 c.size :: (CN ++ tabCells [] (List.replicate 64 free))) ∧ Below w.heap.size w (w2.setCells gx 1 CN.toArray.toList) := by
      have hnl : CN.length = 128 := by have := HLN.out; rw [Tryd.sizeTable] at this; exact (Option.some.inj this).symm
      refine ⟨Blk.setCells CN CS [.int .i64 c.size] (tabCells [] (List.replicate 64 free)) 1 w2 hBx (by rw [h128, hnl]) rfl, hbx.trans ((Mods.setCells_ CN 1 w2 (Mods.refl _ _)).below_one hbx.size hgw)⟩
    have HT := Lib.hid hth; have HR := Lib.hid hrn; have HZ := Lib.hid hsz2; have HF := Lib.hid fin
    have hone := HONE.out
    have hft := HFT.out
    clear hth hrn hsz2 fin hBx h128 HFT HAT HEND HX HZ0
    cases names
    · obtain rfl : CT = CS := hft
      go_wp2_with fail
      go_meet
      case rel => exact ⟨HBx, hbx⟩
    · obtain rfl : CT = CN := hft
      clear HBx hbx
      go_wp2_with (first | (refine wpList_load_mid rfl 70 (.tmp 36) rfl c.g 1 rfl CT _ HR.out Tryd.underlying70 rfl HLN.out ?_) | (refine wpList_store_mid rfl 70 (.tmp 39) (.tmp 37) rfl gx 1 CT.toArray rfl rfl HT.out HZ.out hone ?_))
      go_meet
      case rel => exact HF.out
  case rest =>
    obtain ⟨HBn, hbn⟩ := hcut
    have HRn := Lib.hid (HRG.out _ HBn.out)
    clear hBx HBx hbx h128 HRG HONE HC HLN HLS HFT
    go_wp2_with (first | (refine wpList_load_mid rfl 70 (.tmp 42) rfl gx 1 rfl CT _ HRn.out Tryd.underlying70 rfl HLT.out ?_))
    have hsep0 : Sep wc (Asn.blk gx 72 (failCells c.size c.rows [] t 0) :: ([] : List RowC).map (RowC.asn w.heap.size)) := by
      rw [← HZ0.out]; exact Sep.one.2 HBn.out
    have HS0 := Lib.hid hsep0
    clear hsep0 HRn HLT HBn HZ0
    go_loopw [44] (fun i wr => ∃ (j : Nat) (nr : List RowC), j ≤ 64 ∧ i = .int .i64 j ∧ Hid (nr.map (fun x => (x.bs, x.mark)) = c.m.anewR keep (t.take j)) ∧ Hid (Sep wr (Asn.blk gx 72 (failCells c.size c.rows nr t j) :: nr.map (RowC.asn w.heap.size))) ∧ Below w.heap.size w wr) (fun i _ => 64 - (intOf i).toNat)
    case atStart => exact ⟨0, [], by omega, rfl, rfl, HS0, hbn⟩
    case round =>
      obtain ⟨j, nr, hj, rfl, HNR, HSR, hb⟩ := hrel
      by_cases hlt : j < 64
      · have hjl : j < t.length := by rw [HTL.out]; exact hlt
        have hx := HX.out j hjl
        have hp := HAT.out j hjl
        generalize (t[j]'hjl).1 = nm at hx
        generalize ptr c.rows (t[j]'hjl).2 = pp at hx hp
        have hbw : w.heap.size ≤ wr.heap.size := hb.size
        rcases hp with ⟨rfl, hn1, hn2⟩ | ⟨x, A, n, cap, kn, rfl, hn, hm, hnc, hcm, hkn, hkl, hlt2, hw, hA, hst⟩
        · have H1 := Lib.hid hn1; have H2 := Lib.hid hn2
          clear hn1 hn2
          go_wp2
          go_roundw
          case rel =>
            refine ⟨j + 1, nr, by omega, by go_num, by rw [H2.out]; exact HNR, ?_, hb.alloc hb.size _⟩
            rw [H1.out nr]
            exact HSR.out.below ((Below.refl _ _).alloc (Nat.le_refl _) _) (fun _ hk => HSR.out.lt hk)
          case measure => simp [intOf]; omega
        · have HW := Lib.hid hw; have HST := Lib.hid hst; have HKN := Lib.hid hkn; have HL2 := Lib.hid hlt2; have HA := Lib.hid hA
          clear hw hst hkn hlt2 hA
          go_upto_region 12 with fail
          have hb1 : Below w.heap.size w (wr.alloc (.cells #[.string nm, .pointer (some ⟨x.r, 0, none⟩)] 68)) := hb.alloc hb.size _
          have HSR1 : Hid (Sep (wr.alloc (.cells #[.string nm, .pointer (some ⟨x.r, 0, none⟩)] 68)) (Asn.blk gx 72 (failCells c.size c.rows nr t j) :: nr.map (RowC.asn w.heap.size))) := HSR.out.below ((Below.refl _ _).alloc (Nat.le_refl _) _) (fun _ hk => HSR.out.lt hk)
          generalize wr.alloc (.cells #[.string nm, .pointer (some ⟨x.r, 0, none⟩)] 68) = wr1 at hb1 HSR1 ⊢
          obtain ⟨k1, k2, _⟩ := HW.out wr1 hb1
          have w1 : IntKind.i64.wrap ((n : Int) - x.mark) = n - x.mark := by rw [IntKind.wrap_i64]; omega
          have w2 : IntKind.i64.wrap ((x.mark : Int) + min keep ((n : Int) - x.mark)) = kn := by rw [IntKind.wrap_i64, ← HKN.out]; omega
          clear HSR
          go_quiet (fail)
          clear w1 w2 k1 k2
          go_upto_region 13 with fail
          have hb2 : Below w.heap.size w (wr1.drewN nq) := Below.dr hb1 nq
          have HSR2 : Hid (Sep (wr1.drewN nq) (Asn.blk gx 72 (failCells c.size c.rows nr t j) :: nr.map (RowC.asn w.heap.size))) := HSR1.out.below (Below.dr (Below.refl _ _) nq) (fun _ hk => HSR1.out.lt hk)
          generalize wr1.drewN nq = wr2 at hb2 HSR2 ⊢
          clear hb1 HSR1
          have hkc : kn ≤ cap := by omega
          have hgx2 : gx < wr2.heap.size := (show Blk wr2 gx 72 _ from HSR2.out.head).lt
          have HCL : Hid (∀ W, Below wr2.heap.size wr2 W → Calls Tryd.prog 52 #[.slice A kn cap] W (fun e w' => ∃ A' cap', e = .returned (.slice A' kn cap') ∧ Own w' W.heap.size 5 1 (.slice A' kn cap') kn (U8 (x.bs.take kn)) ∧ Below W.heap.size W w')) := fun W hW =>
            CloneB_any _ A kn cap W HL2.out.symm (by omega) (fun e => by have := (HA.out e).1; omega) (HW.out W (hb2.trans (hW.mono hb2.size))).2.2
          have HCG : Hid (∀ W, Below wr2.heap.size wr2 W → (∃ v, W.cell? ⟨gx, 1 + j * 2 + 1, none⟩ = some v) ∧ W.frozen? ⟨gx, 1 + j * 2 + 1, none⟩ = false) := fun W hW => by
            have hB : Blk W gx 72 (failCells c.size c.rows nr t j) := (show Blk wr2 gx 72 _ from HSR2.out.head).below hW hgx2
            obtain ⟨v, hv⟩ := failCells_at (size := c.size) (rows := c.rows) (nr := nr) hjl
            exact ⟨⟨v, by rw [hB.cell]; exact hv⟩, hB.free _⟩
          have r2 := Below.refl wr2.heap.size wr2
          go_region_held3 (fun W => W.cell? ⟨x.r, 0, none⟩ = some (.slice A n cap)) (exact (HW.out _ (by first | assumption | exact hb2.drew | exact (hb3w.alloc hb3w.size _) | exact (hb3w.alloc hb3w.size _).setCell hgw _)).1) (first | (go_at_call 52; (with_reducible refine (HCL.out _ r2.drew).mono ?_); rintro e w3 ⟨A', cap', rfl, ho, hb3⟩; have hb3w := hb2.drew.trans (hb3.mono hb2.drew.size); obtain ⟨⟨v, k1⟩, k2⟩ := HCG.out (w3.alloc (.cells #[.slice A' kn cap', .int .i64 kn] 101)) ((r2.drew.trans hb3).alloc hb3.size _); have HO := Lib.hid ho; clear ho))
          have HDONE : Hid (∃ nr' : List RowC, nr'.map (fun x => (x.bs, x.mark)) = c.m.anewR keep (t.take (j + 1)) ∧ Sep ((w3.alloc (.cells #[.slice A' kn cap', .int .i64 kn] 101)).setCell ⟨gx, 1 + j * 2 + 1, none⟩ (.pointer (some ⟨w3.heap.size, 0, none⟩))) (Asn.blk gx 72 (failCells c.size c.rows nr' t (j + 1)) :: nr'.map (RowC.asn w.heap.size))) :=
            HST.out nr gx wr2.drew w3 (.slice A' kn cap') HNR.out (HSR2.out.below r2.drew (fun _ hk => HSR2.out.lt hk)) hb3 hb2.drew.size HO.out
          have hfin : Below w.heap.size w ((w3.alloc (.cells #[.slice A' kn cap', .int .i64 kn] 101)).setCell ⟨gx, 1 + j * 2 + 1, none⟩ (.pointer (some ⟨w3.heap.size, 0, none⟩))) := (hb3w.alloc hb3w.size _).setCell hgw _
          clear HST HCL HCG HSR2 HNR k1 k2 hb3 hb3w r2 HO HW HAT HX
          go_wp2
          go_roundw
          case rel =>
            obtain ⟨nr', h1, h2⟩ := HDONE.out
            exact ⟨j + 1, nr', by omega, by go_num, h1, h2, hfin⟩
          case measure => simp [intOf]; omega
      · obtain rfl : j = 64 := by omega
        have HE := Lib.hid (HEND.out gx nr wr HNR HSR hgw hb)
        clear HEND HX HAT HNR HSR
        go_wp2_with fail
        (with_reducible refine HE.out.mono ?_)
        rintro e w9 ⟨rfl, c', hg', hm', hs', hb'⟩
        have HR9 : Hid (RetFail w (c.m.fail keep names) (.returned (.tuple #[.pointer (some ⟨gx, 0, none⟩), .int .i64 0])) w9) := ⟨c', by rw [hg'], by rw [hm', HFL.out], hs', by rw [hg']; exact hgw, hb'⟩
        clear hg' hm' hs' hb'
        go_wp2
        go_ret2
        exact HR9.out
end Go.Proofs.YtgibdecgmageeaaDoor
