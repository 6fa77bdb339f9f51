/- FilesPieces walked. -/
import Derived.Test.YtgibdecgmageeaaDoorAlive17
import Derived.Test.YtgibdecgmageeaaDoorOne
import Derived.Deep.DeepCutAuto
import Derived.Deep.CutRange
import Derived.Deep.RegionHeld3
namespace Go.Proofs.YtgibdecgmageeaaDoor
open Go.RowKit

def U16 (l : List Int) : List Value := l.map (Value.int .u16)
theorem bys_take (s : ByteArray) (k : Nat) : bys (s.extract 0 k) = (bys s).take k := by
  unfold bys
  rw [← List.map_take, ByteArray.data_extract]
  simp
theorem bys_cut (s : ByteArray) (j k : Nat) : bys (s.extract j k) = ((bys s).take k).drop j := by
  unfold bys
  rw [← List.map_take, ← List.map_drop, ByteArray.data_extract]
  simp [List.extract_eq_take_drop, List.drop_take]
theorem bys_drop (s : ByteArray) (k : Nat) : bys (s.extract k s.size) = (bys s).drop k := by
  rw [bys_cut, List.take_of_length_le (by rw [length_bys]; omega)]
theorem pieces_next (l : List Int) (j k : Nat) (h : j ≤ k) : l.take j ++ (l.take k).drop j = l.take k := by
  conv => rhs; rw [← List.take_append_drop j (l.take k)]
  rw [List.take_take, Nat.min_eq_left h]
/-- The disk of pieces. -/
abbrev pcs (l : List Int) (k : Nat) : Dm := one 50000 0 free64 [(l, k)]
theorem pcs_append (l : List Int) (k : Nat) (p : List Int) (h : l.length + p.length ≤ 20000) : (pcs l k).append sf p = (0, pcs (l ++ p) k) :=
  one_append 50000 0 free64 [(l, k)] p (by omega) (by simp; omega) (by simp; omega)
theorem pcs_sync (l : List Int) (k : Nat) : (pcs l k).sync sf = (0, pcs l l.length) := one_sync 50000 0 free64 [(l, k)] (by omega)
def markAt (safe at_ : Nat) : Nat := if safe ≤ at_ then safe else 0

set_option maxRecDepth 100000 in
set_option maxHeartbeats 1000000 in
theorem FilesPieces_long (b : ByteArray) (A : Option Addr) (n cap : Nat) (z0 z1 : Int) (w : World) (hb : b.size ≤ 140737488351232) (hn : n ≤ 140737488351232) (hl : 20000 < b.size ∨ 50 < n) :
    Calls Tryd.prog 8 #[.string b, .slice A n cap, .agg #[.int .u16 z0, .int .u16 z1]] w (fun e w' => e = .returned (.bool true) ∧ Below w.heap.size w w') := by
  by_cases hbb : 20000 < b.size
  · clear hl
    go_enter Tryd.func8, Tryd.ntmps8
    go_wp2_with fail
    (with_reducible refine (alive17 _).mono ?_)
    rintro e w1 ⟨rfl, b1⟩
    have hbA := (Below.refl w.heap.size w).alloc (Nat.le_refl _) (.cells #[.int .u16 z0, .int .u16 z1] 62)
    have B1 := hbA.trans (b1.mono hbA.size)
    go_wp2_with fail
    (with_reducible refine (alive17 _).mono ?_)
    rintro e w2 ⟨rfl, b2⟩
    go_wp2
    go_ret
    exact ⟨rfl, B1.trans (b2.mono B1.size)⟩
  · have hnn : 50 < n := by omega
    clear hl
    go_enter Tryd.func8, Tryd.ntmps8
    go_wp2_with fail
    (with_reducible refine (alive17 _).mono ?_)
    rintro e w1 ⟨rfl, b1⟩
    have hbA := (Below.refl w.heap.size w).alloc (Nat.le_refl _) (.cells #[.int .u16 z0, .int .u16 z1] 62)
    have B1 := hbA.trans (b1.mono hbA.size)
    go_wp2_with fail
    (with_reducible refine (alive17 _).mono ?_)
    rintro e w2 ⟨rfl, b2⟩
    go_wp2
    go_ret
    exact ⟨rfl, B1.trans (b2.mono B1.size)⟩

set_option maxRecDepth 100000 in
set_option maxHeartbeats 4000000 in
theorem FilesPieces_within (b : ByteArray) (A : Option Addr) (cs : List Int) (n cap : Nat) (z0 z1 : Int) (w : World) (hz0 : 0 ≤ z0) (hz1 : z0 < 65536) (hz2 : 0 ≤ z1) (hz3 : z1 < 65536) (hn : n = cs.length) (hcs : ∀ x ∈ cs, 0 ≤ x ∧ x < 65536) (hr : Rd w w.heap.size A (U16 cs)) (hb : b.size ≤ 20000) (hl : n ≤ 50) :
    Calls Tryd.prog 8 #[.string b, .slice A n cap, .agg #[.int .u16 z0, .int .u16 z1]] w (fun e w' => e = .returned (.bool true) ∧ Below w.heap.size w w') := by
  have hkt := conv_text
  have f1 : (newDm 50000).create sf = (0, pcs [] 0) := void_create 50000 free64 [] (by omega)
  obtain ⟨S, hS⟩ : ∃ S : Nat, S = z0.toNat % (b.size + 1) := ⟨_, rfl⟩
  have hSb : S ≤ b.size := by rw [hS]; have := Nat.mod_lt z0.toNat (show 0 < b.size + 1 by omega); omega
  have hSz : z0 % ((b.size : Int) + 1) = S := by rw [hS, Int.natCast_emod, Int.toNat_of_nonneg hz0]; rfl
  have hlen : (bys b).length = b.size := length_bys b
  have g1 : (pcs [] 0).append sf (bys (b.extract 0 S)) = (0, pcs ((bys b).take S) 0) := by
    have h := pcs_append [] 0 (bys (b.extract 0 S)) (by rw [bys_take]; simp; omega)
    rw [h, List.nil_append, bys_take]
  have g2 : (pcs ((bys b).take S) 0).sync sf = (0, pcs ((bys b).take S) S) := by
    rw [pcs_sync, List.length_take, hlen, Nat.min_eq_left hSb]
  have g3 : (pcs ((bys b).take S) S).append sf (bys (b.extract S b.size)) = (0, pcs (bys b) S) := by
    rw [pcs_append _ _ _ (by rw [bys_drop, List.length_take, List.length_drop]; omega), bys_drop, List.take_append_drop]
  have g4 : ∀ j k : Nat, j ≤ k → k ≤ b.size → (pcs ((bys b).take j) (markAt S j)).append sf (bys (b.extract j k)) = (0, pcs ((bys b).take k) (markAt S j)) := fun j k h1 h2 => by
    rw [pcs_append _ _ _ (by rw [bys_cut, List.length_take, List.length_drop, List.length_take]; omega), bys_cut, pieces_next _ _ _ h1]
  have g5 : ∀ j : Nat, (pcs ((bys b).take S) (markAt S j)).sync sf = (0, pcs ((bys b).take S) (markAt S S)) := fun j => by
    rw [pcs_sync, List.length_take, hlen, Nat.min_eq_left hSb, markAt, if_pos (Nat.le_refl _)]
  obtain ⟨e1, he1⟩ : ∃ e1, b.extract 0 S = e1 := ⟨_, rfl⟩
  obtain ⟨e2, he2⟩ : ∃ e2, b.extract S b.size = e2 := ⟨_, rfl⟩
  obtain ⟨V, hV⟩ : ∃ V, b.size - S = V := ⟨_, rfl⟩
  have hs1 : e1.size = S := by rw [← he1]; simp; omega
  have hs2 : e2.size = V := by rw [← he2, ← hV]; simp
  rw [he1] at g1
  rw [he2] at g3
  have E1 := Lib.hid he1; have E2 := Lib.hid he2; have HV := Lib.hid hV; have S1 := Lib.hid hs1; have S2 := Lib.hid hs2
  clear he1 he2 hV hs1 hs2
  have G1 := Lib.hid g1; have G2 := Lib.hid g2; have G3 := Lib.hid g3; have G4 := Lib.hid g4; have G5 := Lib.hid g5
  have N1 := Lib.hid (one_names 50000 0 free64 [(bys b, S)] (by omega))
  have F1 := Lib.hid f1
  clear g1 g2 g3 g4 g5 hlen
  have HN := Lib.hid hn
  have HCS := Lib.hid hcs
  clear f1 hn hcs hS
  go_enter Tryd.func8, Tryd.ntmps8
  go_wp2_with fail
  (with_reducible refine (alive17 _).mono ?_)
  rintro e w1 ⟨rfl, b1⟩
  have hbA := (Below.refl w.heap.size w).alloc (Nat.le_refl _) (.cells #[.int .u16 z0, .int .u16 z1] 62)
  have B1 := hbA.trans (b1.mono hbA.size)
  have hB := (Blk.lit w 62 _ rfl #[.int .u16 z0, .int .u16 z1] _ rfl).below b1 (by simp)
  have hcf : ∀ W, Below w1.heap.size w1 W → W.cell? ⟨w.heap.size, 0, none⟩ = some (.int .u16 z0) ∧ W.cell? ⟨w.heap.size, 1, none⟩ = some (.int .u16 z1) := fun W hW => by
    have h := hB.below hW hB.lt
    exact ⟨by rw [h.cell]; rfl, by rw [h.cell]; rfl⟩
  have HC := Lib.hid hcf
  have HR := Lib.hid (hr.below B1 B1.size)
  clear b1 hbA hB hcf hr
  have d1 : Disks w1.heap.size w1 [] [] := Disks.none_ (Sep.nil w1) (Nat.le_refl _)
  have H := Lib.hid (New_at (z := 50000) d1 (by omega) (by omega))
  clear d1
  obtain ⟨c0, c1⟩ := HC.out w1 (Below.refl _ _)
  go_wp2_with fail
  (with_reducible refine H.out.mono ?_)
  rintro e w2 ⟨gc, rfl, d2, b2⟩
  clear H c0 c1
  have H := Lib.hid (New_at (z := 50000) d2 (by omega) (by omega))
  clear d2
  go_wp2_with fail
  (with_reducible refine H.out.mono ?_)
  rintro e w3 ⟨gd, rfl, d3, b3⟩
  have B3 := b2.trans (b3.mono b2.size)
  clear H b2 b3
  have H := Lib.hid (Create_at d3.swap (by decide) F1.out)
  clear d3
  go_wp2_with fail
  (with_reducible refine H.out.mono ?_)
  rintro e w4 ⟨rfl, d4, b4⟩
  have B4 := B3.trans b4
  clear H B3 b4
  have H := Lib.hid (Create_at d4.swap (by decide) F1.out)
  clear d4
  go_wp2_with fail
  (with_reducible refine H.out.mono ?_)
  rintro e w5 ⟨rfl, d5, b5⟩
  have B5 := B4.trans b5
  clear H B4 b5
  have D5 := Lib.hid d5.swap
  clear d5
  have he1 := E1.out
  have hs1 := S1.out
  go_wp2_with fail
  clear he1 hs1
  have H := Lib.hid (Append_at (bs := bys e1) (n := S) (cb := grownCap w5 S 0 5) (B := some ⟨w5.heap.size, 0, none⟩) (D5.out.below (below_text w5 5 e1)) (by decide) (by rw [length_bys, S1.out]) (by omega) (isU8_bys _) (rd_text w5 5 e1) G1.out)
  have B5' := B5.trans ((below_text w5 5 e1).mono B5.size)
  clear D5 B5
  (with_reducible refine H.out.mono ?_)
  rintro e w6 ⟨rfl, d6, b6⟩
  have B6 := B5'.trans b6
  clear H B5' b6
  have H := Lib.hid (Sync_at d6 (by decide) G2.out)
  clear d6
  go_wp2_with fail
  (with_reducible refine H.out.mono ?_)
  rintro e w7 ⟨rfl, d7, b7⟩
  have B7 := B6.trans b7
  clear H B6 b7
  have D7 := Lib.hid d7
  clear d7
  have he2 := E2.out
  have hs2 := S2.out
  have hV := HV.out
  go_wp2_with fail
  clear he2 hs2 hV
  have H := Lib.hid (Append_at (bs := bys e2) (n := V) (cb := grownCap w7 V 0 5) (B := some ⟨w7.heap.size, 0, none⟩) (D7.out.below (below_text w7 5 e2)) (by decide) (by rw [length_bys, S2.out]) (by have := HV.out; omega) (isU8_bys _) (rd_text w7 5 e2) G3.out)
  have B7' := B7.trans ((below_text w7 5 e2).mono B7.size)
  clear D7 B7
  (with_reducible refine H.out.mono ?_)
  rintro e w8 ⟨rfl, d8, b8⟩
  have B8 := B7'.trans b8
  clear H B7' b8 G1 G2 G3 F1
  have D8 := Lib.hid d8.swap
  clear d8
  go_wp2_with fail
  go_loopw [12, 13] (fun a i wr => ∃ p j : Nat, a = .int .i64 p ∧ i = .int .i64 j ∧ p ≤ b.size ∧ j ≤ n + p ∧ Disks w1.heap.size wr ((gd, pcs ((bys b).take p) (markAt S p)) :: (gc, pcs (bys b) S) :: []) [] ∧ Below w1.heap.size w1 wr) (fun a i _ => (n - (intOf i).toNat) + (b.size - (intOf a).toNat))
  case atStart => exact ⟨0, 0, rfl, rfl, by omega, by omega, by have h0 : markAt S 0 = 0 := (by unfold markAt; split <;> omega); rw [h0]; exact D8.out, B8⟩
  case round =>
    obtain ⟨p, j, rfl, rfl, hp, hj, dr, br⟩ := hrel
    have DR := Lib.hid dr
    clear dr D8 B8
    by_cases hgo : j < n ∨ p < b.size
    · by_cases hjn : j < n
      · obtain ⟨ad, rfl, hab, hc⟩ := HR.out (by simp [U16]; have := HN.out; omega)
        have hjc : j < cs.length := by have := HN.out; omega
        have hcell : wr.cell? (ad.add j) = some (.int .u16 (cs[j]'hjc)) := by
          rw [br.cell (by rw [add_block]; exact hab)]
          exact hc j _ (by simp [U16, hjc])
        have hv := HCS.out _ (List.getElem_mem hjc)
        generalize (cs[j]'hjc) = v at hcell hv
        obtain ⟨q, hq⟩ : ∃ q : Nat, v % ((b.size : Int) - p + 1) = q := ⟨(v % ((b.size : Int) - p + 1)).toNat, (Int.toNat_of_nonneg (Int.emod_nonneg _ (by omega))).symm⟩
        have hqb : q ≤ b.size - p := by
          have := Int.emod_lt_of_pos v (show (0 : Int) < (b.size : Int) - p + 1 by omega)
          omega
        obtain ⟨t, ht⟩ : ∃ t : Nat, t = p + q := ⟨_, rfl⟩
        have hw : IntKind.i64.wrap ((p : Int) + q) = t := by rw [IntKind.wrap_i64]; omega
        have ht1 : t ≤ p + q := Nat.le_of_eq ht
        have ht2 : p + q ≤ t := Nat.le_of_eq ht.symm
        have hmin : min t b.size = t := Nat.min_eq_left (by omega)
        clear ht
        have hmk : ∀ t : Nat, p ≤ t → (p < S → t < S) → markAt S p = markAt S t := fun t h1 h2 => by
          unfold markAt
          by_cases h : p < S
          · rw [if_neg (by omega), if_neg (by have := h2 h; omega)]
          · rw [if_pos (by omega), if_pos (by omega)]
        have HMK := Lib.hid hmk
        clear hmk
        by_cases hps : p < S
        · by_cases hst : S < t
          · go_wp2_with fail
            have HA := Lib.hid (Append_at (bs := bys (b.extract p S)) (n := S - p) (cb := grownCap wr (S - p) 0 5) (B := some ⟨wr.heap.size, 0, none⟩) (DR.out.below (below_text wr 5 (b.extract p S))) (by decide) (by rw [length_bys]; simp <;> omega) (by omega) (isU8_bys _) (rd_text wr 5 (b.extract p S)) (G4.out p S (by omega) (by omega)))
            have BA := br.trans ((below_text wr 5 (b.extract p S)).mono br.size)
            clear DR br
            (with_reducible refine HA.out.mono ?_)
            rintro e wa ⟨rfl, da, ba⟩
            have Ba := BA.trans ba
            have Da := Lib.hid da
            clear HA BA da ba
            go_wp2_with fail
            have HA := Lib.hid (Sync_at Da.out (by decide) (G5.out p))
            clear Da
            (with_reducible refine HA.out.mono ?_)
            rintro e wb ⟨rfl, db, bb⟩
            have Bb := Ba.trans bb
            have Db := Lib.hid db
            clear HA Ba db bb
            go_wp2_with fail
            go_roundw
            case rel => exact ⟨S, j + 1, rfl, by go_num, by omega, by omega, by exact Db.out, Bb⟩
            case measure => simp [intOf] <;> omega
          · by_cases hts : t = S
            · subst hts
              go_wp2_with fail
              have HA := Lib.hid (Append_at (bs := bys (b.extract p t)) (n := t - p) (cb := grownCap wr (t - p) 0 5) (B := some ⟨wr.heap.size, 0, none⟩) (DR.out.below (below_text wr 5 (b.extract p t))) (by decide) (by rw [length_bys]; simp <;> omega) (by omega) (isU8_bys _) (rd_text wr 5 (b.extract p t)) (G4.out p t (by omega) (by omega)))
              have BA := br.trans ((below_text wr 5 (b.extract p t)).mono br.size)
              clear DR br
              (with_reducible refine HA.out.mono ?_)
              rintro e wa ⟨rfl, da, ba⟩
              have Ba := BA.trans ba
              have Da := Lib.hid da
              clear HA BA da ba
              go_wp2_with fail
              have HA := Lib.hid (Sync_at Da.out (by decide) (G5.out p))
              clear Da
              (with_reducible refine HA.out.mono ?_)
              rintro e wb ⟨rfl, db, bb⟩
              have Bb := Ba.trans bb
              have Db := Lib.hid db
              clear HA Ba db bb
              go_wp2_with fail
              go_roundw
              case rel => exact ⟨t, j + 1, rfl, by go_num, by omega, by omega, by exact Db.out, Bb⟩
              case measure => simp [intOf] <;> omega
            · go_wp2_with fail
              have HA := Lib.hid (Append_at (bs := bys (b.extract p t)) (n := t - p) (cb := grownCap wr (t - p) 0 5) (B := some ⟨wr.heap.size, 0, none⟩) (DR.out.below (below_text wr 5 (b.extract p t))) (by decide) (by rw [length_bys]; simp <;> omega) (by omega) (isU8_bys _) (rd_text wr 5 (b.extract p t)) (G4.out p t (by omega) (by omega)))
              have BA := br.trans ((below_text wr 5 (b.extract p t)).mono br.size)
              clear DR br
              (with_reducible refine HA.out.mono ?_)
              rintro e wa ⟨rfl, da, ba⟩
              have Ba := BA.trans ba
              have Da := Lib.hid da
              clear HA BA da ba
              go_wp2_with fail
              go_roundw
              case rel => exact ⟨t, j + 1, rfl, by go_num, by omega, by omega, by rw [← HMK.out t (by omega) (by omega)]; exact Da.out, Ba⟩
              case measure => simp [intOf] <;> omega
        · by_cases hts : t = S
          · subst hts
            go_wp2_with fail
            have HA := Lib.hid (Append_at (bs := bys (b.extract p t)) (n := t - p) (cb := grownCap wr (t - p) 0 5) (B := some ⟨wr.heap.size, 0, none⟩) (DR.out.below (below_text wr 5 (b.extract p t))) (by decide) (by rw [length_bys]; simp <;> omega) (by omega) (isU8_bys _) (rd_text wr 5 (b.extract p t)) (G4.out p t (by omega) (by omega)))
            have BA := br.trans ((below_text wr 5 (b.extract p t)).mono br.size)
            clear DR br
            (with_reducible refine HA.out.mono ?_)
            rintro e wa ⟨rfl, da, ba⟩
            have Ba := BA.trans ba
            have Da := Lib.hid da
            clear HA BA da ba
            go_wp2_with fail
            go_roundw
            case rel => exact ⟨t, j + 1, rfl, by go_num, by omega, by omega, by rw [← HMK.out t (by omega) (by omega)]; exact Da.out, Ba⟩
            case measure => simp [intOf] <;> omega
          · go_wp2_with fail
            have HA := Lib.hid (Append_at (bs := bys (b.extract p t)) (n := t - p) (cb := grownCap wr (t - p) 0 5) (B := some ⟨wr.heap.size, 0, none⟩) (DR.out.below (below_text wr 5 (b.extract p t))) (by decide) (by rw [length_bys]; simp <;> omega) (by omega) (isU8_bys _) (rd_text wr 5 (b.extract p t)) (G4.out p t (by omega) (by omega)))
            have BA := br.trans ((below_text wr 5 (b.extract p t)).mono br.size)
            clear DR br
            (with_reducible refine HA.out.mono ?_)
            rintro e wa ⟨rfl, da, ba⟩
            have Ba := BA.trans ba
            have Da := Lib.hid da
            clear HA BA da ba
            go_wp2_with fail
            go_roundw
            case rel => exact ⟨t, j + 1, rfl, by go_num, by omega, by omega, by rw [← HMK.out t (by omega) (by omega)]; exact Da.out, Ba⟩
            case measure => simp [intOf] <;> omega
      · have hpb : p < b.size := by omega
        have hmk : ∀ t : Nat, p ≤ t → (p < S → t < S) → markAt S p = markAt S t := fun t h1 h2 => by
          unfold markAt
          by_cases h : p < S
          · rw [if_neg (by omega), if_neg (by have := h2 h; omega)]
          · rw [if_pos (by omega), if_pos (by omega)]
        have HMK := Lib.hid hmk
        clear hmk
        by_cases hps : p < S
        · by_cases hst : S < b.size
          · go_wp2_with fail
            have HA := Lib.hid (Append_at (bs := bys (b.extract p S)) (n := S - p) (cb := grownCap wr (S - p) 0 5) (B := some ⟨wr.heap.size, 0, none⟩) (DR.out.below (below_text wr 5 (b.extract p S))) (by decide) (by rw [length_bys]; simp <;> omega) (by omega) (isU8_bys _) (rd_text wr 5 (b.extract p S)) (G4.out p S (by omega) (by omega)))
            have BA := br.trans ((below_text wr 5 (b.extract p S)).mono br.size)
            clear DR br
            (with_reducible refine HA.out.mono ?_)
            rintro e wa ⟨rfl, da, ba⟩
            have Ba := BA.trans ba
            have Da := Lib.hid da
            clear HA BA da ba
            go_wp2_with fail
            have HA := Lib.hid (Sync_at Da.out (by decide) (G5.out p))
            clear Da
            (with_reducible refine HA.out.mono ?_)
            rintro e wb ⟨rfl, db, bb⟩
            have Bb := Ba.trans bb
            have Db := Lib.hid db
            clear HA Ba db bb
            go_wp2_with fail
            go_roundw
            case rel => exact ⟨S, j + 1, rfl, by go_num, by omega, by omega, by exact Db.out, Bb⟩
            case measure => simp [intOf] <;> omega
          · by_cases hts : S = b.size
            · subst hts
              go_wp2_with fail
              have HA := Lib.hid (Append_at (bs := bys (b.extract p b.size)) (n := b.size - p) (cb := grownCap wr (b.size - p) 0 5) (B := some ⟨wr.heap.size, 0, none⟩) (DR.out.below (below_text wr 5 (b.extract p b.size))) (by decide) (by rw [length_bys]; simp <;> omega) (by omega) (isU8_bys _) (rd_text wr 5 (b.extract p b.size)) (G4.out p b.size (by omega) (by omega)))
              have BA := br.trans ((below_text wr 5 (b.extract p b.size)).mono br.size)
              clear DR br
              (with_reducible refine HA.out.mono ?_)
              rintro e wa ⟨rfl, da, ba⟩
              have Ba := BA.trans ba
              have Da := Lib.hid da
              clear HA BA da ba
              go_wp2_with fail
              have HA := Lib.hid (Sync_at Da.out (by decide) (G5.out p))
              clear Da
              (with_reducible refine HA.out.mono ?_)
              rintro e wb ⟨rfl, db, bb⟩
              have Bb := Ba.trans bb
              have Db := Lib.hid db
              clear HA Ba db bb
              go_wp2_with fail
              go_roundw
              case rel => exact ⟨b.size, j + 1, rfl, by go_num, by omega, by omega, by exact Db.out, Bb⟩
              case measure => simp [intOf] <;> omega
            · exact absurd (by omega) hts
        · go_wp2_with fail
          have HA := Lib.hid (Append_at (bs := bys (b.extract p b.size)) (n := b.size - p) (cb := grownCap wr (b.size - p) 0 5) (B := some ⟨wr.heap.size, 0, none⟩) (DR.out.below (below_text wr 5 (b.extract p b.size))) (by decide) (by rw [length_bys]; simp <;> omega) (by omega) (isU8_bys _) (rd_text wr 5 (b.extract p b.size)) (G4.out p b.size (by omega) (by omega)))
          have BA := br.trans ((below_text wr 5 (b.extract p b.size)).mono br.size)
          clear DR br
          (with_reducible refine HA.out.mono ?_)
          rintro e wa ⟨rfl, da, ba⟩
          have Ba := BA.trans ba
          have Da := Lib.hid da
          clear HA BA da ba
          go_wp2_with fail
          go_roundw
          case rel => exact ⟨b.size, j + 1, rfl, by go_num, by omega, by omega, by rw [← HMK.out b.size (by omega) (by omega)]; exact Da.out, Ba⟩
          case measure => simp [intOf] <;> omega
    · have e1 : p = b.size := by omega
      have hd : Disks w1.heap.size wr ((gc, pcs (bys b) S) :: (gd, pcs (bys b) S) :: []) [] := by
        have h := DR.out
        rw [e1, List.take_of_length_le (by rw [length_bys]; omega), show markAt S b.size = S from if_pos (by omega)] at h
        exact h.swap
      have D9 := Lib.hid hd
      have hp1 := Nat.le_of_eq e1
      clear DR hd e1
      have HK := Lib.hid (alike_yes D9.out (Alike.refl _))
      go_wp2_with fail
      (with_reducible refine HK.out.mono ?_)
      rintro e wa ⟨rfl, ba⟩
      have Da := Lib.hid (D9.out.below ba)
      have Ba := br.trans (ba.mono br.size)
      clear HK ba D9
      have HK := Lib.hid (Names_at Da.out N1.out)
      go_wp2_with fail
      (with_reducible refine HK.out.mono ?_)
      rintro e wb ⟨rfl, db, bb⟩
      have Db := Lib.hid db.swap
      have Bb := Ba.trans bb
      clear HK db bb Da
      have HK := Lib.hid (Names_at Db.out N1.out)
      go_wp2_with fail
      (with_reducible refine HK.out.mono ?_)
      rintro e wc ⟨rfl, dc, bc⟩
      have Dc := Lib.hid dc.swap
      have Bc := Bb.trans bc
      obtain ⟨c0, c1⟩ := HC.out wc Bc
      have HK := Lib.hid (fail_yes (keep := z1 % 30) Dc.out (show (1 : Int) ≤ 50000 by omega) (show (1 : Int) ≤ 50000 by omega) (by omega) (by omega) (fun _ => Alike.refl _))
      clear dc bc Db
      go_wp2_with fail
      (with_reducible refine HK.out.mono ?_)
      rintro e wd ⟨rfl, bd⟩
      have Bd := B1.trans ((Bc.trans (bd.mono Bc.size)).mono B1.size)
      clear HK
      go_wp2
      go_ret
      exact ⟨rfl, Bd⟩
end Go.Proofs.YtgibdecgmageeaaDoor
