/- FilesGone walked. -/
import Derived.Test.YtgibdecgmageeaaDoorAlive17
import Derived.Test.YtgibdecgmageeaaDoorOne
import Derived.Deep.DeepCutAuto
import Derived.Deep.CutRange
import Derived.Deep.RegionHeld3
namespace Go.Proofs.YtgibdecgmageeaaDoor
open Go.RowKit

theorem one_fail_t (s : Int) (i : Nat) (safe : List Pl) (rows : List (List Int × Nat)) (keep : Int) : (one s i safe rows).fail keep true = one s 0 ((sf, some 0) :: List.replicate 63 free) [kept keep (rows.getD i ([], 0))] := rfl
theorem one_fail_f0 (s : Int) (i : Nat) (rows : List (List Int × Nat)) (keep : Int) : (one s i free64 rows).fail keep false = ⟨s, free64, free64, []⟩ := rfl
theorem one_fail_f (s : Int) (i : Nat) (rows : List (List Int × Nat)) (keep : Int) : (one s i ((sf, some i) :: List.replicate 63 free) rows).fail keep false = one s 0 ((sf, some 0) :: List.replicate 63 free) [kept keep (rows.getD i ([], 0))] := rfl

/-- A new block beside the disks. -/
theorem Disks.with_ {b0 : Nat} {w : World} {L : List (Nat × Dm)} {R : List Asn} (h : Disks b0 w L R) (e : TypeId) (cs : Array Value) : Disks b0 (w.alloc (.cells cs e)) L (Asn.blk w.heap.size e cs.toList :: R) := by
  have hb0 := h.size
  obtain ⟨ds, h1, h2, h3, h4⟩ := h
  have hst := Step.fresh h3 ((Below.refl w.heap.size w).alloc (Nat.le_refl _) (.cells cs e)) (N := [Asn.blk w.heap.size e cs.toList]) (Sep.one.2 (Blk.lit w e _ rfl cs _ rfl)) (fun k hk => by
    rcases foots_cons.1 hk with h | h
    · exact Nat.le_of_eq (show k = w.heap.size from h).symm
    · exact absurd h foots_nil)
  exact ⟨ds, h1, h2, hst.sep.perm (List.perm_append_comm.trans (by rw [List.append_assoc]; exact List.Perm.append_left _ List.perm_append_comm)), Nat.le_trans hb0 (by simp)⟩
theorem Disks.drew {b0 : Nat} {w : World} {L : List (Nat × Dm)} {R : List Asn} (h : Disks b0 w L R) : Disks b0 w.drew L R := h.below (Below.refl _ _).drew
theorem Disks.cell {b0 : Nat} {w : World} {L : List (Nat × Dm)} {g : Nat} {e : TypeId} {cs : List Value} {R : List Asn} (h : Disks b0 w L (Asn.blk g e cs :: R)) (i : Nat) : w.cell? ⟨g, i, none⟩ = cs[i]? := by
  have := h.rest.head
  exact Blk.cell (show Blk w g e cs from this) i

set_option maxRecDepth 100000 in
set_option maxHeartbeats 1000000 in
theorem FilesGone_long (k : Int) (x y : ByteArray) (w : World) (hx : x.size ≤ 140737488351232) (hy : y.size ≤ 140737488351232) (hl : 20000 < x.size + y.size) :
    Calls Tryd.prog 12 #[.agg #[.string x, .string y], .int .u8 k] w (fun e w' => e = .returned (.bool true) ∧ Below w.heap.size w w') := by
  have hlI : (20000 : Int) < (x.size : Int) + y.size := by omega
  go_enter Tryd.func12, Tryd.ntmps12
  go_wp2_with fail
  (with_reducible refine (alive17 _).mono ?_)
  rintro e w1 ⟨rfl, b1⟩
  have hbA := (Below.refl w.heap.size w).alloc (Nat.le_refl _) (.cells #[.string x, .string y] 83)
  have B1 := hbA.trans (b1.mono hbA.size)
  have hB := (Blk.lit w 83 _ rfl #[.string x, .string y] _ rfl).below b1 (by simp)
  have c0 : w1.cell? ⟨w.heap.size, 0, none⟩ = some (.string x) := by rw [hB.cell]; rfl
  have c1 : w1.cell? ⟨w.heap.size, 1, none⟩ = some (.string y) := by rw [hB.cell]; rfl
  clear b1 hbA hB
  go_wp2_with fail
  (with_reducible refine (alive17 _).mono ?_)
  rintro e w2 ⟨rfl, b2⟩
  go_wp2
  go_ret
  exact ⟨rfl, B1.trans (b2.mono B1.size)⟩

set_option maxRecDepth 100000 in
set_option maxHeartbeats 4000000 in
theorem FilesGone_within (k : Int) (x y : ByteArray) (w : World) (hk0 : 0 ≤ k) (hk1 : k < 256) (hl : x.size + y.size ≤ 20000) :
    Calls Tryd.prog 12 #[.agg #[.string x, .string y], .int .u8 k] w (fun e w' => e = .returned (.bool true) ∧ Below w.heap.size w w') := by
  have hlI : (x.size : Int) + y.size ≤ 20000 := by omega
  have hkt := conv_text
  have lx : (bys x).length = x.size := length_bys x
  have ly : (bys y).length = y.size := length_bys y
  -- what the models do
  have f1 : (newDm 20000).create sf = (0, one 20000 0 free64 [([], 0)]) := void_create 20000 free64 [] (by omega)
  have f2 : (one 20000 0 free64 [([], 0)]).append sf (bys x) = (0, one 20000 0 free64 [(bys x, 0)]) := one_append 20000 0 free64 [([], 0)] (bys x) (by omega) (by simp; omega) (by simp; omega)
  have f3 : (one 20000 0 free64 [(bys x, 0)]).sync sf = (0, one 20000 0 free64 [(bys x, (bys x).length)]) := one_sync 20000 0 free64 [(bys x, 0)] (by omega)
  have f4 := one_names 20000 0 free64 [(bys x, (bys x).length)] (by omega)
  have f5 := one_remove 20000 0 ((sf, some 0) :: List.replicate 63 free) [(bys x, (bys x).length)] (by omega)
  have f6 := void_names 20000 ((sf, some 0) :: List.replicate 63 free) [(bys x, (bys x).length)] (by omega)
  have g0 : (newDm 20000).names = (0, newDm 20000) := void_names 20000 free64 [] (by omega)
  have g1 : (newDm 20000).list = [] := void_list 20000 free64 []
  have g2 : (newDm 20000).left = 20000 := void_left 20000 free64 [] (by omega)
  have g4 : (one 20000 0 free64 [([], 0)]).append sf (bys y) = (0, one 20000 0 free64 [(bys y, 0)]) := one_append 20000 0 free64 [([], 0)] (bys y) (by omega) (by simp; omega) (by simp; omega)
  have h0 := void_names 20000 free64 [(bys x, (bys x).length)] (by omega)
  have h1 := void_list 20000 free64 [(bys x, (bys x).length)]
  have h2 := void_left 20000 free64 [(bys x, (bys x).length)] (by omega)
  have h3 : (⟨20000, free64, free64, [(bys x, (bys x).length)]⟩ : Dm).create sf = (0, one 20000 1 free64 [(bys x, (bys x).length), ([], 0)]) := void_create 20000 free64 [(bys x, (bys x).length)] (by omega)
  have h4 : (one 20000 1 free64 [(bys x, (bys x).length), ([], 0)]).append sf (bys y) = (0, one 20000 1 free64 [(bys x, (bys x).length), (bys y, 0)]) := one_append 20000 1 free64 [(bys x, (bys x).length), ([], 0)] (bys y) (by omega) (by simp; omega) (by simp; omega)
  have hal : Alike (one 20000 0 free64 [(bys y, 0)]) (one 20000 1 free64 [(bys x, (bys x).length), (bys y, 0)]) := one_alike (by omega) rfl
  have hfa : ∀ b, Alike ((one 20000 0 free64 [(bys y, 0)]).fail k b) ((one 20000 1 free64 [(bys x, (bys x).length), (bys y, 0)]).fail k b) := fun b => by
    cases b
    · rw [one_fail_f0, one_fail_f0]; exact Alike.refl _
    · rw [one_fail_t, one_fail_t]; exact Alike.refl _
  have n1 := one_names 20000 0 free64 [(bys y, 0)] (by omega)
  have n2 := one_names 20000 1 free64 [(bys x, (bys x).length), (bys y, 0)] (by omega)
  have hfb : ∀ b, Alike ((one 20000 0 ((sf, some 0) :: List.replicate 63 free) [(bys y, 0)]).fail k b) ((one 20000 1 ((sf, some 1) :: List.replicate 63 free) [(bys x, (bys x).length), (bys y, 0)]).fail k b) := fun b => by
    cases b
    · rw [one_fail_f, one_fail_f]; exact Alike.refl _
    · rw [one_fail_t, one_fail_t]; exact Alike.refl _
  have F1 := Lib.hid f1; have F2 := Lib.hid f2; have F3 := Lib.hid f3; have F4 := Lib.hid f4; have F5 := Lib.hid f5; have F6 := Lib.hid f6
  have G0 := Lib.hid g0; have G1 := Lib.hid g1; have G2 := Lib.hid g2; have G4 := Lib.hid g4
  have H0 := Lib.hid h0; have H1 := Lib.hid h1; have H2 := Lib.hid h2; have H3 := Lib.hid h3; have H4 := Lib.hid h4
  have AL := Lib.hid hal; have FA := Lib.hid hfa; have FB := Lib.hid hfb; have N1 := Lib.hid n1; have N2 := Lib.hid n2
  have LX := Lib.hid lx; have LY := Lib.hid ly
  clear f1 f2 f3 f4 f5 f6 g0 g1 g2 g4 h0 h1 h2 h3 h4 hal hfa hfb n1 n2 lx ly
  have hxs : x.size ≤ 20000 := by omega
  have hys : y.size ≤ 20000 := by omega
  go_enter Tryd.func12, Tryd.ntmps12
  go_wp2_with fail
  (with_reducible refine (alive17 _).mono ?_)
  rintro e w1 ⟨rfl, b1⟩
  have hbA := (Below.refl w.heap.size w).alloc (Nat.le_refl _) (.cells #[.string x, .string y] 83)
  have B1 := hbA.trans (b1.mono hbA.size)
  have hB := (Blk.lit w 83 _ rfl #[.string x, .string y] _ rfl).below b1 (by simp)
  have hcf : ∀ W, Below w1.heap.size w1 W → W.cell? ⟨w.heap.size, 0, none⟩ = some (.string x) ∧ W.cell? ⟨w.heap.size, 1, none⟩ = some (.string y) := fun W hW => by
    have h := hB.below hW hB.lt
    exact ⟨by rw [h.cell]; rfl, by rw [h.cell]; rfl⟩
  have HC := Lib.hid hcf
  clear b1 hbA hB hcf
  have d1 : Disks w1.heap.size w1 [] [] := Disks.none_ (Sep.nil w1) (Nat.le_refl _)
  have H := Lib.hid (New_at (z := 20000) d1 (by omega) (by omega))
  clear d1
  obtain ⟨c0, c1⟩ := HC.out w1 (Below.refl _ _)
  go_wp2_with fail
  (with_reducible refine H.out.mono ?_)
  rintro e w2 ⟨gc, rfl, d2, b2⟩
  clear H c0 c1
  have H := Lib.hid (New_at (z := 20000) d2 (by omega) (by omega))
  clear d2
  go_wp2_with fail
  (with_reducible refine H.out.mono ?_)
  rintro e w3 ⟨gd, rfl, d3, b3⟩
  have B3 := b2.trans (b3.mono b2.size)
  clear H b2 b3
  have H := Lib.hid (Create_at d3 (by decide) F1.out)
  clear d3
  go_wp2_with fail
  (with_reducible refine H.out.mono ?_)
  rintro e w4 ⟨rfl, d4, b4⟩
  have B4 := B3.trans b4
  clear H B3 b4
  obtain ⟨c0, c1⟩ := HC.out w4 B4
  have H := Lib.hid (Append_at (bs := bys x) (n := x.size) (cb := grownCap w4 x.size 0 5) (B := some ⟨w4.heap.size, 0, none⟩) (d4.below (below_text w4 5 x)) (by decide) (by rw [LX.out]) (by omega) (isU8_bys x) (rd_text w4 5 x) F2.out)
  have B4' := B4.trans ((below_text w4 5 x).mono B4.size)
  clear d4 B4
  go_wp2_with fail
  (with_reducible refine H.out.mono ?_)
  rintro e w5 ⟨rfl, d5, b5⟩
  have B5 := B4'.trans b5
  clear H B4' b5 c0 c1
  have H := Lib.hid (Sync_at d5 (by decide) F3.out)
  clear d5
  go_wp2_with fail
  (with_reducible refine H.out.mono ?_)
  rintro e w6 ⟨rfl, d6, b6⟩
  have B6 := B5.trans b6
  clear H B5 b6
  have H := Lib.hid (Names_at d6 F4.out)
  clear d6
  go_wp2_with fail
  (with_reducible refine H.out.mono ?_)
  rintro e w7 ⟨rfl, d7, b7⟩
  have B7 := B6.trans b7
  clear H B6 b7
  have H := Lib.hid (Remove_at d7 (by decide) F5.out)
  clear d7
  go_wp2_with fail
  (with_reducible refine H.out.mono ?_)
  rintro e w8 ⟨rfl, d8, b8⟩
  have B8 := B7.trans b8
  clear H B7 b8
  have H := Lib.hid (Names_at d8 F6.out)
  clear d8
  go_wp2_with fail
  (with_reducible refine H.out.mono ?_)
  rintro e w9 ⟨rfl, d9, b9⟩
  have B9 := B8.trans b9
  clear H B8 b9
  have D9 := Lib.hid d9
  clear d9
  go_upto_region 8 with fail
  have D10 := Lib.hid (D9.out.with_ 25 #[.pointer (some ⟨gc, 0, none⟩), .pointer (some ⟨gd, 0, none⟩)])
  have B10 := B9.alloc B9.size (.cells #[.pointer (some ⟨gc, 0, none⟩), .pointer (some ⟨gd, 0, none⟩)] 25)
  generalize hgb : w9.heap.size = gb at D10 ⊢
  have HGB := Lib.hid hgb
  clear hgb D9 B9
  generalize w9.alloc (.cells #[.pointer (some ⟨gc, 0, none⟩), .pointer (some ⟨gd, 0, none⟩)] 25) = w10 at D10 B10 ⊢
  have HK : Hid (∀ W L, Disks w1.heap.size W L [Asn.blk gb 25 (#[.pointer (some ⟨gc, 0, none⟩), .pointer (some ⟨gd, 0, none⟩)] : Array Value).toList] → Below w1.heap.size w1 W → W.cell? ⟨gb, 0, none⟩ = some (.pointer (some ⟨gc, 0, none⟩)) ∧ W.cell? ⟨gb, 1, none⟩ = some (.pointer (some ⟨gd, 0, none⟩)) ∧ W.cell? ⟨w.heap.size, 1, none⟩ = some (.string y)) :=
    fun W L hd hb => ⟨by rw [hd.cell]; rfl, by rw [hd.cell]; rfl, (HC.out W hb).2⟩
  have DC := Lib.hid D10.out.swap
  clear D10
  go_wp2_with fail
  refine wp_loop_rounds 3 ?_
  rw [rounds_succ]
  go_wp2_with fail
  have K := Lib.hid (Names_at DC.out.drew G0.out)
  have Bd := B10.drew
  go_region_held (fun W => W.cell? ⟨gb, 0, none⟩ = some (.pointer (some ⟨gc, 0, none⟩)) ∧ W.cell? ⟨gb, 1, none⟩ = some (.pointer (some ⟨gd, 0, none⟩)) ∧ W.cell? ⟨w.heap.size, 1, none⟩ = some (.string y)) (first | exact HK.out _ _ (by assumption) (by assumption) | exact HK.out _ _ DC.out B10 | exact HK.out _ _ DC.out.drew Bd) (first
    | (go_at_call 28; (with_reducible refine K.out.mono ?_); rintro e w11 ⟨rfl, d11, b11⟩; have B11 := Bd.trans b11)
    | (go_at_call 38; have hl := List_at d11; rw [G1.out] at hl; (with_reducible refine hl.mono ?_); clear hl; rintro e w12 ⟨A12, rfl, _, b12⟩; have d12 := d11.below b12; have B12 := B11.trans (b12.mono B11.size))
    | (go_at_call 20; have hl := Left_at d12; rw [G2.out] at hl; (with_reducible refine hl.mono ?_); clear hl; rintro e w13 ⟨rfl, b13⟩; have d13 := d12.below b13; have B13 := B12.trans (b13.mono B12.size))
    | (go_at_call 32; (with_reducible refine (Create_at d13 (by decide) F1.out).mono ?_); rintro e w14 ⟨rfl, d14, b14⟩; have B14 := B13.trans b14; have d14c := d14.below (below_text w14 5 y); have B14c := B14.trans ((below_text w14 5 y).mono B14.size))
    | (go_at_call 33; (with_reducible refine (Append_at (bs := bys y) (n := y.size) (B := some ⟨w14.heap.size, 0, none⟩) d14c (by decide) (by rw [LY.out]) (by omega) (isU8_bys y) (rd_text w14 5 y) G4.out).mono ?_); rintro e w15 ⟨rfl, d15, b15⟩; have B15 := B14c.trans b15))
  have DD := Lib.hid d15.swap
  rename_i hHeld10
  clear hHeld10 K Bd d14c B14c d11 b11 B11 d12 b12 B12 d13 b13 B13 d14 b14 B14 d15 b15
  clear DC B10
  go_wp2_with fail
  rw [rounds_succ]
  go_wp2_with fail
  have K := Lib.hid (Names_at DD.out.drew H0.out)
  have Bd := B15.drew
  go_region_held (fun W => W.cell? ⟨gb, 0, none⟩ = some (.pointer (some ⟨gc, 0, none⟩)) ∧ W.cell? ⟨gb, 1, none⟩ = some (.pointer (some ⟨gd, 0, none⟩)) ∧ W.cell? ⟨w.heap.size, 1, none⟩ = some (.string y)) (first | exact HK.out _ _ (by assumption) (by assumption) | exact HK.out _ _ DD.out B15 | exact HK.out _ _ DD.out.drew Bd) (first
    | (go_at_call 28; (with_reducible refine K.out.mono ?_); rintro e w16 ⟨rfl, d16, b16⟩; have B16 := Bd.trans b16)
    | (go_at_call 38; have hl := List_at d16; rw [H1.out] at hl; (with_reducible refine hl.mono ?_); clear hl; rintro e w17 ⟨A17, rfl, _, b17⟩; have d17 := d16.below b17; have B17 := B16.trans (b17.mono B16.size))
    | (go_at_call 20; have hl := Left_at d17; rw [H2.out] at hl; (with_reducible refine hl.mono ?_); clear hl; rintro e w18 ⟨rfl, b18⟩; have d18 := d17.below b18; have B18 := B17.trans (b18.mono B17.size))
    | (go_at_call 32; (with_reducible refine (Create_at d18 (by decide) H3.out).mono ?_); rintro e w19 ⟨rfl, d19, b19⟩; have B19 := B18.trans b19; have d19c := d19.below (below_text w19 5 y); have B19c := B19.trans ((below_text w19 5 y).mono B19.size))
    | (go_at_call 33; (with_reducible refine (Append_at (bs := bys y) (n := y.size) (B := some ⟨w19.heap.size, 0, none⟩) d19c (by decide) (by rw [LY.out]) (by omega) (isU8_bys y) (rd_text w19 5 y) H4.out).mono ?_); rintro e w20 ⟨rfl, d20, b20⟩; have B20 := B19c.trans b20))
  have DE := Lib.hid d20.swap
  rename_i hHeld15
  clear hHeld15 K Bd d19c B19c d16 b16 B16 d17 b17 B17 d18 b18 B18 d19 b19 B19 d20 b20
  clear DD B15 HK HC
  go_wp2_with fail
  rw [rounds_succ]
  go_wp2_with fail
  (with_reducible refine (alike_yes DE.out AL.out).mono ?_)
  rintro e w21 ⟨rfl, b21⟩
  have D21 := Lib.hid (DE.out.below b21)
  have B21 := B20.trans (b21.mono B20.size)
  clear DE B20 b21
  have K := Lib.hid (fail_yes D21.out (show (1 : Int) ≤ 20000 by omega) (show (1 : Int) ≤ 20000 by omega) hk0 (by omega) FA.out)
  go_wp2_with fail
  (with_reducible refine K.out.mono ?_)
  rintro e w22 ⟨rfl, b22⟩
  have D22 := Lib.hid (D21.out.below b22)
  have B22 := B21.trans (b22.mono B21.size)
  clear K D21 B21 b22
  have K := Lib.hid (Names_at D22.out N1.out)
  go_wp2_with fail
  (with_reducible refine K.out.mono ?_)
  rintro e w23 ⟨rfl, d23, b23⟩
  have D23 := Lib.hid d23.swap
  have B23 := B22.trans b23
  clear K D22 B22 b23 d23
  have K := Lib.hid (Names_at D23.out N2.out)
  go_wp2_with fail
  (with_reducible refine K.out.mono ?_)
  rintro e w24 ⟨rfl, d24, b24⟩
  have D24 := Lib.hid d24.swap
  have B24 := B23.trans b24
  clear K D23 B23 b24 d24
  have K := Lib.hid (fail_yes D24.out (show (1 : Int) ≤ 20000 by omega) (show (1 : Int) ≤ 20000 by omega) hk0 (by omega) FB.out)
  go_wp2_with fail
  (with_reducible refine K.out.mono ?_)
  rintro e w25 ⟨rfl, b25⟩
  have B25 := B1.trans ((B24.trans (b25.mono B24.size)).mono B1.size)
  go_wp2
  go_ret
  exact ⟨rfl, B25⟩
end Go.Proofs.YtgibdecgmageeaaDoor
