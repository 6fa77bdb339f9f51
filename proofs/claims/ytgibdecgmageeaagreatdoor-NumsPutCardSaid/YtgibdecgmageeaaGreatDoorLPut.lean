/- NumsPut walked. -/
import Derived.Test.YtgibdecgmageeaaGreatDoorLGet
namespace Go.Proofs.YtgibdecgmageeaaGreatDoor
open Go.RowKit

theorem Rd.lit2 (w : World) (e : TypeId) (n : Nat) (hn : n = w.heap.size) (cs : List Value) {B : Nat} (hB : n < B) : Rd (w.alloc (.cells cs.toArray e)) B (some ⟨n, 0, none⟩) cs := by
  subst hn; exact Rd.lit1 w e cs hB

theorem NumsPut_beyond (N by_ a0 a1 a2 a3 : Int) (p q : List Int) (A0 A1 : Option Addr) (c0 c1 : Nat) (w : World) (hp : p.length ≤ 140737488351232) (hq : q.length ≤ 140737488351232) (hb : 1048576 < p.length + q.length) :
    Calls Tryz.prog 4 #[.slice A0 p.length c0, .slice A1 q.length c1, .agg #[.int .u64 N, .int .i64 by_, .int .u64 a0, .int .u64 a1, .int .u64 a2, .int .u64 a3]] w (fun e w' => e = .returned (.bool true) ∧ Below w.heap.size w w') := by
  go_enter Tryz.func4, Tryz.ntmps4
  go_wp2_with fail
  refine (Beyond_any [(p.length : Int), (q.length : Int)] _ 2 _ (w.heap.size + 2) true (by simp) (by intro x hx; simp at hx; omega) (Rd.lit2 (w.alloc _) _ _ (by simp) (I64 [(p.length : Int), (q.length : Int)]) (by omega)) (by simp [total]; omega)).mono ?_
  rintro e w2 ⟨rfl, h2⟩
  have b2 : Below w.heap.size w w2 := by rw [← h2]; exact ((Below.refl _ _).alloc (Nat.le_refl _) _).alloc (by simp) _
  clear h2
  go_wp2
  go_ret
  exact ⟨rfl, b2⟩

theorem SameBytes_n (bs : List Int) (n : Nat) (hn : n = bs.length) (A A' : Option Addr) (c c' : Nat) (w : World) (B : Nat) (hl : bs.length ≤ 140737488351232)
    (hr : Rd w B A (U8 bs)) (hr' : Rd w B A' (U8 bs)) :
    Calls Tryz.prog 15 #[.slice A n c, .slice A' n c'] w (fun e w' => e = .returned (.bool true) ∧ Drawn w w') := by
  subst hn; exact SameBytes_yes bs A A' c c' w B hl hr hr'

set_option maxRecDepth 100000 in
set_option maxHeartbeats 8000000 in
theorem NumsPut_within (N by_ a0 a1 a2 a3 : Int) (p q : List Int) (A0 A1 : Option Addr) (c0 c1 : Nat) (w : World) (hpq : p.length + q.length ≤ 1048576)
    (hN : 0 ≤ N ∧ N < 18446744073709551616) (hb0 : -9223372036854775808 ≤ by_) (hb1 : by_ ≤ 9223372036854775807) (ha : ∀ x ∈ [a3, a2, a1, a0], 0 ≤ x ∧ x < 18446744073709551616)
    (hr0 : Rd w w.heap.size A0 (U8 p)) (hr1 : Rd w w.heap.size A1 (U8 q)) :
    Calls Tryz.prog 4 #[.slice A0 p.length c0, .slice A1 q.length c1, .agg #[.int .u64 N, .int .i64 by_, .int .u64 a0, .int .u64 a1, .int .u64 a2, .int .u64 a3]] w (fun e w' => e = .returned (.bool true) ∧ Below w.heap.size w w') := by
  obtain ⟨LX, hLX⟩ : ∃ LX, LX = p ++ be N.toNat (many by_) := ⟨_, rfl⟩
  obtain ⟨LY, hLY⟩ : ∃ LY, LY = p ++ long a0 a1 a2 a3 := ⟨_, rfl⟩
  obtain ⟨LW, hLW⟩ : ∃ LW, LW = p ++ lenB q := ⟨_, rfl⟩
  have lX : LX.length ≤ 1048600 := by rw [hLX]; simp; unfold many; omega
  have lY : LY.length ≤ 1048700 := by rw [hLY]; simp [long, length_bes]; omega
  have lW : LW.length ≤ 1048700 := by rw [hLW]; simp [lenB]; omega
  have kX : ∀ (W : World) (A : Option Addr) (c : Nat), Rd W W.heap.size A (U8 p) → Calls Tryz.prog 19 #[.slice A p.length c, .int .u64 N, .int .i64 by_] W (NewB W LX) := by
    intro W A c hr; rw [hLX]; exact Put_any p A c N by_ W hN.1 hN.2 (by omega) hb0 hb1 hr
  have kY : ∀ (W : World) (A : Option Addr) (c : Nat), Rd W W.heap.size A (U8 p) → Calls Tryz.prog 20 #[.slice A p.length c, .agg #[.int .u64 a0, .int .u64 a1, .int .u64 a2, .int .u64 a3]] W (NewB W LY) := by
    intro W A c hr; rw [hLY]; exact PutLong_any p A c a0 a1 a2 a3 W (by omega) ha hr
  have kW : ∀ (W : World) (A : Option Addr) (c : Nat) (L : Option Addr) (cl : Nat), Rd W W.heap.size A (U8 p) → Rd W W.heap.size L (U8 q) → Calls Tryz.prog 21 #[.slice A p.length c, .slice L q.length cl] W (RetB W LW) := by
    intro W A c L cl hr hr'; rw [hLW]; exact PutBytes_any p q A L c cl W (by omega) hr hr'
  have rX : ∀ (W : World) (A : Option Addr) (c : Nat), Rd W W.heap.size A (U8 p) → Calls Tryz.prog 22 #[.slice A p.length c, .int .u64 N, .int .i64 by_] W (RetB W LX) := by
    intro W A c hr; rw [hLX]; exact RefPut_any p A c N by_ W hN.1 hN.2 (by omega) hb0 hb1 hr
  have rY : ∀ (W : World) (A : Option Addr) (c : Nat), Rd W W.heap.size A (U8 p) → Calls Tryz.prog 23 #[.slice A p.length c, .agg #[.int .u64 a0, .int .u64 a1, .int .u64 a2, .int .u64 a3]] W (RetB W LY) := by
    intro W A c hr; rw [hLY]; exact RefPutLong_any p A c a0 a1 a2 a3 W (by omega) ha hr
  have rW : ∀ (W : World) (A : Option Addr) (c : Nat) (L : Option Addr) (cl : Nat), Rd W W.heap.size A (U8 p) → Rd W W.heap.size L (U8 q) → Calls Tryz.prog 24 #[.slice A p.length c, .slice L q.length cl] W (RetB W LW) := by
    intro W A c L cl hr hr'; rw [hLW]; exact RefPutBytes_any p q A L c cl W (by omega) hr hr'
  have KX := Lib.hid kX; have KY := Lib.hid kY; have KW := Lib.hid kW; have RX := Lib.hid rX; have RY := Lib.hid rY; have RW := Lib.hid rW
  clear kX kY kW rX rY rW hLX hLY hLW hN hb0 hb1 ha
  go_enter Tryz.func4, Tryz.ntmps4
  go_wp2_with fail
  refine (Beyond_any [(p.length : Int), (q.length : Int)] _ 2 _ (w.heap.size + 2) false (by simp) (by intro x hx; simp at hx; omega) (Rd.lit2 (w.alloc _) _ _ (by simp) (I64 [(p.length : Int), (q.length : Int)]) (by omega)) (by simp [total]; omega)).mono ?_
  rintro e w1 ⟨rfl, h2⟩
  have b1 : Below w.heap.size w w1 := by rw [← h2]; exact ((Below.refl _ _).alloc (Nat.le_refl _) _).alloc (by simp) _
  have zB : Blk w1 w.heap.size 59 [.int .u64 N, .int .i64 by_, .int .u64 a0, .int .u64 a1, .int .u64 a2, .int .u64 a3] := by rw [← h2]; exact (Blk.lit w _ _ rfl _ _ rfl).alloc _
  have hs1 : w.heap.size ≤ w1.heap.size := b1.size
  clear h2
  go_wp2_with fail
  refine (TwinBytes_any p A0 c0 w1 (by omega) (hr0.below b1 hs1)).mono ?_
  rintro e w2 ⟨gt, rfl, hT, hb2⟩
  have b2 := b1.trans (hb2.mono hs1)
  have hs2 : w.heap.size ≤ w2.heap.size := b2.size
  have zB2 := zB.below hb2 zB.lt
  have hS2 := ent_fresh (n := 1) (Sep.nil w1) (hT.own (by omega)) rfl hs1 hb2
  clear zB
  go_wp2_with fail
  refine (TwinBytes_any q A1 c1 w2 (by omega) (hr1.below b2 hs2)).mono ?_
  rintro e w3 ⟨gu, rfl, hU, hb3⟩
  have b3 := b2.trans (hb3.mono hs2)
  have hs3 : w.heap.size ≤ w3.heap.size := b3.size
  have zB3 := zB2.below hb3 zB2.lt
  have hT3 := hT.below hb3 hT.2.lt
  have hS3 := ent_fresh (n := 2) hS2 (hU.own (by omega)) rfl hs2 hb3
  have facts : ∀ wx, Below w3.heap.size w3 wx → (Blk wx gt 5 (U8 (p ++ [77])) ∧ Blk wx gu 5 (U8 (q ++ [77])) ∧ Rd wx wx.heap.size A0 (U8 p) ∧ Rd wx wx.heap.size A1 (U8 q) ∧ Rd wx wx.heap.size (some ⟨gt, 0, none⟩) (U8 p) ∧ Rd wx wx.heap.size (some ⟨gu, 0, none⟩) (U8 q)) ∧
      (wx.cell? ⟨w.heap.size, 0, none⟩ = some (.int .u64 N) ∧ wx.cell? ⟨w.heap.size, 1, none⟩ = some (.int .i64 by_) ∧ wx.cell? ⟨w.heap.size, 2, none⟩ = some (.int .u64 a0) ∧ wx.cell? ⟨w.heap.size, 3, none⟩ = some (.int .u64 a1) ∧ wx.cell? ⟨w.heap.size, 4, none⟩ = some (.int .u64 a2) ∧ wx.cell? ⟨w.heap.size, 5, none⟩ = some (.int .u64 a3)) ∧ w3.heap.size ≤ wx.heap.size := by
    intro wx hx
    have h1 := hT3.below hx hT3.2.lt
    have h2 := hU.below hx hU.2.lt
    have h3 := zB3.below hx zB3.lt
    have h4 := b3.trans (hx.mono hs3)
    refine ⟨⟨h1.2, h2.2, hr0.below h4 h4.size, hr1.below h4 h4.size, h1.rd h1.2.lt, h2.rd h2.2.lt⟩, ⟨?_, ?_, ?_, ?_, ?_, ?_⟩, hx.size⟩ <;> (rw [h3.cell]; rfl)
  have HF := Lib.hid facts
  clear facts zB2 zB3 hT hT3 hU hS2 hb2 hb3 b1 b2
  have f3 := Below.refl w3.heap.size w3
  obtain ⟨⟨_, _, _, _, rt, ru⟩, ⟨e0, e1, e2, e3, e4, e5⟩, s3⟩ := HF.out w3 f3
  go_wp2_with fail
  refine (KX.out w3 _ _ rt).mono ?_
  rintro e w4 h
  obtain ⟨vx, rfl, ox, hb4⟩ := h.ret (by omega)
  obtain ⟨X, cx, rfl, _, _, _⟩ := ox.shape
  have f4 := f3.trans (hb4.mono s3)
  have hS4 := ent_fresh (n := 3) hS3 ox rfl hs3 hb4
  have rx := ox.rd rfl (Nat.le_refl _)
  clear h hS3 e0 e1 e2 e3 e4 e5 rt ru s3 hb4 ox
  obtain ⟨⟨_, _, _, _, rt, ru⟩, ⟨e0, e1, e2, e3, e4, e5⟩, s4⟩ := HF.out w4 f4
  have hs4 : w.heap.size ≤ w4.heap.size := Nat.le_trans hs3 s4
  go_wp2_with fail
  refine (KY.out w4 _ _ rt).mono ?_
  rintro e w5 h
  obtain ⟨vy, rfl, oy, hb5⟩ := h.ret (by omega)
  obtain ⟨Y, cy, rfl, _, _, _⟩ := oy.shape
  have f5 := f4.trans (hb5.mono s4)
  have hS5 := ent_fresh (n := 4) hS4 oy rfl hs4 hb5
  have rx5 := rx.below hb5 hb5.size
  have ry := oy.rd rfl (Nat.le_refl _)
  clear h hS4 e0 e1 e2 e3 e4 e5 rt ru s4 hb5 oy rx f4
  obtain ⟨⟨_, _, _, _, rt, ru⟩, _, s5⟩ := HF.out w5 f5
  have hs5 : w.heap.size ≤ w5.heap.size := Nat.le_trans hs3 s5
  go_wp2_with fail
  refine (KW.out w5 _ _ _ _ rt ru).mono ?_
  rintro e w6 ⟨vw, rfl, ow, hb6⟩
  obtain ⟨Wa, cw, rfl, _, _, _⟩ := ow.shape
  have f6 := f5.trans (hb6.mono s5)
  have hS6 := ent_fresh (n := 5) hS5 ow rfl hs5 hb6
  have rx6 := rx5.below hb6 hb6.size
  have ry6 := ry.below hb6 hb6.size
  have rw_ := ow.rd rfl (Nat.le_refl _)
  clear hS5 rt ru s5 hb6 ow rx5 ry f5
  obtain ⟨⟨_, _, _, _, rt, ru⟩, _, s6⟩ := HF.out w6 f6
  have hs6 : w.heap.size ≤ w6.heap.size := Nat.le_trans hs3 s6
  go_wp2_with fail
  refine (KW.out w6 _ _ _ _ rt ru).mono ?_
  rintro e w7 ⟨vv, rfl, ov, hb7⟩
  obtain ⟨Va, cv, rfl, _, _, _⟩ := ov.shape
  have f7 := f6.trans (hb7.mono s6)
  have hS7 := ent_fresh (n := 6) hS6 ov rfl hs6 hb7
  have HS7 := Lib.hid hS7
  have rx7 := rx6.below hb7 hb7.size
  have ry7 := ry6.below hb7 hb7.size
  have rw7 := rw_.below hb7 hb7.size
  have rv7 := ov.rd rfl (Nat.le_refl _)
  clear hS6 hS7 rt ru s6 hb7 ov rx6 ry6 rw_ f6
  obtain ⟨⟨_, _, r0, r1, _, _⟩, ⟨e0, e1, e2, e3, e4, e5⟩, s7⟩ := HF.out w7 f7
  have hs7 : w.heap.size ≤ w7.heap.size := Nat.le_trans hs3 s7
  go_wp2_with fail
  refine (RX.out w7 _ _ r0).mono ?_
  rintro e w8 ⟨vp, rfl, op, hb8⟩
  obtain ⟨P, cp, rfl, _, _, _⟩ := op.shape
  have f8 := f7.trans (hb8.mono s7)
  have k8 := hb8
  have rx8 := rx7.below hb8 hb8.size
  have ry8 := ry7.below hb8 hb8.size
  have rw8 := rw7.below hb8 hb8.size
  have rv8 := rv7.below hb8 hb8.size
  have rp := op.rd rfl (Nat.le_refl _)
  clear op hb8 rx7 ry7 rw7 rv7 r0 r1 e0 e1 e2 e3 e4 e5 s7
  go_wp2_with fail
  refine (SameBytes_n LX _ rfl X P cx cp w8 _ (by omega) rx8 rp).mono ?_
  rintro e w9 ⟨rfl, hd⟩
  have f9 := f8.trans (hd.below _)
  have k9 := k8.trans (hd.below _)
  clear k8
  have ry9 := ry8.below (hd.below w8.heap.size) (hd.below 0).size
  have rw9 := rw8.below (hd.below w8.heap.size) (hd.below 0).size
  have rv9 := rv8.below (hd.below w8.heap.size) (hd.below 0).size
  clear hd rx8 rp ry8 rw8 rv8
  obtain ⟨⟨_, _, r0, r1, _, _⟩, ⟨e0, e1, e2, e3, e4, e5⟩, s9⟩ := HF.out w9 f9
  go_wp2_with fail
  refine (RY.out w9 _ _ r0).mono ?_
  rintro e w10 ⟨vp, rfl, op, hb10⟩
  obtain ⟨P2, cp2, rfl, _, _, _⟩ := op.shape
  have f10 := f9.trans (hb10.mono s9)
  have k10 := k9.trans (hb10.mono k9.size)
  clear k9
  have ry10 := ry9.below hb10 hb10.size
  have rw10 := rw9.below hb10 hb10.size
  have rv10 := rv9.below hb10 hb10.size
  have rp := op.rd rfl (Nat.le_refl _)
  clear op hb10 ry9 rw9 rv9 r0 r1 e0 e1 e2 e3 e4 e5 s9
  go_wp2_with fail
  refine (SameBytes_n LY _ rfl Y P2 cy cp2 w10 _ (by omega) ry10 rp).mono ?_
  rintro e w11 ⟨rfl, hd⟩
  have f11 := f10.trans (hd.below _)
  have k11 := k10.trans (hd.below _)
  clear k10
  have rw11 := rw10.below (hd.below w10.heap.size) (hd.below 0).size
  have rv11 := rv10.below (hd.below w10.heap.size) (hd.below 0).size
  clear hd ry10 rp rw10 rv10
  obtain ⟨⟨_, _, r0, r1, _, _⟩, _, s11⟩ := HF.out w11 f11
  go_wp2_with fail
  refine (RW.out w11 _ _ _ _ r0 r1).mono ?_
  rintro e w12 ⟨vp, rfl, op, hb12⟩
  obtain ⟨P3, cp3, rfl, _, _, _⟩ := op.shape
  have f12 := f11.trans (hb12.mono s11)
  have k12 := k11.trans (hb12.mono k11.size)
  clear k11
  have rw12 := rw11.below hb12 hb12.size
  have rv12 := rv11.below hb12 hb12.size
  have rp := op.rd rfl (Nat.le_refl _)
  clear op hb12 rw11 rv11 r0 r1 s11
  go_wp2_with fail
  refine (SameBytes_n LW _ rfl Wa P3 cw cp3 w12 _ (by omega) rw12 rp).mono ?_
  rintro e w13 ⟨rfl, hd⟩
  have f13 := f12.trans (hd.below _)
  have k13 := k12.trans (hd.below _)
  clear k12
  have rw13 := rw12.below (hd.below w12.heap.size) (hd.below 0).size
  have rv13 := rv12.below (hd.below w12.heap.size) (hd.below 0).size
  clear hd rp rw12 rv12
  go_wp2_with fail
  refine (SameBytes_n LW _ rfl Va Wa cv cw w13 _ (by omega) rv13 rw13).mono ?_
  rintro e w14 ⟨rfl, hd⟩
  have f14 := f13.trans (hd.below _)
  have k14 := k13.trans (hd.below _)
  clear k13
  clear hd rw13 rv13
  obtain ⟨⟨k0, _, r0, r1, _, _⟩, _, s14⟩ := HF.out w14 f14
  go_wp2_with fail
  refine (LeftBytes_yes p gt A0 c0 w14 _ (by omega) k0 r0).mono ?_
  rintro e w15 ⟨rfl, hd⟩
  have f15 := f14.trans (hd.below _)
  have k15 := k14.trans (hd.below _)
  clear k14
  clear hd k0 r0 r1 s14
  obtain ⟨⟨_, k1, r0, r1, _, _⟩, _, s15⟩ := HF.out w15 f15
  go_wp2_with fail
  refine (LeftBytes_yes q gu A1 c1 w15 _ (by omega) k1 r1).mono ?_
  rintro e w16 ⟨rfl, hd⟩
  have f16 := f15.trans (hd.below _)
  have k16 := k15.trans (hd.below _)
  clear k15
  have s16 := (HF.out w16 f16).2.2
  clear hd k1 r0 r1 s15
  have hS16 := HS7.out.below k16 (fun _ hk => HS7.out.lt hk)
  have HS16 := Lib.hid hS16
  have hs16 : w.heap.size ≤ w16.heap.size := Nat.le_trans hs3 s16
  have HB3 := Lib.hid (b3.trans (f16.mono hs3))
  clear hS16 k16 f16 f7 f15 b3 HF KX KY KW RX RY RW
  have hbk : ∀ W : World, Blk (W.alloc (.cells #[Value.int .i64 0, .slice none 0 0, .slice none 0 0, .slice none 0 0, .slice none 0 0, .slice none 0 0, .slice none 0 0, .slice none 0 0, .slice none 0 0, .slice none 0 0, .slice none 0 0, .slice none 0 0, .slice none 0 0, .slice none 0 0, .slice none 0 0, .slice none 0 0, .slice none 0 0, .slice none 0 0] 54)) W.heap.size 54 (#[Value.int .i64 0, .slice none 0 0, .slice none 0 0, .slice none 0 0, .slice none 0 0, .slice none 0 0, .slice none 0 0, .slice none 0 0, .slice none 0 0, .slice none 0 0, .slice none 0 0, .slice none 0 0, .slice none 0 0, .slice none 0 0, .slice none 0 0, .slice none 0 0, .slice none 0 0, .slice none 0 0]).toList := fun W => Blk.lit W _ _ rfl _ _ rfl
  have HBK := Lib.hid hbk; clear hbk
  go_upto_region 11 with fail
  go_wp2_with (refine wpList_store_same rfl 54 (.tmp 13) (.tmp 84) rfl w16.heap.size 54 (#[Value.int .i64 0, .slice none 0 0, .slice none 0 0, .slice none 0 0, .slice none 0 0, .slice none 0 0, .slice none 0 0, .slice none 0 0, .slice none 0 0, .slice none 0 0, .slice none 0 0, .slice none 0 0, .slice none 0 0, .slice none 0 0, .slice none 0 0, .slice none 0 0, .slice none 0 0, .slice none 0 0]) rfl rfl (HBK.out _) Tryz.sizeBook zeros_oneCell ?_; intro w17 hB17 hm17)
  have hb17 : Below w16.heap.size w16 w17 := ((Below.refl _ _).alloc (Nat.le_refl _) _).trans (hm17.below_one (by simp) (Nat.le_refl _))
  have hN : Sep w17 (bookA w.heap.size w16.heap.size 0 (.slice none 0 0) [] (.slice none 0 0)) := by
    refine Sep.cons.2 ⟨hB17, fun k _ hf => ?_, Sep.one.2 (Own.nil _ _ _ _)⟩
    rcases foots_cons.1 hf with h | h
    · simp [Asn.own, Value.ownBlock] at h
    · exact foots_nil h
  have hS17 := (Step.fresh HS16.out hb17 hN (fun k hk => by
    rcases foots_cons.1 hk with h | h
    · have h' : k = w16.heap.size := h
      omega
    · rcases foots_cons.1 h with h | h
      · simp [Asn.own, Value.ownBlock] at h
      · exact absurd h foots_nil)).sep
  have hs17 : w.heap.size ≤ w17.heap.size := Nat.le_trans hs16 hb17.size
  have hall := HB3.out.trans (hb17.mono hs16)
  have HALL := Lib.hid hall
  have HBASE := Lib.hid (bookA_base (fs := [entOf Va LW.length cv 6 (U8 LW), entOf Wa LW.length cw 5 (U8 LW), entOf Y LY.length cy 4 (U8 LY), entOf X LX.length cx 3 (U8 LX), entOf (some ⟨gu, 0, none⟩) q.length (q.length + 1) 2 (U8 q), entOf (some ⟨gt, 0, none⟩) p.length (p.length + 1) 1 (U8 p)]) hS17 hs16)
  clear hB17 hm17 hN HBK hall
  refine (BookBytes_any w.heap.size w16.heap.size 0 (.slice none 0 0) (.slice none 0 0) [] (some ⟨gt, 0, none⟩) p.length (p.length + 1) w17 (Sep.append.1 hS17).1 (by omega) (by omega) (by simp) hs17).mono ?_
  rintro e w18 ⟨rfl, E1, hst⟩
  have hS18 := hst.rest hS17
  have HST1 := Lib.hid (hst.frame hS17)
  clear hst hS17
  have hs18 : w.heap.size ≤ w18.heap.size := Nat.le_trans hs17 HST1.out.mods.size
  go_wp2_with fail
  refine (BookBytes_any w.heap.size w16.heap.size _ E1 (.slice none 0 0) _ (some ⟨gu, 0, none⟩) q.length (q.length + 1) w18 (Sep.append.1 hS18).1 (by omega) (by omega) (by simp) hs18).mono ?_
  rintro e w19 ⟨rfl, E2, hst⟩
  have hS19 := hst.rest hS18
  have HST2 := Lib.hid (hst.frame hS18)
  clear hst hS18
  have hs19 : w.heap.size ≤ w19.heap.size := Nat.le_trans hs18 HST2.out.mods.size
  go_wp2_with fail
  refine (BookBytes_any w.heap.size w16.heap.size _ E2 (.slice none 0 0) _ X LX.length cx w19 (Sep.append.1 hS19).1 (by omega) (by omega) (by simp) hs19).mono ?_
  rintro e w20 ⟨rfl, E3, hst⟩
  have hS20 := hst.rest hS19
  have HST3 := Lib.hid (hst.frame hS19)
  clear hst hS19
  have hs20 : w.heap.size ≤ w20.heap.size := Nat.le_trans hs19 HST3.out.mods.size
  go_wp2_with fail
  refine (BookBytes_any w.heap.size w16.heap.size _ E3 (.slice none 0 0) _ Y LY.length cy w20 (Sep.append.1 hS20).1 (by omega) (by omega) (by simp) hs20).mono ?_
  rintro e w21 ⟨rfl, E4, hst⟩
  have hS21 := hst.rest hS20
  have HST4 := Lib.hid (hst.frame hS20)
  clear hst hS20
  have hs21 : w.heap.size ≤ w21.heap.size := Nat.le_trans hs20 HST4.out.mods.size
  go_wp2_with fail
  refine (BookBytes_any w.heap.size w16.heap.size _ E4 (.slice none 0 0) _ Wa LW.length cw w21 (Sep.append.1 hS21).1 (by omega) (by omega) (by simp) hs21).mono ?_
  rintro e w22 ⟨rfl, E5, hst⟩
  have hS22 := hst.rest hS21
  have HST5 := Lib.hid (hst.frame hS21)
  clear hst hS21
  have hs22 : w.heap.size ≤ w22.heap.size := Nat.le_trans hs21 HST5.out.mods.size
  go_wp2_with fail
  refine (BookBytes_any w.heap.size w16.heap.size _ E5 (.slice none 0 0) _ Va LW.length cv w22 (Sep.append.1 hS22).1 (by omega) (by omega) (by simp) hs22).mono ?_
  rintro e w23 ⟨rfl, E6, hst⟩
  have hS23 := hst.rest hS22
  have HST6 := Lib.hid (hst.frame hS22)
  clear hst hS22
  have hs23 : w.heap.size ≤ w23.heap.size := Nat.le_trans hs22 HST6.out.mods.size
  go_wp2_with fail
  have hfin : Sep w23 (allA w.heap.size w16.heap.size 6 E6 [entOf (some ⟨gt, 0, none⟩) p.length (p.length + 1) 1 (U8 p), entOf (some ⟨gu, 0, none⟩) q.length (q.length + 1) 2 (U8 q), entOf X LX.length cx 3 (U8 LX), entOf Y LY.length cy 4 (U8 LY), entOf Wa LW.length cw 5 (U8 LW), entOf Va LW.length cv 6 (U8 LW)] [entOf (some ⟨gt, 0, none⟩) p.length (p.length + 1) 1 (U8 p), entOf (some ⟨gu, 0, none⟩) q.length (q.length + 1) 2 (U8 q), entOf X LX.length cx 3 (U8 LX), entOf Y LY.length cy 4 (U8 LY), entOf Wa LW.length cw 5 (U8 LW), entOf Va LW.length cv 6 (U8 LW)] (.slice none 0 0)) := by
    refine Sep.perm (A := bookA w.heap.size w16.heap.size 6 E6 [entOf (some ⟨gt, 0, none⟩) p.length (p.length + 1) 1 (U8 p), entOf (some ⟨gu, 0, none⟩) q.length (q.length + 1) 2 (U8 q), entOf X LX.length cx 3 (U8 LX), entOf Y LY.length cy 4 (U8 LY), entOf Wa LW.length cw 5 (U8 LW), entOf Va LW.length cv 6 (U8 LW)] (.slice none 0 0) ++ [Asn.ent w.heap.size 5 1 (entOf Va LW.length cv 6 (U8 LW)), Asn.ent w.heap.size 5 1 (entOf Wa LW.length cw 5 (U8 LW)), Asn.ent w.heap.size 5 1 (entOf Y LY.length cy 4 (U8 LY)), Asn.ent w.heap.size 5 1 (entOf X LX.length cx 3 (U8 LX)), Asn.ent w.heap.size 5 1 (entOf (some ⟨gu, 0, none⟩) q.length (q.length + 1) 2 (U8 q)), Asn.ent w.heap.size 5 1 (entOf (some ⟨gt, 0, none⟩) p.length (p.length + 1) 1 (U8 p))]) hS23 (List.Perm.append_left _ ?_)
    exact (List.reverse_perm [_, _, _, _, _, _])
  clear hS23
  have HFIN := Lib.hid hfin
  clear hfin
  refine (Apart_any w.heap.size w16.heap.size 6 E6 _ w23 HFIN.out ?_ (by simp) ?_ hs23).mono ?_
  · intro e he
    simp only [List.mem_cons, List.not_mem_nil, or_false] at he
    rcases he with rfl | rfl | rfl | rfl | rfl | rfl <;> exact ⟨rfl, rfl, rfl, rfl⟩
  · intro e he
    simp only [List.mem_cons, List.not_mem_nil, or_false] at he
    rcases he with rfl | rfl | rfl | rfl | rfl | rfl <;> simp only [entOf] <;> omega
  rintro e w24 ⟨rfl, A', hst4⟩
  go_wp2
  go_ret
  refine ⟨rfl, ?_⟩
  have k1 := HST1.out.base hs17 HBASE.out
  have k2 := HST2.out.base hs18 k1
  have k3 := HST3.out.base hs19 k2
  have k4 := HST4.out.base hs20 k3
  have k5 := HST5.out.base hs21 k4
  have k6 : ∀ k, foots (allA w.heap.size w16.heap.size 6 E6 [entOf (some ⟨gt, 0, none⟩) p.length (p.length + 1) 1 (U8 p), entOf (some ⟨gu, 0, none⟩) q.length (q.length + 1) 2 (U8 q), entOf X LX.length cx 3 (U8 LX), entOf Y LY.length cy 4 (U8 LY), entOf Wa LW.length cw 5 (U8 LW), entOf Va LW.length cv 6 (U8 LW)] [entOf (some ⟨gt, 0, none⟩) p.length (p.length + 1) 1 (U8 p), entOf (some ⟨gu, 0, none⟩) q.length (q.length + 1) 2 (U8 q), entOf X LX.length cx 3 (U8 LX), entOf Y LY.length cy 4 (U8 LY), entOf Wa LW.length cw 5 (U8 LW), entOf Va LW.length cv 6 (U8 LW)] (.slice none 0 0)) k → w.heap.size ≤ k := bookA_base HFIN.out hs16
  exact ((((((HALL.out.trans (HST1.out.below hs17 HBASE.out)).trans (HST2.out.below hs18 k1)).trans (HST3.out.below hs19 k2)).trans (HST4.out.below hs20 k3)).trans (HST5.out.below hs21 k4)).trans (HST6.out.below hs22 k5)).trans (hst4.below hs23 k6)
end Go.Proofs.YtgibdecgmageeaaGreatDoor
