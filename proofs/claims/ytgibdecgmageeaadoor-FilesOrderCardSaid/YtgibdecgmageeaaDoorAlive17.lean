/- balefirelaw17.alive walked. -/
import Derived.Test.YtgibdecgmageeaaDoorAlike
import Derived.Test.YtgibdecgmageeaaDoorConv
namespace Go.Proofs.YtgibdecgmageeaaDoor
open Go.RowKit

def sa : ByteArray := ⟨#[97]⟩
def sb : ByteArray := ⟨#[98]⟩
def sA : ByteArray := ⟨#[65]⟩
def al1 : Dm := ((newDm 10).create ⟨#[97]⟩).2
def al2 : Dm := (al1.append ⟨#[97]⟩ [97, 98, 99, 100, 101]).2
def al3 : Dm := (al2.sync ⟨#[97]⟩).2
def al4 : Dm := (al3.append ⟨#[97]⟩ [102, 103]).2
def al5 : Dm := al4.names.2
def al6 : Dm := (al5.rename ⟨#[97]⟩ ⟨#[98]⟩).2
theorem al_f1 : (newDm 10).create ⟨#[97]⟩ = (0, al1) := Prod.ext (by kernel_rfl) rfl
theorem al_f2 : al1.append ⟨#[97]⟩ [97, 98, 99, 100, 101] = (0, al2) := Prod.ext (by kernel_rfl) rfl
theorem al_f3 : al2.sync ⟨#[97]⟩ = (0, al3) := Prod.ext (by kernel_rfl) rfl
theorem al_f4 : al3.append ⟨#[97]⟩ [102, 103] = (0, al4) := Prod.ext (by kernel_rfl) rfl
set_option maxRecDepth 100000 in
theorem al_f5 : al4.names = (0, al5) := Prod.ext (by kernel_rfl) rfl
set_option maxRecDepth 100000 in
theorem al_f6 : al5.rename ⟨#[97]⟩ ⟨#[98]⟩ = (0, al6) := Prod.ext (by kernel_rfl) rfl
theorem al_r1 : al6.read ⟨#[98]⟩ 5 3 = ([], 5) := by kernel_rfl
theorem al_r2 : al6.read ⟨#[97]⟩ 0 0 = ([], 7) := by kernel_rfl
theorem al_left : al6.left = 3 := by kernel_rfl
theorem sorted_one (s : ByteArray) : sorted [s] = [s] := by
  unfold sorted
  simp
theorem al_list : al6.list = [⟨#[98]⟩] := by
  rw [Dm.list_eq, show namesOf al6.now = [⟨#[98]⟩] by kernel_rfl, sorted_one]
theorem al_xlist : (al6.fail 1 false).list = [⟨#[97]⟩] := by
  rw [Dm.list_eq, show namesOf (al6.fail 1 false).now = [⟨#[97]⟩] by kernel_rfl, sorted_one]
theorem al_ysize : (al6.fail 0 true).sizeOf ⟨#[98]⟩ = (5, 0) := by kernel_rfl
theorem al_xall : (al6.fail 1 false).all ⟨#[97]⟩ = [97, 98, 99, 100, 101, 102] := by kernel_rfl
theorem al_g1 : al6.append ⟨#[98]⟩ [0, 0, 0, 0] = (6, al6) := Prod.ext (by kernel_rfl) (by kernel_rfl)
theorem al_g2 : al6.create ⟨#[65]⟩ = (1, al6) := Prod.ext (by kernel_rfl) (by kernel_rfl)
theorem al_g3 : al6.create ⟨#[98]⟩ = (8, al6) := Prod.ext (by kernel_rfl) (by kernel_rfl)

theorem Rd.list (w : World) (e : TypeId) (n : Nat) (hn : n = w.heap.size) (cs : Array Value) (l : List Value) (h : cs = l.toArray) : Rd (w.alloc (.cells cs e)) (w.alloc (.cells cs e)).heap.size (some ⟨n, 0, none⟩) l := by
  subst hn h
  exact Rd.of_blk (Blk.new w e l) 0 (fun j u hu => by simpa using hu) (by simp)
theorem Disks.alloc {b0 : Nat} {w : World} {L : List (Nat × Dm)} {R : List Asn} (h : Disks b0 w L R) (o : Obj) : Disks b0 (w.alloc o) L R := h.below ((Below.refl _ _).alloc (Nat.le_refl _) _)

set_option maxRecDepth 100000 in
set_option maxHeartbeats 4000000 in
theorem alive17 (w : World) : Calls Tryd.prog 30 #[] w (fun e w' => e = .returned (.bool true) ∧ Below w.heap.size w w') := by
  have d0 : Disks w.heap.size w [] [] := Disks.none_ (Sep.nil w) (Nat.le_refl _)
  have H0 := Lib.hid (New_at (z := 10) d0 (by omega) (by omega))
  clear d0
  have hcv := conv_const
  go_enter Tryd.func30, Tryd.ntmps30
  go_wp2_with fail
  (with_reducible refine H0.out.mono ?_)
  rintro e w1 ⟨g, rfl, d1, b1⟩
  have H := Lib.hid (Create_at d1 (by decide) al_f1)
  clear d1 H0
  go_wp2_with fail
  (with_reducible refine H.out.mono ?_)
  rintro e w2 ⟨rfl, d2, b2⟩
  have B2 := b1.trans b2
  clear b1 b2 H
  have H := Lib.hid (Append_at (bs := [97, 98, 99, 100, 101]) (n := 5) (cb := 5) (B := some ⟨w2.heap.size, 0, none⟩) (d2.alloc (.cells #[.int .u8 97, .int .u8 98, .int .u8 99, .int .u8 100, .int .u8 101] 5 (5, 6))) (by decide) rfl (by decide) (by intro x hx; simp at hx; omega) (rd_const w2 5 _ _ rfl _) al_f2)
  have B2' := B2.alloc B2.size (.cells #[.int .u8 97, .int .u8 98, .int .u8 99, .int .u8 100, .int .u8 101] 5 (5, 6))
  clear d2 B2
  go_wp2_with fail
  (with_reducible refine H.out.mono ?_)
  rintro e w3 ⟨rfl, d3, b3⟩
  have B3 := B2'.trans b3
  clear B2' b3 H
  have H := Lib.hid (Sync_at d3 (by decide) al_f3)
  clear d3
  go_wp2_with fail
  (with_reducible refine H.out.mono ?_)
  rintro e w4 ⟨rfl, d4, b4⟩
  have B4 := B3.trans b4
  clear B3 b4 H
  have H := Lib.hid (Append_at (bs := [102, 103]) (n := 2) (cb := 2) (B := some ⟨w4.heap.size, 0, none⟩) (d4.alloc (.cells #[.int .u8 102, .int .u8 103] 5 (2, 3))) (by decide) rfl (by decide) (by intro x hx; simp at hx; omega) (rd_const w4 5 _ _ rfl _) al_f4)
  have B4' := B4.alloc B4.size (.cells #[.int .u8 102, .int .u8 103] 5 (2, 3))
  clear d4 B4
  go_wp2_with fail
  (with_reducible refine H.out.mono ?_)
  rintro e w5 ⟨rfl, d5, b5⟩
  have B5 := B4'.trans b5
  clear B4' b5 H
  have H := Lib.hid (Names_at d5 al_f5)
  clear d5
  go_wp2_with fail
  (with_reducible refine H.out.mono ?_)
  rintro e w6 ⟨rfl, d6, b6⟩
  have B6 := B5.trans b6
  clear B5 b6 H
  have H := Lib.hid (Rename_at d6 (by decide) (by decide) al_f6)
  clear d6
  go_wp2_with fail
  (with_reducible refine H.out.mono ?_)
  rintro e w7 ⟨rfl, d7, b7⟩
  have B7 := B6.trans b7
  have D7 := Lib.hid d7
  clear B6 b7 H d7
  have H : Hid (∀ W, Below w7.heap.size w7 W → Calls Tryd.prog 36 #[.pointer (some ⟨g, 0, none⟩), .string ⟨#[98]⟩, .int .i64 5, .int .i64 3] W (RetRead W ([], 5))) := fun W hb => by
    rw [← al_r1]; exact Read_at (D7.out.below hb) (by decide) (by omega) (by omega) (by omega) (by omega)
  go_wp2_with fail
  (with_reducible refine (H.out w7 (Below.refl _ _)).mono ?_)
  rintro e w8 ⟨X8, rfl, _, b8⟩
  clear H
  have H : Hid (∀ W, Below w7.heap.size w7 W → Calls Tryd.prog 36 #[.pointer (some ⟨g, 0, none⟩), .string ⟨#[97]⟩, .int .i64 0, .int .i64 0] W (RetRead W ([], 7))) := fun W hb => by
    rw [← al_r2]; exact Read_at (D7.out.below hb) (by decide) (by omega) (by omega) (by omega) (by omega)
  go_wp2_with fail
  (with_reducible refine (H.out w8 b8).mono ?_)
  rintro e w9 ⟨X9, rfl, _, b9⟩
  have c9 := b8.trans (b9.mono b8.size)
  clear H b8 b9
  have H : Hid (∀ W, Below w7.heap.size w7 W → Calls Tryd.prog 20 #[.pointer (some ⟨g, 0, none⟩)] W (fun e w' => e = .returned (.int .i64 3) ∧ Below W.heap.size W w')) := fun W hb => by
    rw [← al_left]; exact Left_at (D7.out.below hb)
  go_wp2_with fail
  (with_reducible refine (H.out w9 c9).mono ?_)
  rintro e w10 ⟨rfl, b10⟩
  have c10 := c9.trans (b10.mono c9.size)
  clear H c9 b10
  have H : Hid (∀ W, Below w7.heap.size w7 W → Calls Tryd.prog 38 #[.pointer (some ⟨g, 0, none⟩)] W (RetS W [⟨#[98]⟩])) := fun W hb => by
    rw [← al_list]; exact List_at (D7.out.below hb)
  go_wp2_with fail
  (with_reducible refine (H.out w10 c10).mono ?_)
  rintro e w11 ⟨A11, rfl, o11, b11⟩
  have R11 := Lib.hid (o11.rd rfl (Nat.le_refl _))
  have c11 := c10.trans (b11.mono c10.size)
  clear H c10 b11 o11
  have hbl := (Below.refl w11.heap.size w11).alloc (Nat.le_refl _) (.cells #[.string ⟨#[98]⟩] 9)
  have H := Lib.hid (SameTexts_yes [⟨#[98]⟩] 1 rfl A11 (some ⟨w11.heap.size, 0, none⟩) 1 1 (w11.alloc (.cells #[.string ⟨#[98]⟩] 9)) _ (by decide) (R11.out.below hbl hbl.size) (Rd.list w11 9 _ rfl _ _ rfl))
  have c11' := c11.trans (hbl.mono c11.size)
  clear hbl R11 c11
  go_wp2_with fail
  (with_reducible refine H.out.mono ?_)
  rintro e w12 ⟨rfl, hd⟩
  have c12 := c11'.trans (hd.below _)
  have D12 := Lib.hid (D7.out.below c12)
  have B12 := B7.trans (c12.mono B7.size)
  clear H hd c11' c12 D7 B7
  have H := Lib.hid (Fail_at (keep := 1) (names := false) D12.out (by decide) (by omega) (by omega))
  go_wp2_with fail
  (with_reducible refine H.out.mono ?_)
  rintro e w13 ⟨gx, rfl, d13, b13⟩
  have D13 := Lib.hid d13.swap
  have B13 := B12.trans (b13.mono B12.size)
  clear H D12 B12 b13 d13
  have H := Lib.hid (Fail_at (keep := 0) (names := true) D13.out (by decide) (by omega) (by omega))
  go_wp2_with fail
  (with_reducible refine H.out.mono ?_)
  rintro e w14 ⟨gy, rfl, d14, b14⟩
  have D14 := Lib.hid d14
  have B14 := B13.trans (b14.mono B13.size)
  clear H D13 B13 b14 d14
  have H : Hid (Calls Tryd.prog 37 #[.pointer (some ⟨gy, 0, none⟩), .string ⟨#[98]⟩] w14 (fun e w' => e = .returned (.tuple #[.int .i64 5, .int .i64 0]) ∧ Below w14.heap.size w14 w')) := by
    have h := Size_at (s := ⟨#[98]⟩) D14.out (by decide)
    rw [al_ysize] at h; exact h
  go_wp2_with fail
  (with_reducible refine H.out.mono ?_)
  rintro e w15 ⟨rfl, b15⟩
  have D15 := Lib.hid (D14.out.below b15)
  have B15 := B14.trans (b15.mono B14.size)
  clear H D14 B14 b15
  have H : Hid (Calls Tryd.prog 38 #[.pointer (some ⟨gx, 0, none⟩)] w15 (RetS w15 [⟨#[97]⟩])) := by
    rw [← al_xlist]; exact List_at (D15.out.perm (List.Perm.trans (List.Perm.cons _ (List.Perm.swap _ _ _)) (List.Perm.swap _ _ _)))
  go_wp2_with fail
  (with_reducible refine H.out.mono ?_)
  rintro e w16 ⟨A16, rfl, o16, b16⟩
  have R16 := Lib.hid (o16.rd rfl (Nat.le_refl _))
  have D16 := Lib.hid (D15.out.below b16)
  have B16 := B15.trans (b16.mono B15.size)
  clear H D15 B15 b16 o16
  have hbl := (Below.refl w16.heap.size w16).alloc (Nat.le_refl _) (.cells #[.string ⟨#[97]⟩] 9)
  have H := Lib.hid (SameTexts_yes [⟨#[97]⟩] 1 rfl A16 (some ⟨w16.heap.size, 0, none⟩) 1 1 (w16.alloc (.cells #[.string ⟨#[97]⟩] 9)) _ (by decide) (R16.out.below hbl hbl.size) (Rd.list w16 9 _ rfl _ _ rfl))
  have D16' := Lib.hid (D16.out.below hbl)
  have B16' := B16.trans (hbl.mono B16.size)
  clear hbl R16 D16 B16
  go_wp2_with fail
  (with_reducible refine H.out.mono ?_)
  rintro e w17 ⟨rfl, hd⟩
  have D17 := Lib.hid (D16'.out.below (hd.below _))
  have B17 := B16'.trans (hd.below _)
  clear H hd D16' B16'
  have H : Hid (Calls Tryd.prog 42 #[.pointer (some ⟨gx, 0, none⟩), .string ⟨#[97]⟩] w17 (fun e w' => e = .returned (.string ⟨#[97, 98, 99, 100, 101, 102]⟩) ∧ Below w17.heap.size w17 w')) := by
    have h := All_at (s := ⟨#[97]⟩) (D17.out.perm (List.Perm.trans (List.Perm.cons _ (List.Perm.swap _ _ _)) (List.Perm.swap _ _ _))) (by decide)
    rw [al_xall] at h; exact h
  go_wp2_with fail
  (with_reducible refine H.out.mono ?_)
  rintro e w18 ⟨rfl, b18⟩
  have D18 := Lib.hid ((D17.out.below b18).perm (L' := [(g, al6), (gx, al6.fail 1 false), (gy, al6.fail 0 true)]) (List.Perm.trans (List.Perm.swap _ _ _) (List.Perm.cons _ (List.Perm.swap _ _ _))))
  have B18 := B17.trans (b18.mono B17.size)
  clear H D17 B17 b18
  obtain ⟨i0, hi, hz0, hz1, hz2⟩ := info_parts Tryd.infoByte
  go_wp2_with (first | (refine wpList_make_blk rfl (.const (.int .i64 4)) (.const (.int .i64 4)) 37 rfl 5 i0 (.int .u8 0) Tryd.underlying37 hi hz0 hz1 rfl .i64 .i64 4 4 rfl rfl 4 4 rfl rfl (by omega) (by rw [hz2]; omega) (by omega) ?_; rintro w19 rfl))
  have H := Lib.hid (Append_at (bs := [0, 0, 0, 0]) (n := 4) (cb := 4) (B := some ⟨w18.heap.size, 0, none⟩) (D18.out.alloc (.cells #[.int .u8 0, .int .u8 0, .int .u8 0, .int .u8 0] 5)) (by decide) rfl (by decide) (by intro x hx; simp at hx; omega) (Rd.list w18 5 _ rfl _ _ rfl) al_g1)
  have B19 := B18.alloc B18.size (.cells #[.int .u8 0, .int .u8 0, .int .u8 0, .int .u8 0] 5)
  clear D18 B18
  (with_reducible refine H.out.mono ?_)
  rintro e w20 ⟨rfl, d20, b20⟩
  have B20 := B19.trans b20
  clear H B19 b20
  have H := Lib.hid (Create_at d20 (by decide) al_g2)
  clear d20
  go_wp2_with fail
  (with_reducible refine H.out.mono ?_)
  rintro e w21 ⟨rfl, d21, b21⟩
  have B21 := B20.trans b21
  clear H B20 b21
  have H := Lib.hid (Create_at d21 (by decide) al_g3)
  clear d21
  go_wp2_with fail
  (with_reducible refine H.out.mono ?_)
  rintro e w22 ⟨rfl, d22, b22⟩
  have B22 := B21.trans b22
  clear H B21 b22 d22
  go_wp2
  go_ret
  exact ⟨rfl, B22⟩
end Go.Proofs.YtgibdecgmageeaaDoor
