/- balefireref01.Put, PutLong, PutBytes walked. -/
import Derived.Test.YtgibdecgmageeaaGreatDoorBytes
import Derived.Deep.RegionLaw
import Derived.Deep.DeepCutAuto
namespace Go.Proofs.YtgibdecgmageeaaGreatDoor
open Go.RowKit

/-- The first i digits of n, the lowest first. -/
def lows (n i : Nat) : List Int := (List.range i).map fun j => ((n / 256 ^ j % 256 : Nat) : Int)
theorem lows_succ (n i : Nat) : lows n (i + 1) = lows n i ++ [((n / 256 ^ i % 256 : Nat) : Int)] := by simp [lows, List.range_succ]
@[simp] theorem length_lows (n i : Nat) : (lows n i).length = i := by simp [lows]
theorem lows_get (n k j : Nat) (h : j < k) : (lows n k)[k - 1 - j]? = some (dig n k j) := by
  unfold lows dig
  rw [List.getElem?_map, List.getElem?_range (by omega)]
  rfl

set_option maxRecDepth 100000 in
set_option maxHeartbeats 2000000 in
theorem RefPut_any (bs : List Int) (A : Option Addr) (cb : Nat) (N b : Int) (w : World) (hn0 : 0 ≤ N) (hn1 : N < 18446744073709551616) (hbl : bs.length ≤ 140737488351232)
    (hb0 : -9223372036854775808 ≤ b) (hb1 : b ≤ 9223372036854775807) (hrb : Rd w w.heap.size A (U8 bs)) :
    Calls Tryz.prog 22 #[.slice A bs.length cb, .int .u64 N, .int .i64 b] w (RetB w (bs ++ be N.toNat (many b))) := by
  obtain ⟨i0, hi, hz0, hz1, hz2⟩ := info_parts Tryz.infoByte
  obtain ⟨k, hk⟩ : ∃ k, k = many b := ⟨_, rfl⟩
  have hk8 : k ≤ 8 := by rw [hk]; unfold many; omega
  have HK := Lib.hid hk; clear hk
  go_enter Tryz.func22, Tryz.ntmps22
  go_upto_region 2 with ((at_builtin; refine wpList_append_Own rfl (.const (.slice none 0 0)) (.tmp 12) 22 rfl i0 (.int .u8 0) 1 Tryz.underlying22 hi hz0 hz1 hz2 rfl (by decide) rfl (Own.nil w w.heap.size 5 1) w.heap.size A bs.length cb rfl (U8 bs) (by simp) hrb (oneCell_U8 _) (by omega) (by omega) (Nat.le_refl _) ?_; intro out w1 ho _ hm _ _; have hbw1 : Below w.heap.size w w1 := hm.below_own (Nat.le_refl _) (fun g hg => by { have hg' : (Value.slice none 0 0).ownBlock = some g := hg; simp [Value.ownBlock] at hg' }); clear hm; rw [Nat.zero_add, List.nil_append] at ho; have HO := Lib.hid ho; clear ho))
  go_cut [8] (fun s8 wx => s8 = .int .i64 k ∧ w1 = wx)
  case first =>
    go_wp2
    all_goals
      go_meet
      refine ⟨?_, rfl⟩
      rw [HK.out]
      congr 1
      unfold many
      omega
  case rest =>
    obtain ⟨rfl, rfl⟩ := hcut
    obtain ⟨X, cx, rfl, hx1, hx2, hx3⟩ := HO.out.shape
    clear hx3
    have hsz : w.heap.size ≤ w1.heap.size := hbw1.size
    go_wp2
    go_loopw [9, 10, 1] (fun low i m wr => ∃ j : Nat, j ≤ k ∧ i = .int .i64 j ∧ m = .int .u64 (N / 256 ^ j) ∧ Hid (Own wr w1.heap.size 5 1 low j (U8 (lows N.toNat j))) ∧ Below w1.heap.size w1 wr) (fun _ i _ _ => k - (intOf i).toNat)
    case atStart => exact ⟨0, by omega, rfl, by simp, Own.nil _ _ _ _, Below.refl _ _⟩
    case round =>
      obtain ⟨j, hj, rfl, rfl, HL, hbr⟩ := hrel
      by_cases hlt : j < k
      · obtain ⟨x, hx⟩ : ∃ x, x = N / 256 ^ j := ⟨_, rfl⟩
        have hx0 : 0 ≤ x := by rw [hx]; exact Int.ediv_nonneg hn0 (Int.pow_nonneg (by omega))
        have hx1 : x < 18446744073709551616 := by
          rw [hx]; exact Int.lt_of_le_of_lt (Int.ediv_le_self _ hn0) hn1
        have hnext : N / 256 ^ (j + 1) = x / 256 := by rw [hx, Int.pow_succ, Int.ediv_ediv_of_nonneg (Int.pow_nonneg (by omega))]
        have hdig : x % 256 = ((N.toNat / 256 ^ j % 256 : Nat) : Int) := by
          rw [hx]
          obtain ⟨n, rfl⟩ := Int.eq_ofNat_of_zero_le hn0
          simp
        rw [← hx]
        have HN := Lib.hid hnext; have HD := Lib.hid hdig; clear hx hnext hdig
        have hjI : (j : Int) < k := by omega
        go_wp2_with (first | (at_builtin; refine wpList_append_Own rfl (.tmp 22) (.tmp 26) 22 rfl i0 (.int .u8 0) 1 Tryz.underlying22 hi hz0 hz1 hz2 rfl (by decide) rfl (HL.out.alloc _) (wr.heap.size + 1) (some ⟨wr.heap.size, 0, none⟩) 1 1 rfl [.int .u8 (x % 256)] rfl (Rd.one wr 5 _ (Nat.lt_succ_self _)) (oneCell_U8 [x % 256]) (by omega) (by omega) (by have := hbr.size; simp; omega) ?_; intro low' w2 hl2 _ hm _ _; have hb2 : Below w1.heap.size w1 w2 := ((hbr.alloc hbr.size _).trans (hm.below_own (by have := hbr.size; simp; omega) (fun g hg => (HL.out.lt g hg).1))); clear hm; have HL2 := Lib.hid hl2; clear hl2))
        obtain ⟨Y, cy, rfl, hy1, hy2, hy3⟩ := HL2.out.shape
        clear hy3
        go_wp2
        go_roundw
        case rel =>
          refine ⟨j + 1, by omega, by go_num, by rw [HN.out], ?_, hb2⟩
          rw [lows_succ, ← HD.out, U8_append]
          exact HL2.out
        case measure => simp [intOf]; omega
      · obtain rfl : j = k := by omega
        obtain ⟨Y, cy, rfl, hy1, hy2, hy3⟩ := HL.out.shape
        clear hy3
        have hown := HO.out.below hbr (fun g hg => (HO.out.lt g hg).2)
        have HO2 := Lib.hid hown; clear hown
        have hdis : ∀ g, (Value.slice X bs.length cx).ownBlock = some g → g < w1.heap.size := fun g hg => (HO.out.lt g hg).2
        have HD := Lib.hid hdis; clear hdis
        have hbw := hbw1.trans (hbr.mono hsz)
        go_wp2
        obtain ⟨wm, rfl⟩ : ∃ wm : World, wm = wr := ⟨_, rfl⟩
        have hszm : w1.heap.size ≤ wm.heap.size := hbr.size
        go_loopw [7, 11] (fun out i wr => ∃ q : Nat, q ≤ j ∧ i = .int .i64 ((j : Int) - 1 - q) ∧ Hid (Own wr w.heap.size 5 1 out (bs.length + q) (U8 (bs ++ pre N.toNat j q))) ∧ Hid (Own wr w1.heap.size 5 1 (.slice Y j cy) j (U8 (lows N.toNat j))) ∧ Hid (∀ g, out.ownBlock = some g → g < w1.heap.size ∨ wm.heap.size ≤ g) ∧ Below w.heap.size w wr ∧ wm.heap.size ≤ wr.heap.size) (fun _ i _ => (intOf i + 1).toNat)
        case atStart =>
          exact ⟨0, by omega, by simp, by simpa [pre] using HO2, HL, fun g hg => .inl (HD.out g hg), hbw, Nat.le_refl _⟩
        case round =>
          obtain ⟨q, hq, rfl, HQ, HLq, HDq, hbq, hsq⟩ := hrel
          by_cases hqk : q < j
          · obtain ⟨t, ht⟩ : ∃ t, t = j - 1 - q := ⟨_, rfl⟩
            have hti : (j : Int) - 1 - q = (t : Int) := by omega
            have htj : t < j := by omega
            rw [hti]
            have hrl := HLq.out.rd rfl (Nat.le_refl _)
            obtain ⟨ad, rfl, hadb, hc⟩ := hrl (by simp; omega)
            have c1 := hc t (.int .u8 (dig N.toNat j q)) (by rw [ht, U8, List.getElem?_map, lows_get _ _ _ hqk]; rfl)
            obtain ⟨x, hx⟩ : ∃ x, x = dig N.toNat j q := ⟨_, rfl⟩
            rw [← hx] at c1
            have HX := Lib.hid hx
            have HT := Lib.hid hti
            have hbw0 : w.heap.size ≤ wr.heap.size := hbq.size
            clear hc hx hti ht
            have htI : (t : Int) < j := by omega
            go_wp2_with (first | (at_builtin; refine wpList_append_Own rfl (.tmp 36) (.tmp 41) 22 rfl i0 (.int .u8 0) 1 Tryz.underlying22 hi hz0 hz1 hz2 rfl (by decide) rfl (HQ.out.alloc _) (wr.heap.size + 1) (some ⟨wr.heap.size, 0, none⟩) 1 1 rfl [.int .u8 x] rfl (Rd.one wr 5 _ (Nat.lt_succ_self _)) (oneCell_U8 [x]) (by omega) (by omega) (by simp; omega) ?_; intro out' w2 ho2 _ hm hob _; have hb2 : Below w.heap.size w w2 := ((hbq.alloc hbq.size _).trans (hm.below_own (by simp; omega) (fun g hg => (HQ.out.lt g hg).1))); have HO3 := Lib.hid ho2; have HM := Lib.hid hm; have HOB := Lib.hid hob; clear ho2 hm hob))
            have HL2 : Hid (Own w2 w1.heap.size 5 1 (.slice (some ad) j cy) j (U8 (lows N.toNat j))) := by
              refine (HLq.out.alloc _).mods HM.out (fun g hg h => ?_)
              have h1 := HLq.out.lt g hg
              rcases HDq.out g h with h2 | h2
              · omega
              · have := (HL.out.lt g hg).2; omega
            have hs2 : wm.heap.size ≤ w2.heap.size := by have := HM.out.size; simp at this; omega
            obtain ⟨Z, cz, rfl, hz1', hz2', hz3'⟩ := HO3.out.shape
            clear hz3'
            go_wp2
            go_roundw
            case rel =>
              refine ⟨q + 1, by omega, ?_, ?_, HL2, ?_, hb2, hs2⟩
              · have := HT.out
                congr 1
                omega
              · rw [pre_succ, ← HX.out, ← List.append_assoc, U8_append]
                exact HO3.out
              · intro g hg
                rcases HOB.out g hg with h | h
                · exact HDq.out g h
                · right; simp at h; omega
            case measure => simp [intOf]
          · obtain rfl : q = j := by omega
            obtain ⟨Z, cz, rfl, _, _, _⟩ := HQ.out.shape
            go_wp2
            go_ret
            refine ⟨_, rfl, ?_, hbq⟩
            have := HQ.out
            rw [← HK.out]
            simpa [be] using this

theorem many_8 : many 8 = 8 := rfl
theorem many_4 : many 4 = 4 := rfl
theorem RefPut_n (l : List Int) (n : Nat) (hn : n = l.length) (A : Option Addr) (c : Nat) (x : Int) (w : World) (hl : n ≤ 140737488351232) (hx : 0 ≤ x ∧ x < 18446744073709551616) (hr : Rd w w.heap.size A (U8 l)) (B : Nat) (hB : B ≤ w.heap.size) :
    Calls Tryz.prog 22 #[.slice A n c, .int .u64 x, .int .i64 8] w (fun e w' => ∃ X c, e = .returned (.slice X (n + 8) c) ∧ Own w' B 5 1 (.slice X (n + 8) c) (n + 8) (U8 (l ++ be x.toNat 8)) ∧ Below w.heap.size w w') := by
  subst hn
  refine (RefPut_any l A c x 8 w hx.1 hx.2 hl (by omega) (by omega) hr).mono ?_
  rintro e w' ⟨v, rfl, ho, hb⟩
  rw [many_8, List.length_append, length_be] at ho
  obtain ⟨X, c, rfl, _, _, _⟩ := ho.shape
  exact ⟨X, c, rfl, ho.rebase (fun g hg => Nat.le_trans hB (ho.lt g hg).1), hb⟩

set_option maxRecDepth 100000 in
set_option maxHeartbeats 2000000 in
theorem RefPutLong_any (bs : List Int) (A : Option Addr) (cb : Nat) (a b c d : Int) (w : World) (hbl : bs.length ≤ 140737488300000)
    (hws : ∀ x ∈ [d, c, b, a], 0 ≤ x ∧ x < 18446744073709551616) (hrb : Rd w w.heap.size A (U8 bs)) :
    Calls Tryz.prog 23 #[.slice A bs.length cb, .agg #[.int .u64 a, .int .u64 b, .int .u64 c, .int .u64 d]] w (RetB w (bs ++ long a b c d)) := by
  have hd := hws d (by simp)
  have hc := hws c (by simp)
  have hb := hws b (by simp)
  have ha := hws a (by simp)
  clear hws
  obtain ⟨wb, hwb⟩ : ∃ wb, wb = w.alloc (.cells #[.int .u64 a, .int .u64 b, .int .u64 c, .int .u64 d] 30) := ⟨_, rfl⟩
  have lB : Blk wb w.heap.size 30 [.int .u64 a, .int .u64 b, .int .u64 c, .int .u64 d] := by rw [hwb]; exact Blk.lit w _ _ rfl _ _ rfl
  have f0 : Below w.heap.size w wb := by rw [hwb]; exact (Below.refl _ _).alloc (Nat.le_refl _) _
  have hrb0 := hrb.below f0 f0.size
  have hwbs : w.heap.size < wb.heap.size := by rw [hwb]; simp
  have facts : ∀ wx, Below wb.heap.size wb wx → wx.cell? ⟨w.heap.size, 0, none⟩ = some (.int .u64 a) ∧ wx.cell? ⟨w.heap.size, 1, none⟩ = some (.int .u64 b) ∧ wx.cell? ⟨w.heap.size, 2, none⟩ = some (.int .u64 c) ∧ wx.cell? ⟨w.heap.size, 3, none⟩ = some (.int .u64 d) := by
    intro wx hx
    have h1 := lB.below hx hwbs
    refine ⟨?_, ?_, ?_, ?_⟩ <;> (rw [h1.cell]; rfl)
  have HF := Lib.hid facts; clear facts lB
  go_enter Tryz.func23, Tryz.ntmps23
  go_wp2_with fail
  rw [← hwb]
  clear hwb
  obtain ⟨e0, e1, e2, e3⟩ := HF.out wb (Below.refl _ _)
  refine wp_loop_rounds 5 ?_
  rw [rounds_succ]
  go_wp2_with fail
  refine (RefPut_n bs _ rfl A cb d wb (by omega) hd hrb0 w.heap.size f0.size).mono ?_
  rintro e w1 ⟨X1, c1, rfl, ho1, hb1⟩
  have f1 := hb1
  clear e0 e1 e2 e3
  obtain ⟨e0, e1, e2, e3⟩ := HF.out w1 f1
  have r1 := ho1.rd rfl (Nat.le_refl _)
  clear ho1
  go_wp2
  rw [rounds_succ]
  go_wp2_with fail
  refine (RefPut_n (bs ++ be d.toNat 8) _ (by simp) X1 c1 c w1 (by omega) hc r1 w.heap.size (Nat.le_trans f0.size f1.size)).mono ?_
  rintro e w2 ⟨X2, c2, rfl, ho2, hb2⟩
  have f2 := f1.trans (hb2.mono f1.size)
  clear e0 e1 e2 e3
  obtain ⟨e0, e1, e2, e3⟩ := HF.out w2 f2
  have r2 := ho2.rd rfl (Nat.le_refl _)
  clear ho2
  go_wp2
  rw [rounds_succ]
  go_wp2_with fail
  refine (RefPut_n (bs ++ be d.toNat 8 ++ be c.toNat 8) _ (by simp) X2 c2 b w2 (by omega) hb r2 w.heap.size (Nat.le_trans f0.size f2.size)).mono ?_
  rintro e w3 ⟨X3, c3, rfl, ho3, hb3⟩
  have f3 := f2.trans (hb3.mono f2.size)
  clear e0 e1 e2 e3
  obtain ⟨e0, e1, e2, e3⟩ := HF.out w3 f3
  have r3 := ho3.rd rfl (Nat.le_refl _)
  clear ho3
  go_wp2
  rw [rounds_succ]
  go_wp2_with fail
  refine (RefPut_n (bs ++ be d.toNat 8 ++ be c.toNat 8 ++ be b.toNat 8) _ (by simp) X3 c3 a w3 (by omega) ha r3 w.heap.size (Nat.le_trans f0.size f3.size)).mono ?_
  rintro e w4 ⟨X4, c4, rfl, ho4, hb4⟩
  have f4 := f3.trans (hb4.mono f3.size)
  clear e0 e1 e2 e3
  go_wp2
  rw [rounds_succ]
  go_wp2
  go_ret
  refine ⟨_, rfl, ?_, f0.trans (f4.mono f0.size)⟩
  have e : bs ++ be d.toNat 8 ++ be c.toNat 8 ++ be b.toNat 8 ++ be a.toNat 8 = bs ++ long a b c d := by simp [long, bes]
  have el : (bs ++ long a b c d).length = bs.length + 8 + 8 + 8 + 8 := by rw [← e]; simp
  rw [e] at ho4
  rw [el]
  exact ho4

set_option maxRecDepth 100000 in
set_option maxHeartbeats 2000000 in
theorem RefPutBytes_any (bs l : List Int) (A L : Option Addr) (cb cl : Nat) (w : World) (hbl : bs.length + l.length ≤ 140737488300000)
    (hrb : Rd w w.heap.size A (U8 bs)) (hrl : Rd w w.heap.size L (U8 l)) :
    Calls Tryz.prog 24 #[.slice A bs.length cb, .slice L l.length cl] w (RetB w (bs ++ lenB l)) := by
  obtain ⟨i0, hi, hz0, hz1, hz2⟩ := info_parts Tryz.infoByte
  go_enter Tryz.func24, Tryz.ntmps24
  go_wp2_with fail
  refine (RefPut_any bs A cb l.length 4 w (by omega) (by omega) (by omega) (by omega) (by omega) hrb).mono ?_
  rintro e w1 ⟨v, rfl, ho, hb⟩
  rw [many_4, List.length_append, length_be] at ho
  have hrl1 := hrl.below hb hb.size
  have HO := Lib.hid ho; clear ho
  go_wp2_with (first | (at_builtin; refine wpList_append_Own rfl (.tmp 9) (.tmp 10) 22 rfl i0 (.int .u8 0) 1 Tryz.underlying22 hi hz0 hz1 hz2 rfl (by decide) rfl HO.out w1.heap.size L l.length cl rfl (U8 l) (by simp) hrl1 (oneCell_U8 _) (by omega) (by omega) hb.size ?_; intro out' w2 ho2 _ hm _ _; have hb2 : Below w.heap.size w w2 := hb.trans (hm.below_own hb.size (fun g hg => (HO.out.lt g hg).1)); have HO3 := Lib.hid ho2; clear ho2 hm))
  go_ret
  refine ⟨_, rfl, ?_, hb2⟩
  have := HO3.out
  rw [← U8_append] at this
  have e : bs ++ lenB l = bs ++ be (l.length : Int).toNat 4 ++ l := by simp [lenB]
  rw [e, List.length_append, List.length_append, length_be]
  exact this
end Go.Proofs.YtgibdecgmageeaaGreatDoor
