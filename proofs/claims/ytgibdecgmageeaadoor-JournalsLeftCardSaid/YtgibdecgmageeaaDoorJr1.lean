/- The check of journals walked: over, number. -/
import Derived.Test.YtgibdecgmageeaaDoorConcat
import Derived.Test.YtgibdecgmageeaaDoorCrc
namespace Go.Proofs.YtgibdecgmageeaaDoor
open Go.RowKit

theorem cat_cons (s : Src) (ss : List Src) : cat (s :: ss) = s.2.1 ++ cat ss := by simp [cat]
theorem cat_nil : cat [] = [] := rfl

set_option maxHeartbeats 1000000 in
theorem over_any (c : Nat) (ss : List Src) (S : Option Addr) (n cS B : Nat) (w : World) (hc : c < 4294967296) (hn : n = ss.length) (hl : n ≤ 1000) (hr : Rd w B S (ss.map SV)) (hs : ∀ s ∈ ss, Rd w B s.1 (U8 s.2.1) ∧ IsU8 s.2.1 ∧ s.2.1.length ≤ 140737488351232) :
    Calls Tryd.prog 60 #[.int .u32 c, .slice S n cS] w (fun e w' => e = .returned (.int .u32 (crc c (cat ss) : Nat)) ∧ w = w') := by
  have HN := Lib.hid hn
  have HR := Lib.hid hr
  have HS := Lib.hid hs
  clear hn hr hs
  go_enter Tryd.func60, Tryd.ntmps60
  go_wp2_with fail
  go_loop [0, 12] (fun s0 s12 => ∃ (j d : Nat), s12 = .int .i64 j ∧ j ≤ n ∧ s0 = .int .u32 d ∧ Hid (d = crc c (cat (ss.take j))) ∧ d < 4294967296) (fun _ s12 => n - (intOf s12).toNat)
  case atStart => exact ⟨0, c, rfl, by omega, rfl, rfl, hc⟩
  case round =>
    obtain ⟨j, d, rfl, hj, rfl, HD, hd⟩ := hrel
    by_cases hlt : j < n
    · have hjl : j < ss.length := by have := HN.out; omega
      obtain ⟨ad, rfl, _, hcell⟩ := HR.out (by simp; omega)
      have c0 : w.cell? (ad.add j) = some (SV ss[j]) := hcell j _ (by simp [hjl])
      obtain ⟨hrs, hu, hlen⟩ := HS.out _ (List.getElem_mem hjl)
      have hcat := cat_take_succ ss j hjl
      obtain ⟨X, bs, cb, hx⟩ : ∃ X l c, ss[j] = (X, l, c) := ⟨_, _, _, rfl⟩
      rw [hx] at c0 hrs hu hlen hcat
      simp only [SV] at c0 hrs hu hlen hcat
      have HC := Lib.hid hcat
      have HRS := Lib.hid hrs
      have HU := Lib.hid hu
      clear hcat hcell hrs hu hx
      obtain ⟨m, hm⟩ : ∃ m, m = bs.length := ⟨_, rfl⟩
      rw [← hm] at c0 hlen
      have HM := Lib.hid hm
      clear hm
      go_wp2_with fail
      go_loop [0, 18] (fun s0 s18 => ∃ (k e : Nat), s18 = .int .i64 k ∧ k ≤ m ∧ s0 = .int .u32 e ∧ Hid (e = crc d (bs.take k)) ∧ e < 4294967296) (fun _ s18 => m - (intOf s18).toNat)
      case atStart => exact ⟨0, d, rfl, by omega, rfl, rfl, hd⟩
      case round =>
        obtain ⟨k, e, rfl, hk, rfl, HE, he⟩ := hrel
        by_cases hlt2 : k < m
        · have hkl : k < bs.length := by have := HM.out; omega
          obtain ⟨bd, rfl, _, hcell⟩ := HRS.out (by simp; omega)
          have c1 : w.cell? (bd.add k) = some (.int .u8 bs[k]) := hcell k _ (by simp [U8, hkl])
          have hb := HU.out _ (List.getElem_mem hkl)
          have htk := List.take_succ_eq_append_getElem hkl
          generalize bs[k] = x at c1 hb htk
          obtain ⟨b, rfl⟩ := Int.eq_ofNat_of_zero_le hb.1
          have hb1 : b < 256 := by omega
          have HT := Lib.hid htk
          clear htk hcell hb
          go_wp2_with fail
          have hx0 : bits BinOp.xor IntKind.u32 (e : Int) ((b : Int) * 16777216) = ((e ^^^ b * 16777216 : Nat) : Int) := by
            rw [show (b : Int) * 16777216 = ((b * 16777216 : Nat) : Int) by omega]
            exact xor_u32 e (b * 16777216) he (by omega)
          rw [hx0]
          clear hx0
          have hg := crcIn_lt e b he hb1
          obtain ⟨g, hgd⟩ : ∃ g, g = e ^^^ b * 16777216 := ⟨_, rfl⟩
          rw [← hgd] at hg ⊢
          have HG := Lib.hid hgd
          clear hgd
          go_loop [0, 27] (fun s0 s27 => ∃ (q f : Nat), s27 = .int .i64 q ∧ q ≤ 8 ∧ s0 = .int .u32 f ∧ Hid (f = crcBits g q) ∧ f < 4294967296) (fun _ s27 => 8 - (intOf s27).toNat)
          case atStart => exact ⟨0, g, rfl, by omega, rfl, rfl, hg⟩
          case round =>
            obtain ⟨q, f, rfl, hq, rfl, HF, hf⟩ := hrel
            by_cases hlt3 : q < 8
            · have hqI : (q : Int) < 8 := by omega
              have hnx := crcBit_lt f
              have HN1 : Hid (crcBit f = crcBits g (q + 1)) := congrArg crcBit HF.out
              by_cases htop : f / 2147483648 = 1
              · have htb : ((f : Int) / 2147483648 == 1) = true := by rw [beq_iff_eq]; omega
                have hx : crcBit f = (f * 2 % 4294967296) ^^^ 79764919 := by unfold crcBit; rw [if_pos htop]
                have HX := Lib.hid hx
                clear hx
                go_wp2_with fail
                go_round
                case rel => exact ⟨q + 1, crcBit f, by go_num, by omega, by rw [HX.out, show ((f : Int) * 2 % 4294967296) = ((f * 2 % 4294967296 : Nat) : Int) by omega, show (79764919 : Int) = ((79764919 : Nat) : Int) by omega, xor_u32 _ _ (by omega) (by omega)], HN1, hnx⟩
                case measure => simp [intOf] <;> omega
              · have htb : ((f : Int) / 2147483648 == 1) = false := by rw [beq_eq_false_iff_ne]; omega
                have hx : crcBit f = f * 2 % 4294967296 := by unfold crcBit; rw [if_neg htop]
                have HX := Lib.hid hx
                clear hx
                go_wp2_with fail
                go_round
                case rel => exact ⟨q + 1, crcBit f, by go_num, by omega, by rw [HX.out]; exact congrArg (Value.int IntKind.u32) (by omega), HN1, hnx⟩
                case measure => simp [intOf] <;> omega
            · have hq8 : q = 8 := by omega
              have hfin : Hid (f = crc d (bs.take (k + 1))) := by
                have h1 := HF.out
                rw [hq8, HG.out, HE.out] at h1
                have h2 := HT.out
                show f = crc d (bs.take (k + 1))
                rw [h2, crc_snoc, h1]
                rfl
              have hqI : ¬ ((q : Int) < 8) := by omega
              clear hq8 HF HG
              go_wp2_with fail
              go_round
              case rel => exact ⟨k + 1, f, by go_num, by omega, rfl, hfin, hf⟩
              case measure => simp [intOf] <;> omega
        · have hkm : k = m := by omega
          have hfin : Hid (e = crc c (cat (ss.take (j + 1)))) := by
            have h1 := HE.out
            have h2 := HM.out
            rw [hkm, h2, List.take_length, HD.out] at h1
            show e = crc c (cat (ss.take (j + 1)))
            rw [HC.out, crc_append]
            exact h1
          clear hkm HE
          go_wp2_with fail
          go_round
          case rel => exact ⟨j + 1, e, by go_num, by omega, rfl, hfin, he⟩
          case measure => simp [intOf] <;> omega
    · have hjn : j = n := by omega
      have hfin : Hid (d = crc c (cat ss)) := by
        have h1 := HD.out
        have h2 := HN.out
        rw [hjn, h2, List.take_length] at h1
        exact h1
      clear hjn HD
      go_wp2_with fail
      go_ret
      exact ⟨by rw [← hfin.out]; rfl, rfl⟩

set_option maxHeartbeats 1000000 in
theorem number_any (n : Nat) (w : World) (h : n < 4294967296) :
    Calls Tryd.prog 62 #[.int .u32 n] w (NewB w (be n 4)) := by
  go_enter Tryd.func62, Tryd.ntmps62
  go_wp2_with fail
  go_ret
  have e : (#[Value.int IntKind.u8 ((n : Int) / 16777216), Value.int IntKind.u8 ((n : Int) / 65536 % 256), Value.int IntKind.u8 ((n : Int) / 256 % 256), Value.int IntKind.u8 ((n : Int) % 256)] : Array Value) = (U8 (be n 4)).toArray := by
    have d0 : dig n 4 0 = (n : Int) / 16777216 := by unfold dig; simp only [Nat.reduceSub, Nat.reducePow]; omega
    have d1 : dig n 4 1 = (n : Int) / 65536 % 256 := by unfold dig; simp only [Nat.reduceSub, Nat.reducePow]; omega
    have d2 : dig n 4 2 = (n : Int) / 256 % 256 := by unfold dig; simp only [Nat.reduceSub, Nat.reducePow]; omega
    have d3 : dig n 4 3 = (n : Int) % 256 := by unfold dig; simp only [Nat.reduceSub, Nat.reducePow]; omega
    rw [← d0, ← d1, ← d2, ← d3]; rfl
  exact ⟨w.heap.size, rfl, Nat.le_refl _, Blk.lit w 5 _ rfl _ _ e, (Below.refl _ _).alloc (Nat.le_refl _) _⟩

set_option maxHeartbeats 1000000 in
theorem laid_any (c : Nat) (bs : List Int) (A : Option Addr) (m cb : Nat) (w : World) (hc : c < 4294967296) (hm : m = bs.length) (hl : m ≤ 1048576) (hu : IsU8 bs) (hr : Rd w w.heap.size A (U8 bs)) :
    Calls Tryd.prog 49 #[.int .u32 c, .slice A m cb] w (fun e w' => ∃ X cap, e = .returned (.tuple #[.slice X (m + 8) cap, .int .u32 (nextC c bs : Nat)]) ∧ Own w' w.heap.size 5 1 (.slice X (m + 8) cap) (m + 8) (U8 (laidB c bs)) ∧ Below w.heap.size w w') := by
  have HM := Lib.hid hm
  have HR := Lib.hid hr
  clear hm hr
  go_enter Tryd.func49, Tryd.ntmps49
  go_wp2_with fail
  refine (number_any m w (by omega)).mono ?_
  rintro e w1 ⟨g, rfl, hg, hB, hb⟩
  rw [length_be]
  have HB := Lib.hid hB
  clear hB
  go_wp2_with fail
  have HB2 := Lib.hid (Blk.alloc HB.out (.cells #[.slice (some ⟨g, 0, none⟩) 4 4, .slice A m cb] 37))
  have HR2 := Lib.hid (Rd.below (B' := w1.heap.size + 1) (HR.out.below hb hb.size) ((Below.refl w1.heap.size w1).alloc (Nat.le_refl _) (.cells #[.slice (some ⟨g, 0, none⟩) 4 4, .slice A m cb] 37)) (Nat.le_succ _))
  have hb2 := hb.alloc hb.size (.cells #[.slice (some ⟨g, 0, none⟩) 4 4, .slice A m cb] 37)
  have hr0 : Rd (w1.alloc (.cells #[.slice (some ⟨g, 0, none⟩) 4 4, .slice A m cb] 37)) (w1.heap.size + 1) (some ⟨w1.heap.size, 0, none⟩) [.slice (some ⟨g, 0, none⟩) 4 4, .slice A m cb] := Rd.of_blk (Blk.lit w1 37 _ rfl _ _ rfl) 0 (fun j u hj => by rw [Nat.zero_add]; exact hj) (by omega)
  have hg1 : g < w1.heap.size := HB.out.lt
  have hrb : Rd (w1.alloc (.cells #[.slice (some ⟨g, 0, none⟩) 4 4, .slice A m cb] 37)) (w1.heap.size + 1) (some ⟨g, 0, none⟩) (U8 (be m 4)) := Rd.of_blk HB2.out 0 (fun j u hj => by rw [Nat.zero_add]; exact hj) (by omega)
  refine (over_any c [(some ⟨g, 0, none⟩, be m 4, 4), (A, bs, cb)] _ 2 2 (w1.heap.size + 1) _ hc rfl (by omega) (by simp only [List.map_cons, List.map_nil, SV, length_be]; rw [← HM.out]; exact hr0) ?_).mono ?_
  · intro s hs
    rcases List.mem_cons.1 hs with rfl | hs
    · exact ⟨hrb, isU8_be _ _, by rw [length_be]; omega⟩
    · obtain rfl := List.mem_singleton.1 hs
      exact ⟨HR2.out, hu, by show bs.length ≤ _; have := HM.out; omega⟩
  · rintro e w2 ⟨rfl, rfl⟩
    have hnx : Hid (crc c (cat [(some ⟨g, 0, none⟩, be m 4, 4), (A, bs, cb)]) = nextC c bs) := by
      show crc c (cat [(some ⟨g, 0, none⟩, be m 4, 4), (A, bs, cb)]) = nextC c bs
      unfold nextC
      rw [cat_cons, cat_cons, cat_nil, List.append_nil, HM.out]
    rw [hnx.out]
    have hnl := nextC_lt hc bs
    clear hr0 hrb hnx
    generalize hww : w1.alloc (.cells #[.slice (some ⟨g, 0, none⟩) 4 4, .slice A m cb] 37) = w2 at HB2 HR2 hb2 ⊢
    have hs2 : w1.heap.size + 1 = w2.heap.size := by rw [← hww]; simp
    have hg2 : g < w2.heap.size := by omega
    rw [hs2] at HR2
    clear hww hs2 hb HB HR hg1
    go_wp2_with fail
    refine (number_any (nextC c bs) w2 hnl).mono ?_
    rintro e w3 ⟨g3, rfl, hg3, hB3, hb3⟩
    rw [length_be]
    have HB3 := Lib.hid (Blk.alloc hB3 (.cells #[.slice (some ⟨g, 0, none⟩) 4 4, .slice A m cb, .slice (some ⟨g3, 0, none⟩) 4 4] 37))
    have hg3' : g3 < w3.heap.size := hB3.lt
    have HB4 := Lib.hid ((HB2.out.below hb3 hg2).alloc (.cells #[.slice (some ⟨g, 0, none⟩) 4 4, .slice A m cb, .slice (some ⟨g3, 0, none⟩) 4 4] 37))
    have HR4 := Lib.hid (Rd.below (B' := w3.heap.size + 1) (HR2.out.below hb3 hb3.size) ((Below.refl w3.heap.size w3).alloc (Nat.le_refl _) (.cells #[.slice (some ⟨g, 0, none⟩) 4 4, .slice A m cb, .slice (some ⟨g3, 0, none⟩) 4 4] 37)) (Nat.le_succ _))
    have hs3 := hb3.size
    have hb4 := (hb2.trans (hb3.mono hb2.size)).alloc (Nat.le_trans hb2.size hs3) (.cells #[.slice (some ⟨g, 0, none⟩) 4 4, .slice A m cb, .slice (some ⟨g3, 0, none⟩) 4 4] 37)
    clear hB3 hb3 HB2 HR2 hb2
    go_wp2_with fail
    refine (Concat_any [(some ⟨g, 0, none⟩, be m 4, 4), (A, bs, cb), (some ⟨g3, 0, none⟩, be (nextC c bs) 4, 4)] _ 3 3 _ rfl (by simp) ?_ ?_ ?_).mono ?_
    · simp only [List.map_cons, List.map_nil, SV, length_be]
      rw [← HM.out]
      exact Rd.of_blk (Blk.lit w3 37 _ rfl _ _ rfl) 0 (fun j u hj => by rw [Nat.zero_add]; exact hj) (by simp)
    · intro s hs
      rcases List.mem_cons.1 hs with rfl | hs
      · exact Rd.of_blk HB4.out 0 (fun j u hj => by rw [Nat.zero_add]; exact hj) (by simp; omega)
      · rcases List.mem_cons.1 hs with rfl | hs
        · have := HR4.out
          rwa [show w3.heap.size + 1 = (w3.alloc (.cells #[.slice (some ⟨g, 0, none⟩) 4 4, .slice A m cb, .slice (some ⟨g3, 0, none⟩) 4 4] 37)).heap.size by simp] at this
        · obtain rfl := List.mem_singleton.1 hs
          exact Rd.of_blk HB3.out 0 (fun j u hj => by rw [Nat.zero_add]; exact hj) (by simp; omega)
    · rw [cat_cons, cat_cons, cat_cons, cat_nil]
      simp only [List.length_append, length_be, List.length_nil]
      have := HM.out
      omega
    · rintro e w5 ⟨v, rfl, ho, hb5⟩
      have hcat : cat [(some ⟨g, 0, none⟩, be m 4, 4), (A, bs, cb), (some ⟨g3, 0, none⟩, be (nextC c bs) 4, 4)] = laidB c bs := by
        rw [cat_cons, cat_cons, cat_cons, cat_nil, List.append_nil]
        unfold laidB
        rw [HM.out, List.append_assoc]
      rw [hcat, length_laidB, ← HM.out] at ho
      have ho' := ho.rebase (fun k hk => Nat.le_trans hb4.size (ho.lt k hk).1)
      obtain ⟨X, cap, rfl, _⟩ := ho.shape
      have HO := Lib.hid ho'
      have hb6 := hb4.trans (hb5.mono hb4.size)
      clear ho ho' hcat HB3 HB4 HR4 hb4 hb5
      go_wp2_with fail
      go_ret2
      exact ⟨X, cap, rfl, HO.out, hb6⟩
end Go.Proofs.YtgibdecgmageeaaDoor
