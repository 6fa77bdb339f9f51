/- JournalsLeft walked. -/
import Derived.Test.YtgibdecgmageeaaDoorJr10
import Derived.Deep.DeepCutAuto
import Derived.Deep.CutRange
namespace Go.Proofs.YtgibdecgmageeaaDoor
open Go.RowKit

theorem endR_mono (l : List (List Int)) {i j : Nat} (h : i ≤ j) : endR (l.take i) ≤ endR (l.take j) := by
  have e : l.take i = (l.take j).take i := by rw [List.take_take, Nat.min_eq_left h]
  rw [e]; exact endR_take_le _ _
theorem endR_lt (l : List (List Int)) {i : Nat} (h : i < l.length) : endR (l.take i) + 8 ≤ endR (l.take (i + 1)) := by
  rw [List.take_succ_eq_append_getElem h, endR_snoc]; omega
/-- Which records are told of so many bytes. -/
theorem whole_is {l : List (List Int)} {n a b : Nat} (ha : a ≤ l.length) (hb : b ≤ l.length) (ha1 : endR (l.take a) ≤ n) (hb1 : endR (l.take b) ≤ n) (ha2 : a < l.length → n < endR (l.take (a + 1))) (hb2 : b < l.length → n < endR (l.take (b + 1))) : a = b := by
  by_cases h1 : a < b
  · have h2 := ha2 (by omega)
    have h3 := endR_mono l (show a + 1 ≤ b from h1)
    omega
  · by_cases h4 : b < a
    · have h2 := hb2 (by omega)
      have h3 := endR_mono l (show b + 1 ≤ a from h4)
      omega
    · omega
def goesB : List Int := [103, 111, 101, 115, 32, 111, 110]
theorem goesB_len : goesB.length = 7 := rfl
theorem goesB_u8 : IsU8 goesB := by
  intro x hx
  simp only [goesB, List.mem_cons, List.not_mem_nil, or_false] at hx
  omega
theorem bsOf_take (l : List Src) (k : Nat) : bsOf (l.take k) = (bsOf l).take k := by unfold bsOf; rw [List.map_take]
theorem bsOf_len (l : List Src) : (bsOf l).length = l.length := by unfold bsOf; rw [List.length_map]

set_option maxHeartbeats 1000000 in
theorem JournalsLeft_many (l : List Src) (A : Option Addr) (n cap : Nat) (s kp : Int) (w : World) (hn : n = l.length) (hnl : n ≤ 140737488351232) (hA : RecsIn w w.heap.size A l) (hm : manyB l = true) :
    Calls Tryd.prog 6 #[.slice A n cap, .int .u8 s, .int .u16 kp] w (fun e w' => e = .returned (.bool true) ∧ Below w.heap.size w w') := by
  have H := Lib.hid (many_at l A n cap w.heap.size w hn hnl hA)
  rw [hm] at H
  clear hn hA hm
  go_enter Tryd.func6, Tryd.ntmps6
  go_wp2_with fail
  (with_reducible refine H.out.mono ?_)
  rintro e w1 ⟨rfl, rfl⟩
  go_wp2_with fail
  (with_reducible refine (alive18 _).mono ?_)
  rintro e w2 ⟨rfl, b2⟩
  go_wp2
  go_ret
  exact ⟨rfl, b2⟩

set_option maxRecDepth 100000 in
set_option maxHeartbeats 4000000 in
theorem JournalsLeft_few (l : List Src) (A : Option Addr) (n cap : Nat) (s kp : Int) (w : World) (hn : n = l.length) (hnc : n ≤ cap) (hnl : n ≤ 140737488351232) (hA : RecsIn w w.heap.size A l) (hm : manyB l = false) (hu : ∀ r ∈ bsOf l, IsU8 r) (hs0 : 0 ≤ s) (hs1 : s < 256) (hk0 : 0 ≤ kp) (hk1 : kp < 65536) :
    Calls Tryd.prog 6 #[.slice A n cap, .int .u8 s, .int .u16 kp] w (fun e w' => e = .returned (.bool true) ∧ Below w.heap.size w w') := by
  obtain ⟨hl40, hend, hrec⟩ := manyB_no hm
  have H := Lib.hid (many_at l A n cap w.heap.size w hn hnl hA)
  rw [hm] at H
  have hn40 : n ≤ 40 := by omega
  obtain ⟨K, hK⟩ : ∃ K : Nat, s % ((n : Int) + 1) = K := ⟨(s % ((n : Int) + 1)).toNat, by have := Int.emod_nonneg s (show (n : Int) + 1 ≠ 0 by omega); omega⟩
  have hKn : K ≤ n := by have := Int.emod_lt_of_pos s (show (0 : Int) < (n : Int) + 1 by omega); omega
  obtain ⟨ls, hls⟩ : ∃ ls, ls = bsOf l := ⟨_, rfl⟩
  have hlsn : ls.length = n := by rw [hls, bsOf_len, hn]
  have HLS := Lib.hid hls
  have HLN := Lib.hid hlsn
  have HN := Lib.hid hn
  have HA := Lib.hid hA
  have HK := Lib.hid hK
  have HEND := Lib.hid hend
  have HREC := Lib.hid hrec
  have HU := Lib.hid hu
  have hKE : endR (bsOf (l.take K)) ≤ 40320 := by rw [bsOf_take]; exact Nat.le_trans (endR_take_le _ _) hend
  have H2 := Lib.hid (kept_at (b0 := w.heap.size) (z := 1000000) (n := K) (cap := cap) (w := w) (L := []) (R := []) (A := A) (l.take K) (Disks.none_ (Sep.nil _) (Nat.le_refl _)) (by omega) (by omega) (by rw [List.length_take]; omega) (by omega) (by omega) (fun r hr => hrec r (by rw [bsOf_take] at hr; exact List.mem_of_mem_take hr)) (hA.take K))
  rw [bsOf_take, ← hls, show ((1000000 : Nat) : Int) = 1000000 from rfl] at H2
  clear hm hls hlsn hn hA hK hend hrec hu hKE hl40
  go_enter Tryd.func6, Tryd.ntmps6
  go_wp2_with fail
  (with_reducible refine H.out.mono ?_)
  rintro e w1 ⟨rfl, rfl⟩
  clear H
  go_upto_region 3 with fail
  go_cut [7] (fun s7 wx => s7 = .int .i64 (K : Int) ∧ w = wx)
  case first =>
    go_wp2_with fail
    go_meet
    exact ⟨by rw [HK.out], rfl⟩
  case rest =>
    obtain ⟨rfl, rfl⟩ := hcut
    have hKc : K ≤ cap := by omega
    go_wp2_with fail
    (with_reducible refine H2.out.mono ?_)
    rintro e w2 ⟨g, rfl, d2, b2⟩
    have D2 := Lib.hid d2
    have B2 := b2
    clear H2 d2 b2
    have H := Lib.hid (Sync_at (s := sj) D2.out (by decide) (oneS_sync (by decide) (by omega)))
    go_wp2_with fail
    (with_reducible refine H.out.mono ?_)
    rintro e w3 ⟨rfl, d3, b3⟩
    obtain ⟨mk, hmk⟩ : ∃ mk, mk = (chain first32 (ls.take K)).length := ⟨_, rfl⟩
    have hmk2 : mk = endR (ls.take K) := by rw [hmk, length_chain]
    have D3 : Hid (Disks w.heap.size w3 ((g, oneS sj 1000000 free64 (chain first32 (ls.take K), mk)) :: []) []) := by rw [hmk]; exact d3
    have B3 := B2.trans b3
    have HMK := Lib.hid hmk2
    clear H d3 b3 D2 B2 hmk hmk2
    have H := Lib.hid (Names_at D3.out (oneS_names (by omega)))
    go_wp2_with fail
    (with_reducible refine H.out.mono ?_)
    rintro e w4 ⟨rfl, d4, b4⟩
    have D4 := Lib.hid d4
    have B4 := B3.trans b4
    clear H d4 b4 D3 B3
    have H := Lib.hid (Open_there (s := sj) D4.out (by decide) (oneS_finds (by decide) (by omega)))
    rw [oneS_at] at H
    go_wp2_with fail
    (with_reducible refine H.out.mono ?_)
    rintro e w5 ⟨gj, X, q, srcs, rfl, _, _, _, hgj, d5, b5⟩
    have D5 : Hid (Disks w.heap.size w5 ((g, oneS sj 1000000 (oneT sj) (chain first32 (ls.take K), mk)) :: []) (Jn gj g sj ⟨endR (ls.take K), chainC first32 (ls.take K)⟩ :: [])) := by
      have h := RetOpen.journal d5
      rw [recs_all first32 (ls.take K) (fun r hr => HREC.out r (by rw [← HLS.out]; exact List.mem_of_mem_take hr))] at h
      exact h
    have B5 := B4.trans b5
    clear H d5 b5 D4 B4
    go_wp2_with fail
    go_loopw [12, 13] (fun s12 s13 wr => ∃ (i : Nat), s12 = .int .i64 0 ∧ s13 = .int .i64 i ∧ i ≤ n ∧ Hid (Disks w.heap.size wr ((g, oneS sj 1000000 (oneT sj) (chain first32 (ls.take i), mk)) :: []) (Jn gj g sj ⟨endR (ls.take i), chainC first32 (ls.take i)⟩ :: [])) ∧ Below w.heap.size w wr) (fun _ s13 _ => n - (intOf s13).toNat)
    case atStart => exact ⟨K, rfl, rfl, hKn, D5, B5⟩
    case round =>
      obtain ⟨i, rfl, rfl, hi, DR, br⟩ := hrel
      clear D5 B5
      by_cases hlt : i < n
      · have hil : i < l.length := by have := HN.out; omega
        have hA2 := HA.out.below br (Nat.le_refl _)
        obtain ⟨ad, rfl, hab, hc⟩ := hA2.rd (by simp; omega)
        have c0 : wr.cell? (ad.add i) = some (SV l[i]) := hc i _ (by simp [hil])
        have hx := hA2.each _ (List.getElem_mem hil)
        have hils : i < ls.length := by have := HLN.out; omega
        have htk : ls.take (i + 1) = ls.take i ++ [l[i].2.1] := by
          rw [List.take_succ_eq_append_getElem hils]
          have h := HLS.out
          subst h
          simp [bsOf]
        have hre := HREC.out l[i].2.1 (List.mem_map.2 ⟨_, List.getElem_mem hil, rfl⟩)
        have hle : endR (ls.take (i + 1)) ≤ 40320 := Nat.le_trans (endR_take_le _ _) (by rw [HLS.out]; exact HEND.out)
        rw [SV_eq] at c0
        generalize (l[i]'hil) = x at c0 hx htk hre
        obtain ⟨X, xs, xc⟩ := x
        simp only at c0 hx htk hre
        have hlb : endR (ls.take i) + (xs.length + 8) ≤ 40320 := by rw [htk, endR_snoc] at hle; exact hle
        have hadd := oneS_add (s := sj) (size := 1000000) (safe := oneT sj) (l := ls.take i) (k := mk) (r := xs) (by decide) (by omega) hre (by omega) (by omega)
        rw [← htk] at hadd
        obtain ⟨xn, hxn⟩ : ∃ xn, xn = xs.length := ⟨_, rfl⟩
        rw [← hxn] at c0
        have H := Lib.hid (JAdd_at (bs := xs) (A := X) (n := xn) (cb := xc) DR.out hgj (by decide) (chainC_lt first32_lt _) (by show endR (ls.take i) ≤ _; omega) hxn (by rw [hxn]; exact hx.2.2) hx.2.1 (hx.1.mono DR.out.size) hadd)
        have hiI : (i : Int) < n := by omega
        clear hc hx htk hre hle hadd hlb hxn hA2 hils
        go_wp2_with fail
        (with_reducible refine H.out.mono ?_)
        rintro e w6 ⟨rfl, d6, b6⟩
        have D6 := Lib.hid d6
        have B6 := br.trans b6
        clear H d6 b6 DR br
        go_wp2_with fail
        go_roundw
        case rel => exact ⟨i + 1, rfl, by go_num, by omega, D6, B6⟩
        case measure => simp [intOf] <;> omega
      · have hin : ¬ (i : Int) < n := by omega
        have D6 : Hid (Disks w.heap.size wr ((g, oneS sj 1000000 (oneT sj) (chain first32 ls, mk)) :: []) []) := by
          have h := DR.out.lessR
          rw [List.take_of_length_le (by have := HLN.out; omega)] at h
          exact h
        clear DR
        have H := Lib.hid (Fail_at (keep := kp) (names := false) D6.out (show (1 : Int) ≤ 1000000 by omega) hk0 (by omega))
        rw [oneS_fail] at H
        go_wp2_with fail
        (with_reducible refine H.out.mono ?_)
        rintro e w7 ⟨gc, rfl, d7, b7⟩
        obtain ⟨T, hT⟩ : ∃ T, T = endR ls := ⟨_, rfl⟩
        obtain ⟨LG, hLG⟩ : ∃ LG, LG = mk + min kp.toNat (T - mk) := ⟨_, rfl⟩
        have hmkT : mk ≤ T := by rw [hT, HMK.out]; exact endR_take_le _ _
        have hTb : T ≤ 40320 := by rw [hT, HLS.out]; exact HEND.out
        have hkept : kept kp (chain first32 ls, mk) = ((chain first32 ls).take LG, LG) := by
          unfold kept
          simp only [length_chain]
          rw [hLG, hT]
        rw [hkept] at d7
        have D7 := Lib.hid d7
        have B7 := br.trans (b7.mono D6.out.size)
        have HT := Lib.hid hT
        have hmin : min ((mk : Int) + kp) (T : Int) = (LG : Int) := by rw [hLG]; omega
        have HMIN := Lib.hid hmin
        have hLT : LG ≤ T := by rw [hLG]; omega
        have hA7 := HA.out.below B7 (Nat.le_refl _)
        have hendW : ∀ W, Below w.heap.size w W → ∀ k, k ≤ n → Calls Tryd.prog 23 #[.slice A n cap, .int .i64 k] W (fun e w' => e = .returned (.int .i64 (endR (ls.take k) : Nat)) ∧ W = w') := fun W hW k hk => by
          have h := end_at l A n cap w.heap.size k W HN.out hk (Nat.le_trans HEND.out (by omega)) (HA.out.below hW (Nat.le_refl _))
          rw [bsOf_take, ← HLS.out] at h
          exact h
        have HEW := Lib.hid hendW
        have hendAt := hendW w7 B7
        have HE := Lib.hid hendAt
        clear hendW
        have e1 := hendAt K hKn
        rw [← HMK.out] at e1
        have e2 := hendAt n (Nat.le_refl _)
        rw [List.take_of_length_le (by have := HLN.out; omega), ← hT] at e2
        have E1 := Lib.hid e1
        have E2 := Lib.hid e2
        have hLG1 : mk ≤ LG := by rw [hLG]; omega
        clear hT hLG hkept d7 b7 H D6 hmin hA7 hendAt e1 e2 br
        go_upto_region 15 with fail
        go_cut [16] (fun s16 wx => s16 = .int .i64 (LG : Int) ∧ w7 = wx)
        case first =>
          go_wp2_with fail
          (with_reducible refine E1.out.mono ?_)
          rintro e w8 ⟨rfl, rfl⟩
          go_wp2_with fail
          (with_reducible refine E2.out.mono ?_)
          rintro e w8 ⟨rfl, rfl⟩
          go_wp2_with fail
          go_meet
          exact ⟨by rw [HMIN.out], rfl⟩
        case rest =>
          obtain ⟨rfl, rfl⟩ := hcut
          clear E1 E2
          go_wp2_with fail
          go_loop [17] (fun s17 => ∃ (q : Nat), s17 = .int .i64 q ∧ q ≤ n ∧ Hid (endR (ls.take q) ≤ LG)) (fun s17 => n - (intOf s17).toNat)
          case atStart => exact ⟨K, rfl, hKn, by show endR (ls.take K) ≤ LG; rw [← HMK.out]; exact hLG1⟩
          case round =>
            obtain ⟨q, rfl, hq, HQ⟩ := hrel
            by_cases hqn : q < n
            · have hqI : (q : Int) < n := by omega
              have H := HE.out (q + 1) hqn
              rw [show ((q + 1 : Nat) : Int) = (q : Int) + 1 by omega] at H
              obtain ⟨E, hE⟩ : ∃ E, E = endR (ls.take (q + 1)) := ⟨_, rfl⟩
              rw [← hE] at H
              have hEb : E ≤ T := by rw [hE, HT.out]; exact endR_take_le _ _
              have HEQ := Lib.hid hE
              have H := Lib.hid H
              clear hE
              by_cases hle : E ≤ LG
              · have hleI : (E : Int) ≤ LG := by omega
                go_wp2_with fail
                (with_reducible refine H.out.mono ?_)
                rintro e w8 ⟨rfl, rfl⟩
                go_wp2_with fail
                go_round
                case rel => exact ⟨q + 1, by go_num, by omega, by show endR (ls.take (q + 1)) ≤ LG; rw [← HEQ.out]; exact hle⟩
                case measure => simp [intOf] <;> omega
              · have hleI : ¬ (E : Int) ≤ LG := by omega
                have hmax : Hid (q < ls.length → LG < endR (ls.take (q + 1))) := fun _ => by rw [← HEQ.out]; omega
                go_wp2_with fail
                (with_reducible refine H.out.mono ?_)
                rintro e w8 ⟨rfl, rfl⟩
                go_wp2_with fail
                have hql : q ≤ ls.length := by have := HLN.out; omega
                obtain ⟨bsC, hC⟩ : ∃ bsC, bsC = (chain first32 ls).take LG := ⟨_, rfl⟩
                have hClen : bsC.length = LG := by rw [hC, List.length_take, length_chain, ← HT.out]; omega
                have hCu : IsU8 bsC := by rw [hC]; exact fun x hx => isU8_chain (fun r hr => HU.out r (by rw [← HLS.out]; exact hr)) x (List.mem_of_mem_take hx)
                have hCr : recs first32 bsC = ls.take q := by
                  obtain ⟨k', k1, k2, k3, k4⟩ := recs_take first32 ls LG (fun r hr => HREC.out r (by rw [← HLS.out]; exact hr))
                  rw [hC, k4, whole_is k1 hql k2 HQ.out k3 hmax.out]
                have D7c : Hid (Disks w.heap.size w7 ((gc, oneS sj 1000000 (oneT sj) (bsC, LG)) :: (g, oneS sj 1000000 (oneT sj) (chain first32 ls, mk)) :: []) []) := by rw [hC]; exact D7.out
                have HCC := Lib.hid hC
                have HCL := Lib.hid hClen
                have HCR := Lib.hid hCr
                have H := Lib.hid (Open_there (s := sj) D7c.out (by decide) (oneS_finds (by decide) (by omega)))
                rw [oneS_at] at H
                clear hC hClen hCr D7
                (with_reducible refine H.out.mono ?_)
                rintro e w9 ⟨gk, Y2, p, srcs2, rfl, hm2, _, hp, hgk, d9, b9⟩
                have hR9 := RetOpen.told_ hCu (by show bsC.length ≤ _; rw [HCL.out]; omega) hm2 d9
                have hbs2 : bsOf srcs2 = bsOf (l.take q) := by
                  show srcs2.map (·.2.1) = _
                  rw [hm2, bsOf_take, ← HLS.out]
                  exact HCR.out
                have hp2 : p = q := by
                  have h := congrArg List.length hbs2
                  rw [bsOf_len, bsOf_len, List.length_take] at h
                  have := HN.out
                  omega
                subst hp2
                have B9 := B7.trans b9
                have HSR := Lib.hid (SameRecords_any srcs2 (l.take p) Y2 A p p p cap w9 w9.heap.size hp (by rw [List.length_take]; have := HN.out; omega) (by omega) hR9 (((HA.out.below B9 (Nat.le_refl _)).mono B9.size).take p))
                rw [hbs2, decide_eq_true rfl] at HSR
                have D9 : Hid (Disks w.heap.size w9 ((gc, oneS sj 1000000 (oneT sj) (bsC, LG)) :: (g, oneS sj 1000000 (oneT sj) (chain first32 ls, mk)) :: []) (Jn gk gc sj ⟨endR (ls.take p), chainC first32 (ls.take p)⟩ :: [])) := by
                  have h := RetOpen.journal d9
                  have e : recs first32 (bsC, LG).fst = ls.take p := HCR.out
                  rw [e] at h
                  exact h
                have hpc : p ≤ cap := by omega
                clear H hm2 hp d9 b9 hR9 hbs2 hCu D7c HE
                go_wp2_with fail
                (with_reducible refine HSR.out.mono ?_)
                rintro e w10 ⟨rfl, dr10⟩
                have D10 := Lib.hid (D9.out.below (dr10.below _))
                have B10 := B9.trans (dr10.below _)
                clear HSR D9 B9 dr10
                have H := Lib.hid (row_at (s := sj) D10.out (by decide) (oneS_finds (by decide) (by omega)))
                rw [oneS_at] at H
                rw [show ((bsC, LG) : List Int × Nat).1 = bsC from rfl, HCL.out] at H
                go_wp2_with fail
                (with_reducible refine H.out.mono ?_)
                rintro e w11 ⟨X11, rfl, _, b11⟩
                have D11 := Lib.hid (D10.out.below b11)
                have B11 := B10.trans (b11.mono D10.out.size)
                clear H D10 B10 b11
                have DB := Lib.hid (D11.out.below ((Below.refl w11.heap.size w11).alloc (Nat.le_refl _) (.cells #[.int .u8 103, .int .u8 111, .int .u8 101, .int .u8 115, .int .u8 32, .int .u8 111, .int .u8 110] 5 (7, 8))))
                have BB := B11.alloc D11.out.size (.cells #[.int .u8 103, .int .u8 111, .int .u8 101, .int .u8 115, .int .u8 32, .int .u8 111, .int .u8 110] 5 (7, 8))
                have hrg := rd_const w11 5 #[.int .u8 103, .int .u8 111, .int .u8 101, .int .u8 115, .int .u8 32, .int .u8 111, .int .u8 110] [.int .u8 103, .int .u8 111, .int .u8 101, .int .u8 115, .int .u8 32, .int .u8 111, .int .u8 110] rfl (7, 8)
                have HRG := Lib.hid hrg
                clear hrg D11 B11
                obtain ⟨E9, hE9⟩ : ∃ E9, E9 = endR (ls.take p) := ⟨_, rfl⟩
                have hE9b : E9 ≤ LG := by rw [hE9]; exact HQ.out
                have HE9 := Lib.hid hE9
                have hcv := conv_const
                have EW := Lib.hid (HEW.out)
                by_cases hfit : E9 = LG
                · have hCe : bsC = chain first32 (ls.take p) := by
                    rw [HCC.out]
                    conv => lhs; rw [← List.take_append_drop p ls]
                    rw [chain_append, List.take_left' (by rw [length_chain, ← hE9, hfit])]
                  have hadd := oneS_add (s := sj) (size := 1000000) (safe := oneT sj) (l := ls.take p) (k := LG) (r := goesB) (by decide) (by omega) (by decide) (by rw [← hE9, goesB_len]; omega) (by rw [← hE9, goesB_len]; omega)
                  rw [← hCe] at hadd
                  have H := Lib.hid (JAdd_at (bs := goesB) (A := some ⟨w11.heap.size, 0, none⟩) (n := 7) (cb := 7) DB.out hgk (by decide) (chainC_lt first32_lt _) (by show endR (ls.take p) ≤ _; rw [← hE9]; omega) rfl (by omega) goesB_u8 HRG.out hadd)
                  have hEb : ((E9 : Int) == (LG : Int)) = true := by rw [hfit]; simp
                  clear hadd hCe hfit hE9
                  go_wp2_with fail
                  (with_reducible refine H.out.mono ?_)
                  rintro e w12 ⟨rfl, d12, b12⟩
                  have B12 := BB.trans b12
                  have D12 := Lib.hid d12
                  clear H b12 DB BB d12 hcv
                  go_wp2_with fail
                  (with_reducible refine (alive18 _).mono ?_)
                  rintro e w13 ⟨rfl, b13⟩
                  have B13 := B12.trans (b13.mono D12.out.size)
                  have H := EW.out w13 B13 p hq
                  rw [← HE9.out] at H
                  have H := Lib.hid H
                  go_wp2_with fail
                  (with_reducible refine H.out.mono ?_)
                  rintro e w14 ⟨rfl, rfl⟩
                  go_wp2
                  go_ret
                  exact ⟨rfl, B13⟩
                · have hadd := add_state (m := oneS sj 1000000 (oneT sj) (bsC, LG)) (s := sj) (j := ⟨endR (ls.take p), chainC first32 (ls.take p)⟩) (r := goesB) (by decide) (oneS_finds (by decide) (by omega)) (by rw [oneS_at]; show bsC.length ≠ endR (ls.take p); rw [HCL.out, ← hE9]; omega)
                  have H := Lib.hid (JAdd_at (bs := goesB) (A := some ⟨w11.heap.size, 0, none⟩) (n := 7) (cb := 7) DB.out hgk (by decide) (chainC_lt first32_lt _) (by show endR (ls.take p) ≤ _; rw [← hE9]; omega) rfl (by omega) goesB_u8 HRG.out hadd)
                  have hEb : ((E9 : Int) == (LG : Int)) = false := by simp <;> omega
                  clear hadd hfit hE9
                  go_wp2_with fail
                  (with_reducible refine H.out.mono ?_)
                  rintro e w12 ⟨rfl, d12, b12⟩
                  have B12 := BB.trans b12
                  have D12 := Lib.hid d12
                  clear H b12 DB BB d12 hcv
                  go_wp2_with fail
                  (with_reducible refine (alive18 _).mono ?_)
                  rintro e w13 ⟨rfl, b13⟩
                  have B13 := B12.trans (b13.mono D12.out.size)
                  have H := EW.out w13 B13 p hq
                  rw [← HE9.out] at H
                  have H := Lib.hid H
                  go_wp2_with fail
                  (with_reducible refine H.out.mono ?_)
                  rintro e w14 ⟨rfl, rfl⟩
                  go_wp2
                  go_ret
                  exact ⟨rfl, B13⟩
            · have hqI : ¬ (q : Int) < n := by omega
              have hmax : Hid (q < ls.length → LG < endR (ls.take (q + 1))) := fun h => by have := HLN.out; omega
              go_wp2_with fail
              have hql : q ≤ ls.length := by have := HLN.out; omega
              obtain ⟨bsC, hC⟩ : ∃ bsC, bsC = (chain first32 ls).take LG := ⟨_, rfl⟩
              have hClen : bsC.length = LG := by rw [hC, List.length_take, length_chain, ← HT.out]; omega
              have hCu : IsU8 bsC := by rw [hC]; exact fun x hx => isU8_chain (fun r hr => HU.out r (by rw [← HLS.out]; exact hr)) x (List.mem_of_mem_take hx)
              have hCr : recs first32 bsC = ls.take q := by
                obtain ⟨k', k1, k2, k3, k4⟩ := recs_take first32 ls LG (fun r hr => HREC.out r (by rw [← HLS.out]; exact hr))
                rw [hC, k4, whole_is k1 hql k2 HQ.out k3 hmax.out]
              have D7c : Hid (Disks w.heap.size w7 ((gc, oneS sj 1000000 (oneT sj) (bsC, LG)) :: (g, oneS sj 1000000 (oneT sj) (chain first32 ls, mk)) :: []) []) := by rw [hC]; exact D7.out
              have HCC := Lib.hid hC
              have HCL := Lib.hid hClen
              have HCR := Lib.hid hCr
              have H := Lib.hid (Open_there (s := sj) D7c.out (by decide) (oneS_finds (by decide) (by omega)))
              rw [oneS_at] at H
              clear hC hClen hCr D7
              (with_reducible refine H.out.mono ?_)
              rintro e w9 ⟨gk, Y2, p, srcs2, rfl, hm2, _, hp, hgk, d9, b9⟩
              have hR9 := RetOpen.told_ hCu (by show bsC.length ≤ _; rw [HCL.out]; omega) hm2 d9
              have hbs2 : bsOf srcs2 = bsOf (l.take q) := by
                show srcs2.map (·.2.1) = _
                rw [hm2, bsOf_take, ← HLS.out]
                exact HCR.out
              have hp2 : p = q := by
                have h := congrArg List.length hbs2
                rw [bsOf_len, bsOf_len, List.length_take] at h
                have := HN.out
                omega
              subst hp2
              have B9 := B7.trans b9
              have HSR := Lib.hid (SameRecords_any srcs2 (l.take p) Y2 A p p p cap w9 w9.heap.size hp (by rw [List.length_take]; have := HN.out; omega) (by omega) hR9 (((HA.out.below B9 (Nat.le_refl _)).mono B9.size).take p))
              rw [hbs2, decide_eq_true rfl] at HSR
              have D9 : Hid (Disks w.heap.size w9 ((gc, oneS sj 1000000 (oneT sj) (bsC, LG)) :: (g, oneS sj 1000000 (oneT sj) (chain first32 ls, mk)) :: []) (Jn gk gc sj ⟨endR (ls.take p), chainC first32 (ls.take p)⟩ :: [])) := by
                have h := RetOpen.journal d9
                have e : recs first32 (bsC, LG).fst = ls.take p := HCR.out
                rw [e] at h
                exact h
              have hpc : p ≤ cap := by omega
              clear H hm2 hp d9 b9 hR9 hbs2 hCu D7c HE
              go_wp2_with fail
              (with_reducible refine HSR.out.mono ?_)
              rintro e w10 ⟨rfl, dr10⟩
              have D10 := Lib.hid (D9.out.below (dr10.below _))
              have B10 := B9.trans (dr10.below _)
              clear HSR D9 B9 dr10
              have H := Lib.hid (row_at (s := sj) D10.out (by decide) (oneS_finds (by decide) (by omega)))
              rw [oneS_at] at H
              rw [show ((bsC, LG) : List Int × Nat).1 = bsC from rfl, HCL.out] at H
              go_wp2_with fail
              (with_reducible refine H.out.mono ?_)
              rintro e w11 ⟨X11, rfl, _, b11⟩
              have D11 := Lib.hid (D10.out.below b11)
              have B11 := B10.trans (b11.mono D10.out.size)
              clear H D10 B10 b11
              have DB := Lib.hid (D11.out.below ((Below.refl w11.heap.size w11).alloc (Nat.le_refl _) (.cells #[.int .u8 103, .int .u8 111, .int .u8 101, .int .u8 115, .int .u8 32, .int .u8 111, .int .u8 110] 5 (7, 8))))
              have BB := B11.alloc D11.out.size (.cells #[.int .u8 103, .int .u8 111, .int .u8 101, .int .u8 115, .int .u8 32, .int .u8 111, .int .u8 110] 5 (7, 8))
              have hrg := rd_const w11 5 #[.int .u8 103, .int .u8 111, .int .u8 101, .int .u8 115, .int .u8 32, .int .u8 111, .int .u8 110] [.int .u8 103, .int .u8 111, .int .u8 101, .int .u8 115, .int .u8 32, .int .u8 111, .int .u8 110] rfl (7, 8)
              have HRG := Lib.hid hrg
              clear hrg D11 B11
              obtain ⟨E9, hE9⟩ : ∃ E9, E9 = endR (ls.take p) := ⟨_, rfl⟩
              have hE9b : E9 ≤ LG := by rw [hE9]; exact HQ.out
              have HE9 := Lib.hid hE9
              have hcv := conv_const
              have EW := Lib.hid (HEW.out)
              by_cases hfit : E9 = LG
              · have hCe : bsC = chain first32 (ls.take p) := by
                  rw [HCC.out]
                  conv => lhs; rw [← List.take_append_drop p ls]
                  rw [chain_append, List.take_left' (by rw [length_chain, ← hE9, hfit])]
                have hadd := oneS_add (s := sj) (size := 1000000) (safe := oneT sj) (l := ls.take p) (k := LG) (r := goesB) (by decide) (by omega) (by decide) (by rw [← hE9, goesB_len]; omega) (by rw [← hE9, goesB_len]; omega)
                rw [← hCe] at hadd
                have H := Lib.hid (JAdd_at (bs := goesB) (A := some ⟨w11.heap.size, 0, none⟩) (n := 7) (cb := 7) DB.out hgk (by decide) (chainC_lt first32_lt _) (by show endR (ls.take p) ≤ _; rw [← hE9]; omega) rfl (by omega) goesB_u8 HRG.out hadd)
                have hEb : ((E9 : Int) == (LG : Int)) = true := by rw [hfit]; simp
                clear hadd hCe hfit hE9
                go_wp2_with fail
                (with_reducible refine H.out.mono ?_)
                rintro e w12 ⟨rfl, d12, b12⟩
                have B12 := BB.trans b12
                have D12 := Lib.hid d12
                clear H b12 DB BB d12 hcv
                go_wp2_with fail
                (with_reducible refine (alive18 _).mono ?_)
                rintro e w13 ⟨rfl, b13⟩
                have B13 := B12.trans (b13.mono D12.out.size)
                have H := EW.out w13 B13 p hq
                rw [← HE9.out] at H
                have H := Lib.hid H
                go_wp2_with fail
                (with_reducible refine H.out.mono ?_)
                rintro e w14 ⟨rfl, rfl⟩
                go_wp2
                go_ret
                exact ⟨rfl, B13⟩
              · have hadd := add_state (m := oneS sj 1000000 (oneT sj) (bsC, LG)) (s := sj) (j := ⟨endR (ls.take p), chainC first32 (ls.take p)⟩) (r := goesB) (by decide) (oneS_finds (by decide) (by omega)) (by rw [oneS_at]; show bsC.length ≠ endR (ls.take p); rw [HCL.out, ← hE9]; omega)
                have H := Lib.hid (JAdd_at (bs := goesB) (A := some ⟨w11.heap.size, 0, none⟩) (n := 7) (cb := 7) DB.out hgk (by decide) (chainC_lt first32_lt _) (by show endR (ls.take p) ≤ _; rw [← hE9]; omega) rfl (by omega) goesB_u8 HRG.out hadd)
                have hEb : ((E9 : Int) == (LG : Int)) = false := by simp <;> omega
                clear hadd hfit hE9
                go_wp2_with fail
                (with_reducible refine H.out.mono ?_)
                rintro e w12 ⟨rfl, d12, b12⟩
                have B12 := BB.trans b12
                have D12 := Lib.hid d12
                clear H b12 DB BB d12 hcv
                go_wp2_with fail
                (with_reducible refine (alive18 _).mono ?_)
                rintro e w13 ⟨rfl, b13⟩
                have B13 := B12.trans (b13.mono D12.out.size)
                have H := EW.out w13 B13 p hq
                rw [← HE9.out] at H
                have H := Lib.hid H
                go_wp2_with fail
                (with_reducible refine H.out.mono ?_)
                rintro e w14 ⟨rfl, rfl⟩
                go_wp2
                go_ret
                exact ⟨rfl, B13⟩
end Go.Proofs.YtgibdecgmageeaaDoor
