/- The iterator of journals (records$1) walked: for whatever loop takes its records. -/
import Derived.Test.YtgibdecgmageeaaDoorJr2
import Derived.RangeFuncSeq
import Derived.Stop.RegionWithIn
import Derived.Deep.DeepCutAuto
import Derived.Deep.CutRange
namespace Go.Proofs.YtgibdecgmageeaaDoor
open Go.RowKit

/-- Where the rest of b lies, so long as b is there. -/
def RestOf (b0 : Nat) (v0 : Value) (bs : List Int) (Y : Option Addr) (rest : List Int) : Prop := ∀ W, Own W b0 5 1 v0 bs.length (U8 bs) → Rd W W.heap.size Y (U8 rest)
/-- How long the slice in a block's first cell is. -/
def boxLen (g : Nat) (w : World) : Nat := match w.cell? ⟨g, 0, none⟩ with
  | some (.slice _ n _) => n
  | _ => 0
theorem boxLen_eq {g n c : Nat} {A : Option Addr} {w : World} (h : w.cell? ⟨g, 0, none⟩ = some (.slice A n c)) : boxLen g w = n := by unfold boxLen; rw [h]

theorem or_lo (k q m n : Nat) (hq : q = 2 ^ k) (hn : n < q) (hm : m * q + n < 18446744073709551616) : bits .or .u64 ((m * q : Nat) : Int) (n : Int) = ((m * q + n : Nat) : Int) := by
  have h := Nat.two_pow_add_eq_or_of_lt (hq ▸ hn) m
  rw [← hq, Nat.mul_comm q m] at h
  rw [bits_or_u64_nat _ _ (by omega) (by omega), ← h]
/-- Four bytes as a number, as the walk writes it. -/
theorem num4 (a b c d : Nat) (ha : a < 256) (hb : b < 256) (hc : c < 256) (hd : d < 256) :
    bits .or .u64 (bits .or .u64 (bits .or .u64 ((a : Int) * 16777216) ((b : Int) * 65536)) ((c : Int) * 256)) (d : Int) = ((a * 16777216 + b * 65536 + c * 256 + d : Nat) : Int) := by
  have e1 : bits .or .u64 ((a : Int) * 16777216) ((b : Int) * 65536) = (((a * 256 + b) * 65536 : Nat) : Int) := by
    have h := or_lo 24 16777216 a (b * 65536) (by decide) (by omega) (by omega)
    rw [show ((a * 16777216 : Nat) : Int) = (a : Int) * 16777216 by omega, show ((b * 65536 : Nat) : Int) = (b : Int) * 65536 by omega] at h
    rw [h]
    omega
  have e2 : bits .or .u64 (((a * 256 + b) * 65536 : Nat) : Int) ((c : Int) * 256) = ((((a * 256 + b) * 256 + c) * 256 : Nat) : Int) := by
    have h := or_lo 16 65536 (a * 256 + b) (c * 256) (by decide) (by omega) (by omega)
    rw [show ((c * 256 : Nat) : Int) = (c : Int) * 256 by omega] at h
    rw [h]
    omega
  rw [e1, e2, or_lo 8 256 _ d (by decide) (by omega) (by omega)]
  omega
theorem num_four {l : List Int} (h : IsU8 l) (hl : 8 ≤ l.length) : ∃ a b c d : Nat, a < 256 ∧ b < 256 ∧ c < 256 ∧ d < 256 ∧ l[0]? = some (a : Int) ∧ l[1]? = some (b : Int) ∧ l[2]? = some (c : Int) ∧ l[3]? = some (d : Int) ∧ num (l.take 4) = a * 16777216 + b * 65536 + c * 256 + d := by
  match l, hl with
  | x0 :: x1 :: x2 :: x3 :: r, _ =>
    have k0 := h x0 (by simp)
    have k1 := h x1 (by simp)
    have k2 := h x2 (by simp)
    have k3 := h x3 (by simp)
    refine ⟨x0.toNat, x1.toNat, x2.toNat, x3.toNat, by omega, by omega, by omega, by omega, ?_, ?_, ?_, ?_, ?_⟩
    · show some x0 = some _; congr 1; omega
    · show some x1 = some _; congr 1; omega
    · show some x2 = some _; congr 1; omega
    · show some x3 = some _; congr 1; omega
    · simp only [List.take_succ_cons, List.take_zero, num, List.foldl_cons, List.foldl_nil]; omega
set_option maxHeartbeats 400000 in
/-- bytes.Equal. -/
theorem Equal_any (xs ys : List Int) (A B : Option Addr) (n m c d : Nat) (w : World) (hn : n = xs.length) (hm : m = ys.length) (hA : Rd w w.heap.size A (U8 xs)) (hB : Rd w w.heap.size B (U8 ys)) :
    Calls Tryd.prog 61 #[.slice A n c, .slice B m d] w (fun e w' => e = .returned (.bool ((strOfNums xs).toList == (strOfNums ys).toList)) ∧ w = w') := by
  have h1 := run_str (P := Tryd.prog) w 37 5 9 Tryd.underlying37 Tryd.underlying5 Tryd.underlying9 A n c xs hn w.heap.size hA
  have h2 := run_str (P := Tryd.prog) w 37 5 9 Tryd.underlying37 Tryd.underlying5 Tryd.underlying9 B m d ys hm w.heap.size hB
  clear hA hB hn hm
  go_enter Tryd.func61, Tryd.ntmps61
  go_wp2_with fail
  go_ret
  exact ⟨rfl, rfl⟩
theorem Rd.sub {w : World} {B : Nat} {ad : Addr} {xs : List Value} (h : Rd w B (some ad) xs) (k m : Nat) (hk : 0 < k) : Rd w B (some ⟨ad.block, ad.off + k, none⟩) ((xs.drop k).take m) := by
  intro hx
  obtain ⟨ad', e, hb, hc⟩ := h (by simp at hx; omega)
  cases e
  refine ⟨_, rfl, hb, fun j u hj => ?_⟩
  have e2 : (⟨ad.block, ad.off + k, none⟩ : Addr) = ad.add k := by unfold Addr.add; rw [if_neg (by omega)]
  rw [e2, add_add]
  refine hc _ u ?_
  rw [List.getElem?_take] at hj
  split at hj
  · rw [← hj, List.getElem?_drop]
  · cases hj
theorem Rd.first {w : World} {B : Nat} {A : Option Addr} {xs : List Value} (h : Rd w B A xs) (m : Nat) : Rd w B A (xs.take m) := by
  intro hx
  obtain ⟨ad, e, hb, hc⟩ := h (by simp at hx; omega)
  refine ⟨ad, e, hb, fun j u hj => hc j u ?_⟩
  rw [List.getElem?_take] at hj
  split at hj
  · exact hj
  · cases hj
theorem Rd.rest {w : World} {B : Nat} {ad : Addr} {xs : List Value} (h : Rd w B (some ad) xs) (k cap : Nat) (hk : 0 < k) (hc : xs.length ≤ cap) : Rd w B (if cap = k then some ad else some ⟨ad.block, ad.off + k, none⟩) (xs.drop k) := by
  by_cases e : cap = k
  · rw [List.drop_of_length_le (by omega)]; exact Rd.nil _ _ _
  · rw [if_neg e]
    have h1 := h.sub k xs.length hk
    rwa [List.take_of_length_le (by simp)] at h1
theorem Sep.put {w : World} {g : Nat} {e : TypeId} {cs : List Value} {R : List Asn} (h : Sep w (Asn.blk g e cs :: R)) (i : Nat) (u : Value) : Sep (w.setCell ⟨g, i, none⟩ u) (Asn.blk g e (cs.set i u) :: R) := by
  have hB : Blk w g e cs := h.head
  have hst : Step w (w.setCell ⟨g, i, none⟩ u) [Asn.blk g e cs] [Asn.blk g e (cs.set i u)] := by
    refine ⟨Sep.one.2 (hB.set i u), Mods.setCell w _ u ?_, fun k hk => ?_⟩
    · exact foots_cons.2 (.inl rfl)
    · rcases foots_cons.1 hk with h | h
      · exact .inl (foots_cons.2 (.inl h))
      · exact absurd h foots_nil
  exact hst.rest (R := R) h
theorem U8_take (l : List Int) (n : Nat) : U8 (l.take n) = (U8 l).take n := by simp [U8, List.map_take]
theorem U8_drop (l : List Int) (n : Nat) : U8 (l.drop n) = (U8 l).drop n := by simp [U8, List.map_drop]
theorem Sep.turn {w : World} {a a' : Asn} {A : List Asn} (h : Sep w (a :: A)) (hh : a.holds w → a'.holds w) (hf : ∀ k, a'.foot k → a.foot k) : Sep w (a' :: A) := by
  obtain ⟨h1, h2, h3⟩ := Sep.cons.1 h
  exact Sep.cons.2 ⟨hh h1, fun k hk => h2 k (hf k hk), h3⟩
theorem bys_str {l : List Int} (h : IsU8 l) : bys (strOfNums l) = l := by
  unfold bys strOfNums
  simp only [List.map_map]
  conv => rhs; rw [← List.map_id l]
  apply List.map_congr_left
  intro x hx
  have := h x hx
  simp
  omega
theorem str_beq {xs ys : List Int} (hx : IsU8 xs) (hy : IsU8 ys) : ((strOfNums xs).toList == (strOfNums ys).toList) = decide (xs = ys) := by
  rw [string_eq_dec]
  by_cases h : xs = ys
  · subst h; simp
  · rw [decide_eq_false h, decide_eq_false]
    intro e
    exact h (by rw [← bys_str hx, ← bys_str hy, e])

set_option linter.unusedSimpArgs false in
set_option maxRecDepth 100000 in
set_option maxHeartbeats 4000000 in
theorem records1_at (gB l b0 : Nat) (bs : List Int) (v0 : Value) (Fr : List (List Int) → List Asn → Prop) (A0 : List Asn) (w : World) (hu : IsU8 bs) (hl : bs.length ≤ 1048576) (hgB : b0 ≤ gB) (hb0 : b0 ≤ w.heap.size) (hF : Fr [] A0)
    (Y0 : Option Addr) (c0 : Nat) (hv0 : v0 = .slice Y0 bs.length c0) (hS : Sep w (Asn.blk gB 37 [v0] :: Asn.own b0 5 1 v0 bs.length (U8 bs) :: A0))
    (hY : ∀ (n : Nat) (pre : List (List Int)) (r : List Int) (W : World) (P A : List Asn) (X : Option Addr) (m : Nat), (pre ++ [r]) <+: recs first32 bs → m = r.length → Fr pre A → b0 ≤ W.heap.size → Sep W (P ++ (Asn.own b0 5 1 (.slice X m m) m (U8 r) :: A)) →
      YieldAt Fence.wide n Tryd.prog l #[.slice X m m, .int .u32 (chainC first32 (pre ++ [r]) : Nat)] W (fun e W' => e = .returned (.bool true) ∧ Below b0 W W' ∧ ∃ A', Fr (pre ++ [r]) A' ∧ Sep W' (P ++ A'))) :
    Calls Tryd.prog 59 #[.func (.yield l) #[] #[], .pointer (some ⟨gB, 0, none⟩)] w (fun e w' => (∃ v, e = .returned v) ∧ Below b0 w w' ∧ ∃ A', Fr (recs first32 bs) A' ∧ Sep w' A') := by
  have hr0 : RestOf b0 v0 bs Y0 bs := fun W hW => hW.rd hv0 (Nat.le_refl _)
  have hc0 : bs.length ≤ c0 ∧ c0 ≤ 9223372036854775807 := by
    have ho : Own w b0 5 1 v0 bs.length (U8 bs) := (Sep.cons.1 (Sep.cons.1 hS).2.2).1
    obtain ⟨A, c, e, h1, h2, _⟩ := ho.shape
    rw [hv0] at e
    cases e
    exact ⟨h1, h2⟩
  obtain ⟨q0, q1⟩ := hc0
  have R0 := Lib.hid hr0
  have HS0 := Lib.hid hS
  have HF := Lib.hid hF
  have HV := Lib.hid hv0
  have HY := Lib.hid hY
  have HU := Lib.hid hu
  obtain ⟨n0, hn0⟩ : ∃ n0, n0 = bs.length := ⟨_, rfl⟩
  rw [← hn0] at q0 hl
  have HN0 := Lib.hid hn0
  clear hr0 hS hF hv0 hY hu hn0
  go_enter Tryd.func59, Tryd.ntmps59
  go_wp2_with fail
  go_loopw [3] (fun s3 wr => ∃ (c n cap : Nat) (rest : List Int) (pre : List (List Int)) (Y : Option Addr) (A : List Asn), s3 = .int .u32 c ∧ c < 4294967296 ∧ n ≤ 1048576 ∧ n ≤ cap ∧ cap ≤ 9223372036854775807 ∧ Hid (n = rest.length) ∧ Hid (IsU8 rest) ∧ Hid (recs first32 bs = pre ++ recs c rest) ∧ Hid (chainC first32 pre = c) ∧ Hid (RestOf b0 v0 bs Y rest) ∧ Hid (Fr pre A) ∧
    Hid (Sep wr (Asn.blk gB 37 [.slice Y n cap] :: Asn.own b0 5 1 v0 bs.length (U8 bs) :: A)) ∧ Below b0 w wr) (fun _ wr => boxLen gB wr)
  case atStart => exact ⟨first32, n0, c0, bs, [], Y0, A0, rfl, first32_lt, by omega, by omega, by omega, HN0, HU, rfl, rfl, R0, HF, by have := HS0.out; rw [HV.out, ← HN0.out] at this; rw [HV.out, ← HN0.out]; exact this, Below.refl _ _⟩
  case round =>
    obtain ⟨c, n, cap, rest, pre, Y, A, rfl, hc, hn, hnc, hcap, HN, HUR, HRE, HC, HR, HFR, HS, hb⟩ := hrel
    have HB0 := Lib.hid hb0
    clear R0 HS0 HF HN0 q0 q1 hb0
    have k0 : wr.cell? ⟨gB, 0, none⟩ = some (.slice Y n cap) := Blk.cell (show Blk wr gB 37 [.slice Y n cap] from HS.out.head) 0
    have HBL := Lib.hid (boxLen_eq k0)
    by_cases h8 : n < 8
    · have h8I : ¬ ((8 : Int) ≤ n) := by omega
      have hend := recs_short (c := c) (b := rest) (by have := HN.out; omega)
      have HE := Lib.hid hend
      clear hend
      go_wp2_with fail
      go_end0
      refine ⟨⟨_, rfl⟩, hb, A, ?_, (Sep.cons.1 (Sep.cons.1 HS.out).2.2).2.2⟩
      rw [HRE.out, HE.out, List.append_nil]
      exact HFR.out
    · have h8I : (8 : Int) ≤ n := by omega
      have how : Own wr b0 5 1 v0 bs.length (U8 bs) := (Sep.cons.1 (Sep.cons.1 HS.out).2.2).1
      have hrd := HR.out wr how
      obtain ⟨ad, rfl, hadb, hcell⟩ := hrd (by rw [length_U8]; have := HN.out; omega)
      obtain ⟨x0, x1, x2, x3, hx0, hx1, hx2, hx3, g0, g1, g2, g3, hN⟩ := num_four HUR.out (by have := HN.out; omega)
      have m0 : wr.cell? ad = some (.int .u8 x0) := by have h := hcell 0 _ (by simp [U8, g0]; rfl); rwa [show ad.add 0 = ad from if_pos rfl] at h
      have m1 : wr.cell? ⟨ad.block, ad.off + 1, none⟩ = some (.int .u8 x1) := hcell 1 _ (by simp [U8, g1])
      have m2 : wr.cell? ⟨ad.block, ad.off + 2, none⟩ = some (.int .u8 x2) := hcell 2 _ (by simp [U8, g2])
      have m3 : wr.cell? ⟨ad.block, ad.off + 3, none⟩ = some (.int .u8 x3) := hcell 3 _ (by simp [U8, g3])
      have l0 : 0 < n := by omega
      have l1 : (1 : Int) < n := by omega
      have l2 : (2 : Int) < n := by omega
      have l3 : (3 : Int) < n := by omega
      have H4 := Lib.hid (num4 x0 x1 x2 x3 hx0 hx1 hx2 hx3)
      obtain ⟨N, hN'⟩ : ∃ N, N = num (rest.take 4) := ⟨_, rfl⟩
      have HNN := Lib.hid (hN'.trans hN)
      have HN4 := Lib.hid hN'
      clear how hrd hcell g0 g1 g2 g3 hN hN' hadb
      go_upto_region 2 with fail
      go_cut [4] (fun s4 wx => s4 = .int .u64 (N : Int) ∧ Drawn wr wx)
      case first =>
        have w0 : IntKind.u64.wrap (x0 : Int) = x0 := by rw [IntKind.wrap_u64]; omega
        have w1 : IntKind.u64.wrap (x1 : Int) = x1 := by rw [IntKind.wrap_u64]; omega
        have w2 : IntKind.u64.wrap (x2 : Int) = x2 := by rw [IntKind.wrap_u64]; omega
        have w3 : IntKind.u64.wrap (x3 : Int) = x3 := by rw [IntKind.wrap_u64]; omega
        have w4 : IntKind.u64.wrap ((x0 : Int) * 16777216) = (x0 : Int) * 16777216 := by rw [IntKind.wrap_u64]; omega
        have w5 : IntKind.u64.wrap ((x1 : Int) * 65536) = (x1 : Int) * 65536 := by rw [IntKind.wrap_u64]; omega
        have w6 : IntKind.u64.wrap ((x2 : Int) * 256) = (x2 : Int) * 256 := by rw [IntKind.wrap_u64]; omega
        go_quiet (fail)
        go_wp2_with fail
        go_meet
        exact ⟨by rw [H4.out, HNN.out], _, rfl⟩
      case rest =>
        obtain ⟨rfl, hdr⟩ := hcut
        have HS1 := Lib.hid (HS.out.below (hdr.below wr.heap.size) (fun _ hk => HS.out.lt hk))
        have hb1 := hb.trans (hdr.below b0)
        clear m0 m1 m2 m3 l0 l1 l2 l3 H4 hx0 hx1 hx2 hx3 HNN k0 HS hb
        obtain ⟨nq, rfl⟩ := hdr
        generalize wr.drewN nq = W0 at HS1 hb1 ⊢
        have k0 : W0.cell? ⟨gB, 0, none⟩ = some (.slice (some ad) n cap) := Blk.cell (show Blk W0 gB 37 [.slice (some ad) n cap] from HS1.out.head) 0
        by_cases hbig : 65536 < N ∨ n - 8 < N
        · have hend : Hid (recs c rest = []) := recs_none (by
            unfold oneR
            have h1 := HN.out
            have h2 := HN4.out
            rw [if_neg (by omega), if_pos (by omega)])
          have hfin : Hid (Fr (recs first32 bs) A) := by
            show Fr (recs first32 bs) A
            rw [HRE.out, hend.out, List.append_nil]
            exact HFR.out
          have hsep := Lib.hid ((Sep.cons.1 (Sep.cons.1 HS1.out).2.2).2.2)
          by_cases hb2 : 65536 < N
          · have hbI : (65536 : Int) < N := by omega
            clear hbig hb2
            go_wp2_with fail
            refine bodyPost_ret (results_none rfl _ _ _) rfl ?_
            exact ⟨⟨_, rfl⟩, hb1, A, hfin.out, hsep.out⟩
          · have hbI : ¬ (65536 : Int) < N := by omega
            have hbJ : (n : Int) - 8 < N := by omega
            clear hbig hb2
            go_wp2_with fail
            refine bodyPost_ret (results_none rfl _ _ _) rfl ?_
            exact ⟨⟨_, rfl⟩, hb1, A, hfin.out, hsep.out⟩
        · have hN1 : N ≤ 65536 := by omega
          have hN2 : N ≤ n - 8 := by omega
          have hbI : ¬ (65536 : Int) < N := by omega
          have hbJ : (N : Int) ≤ (n : Int) - 8 := by omega
          clear hbig
          have hrd : ∀ W, Own W b0 5 1 v0 bs.length (U8 bs) → Rd W W.heap.size (some ⟨ad.block, ad.off + 4, none⟩) (U8 ((rest.drop 4).take N)) ∧ Rd W W.heap.size (some ad) (U8 (rest.take (4 + N))) := fun W hW => by
            have h := HR.out W hW
            rw [U8_take, U8_drop, U8_take]
            exact ⟨h.sub 4 N (by omega), h.first (4 + N)⟩
          have HRD := Lib.hid hrd
          have hrl : N = ((rest.drop 4).take N).length := by have := HN.out; simp only [List.length_take, List.length_drop]; omega
          have HRL := Lib.hid hrl
          have how : Own W0 b0 5 1 v0 bs.length (U8 bs) := (Sep.cons.1 (Sep.cons.1 HS1.out).2.2).1
          have HCL := Lib.hid (Clone_some ((rest.drop 4).take N) ⟨ad.block, ad.off + 4, none⟩ N (cap - 4) W0 hrl (by omega) (HRD.out W0 how).1)
          have hb0s : b0 ≤ W0.heap.size := Nat.le_trans HB0.out hb1.size
          clear hrd hrl how
          go_wp2_with fail
          (with_reducible refine HCL.out.mono ?_)
          rintro e W2 ⟨X1, c1, rfl, ho, hbc⟩
          have HO := Lib.hid ho
          have HB2 := Lib.hid hbc
          clear ho hbc HCL k0
          have hst := Step.fresh (N := [Asn.own b0 5 1 (.slice X1 N c1) N (U8 ((rest.drop 4).take N))]) HS1.out HB2.out (Sep.one.2 (HO.out.rebase (fun g hg => Nat.le_trans hb0s (HO.out.lt g hg).1))) (fun k hk => by
            rcases foots_cons.1 hk with h | h
            · exact (HO.out.lt k h).1
            · exact absurd h foots_nil)
          have HS2 := Lib.hid hst.sep
          have hb2 := hb1.trans (HB2.out.mono hb0s)
          have hc1 : N ≤ c1 ∧ c1 ≤ 9223372036854775807 := by
            obtain ⟨_, _, e, h1, h2, _⟩ := HO.out.shape
            cases e
            exact ⟨h1, h2⟩
          obtain ⟨hc1a, hc1b⟩ := hc1
          have hs2 := HB2.out.size
          clear hst HO HB2 HS1 hb1
          have k0 : W2.cell? ⟨gB, 0, none⟩ = some (.slice (some ad) n cap) := Blk.cell (show Blk W2 gB 37 [.slice (some ad) n cap] from (Sep.cons.1 HS2.out).2.2.head) 0
          have how2 : Own W2 b0 5 1 v0 bs.length (U8 bs) := (Sep.cons.1 (Sep.cons.1 HS2.out).2.2).2.2.head
          have hbw := (Below.refl W2.heap.size W2).alloc (Nat.le_refl _) (.cells #[.slice (some ad) (4 + N) cap] 37)
          have hrl : 4 + N = (rest.take (4 + N)).length := by have := HN.out; simp only [List.length_take]; omega
          have HOV := Lib.hid (over_any c [(some ad, rest.take (4 + N), cap)] (some ⟨W2.heap.size, 0, none⟩) 1 1 (W2.heap.size + 1) (W2.alloc (.cells #[.slice (some ad) (4 + N) cap] 37)) hc rfl (by omega)
            (by
              have h := Rd.of_blk (xs := [.slice (some ad) (4 + N) cap]) (Blk.lit W2 37 _ rfl #[.slice (some ad) (4 + N) cap] _ rfl) 0 (fun j u hj => by rw [Nat.zero_add]; exact hj) (Nat.lt_succ_self W2.heap.size)
              simp only [List.map_cons, List.map_nil, SV, ← hrl]
              exact h)
            (fun s hs => by
              obtain rfl := List.mem_singleton.1 hs
              exact ⟨((HRD.out W2 how2).2.below hbw (Nat.le_refl _)).mono (Nat.le_succ _), fun x hx => HUR.out x (List.mem_of_mem_take hx), by show (rest.take (4 + N)).length ≤ _; omega⟩))
          have hcc : cat [(some ad, rest.take (4 + N), cap)] = rest.take (4 + N) := by rw [cat_cons, cat_nil, List.append_nil]
          rw [hcc] at HOV
          obtain ⟨C, hC⟩ : ∃ C, C = crc c (rest.take (4 + N)) := ⟨_, rfl⟩
          rw [← hC] at HOV
          have hCl : C < 4294967296 := by rw [hC]; exact crc_lt c hc _
          have HCC := Lib.hid hC
          have HS3 := Lib.hid (HS2.out.below hbw (fun _ hk => HS2.out.lt hk))
          have hb3 := hb2.alloc (Nat.le_trans hb0s hs2) (.cells #[.slice (some ad) (4 + N) cap] 37)
          have hs3 : W2.heap.size + 1 = (W2.alloc (.cells #[.slice (some ad) (4 + N) cap] 37)).heap.size := by simp
          clear hC hcc hrl how2 HS2 hb2 hbw
          go_wp2_with fail
          (with_reducible refine HOV.out.mono ?_)
          rintro e W3 ⟨rfl, rfl⟩
          generalize W2.alloc (.cells #[.slice (some ad) (4 + N) cap] 37) = W3 at HS3 hb3 hs3 ⊢
          clear HOV k0
          have k0 : W3.cell? ⟨gB, 0, none⟩ = some (.slice (some ad) n cap) := Blk.cell (show Blk W3 gB 37 [.slice (some ad) n cap] from (Sep.cons.1 HS3.out).2.2.head) 0
          have hkey : ∀ W4, Below W3.heap.size W3.drew W4 → W4.cell? ⟨gB, 0, none⟩ = some (.slice (some ad) n cap) ∧ Rd W4 W4.heap.size (some (ad.add (4 + N))) (U8 ((rest.drop (4 + N)).take 4)) := fun W4 hb4 => by
            have hs4 := HS3.out.below ((Below.refl W3.heap.size W3).drew.trans hb4) (fun _ hk => HS3.out.lt hk)
            have how4 : Own W4 b0 5 1 v0 bs.length (U8 bs) := (Sep.cons.1 (Sep.cons.1 hs4).2.2).2.2.head
            refine ⟨Blk.cell (show Blk W4 gB 37 [.slice (some ad) n cap] from (Sep.cons.1 hs4).2.2.head) 0, ?_⟩
            rw [U8_take, U8_drop]
            have h := (HR.out W4 how4).sub (4 + N) 4 (by omega)
            rwa [show (⟨ad.block, ad.off + (4 + N), none⟩ : Addr) = ad.add (4 + N) from (if_neg (show ¬ (4 + N = 0) by omega)).symm] at h
          have HKEY := Lib.hid hkey
          have hlen4 : 4 = ((rest.drop (4 + N)).take 4).length := by have := HN.out; simp only [List.length_take, List.length_drop]; omega
          have HL4 := Lib.hid hlen4
          have hu4 : IsU8 ((rest.drop (4 + N)).take 4) := fun x hx => HUR.out x (List.mem_of_mem_drop (List.mem_of_mem_take hx))
          have heq : ∀ W4 g4 cc, Below W3.heap.size W3.drew W4 → Blk W4 g4 5 (U8 (be C 4)) → Calls Tryd.prog 61 #[.slice (some ⟨g4, 0, none⟩) 4 4, .slice (some (ad.add (4 + N))) 4 cc] W4 (fun e w' => e = .returned (.bool (decide (be C 4 = (rest.drop (4 + N)).take 4))) ∧ W4 = w') := fun W4 g4 cc hb4 hB4 => by
            rw [← str_beq (isU8_be C 4) hu4]
            exact Equal_any (be C 4) ((rest.drop (4 + N)).take 4) _ _ 4 4 4 cc W4 (by rw [length_be]) HL4.out (Rd.of_blk hB4 0 (fun j u hj => by rw [Nat.zero_add]; exact hj) hB4.lt) (HKEY.out W4 hb4).2
          by_cases he : be C 4 = (rest.drop (4 + N)).take 4
          · rw [decide_eq_true he] at heq
            have HEQ := Lib.hid heq
            have w9 : IntKind.i64.wrap (4 + (N : Int) + 4) = 4 + (N : Int) + 4 := by rw [IntKind.wrap_i64]; omega
            have hfit : 4 + (N : Int) + 4 ≤ cap := by omega
            have hone := oneR_of HUR.out (by have := HN.out; omega) HN4.out hN1 (by have := HN.out; omega) (by rw [← HCC.out]; exact he)
            rw [← HCC.out] at hone
            have hrec := recs_some hone.1
            rw [← hone.2] at hrec
            obtain ⟨r, hr⟩ : ∃ r, r = (rest.drop 4).take N := ⟨_, rfl⟩
            obtain ⟨q, hq⟩ : ∃ q, q = rest.drop (8 + N) := ⟨_, rfl⟩
            rw [← hr, ← hq] at hrec
            rw [← hr] at hone
            have hall : recs first32 bs = (pre ++ [r]) ++ recs C q := by rw [HRE.out, hrec, List.append_assoc]; rfl
            have hch : chainC first32 (pre ++ [r]) = C := by
              rw [chainC_append, HC.out]
              exact hone.2.symm
            have hrl : N = r.length := by rw [hr]; exact HRL.out
            have HALL := Lib.hid hall
            have HCH := Lib.hid hch
            have hyy : ∀ W4, Below W3.heap.size W3.drew W4 → YieldAt Fence.wide 0 Tryd.prog l #[.slice X1 N N, .int .u32 (C : Int)] W4 (fun e W' => e = .returned (.bool true) ∧ Below b0 W4 W' ∧ ∃ A', Fr (pre ++ [r]) A' ∧ Sep W' ([Asn.blk gB 37 [.slice (some ad) n cap], Asn.own b0 5 1 v0 bs.length (U8 bs)] ++ A')) := fun W4 hb4 => by
              have hs4 := HS3.out.below ((Below.refl W3.heap.size W3).drew.trans hb4) (fun _ hk => HS3.out.lt hk)
              rw [← hr] at hs4
              have hs5 : Sep W4 (Asn.own b0 5 1 (.slice X1 N N) N (U8 r) :: ([Asn.blk gB 37 [.slice (some ad) n cap], Asn.own b0 5 1 v0 bs.length (U8 bs)] ++ A)) := Sep.turn hs4 (fun h => Own.clip h) (fun k hk => by cases X1 <;> exact hk)
              have h := HY.out 0 pre r W4 [Asn.blk gB 37 [.slice (some ad) n cap], Asn.own b0 5 1 v0 bs.length (U8 bs)] A X1 N ⟨recs C q, HALL.out.symm⟩ hrl HFR.out (Nat.le_trans (Nat.le_trans hb0s hs2) (by have := hb4.size; simp at this; omega)) (hs5.perm List.perm_middle.symm)
              rw [HCH.out] at h
              exact h
            have HYY := Lib.hid hyy
            have HE := Lib.hid he
            have HQ := Lib.hid hq
            clear hkey heq hlen4 hu4 he hyy hall hch hone hrec hr hq hrl
            go_upto_region 7 with fail
            go_cut [71] (fun s71 wx => ∃ W9, W9 = wx ∧ s71 = .bool false ∧ Below b0 w wx ∧ ∃ A', Fr (pre ++ [r]) A' ∧ Sep wx ([Asn.blk gB 37 [.slice (some ad) n cap], Asn.own b0 5 1 v0 bs.length (U8 bs)] ++ A'))
            case first =>
              refine (wpIn_wide (n := 1)).1 ?_
              gi_region_with (first
                | (refine ⟨trivial, ?_⟩; gi_at_call 62; (with_reducible refine (callsIn_wide.2 (number_any C _ hCl)).mono ?_); rintro e W4 ⟨g4, rfl, hg4, hB4, hb4⟩; rw [length_be]; have hb5 : Below W3.heap.size W3.drew W4 := hb4; have k4 := (HKEY.out W4 hb5).1)
                | (refine ⟨trivial, ?_⟩; gi_at_call 61; (with_reducible refine (callsIn_wide.2 (HEQ.out _ _ _ hb5 hB4)).mono ?_); rintro e W5 ⟨rfl, rfl⟩)
                | (refine ⟨trivial, ?_⟩; gi_at_call 55; (with_reducible refine (callsIn_wide.2 (ClipB_any X1 N c1 _ hc1a hc1b)).mono ?_); rintro e W6 ⟨rfl, rfl⟩; obtain ⟨fn, tmps, assign, body, hy, hR⟩ := HYY.out W4 hb5)
                | ((with_reducible refine hR.mono ?_); rintro e W7 ⟨rfl, hb7, A7, hF7, hS7⟩))
              all_goals
                go_wp2_with fail
                go_meet
                exact ⟨_, rfl, rfl, (hb3.drew.trans (hb5.mono (Nat.le_trans (Nat.le_trans hb0s hs2) (by omega)))).trans hb7, A7, hF7, hS7⟩
            case rest =>
              obtain ⟨W9, rfl, rfl, hb9, A9, hF9, hS9⟩ := hcut
              clear k0
              have k0 : W9.cell? ⟨gB, 0, none⟩ = some (.slice (some ad) n cap) := Blk.cell (show Blk W9 gB 37 [.slice (some ad) n cap] from hS9.head) 0
              have k1 : W9.frozen? ⟨gB, 0, none⟩ = false := Blk.free (show Blk W9 gB 37 [.slice (some ad) n cap] from hS9.head) 0
              have HS9 := Lib.hid hS9
              have HF9 := Lib.hid hF9
              clear hS9 hF9
              go_wp2_with fail
              go_roundw
              case rel =>
                have hql : Hid (n - (4 + N + 4) = q.length) := by
                  have h1 := HQ.out
                  have h2 := HN.out
                  show n - (4 + N + 4) = q.length
                  rw [h1, List.length_drop]
                  omega
                have hqu : Hid (IsU8 q) := by
                  show IsU8 q
                  rw [HQ.out]
                  exact fun x hx => HUR.out x (List.mem_of_mem_drop hx)
                have hqr : Hid (RestOf b0 v0 bs (if cap = 4 + N + 4 then some ad else some ⟨ad.block, ad.off + (4 + N + 4), none⟩) q) := fun W hW => by
                  have h := (HR.out W hW).rest (4 + N + 4) cap (by omega) (by rw [length_U8]; have := HN.out; omega)
                  rw [HQ.out, U8_drop, show 8 + N = 4 + N + 4 by omega]
                  exact h
                exact ⟨C, n - (4 + N + 4), cap - (4 + N + 4), q, pre ++ [r], _, A9, rfl, hCl, by omega, by omega, by omega, hql, hqu, HALL, HCH, hqr, HF9, Sep.put HS9.out 0 _, hb9.setCell (p := ⟨gB, 0, none⟩) hgB _⟩
              case measure =>
                have hB := Sep.head (Sep.put HS9.out 0 (.slice (if cap = 4 + N + 4 then some ad else some ⟨ad.block, ad.off + (4 + N + 4), none⟩) (n - (4 + N + 4)) (cap - (4 + N + 4))))
                have h1 := boxLen_eq (Blk.cell (show Blk (W9.setCell ⟨gB, 0, none⟩ (.slice (if cap = 4 + N + 4 then some ad else some ⟨ad.block, ad.off + (4 + N + 4), none⟩) (n - (4 + N + 4)) (cap - (4 + N + 4)))) gB 37 _ from hB) 0)
                have h2 := HBL.out
                have h3 : n - (4 + N + 4) < n := by omega
                exact lt_of_eq_of_lt h1 (lt_of_lt_of_eq h3 h2.symm)
          · have hone := oneR_not (c := c) (by have := HN.out; omega) HN4.out hN1 (by have := HN.out; omega) (by rw [← HCC.out]; exact he)
            have hend : Hid (recs c rest = []) := recs_none hone
            have hfin : Hid (Fr (recs first32 bs) A) := by
              show Fr (recs first32 bs) A
              rw [HRE.out, hend.out, List.append_nil]
              exact HFR.out
            rw [decide_eq_false he] at heq
            have HEQ := Lib.hid heq
            have w9 : IntKind.i64.wrap (4 + (N : Int) + 4) = 4 + (N : Int) + 4 := by rw [IntKind.wrap_i64]; omega
            have hfit : 4 + (N : Int) + 4 ≤ cap := by omega
            have hz1 : (0 : Int) ≤ 4 + (N : Int) := by omega
            have hz2 : (0 : Int) ≤ 4 + (N : Int) + 4 := by omega
            have hz3 : 4 + (N : Int) ≤ max (4 + (N : Int) + 4) 0 := by omega
            have hz4 : 4 + (N : Int) ≤ 4 + (N : Int) + 4 := by omega
            have hz7 : ¬ cap = 4 + N := by omega
            have hz5 : (4 + (N : Int)).toNat = 4 + N := by omega
            have hz6 : (4 + (N : Int) + 4).toNat = 4 + N + 4 := by omega
            clear hkey heq hlen4 hu4 he hone
            go_upto_region 7 with fail
            refine wp_region_held_drew (S := fun W => W.cell? ⟨gB, 0, none⟩ = some (.slice (some ad) n cap)) (by kernel_rfl) (HKEY.out _ (Below.refl _ _)).1 (fun hHeld => ?_)
            refine wpAnyH_take (i := 0) (oi := ⟨some 55, _, _, _, _, _⟩) (v := ?vu0) rfl (by kernel_rfl) (by kernel_rfl) (by kernel_rfl) (fun _ _ _ h => h) (Or.inl ⟨by kernel_rfl, ?hyu0⟩) (by assumption) ?restu0
            case hyu0 => (intro w hSw; (try dsimp only at hSw); go_simp; try with_reducible rfl)
            (try simp only [Act.put, List.setIfInBounds_toArray, List.set_cons_zero, List.set_cons_succ])
            refine wpAnyH_take (i := 2) (oi := ⟨some 57, _, _, _, _, _⟩) (v := ?vu2) rfl (by kernel_rfl) (by kernel_rfl) (by kernel_rfl) (fun _ _ _ h => h) (Or.inl ⟨by kernel_rfl, ?hyu2⟩) (by assumption) ?restu2
            case hyu2 => (intro w hSw; (try dsimp only at hSw); go_simp; try with_reducible rfl)
            (try simp only [Act.put, List.setIfInBounds_toArray, List.set_cons_zero, List.set_cons_succ])
            refine wpAnyH_take (i := 3) (oi := ⟨some 58, _, _, _, _, _⟩) (v := ?vu3) rfl (by kernel_rfl) (by kernel_rfl) (by kernel_rfl) (fun _ _ _ h => h) (Or.inl ⟨by kernel_rfl, ?hyu3⟩) (by assumption) ?restu3
            case hyu3 => (intro w hSw; (try dsimp only at hSw); go_simp; try with_reducible rfl)
            (try simp only [Act.put, List.setIfInBounds_toArray, List.set_cons_zero, List.set_cons_succ])
            refine wpAnyH_take (i := 4) (oi := ⟨some 59, _, _, _, _, _⟩) (v := ?vu4) rfl (by kernel_rfl) (by kernel_rfl) (by kernel_rfl) (fun _ _ _ h => h) (Or.inl ⟨by kernel_rfl, ?hyu4⟩) (by assumption) ?restu4
            case hyu4 => (intro w hSw; (try dsimp only at hSw); go_simp; try with_reducible rfl)
            (try simp only [Act.put, List.setIfInBounds_toArray, List.set_cons_zero, List.set_cons_succ])
            refine wpAnyH_take (i := 5) (oi := ⟨some 60, _, _, _, _, _⟩) (v := ?vu5) rfl (by kernel_rfl) (by kernel_rfl) (by kernel_rfl) (fun _ _ _ h => h) (Or.inl ⟨by kernel_rfl, ?hyu5⟩) (by assumption) ?restu5
            case hyu5 => (intro w hSw; (try dsimp only at hSw); go_simp; try with_reducible rfl)
            (try simp only [Act.put, List.setIfInBounds_toArray, List.set_cons_zero, List.set_cons_succ])
            refine wpAnyH_take (i := 6) (oi := ⟨some 61, _, _, _, _, _⟩) (v := ?vu6) rfl (by kernel_rfl) (by kernel_rfl) (by kernel_rfl) (fun _ _ _ h => h) (Or.inl ⟨by kernel_rfl, ?hyu6⟩) (by assumption) ?restu6
            case hyu6 => (intro w hSw; (try dsimp only at hSw); go_simp; try with_reducible rfl)
            (try simp only [Act.put, List.setIfInBounds_toArray, List.set_cons_zero, List.set_cons_succ])
            refine wpAnyH_ready (rs := [1]) (by kernel_rfl) (by simp) ?_
            refine AllReadyH.cons rfl (fun K hK => ?_) AllReadyH.nil
            go_simp
            (with_reducible refine (number_any C _ hCl).mono ?_)
            rintro e W4 ⟨g4, rfl, hg4, hB4, hb4⟩
            rw [length_be]
            have hb5 : Below W3.heap.size W3.drew W4 := hb4
            go_simp
            refine hK.out _ _ (HKEY.out W4 hb5).1 (fun hHeld2 => ?_)
            clear hK K hHeld
            refine wpAnyH_ready (rs := [7]) (by kernel_rfl) (by simp) ?_
            refine AllReadyH.cons rfl (fun K hK => ?_) AllReadyH.nil
            go_simp
            (with_reducible refine (HEQ.out _ _ _ hb5 hB4).mono ?_)
            rintro e W5 ⟨rfl, rfl⟩
            go_simp
            refine hK.out _ _ (HKEY.out W4 hb5).1 (fun hHeld3 => ?_)
            clear hK K hHeld2
            refine wpAnyH_take (i := 8) (oi := ⟨some 63, _, _, _, _, _⟩) (v := ?vu8) rfl (by kernel_rfl) (by kernel_rfl) (by kernel_rfl) (fun _ _ _ h => h) (Or.inl ⟨by kernel_rfl, ?hyu8⟩) (by assumption) ?restu8
            case hyu8 => (intro w hSw; (try dsimp only at hSw); go_simp; try with_reducible rfl)
            (try simp only [Act.put, List.setIfInBounds_toArray, List.set_cons_zero, List.set_cons_succ])
            refine wpAnyH_take (i := 9) (oi := ⟨some 64, _, _, _, _, _⟩) (v := ?vu9) rfl (by kernel_rfl) (by kernel_rfl) (by kernel_rfl) (fun _ _ _ h => h) (Or.inl ⟨by kernel_rfl, ?hyu9⟩) (by assumption) ?restu9
            case hyu9 => (intro w hSw; (try dsimp only at hSw); go_simp; try with_reducible rfl)
            (try simp only [Act.put, List.setIfInBounds_toArray, List.set_cons_zero, List.set_cons_succ])
            refine wpAnyH_take (i := 10) (oi := ⟨some 65, _, _, _, _, _⟩) (v := undef) rfl (by kernel_rfl) (by kernel_rfl) (by kernel_rfl) (fun _ _ _ h => h) (Or.inr ⟨by kernel_rfl, rfl⟩) (by assumption) ?_
            (try simp only [Act.put, List.setIfInBounds_toArray, List.set_cons_zero, List.set_cons_succ])
            refine wpAnyH_take (i := 11) (oi := ⟨some 66, _, _, _, _, _⟩) (v := undef) rfl (by kernel_rfl) (by kernel_rfl) (by kernel_rfl) (fun _ _ _ h => h) (Or.inr ⟨by kernel_rfl, rfl⟩) (by assumption) ?_
            (try simp only [Act.put, List.setIfInBounds_toArray, List.set_cons_zero, List.set_cons_succ])
            refine wpAnyH_take (i := 12) (oi := ⟨some 67, _, _, _, _, _⟩) (v := undef) rfl (by kernel_rfl) (by kernel_rfl) (by kernel_rfl) (fun _ _ _ h => h) (Or.inr ⟨by kernel_rfl, rfl⟩) (by assumption) ?_
            (try simp only [Act.put, List.setIfInBounds_toArray, List.set_cons_zero, List.set_cons_succ])
            refine wpAnyH_take (i := 13) (oi := ⟨some 68, _, _, _, _, _⟩) (v := undef) rfl (by kernel_rfl) (by kernel_rfl) (by kernel_rfl) (fun _ _ _ h => h) (Or.inr ⟨by kernel_rfl, rfl⟩) (by assumption) ?_
            (try simp only [Act.put, List.setIfInBounds_toArray, List.set_cons_zero, List.set_cons_succ])
            refine wpAnyH_take (i := 14) (oi := ⟨some 69, _, _, _, _, _⟩) (v := undef) rfl (by kernel_rfl) (by kernel_rfl) (by kernel_rfl) (fun _ _ _ h => h) (Or.inr ⟨by kernel_rfl, rfl⟩) (by assumption) ?_
            (try simp only [Act.put, List.setIfInBounds_toArray, List.set_cons_zero, List.set_cons_succ])
            refine wpAnyH_take (i := 15) (oi := ⟨some 70, _, _, _, _, _⟩) (v := undef) rfl (by kernel_rfl) (by kernel_rfl) (by kernel_rfl) (fun _ _ _ h => h) (Or.inr ⟨by kernel_rfl, rfl⟩) (by assumption) ?_
            (try simp only [Act.put, List.setIfInBounds_toArray, List.set_cons_zero, List.set_cons_succ])
            refine wpAnyH_take (i := 16) (oi := ⟨some 71, _, _, _, _, _⟩) (v := ?vu16) rfl (by kernel_rfl) (by kernel_rfl) (by kernel_rfl) (fun _ _ _ h => h) (Or.inl ⟨by kernel_rfl, ?hyu16⟩) (by assumption) ?restu16
            case hyu16 => (intro w hSw; (try dsimp only at hSw); go_simp; try with_reducible rfl)
            (try simp only [Act.put, List.setIfInBounds_toArray, List.set_cons_zero, List.set_cons_succ])
            refine wpAnyH_done (by kernel_rfl) ?_ _
            have hs4 := HS3.out.below ((Below.refl W3.heap.size W3).drew.trans hb5) (fun _ hk => HS3.out.lt hk)
            have hsep := Lib.hid (Sep.cons.1 (Sep.cons.1 (Sep.cons.1 hs4).2.2).2.2).2.2
            have hbb := hb3.drew.trans (hb5.mono (Nat.le_trans (Nat.le_trans hb0s hs2) (by omega)))
            clear hHeld3 hs4 w9 hfit
            go_wp2_with fail
            refine bodyPost_ret (results_none rfl _ _ _) rfl ?_
            exact ⟨⟨_, rfl⟩, hbb, A, hfin.out, hsep.out⟩
end Go.Proofs.YtgibdecgmageeaaDoor
