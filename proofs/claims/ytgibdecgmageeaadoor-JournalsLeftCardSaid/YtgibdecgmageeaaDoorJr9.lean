/- What the statements of layer 18 ask, walked: kept, told. -/
import Derived.Test.YtgibdecgmageeaaDoorJr8
namespace Go.Proofs.YtgibdecgmageeaaDoor
open Go.RowKit

abbrev sj : ByteArray := ⟨#[106]⟩
abbrev sx : ByteArray := ⟨#[120]⟩
theorem endR_snoc (a : List (List Int)) (r : List Int) : endR (a ++ [r]) = endR a + (r.length + 8) := by rw [endR_append]; simp [endR]
theorem Disks.lessS {b0 : Nat} {w : World} {L : List (Nat × Dm)} {R : List Asn} : ∀ X : List Asn, Disks b0 w L (X ++ R) → Disks b0 w L R
  | [], h => h
  | _ :: X, h => Disks.lessS X h.lessR
/-- The journal alone of what Open hands back. -/
theorem RetOpen.journal {b0 g gj n : Nat} {X : Option Addr} {w : World} {m : Dm} {L : List (Nat × Dm)} {R : List Asn} {s : ByteArray} {j : Jm} {srcs : List Src}
    (h : Disks b0 w ((g, m) :: L) (Jn gj g s j :: Asn.own b0 37 1 (.slice X n n) n (srcs.map SV) :: (srcs.map (recAsn b0) ++ R))) : Disks b0 w ((g, m) :: L) (Jn gj g s j :: R) := by
  have h1 := h.permR (List.perm_middle (l₁ := Asn.own b0 37 1 (.slice X n n) n (srcs.map SV) :: srcs.map (recAsn b0)) (l₂ := R)).symm
  exact Disks.lessS (_ :: srcs.map (recAsn b0)) h1
/-- The records that were told are read where they lie. -/
theorem RetOpen.told_ {b0 n : Nat} {X : Option Addr} {w : World} {L : List (Nat × Dm)} {R : List Asn} {a : Asn} {bs : List Int} {srcs : List Src} (hu : IsU8 bs) (hl : bs.length ≤ 1048576) (hm : srcs.map (·.2.1) = recs first32 bs)
    (h : Disks b0 w L (a :: Asn.own b0 37 1 (.slice X n n) n (srcs.map SV) :: (srcs.map (recAsn b0) ++ R))) : RecsIn w w.heap.size X srcs := by
  have hS := h.rest
  have h1 := (Sep.cons.1 hS).2.2
  have ho : Own w b0 37 1 (.slice X n n) n (srcs.map SV) := h1.head
  have h2 := (Sep.append.1 (Sep.cons.1 h1).2.2).1
  refine ⟨ho.rd rfl (Nat.le_refl _), fun s hs => ?_⟩
  have ha : (recAsn b0 s).holds w := h2.1 _ (List.mem_map.2 ⟨s, hs, rfl⟩)
  have ha' : Own w b0 5 1 (.slice s.1 s.2.1.length s.2.1.length) s.2.1.length (U8 s.2.1) := ha
  have hmem : s.2.1 ∈ recs first32 bs := by rw [← hm]; exact List.mem_map.2 ⟨s, hs, rfl⟩
  refine ⟨ha'.rd rfl (Nat.le_refl _), recs_u8 hu _ hmem, ?_⟩
  have h3 := recs_len bs.length first32 bs (Nat.le_refl _)
  obtain ⟨p, q, e⟩ := List.append_of_mem hmem
  rw [e, endR_append] at h3
  have : endR (s.2.1 :: q) = (s.2.1.length + 8) + endR q := by simp [endR]
  omega

set_option maxHeartbeats 2000000 in
theorem kept_at {b0 z n cap : Nat} {w : World} {L : List (Nat × Dm)} {R : List Asn} {A : Option Addr} (l : List Src) (h : Disks b0 w L R) (hz0 : 1 ≤ z) (hz1 : z ≤ 8388608) (hn : n = l.length) (hl : endR (bsOf l) ≤ z) (hm : endR (bsOf l) ≤ 1048576) (hr : ∀ r ∈ bsOf l, r.length ≤ 65536) (hA : RecsIn w b0 A l) :
    Calls Tryd.prog 25 #[.int .i64 z, .slice A n cap] w (fun e w' => ∃ g, e = .returned (.tuple #[.pointer (some ⟨g, 0, none⟩), .bool true]) ∧ Disks b0 w' ((g, oneS sj z free64 (chain first32 (bsOf l), 0)) :: L) R ∧ Below b0 w w') := by
  have hb0 := h.size
  have H := Lib.hid (New_at (z := z) h (by omega) (by omega))
  have HA := Lib.hid hA
  have HN := Lib.hid hn
  have HR := Lib.hid hr
  have hn131 : n ≤ 131072 := by
    have h1 := endR_count (bsOf l)
    unfold bsOf at h1 hm
    rw [List.length_map] at h1
    omega
  clear h hA hn hr
  go_enter Tryd.func25, Tryd.ntmps25
  go_wp2_with fail
  (with_reducible refine H.out.mono ?_)
  rintro e w1 ⟨g, rfl, d1, b1⟩
  have D1 := Lib.hid d1
  have B1 := b1.mono hb0
  clear H d1 b1
  have hzI : (1 : Int) ≤ z := by omega
  have H := Lib.hid (Open_new (s := sj) (m := oneS sj z free64 ([], 0)) D1.out (by decide) (new_finds (by decide) hzI) (new_create (by decide) hzI) (oneS_finds (by decide) hzI) (by rw [oneS_at]))
  clear hzI
  go_wp2_with fail
  (with_reducible refine H.out.mono ?_)
  rintro e w2 ⟨gj, X, k, srcs, rfl, _, _, _, hgj, d2, b2⟩
  have D2 : Hid (Disks b0 w2 ((g, oneS sj z free64 (chain first32 (bsOf (l.take 0)), 0)) :: L) (Jn gj g sj ⟨endR (bsOf (l.take 0)), chainC first32 (bsOf (l.take 0))⟩ :: R)) := by
    have h := RetOpen.journal d2
    rw [oneS_at, recs_nil] at h
    exact h
  have B2 := B1.trans b2
  clear H D1 B1 d2 b2
  go_wp2_with fail
  go_loopw [11, 12] (fun s11 s12 wr => ∃ (j : Nat), s11 = .bool true ∧ s12 = .int .i64 j ∧ j ≤ n ∧ Hid (Disks b0 wr ((g, oneS sj z free64 (chain first32 (bsOf (l.take j)), 0)) :: L) (Jn gj g sj ⟨endR (bsOf (l.take j)), chainC first32 (bsOf (l.take j))⟩ :: R)) ∧ Below b0 w wr) (fun _ s12 _ => n - (intOf s12).toNat)
  case atStart => exact ⟨0, rfl, rfl, by omega, D2, B2⟩
  case round =>
    obtain ⟨j, rfl, rfl, hj, DR, br⟩ := hrel
    clear D2 B2
    by_cases hlt : j < n
    · have hjl : j < l.length := by have := HN.out; omega
      have hA2 := HA.out.below br (Nat.le_refl _)
      obtain ⟨ad, rfl, hab, hc⟩ := hA2.rd (by simp; omega)
      have c0 : wr.cell? (ad.add j) = some (SV l[j]) := hc j _ (by simp [hjl])
      have hx := hA2.each _ (List.getElem_mem hjl)
      have htk : bsOf (l.take (j + 1)) = bsOf (l.take j) ++ [l[j].2.1] := by unfold bsOf; rw [List.take_succ_eq_append_getElem hjl, List.map_append]; rfl
      have hre := HR.out l[j].2.1 (List.mem_map.2 ⟨_, List.getElem_mem hjl, rfl⟩)
      have hle : endR (bsOf (l.take (j + 1))) ≤ endR (bsOf l) := by
        have h := endR_take_le (bsOf l) (j + 1)
        unfold bsOf at h ⊢
        rw [List.map_take]
        exact h
      rw [SV_eq] at c0
      generalize (l[j]'hjl) = x at c0 hx htk hre
      obtain ⟨X, xs, xc⟩ := x
      simp only at c0 hx htk hre
      have hadd := oneS_add (s := sj) (size := z) (safe := free64) (l := bsOf (l.take j)) (k := 0) (r := xs) (by decide) (by omega) hre (by rw [htk, endR_snoc] at hle; omega) (by rw [htk, endR_snoc] at hle; omega)
      rw [← htk] at hadd
      have hlb : endR (bsOf (l.take j)) ≤ 1048576 := by rw [htk, endR_snoc] at hle; omega
      obtain ⟨xn, hxn⟩ : ∃ xn, xn = xs.length := ⟨_, rfl⟩
      rw [← hxn] at c0
      have H := Lib.hid (JAdd_at (bs := xs) (A := X) (n := xn) (cb := xc) DR.out hgj (by decide) (chainC_lt first32_lt _) hlb hxn (by rw [hxn]; exact hx.2.2) hx.2.1 (hx.1.mono DR.out.size) hadd)
      have hjI : (j : Int) < n := by omega
      clear hc hx htk hre hle hadd hlb hxn hA2
      go_wp2_with fail
      (with_reducible refine H.out.mono ?_)
      rintro e w3 ⟨rfl, d3, b3⟩
      have D3 := Lib.hid d3
      have B3 := br.trans b3
      clear H d3 b3 DR br
      go_wp2_with fail
      go_roundw
      case rel => exact ⟨j + 1, rfl, by go_num, by omega, D3, B3⟩
      case measure => simp [intOf] <;> omega
    · have hfin : Hid (Disks b0 wr ((g, oneS sj z free64 (chain first32 (bsOf l), 0)) :: L) R) := by
        have h := DR.out.lessR
        rw [List.take_of_length_le (by have := HN.out; omega)] at h
        exact h
      go_wp2_with fail
      go_ret2
      exact ⟨g, rfl, hfin.out, br⟩

set_option maxHeartbeats 2000000 in
theorem told_at {n c k cap : Nat} {w : World} {A A' : Option Addr} (bs : List Int) (l : List Src) (hn : n = bs.length) (hl : n ≤ 1048576) (hu : IsU8 bs) (hA : Rd w w.heap.size A (U8 bs)) (hk : k = l.length) (hA' : RecsIn w w.heap.size A' l) :
    Calls Tryd.prog 24 #[.slice A n c, .slice A' k cap] w (fun e w' => e = .returned (.bool (decide (recs first32 bs = bsOf l))) ∧ Below w.heap.size w w') := by
  have d0 : Disks w.heap.size w [] [] := Disks.none_ (Sep.nil w) (Nat.le_refl _)
  have H := Lib.hid (New_at (z := 2000000) d0 (by omega) (by omega))
  have HA := Lib.hid hA
  have HA' := Lib.hid hA'
  have HN := Lib.hid hn
  have HK := Lib.hid hk
  clear hA hA' hn hk d0
  go_enter Tryd.func24, Tryd.ntmps24
  go_wp2_with fail
  (with_reducible refine H.out.mono ?_)
  rintro e w1 ⟨g, rfl, d1, b1⟩
  have H1 := Lib.hid (Create_at d1 (s := sx) (by decide) (new_create (by decide) (by omega)))
  clear H d1
  go_wp2_with fail
  (with_reducible refine H1.out.mono ?_)
  rintro e w2 ⟨rfl, d2, b2⟩
  have B2 := b1.trans b2
  have H2 := Lib.hid (Append_at (s := sx) (bs := bs) (B := A) (n := n) (cb := c) d2 (by decide) HN.out (by omega) hu ((HA.out.below B2 (Nat.le_refl _)).mono B2.size) (oneS_append (s := sx) (size := 2000000) (safe := free64) (f := ([], 0)) (b := bs) (by decide) (by omega) (by have := HN.out; simp; omega) (by have := HN.out; simp; omega)))
  clear H1 d2 b1 b2
  go_wp2_with fail
  (with_reducible refine H2.out.mono ?_)
  rintro e w3 ⟨rfl, d3, b3⟩
  have B3 := B2.trans b3
  have hat : ((oneS sx 2000000 free64 (bs, 0)).at sx).1 = bs := by rw [oneS_at]
  have H3 := Lib.hid (Open_there (s := sx) (show Disks w.heap.size w3 ((g, oneS sx 2000000 free64 (bs, 0)) :: []) [] from d3) (by decide) (oneS_finds (by decide) (by omega)))
  rw [hat] at H3
  clear H2 d3 B2 b3 hat
  go_wp2_with fail
  (with_reducible refine H3.out.mono ?_)
  rintro e w4 ⟨gj, X, q, srcs, rfl, hm, hc, hq, hgj, d4, b4⟩
  have B4 := B3.trans b4
  have hR := RetOpen.told_ hu (by have := HN.out; omega) hm d4
  have hqb : q ≤ 140737488351232 := by
    have h1 := recs_len bs.length first32 bs (Nat.le_refl _)
    have h2 := endR_count (recs first32 bs)
    rw [← hm, List.length_map] at h2
    rw [hm] at h2
    have := HN.out
    omega
  have H4 := Lib.hid (SameRecords_any srcs l X A' q k q cap w4 w4.heap.size hq HK.out hqb hR ((HA'.out.below B4 (Nat.le_refl _)).mono B4.size))
  have hb : bsOf srcs = recs first32 bs := hm
  rw [hb] at H4
  clear H3 B3 b4 d4 hR hm hc hq hb
  go_wp2_with fail
  (with_reducible refine H4.out.mono ?_)
  rintro e w5 ⟨rfl, hd⟩
  go_wp2_with fail
  go_ret
  exact ⟨rfl, B4.trans (hd.below _)⟩
end Go.Proofs.YtgibdecgmageeaaDoor
