/- alive of layer 18 walked: the chapter's answers. -/
import Derived.Test.YtgibdecgmageeaaDoorJr9
namespace Go.Proofs.YtgibdecgmageeaaDoor
open Go.RowKit

def kA : List (List Int) := [[], [97]]
def kB : List (List Int) := [[], [97], List.replicate 200 0]
def zeros (n : Nat) : List Int := List.replicate n 0
theorem isU8_zeros (n : Nat) : IsU8 (zeros n) := fun x hx => by
  have := List.eq_of_mem_replicate hx
  omega
theorem length_zeros (n : Nat) : (zeros n).length = n := List.length_replicate
theorem U8_zeros (n : Nat) : U8 (zeros n) = List.replicate n (.int .u8 0) := by simp [U8, zeros]
theorem endR_kA : endR kA = 17 := rfl
theorem kB_eq : kB = kA ++ [zeros 200] := rfl
theorem endR_kB : endR kB = 225 := by rw [kB_eq, endR_snoc, length_zeros, endR_kA]
theorem k_le : ∀ r ∈ kB, r.length ≤ 65536 := by
  intro r hr
  rw [kB_eq] at hr
  rcases List.mem_append.1 hr with h | h
  · have : r = [] ∨ r = [97] := by simpa [kA] using h
    rcases this with rfl | rfl <;> simp
  · obtain rfl := List.mem_singleton.1 h
    rw [length_zeros]; omega
theorem isU8_chain {c : Nat} {l : List (List Int)} (h : ∀ r ∈ l, IsU8 r) : IsU8 (chain c l) := by
  induction l generalizing c with
  | nil => exact fun x hx => by cases hx
  | cons r l ih => exact isU8_append (isU8_laidB (h r (by simp))) (ih (fun x hx => h x (by simp [hx])))
theorem isU8_kA : ∀ r ∈ kA, IsU8 r := by
  intro r hr x hx
  have : r = [] ∨ r = [97] := by simpa [kA] using hr
  rcases this with rfl | rfl
  · cases hx
  · obtain rfl := List.mem_singleton.1 hx; omega
theorem recs_kA : recs first32 (chain first32 kA) = kA := recs_all _ _ (fun r hr => k_le r (by rw [kB_eq]; exact List.mem_append_left _ hr))
theorem recs_kB : recs first32 (chain first32 kB ++ [0]) = kB := by
  rw [recs_chain _ _ _ k_le, recs_short (by simp), List.append_nil]
/-- The two records, as the walk lays them. -/
def litW (w : World) : World := (w.alloc (.cells #[.int .u8 97] 5 (1, 2))).alloc (.cells #[.slice none 0 0, .slice (some ⟨w.heap.size, 0, none⟩) 1 1] 37)
def litS (w : World) : List Src := [(none, [], 0), (some ⟨w.heap.size, 0, none⟩, [97], 1)]
theorem litW_below (w : World) : Below w.heap.size w (litW w) := ((Below.refl _ w).alloc (Nat.le_refl _) _).alloc (by simp) _
theorem litW_size (w : World) : (litW w).heap.size = w.heap.size + 2 := by unfold litW; simp
theorem litW_recs (w : World) : RecsIn (litW w) (litW w).heap.size (some ⟨w.heap.size + 1, 0, none⟩) (litS w) := by
  refine ⟨?_, fun s hs => ?_⟩
  · have h := Rd.of_blk (xs := (litS w).map SV) (Blk.lit (w.alloc (.cells #[.int .u8 97] 5 (1, 2))) 37 (w.heap.size + 1) (by simp) #[.slice none 0 0, .slice (some ⟨w.heap.size, 0, none⟩) 1 1] _ rfl) 0 (fun j u hj => by rw [Nat.zero_add]; exact hj) (B := (litW w).heap.size) (by rw [litW_size]; omega)
    exact h
  · have hs' : s = (none, [], 0) ∨ s = (some ⟨w.heap.size, 0, none⟩, [97], 1) := by simpa [litS] using hs
    rcases hs' with rfl | rfl
    · exact ⟨Rd.nil _ _ _, (fun x hx => by cases hx), by simp⟩
    · refine ⟨?_, (fun x hx => by obtain rfl := List.mem_singleton.1 hx; omega), by simp⟩
      have h := rd_const w 5 #[.int .u8 97] [.int .u8 97] rfl (1, 2)
      have h2 := h.below (B' := (litW w).heap.size) ((Below.refl (w.alloc (.cells #[.int .u8 97] 5 (1, 2))).heap.size _).alloc (Nat.le_refl _) (.cells #[.slice none 0 0, .slice (some ⟨w.heap.size, 0, none⟩) 1 1] 37)) (by rw [litW_size]; simp)
      exact h2
theorem litS_bs (w : World) : bsOf (litS w) = kA := rfl
/-- Add where the file is of another length. -/
theorem add_state {m : Dm} {s : ByteArray} {j : Jm} {r : List Int} (hr : r.length ≤ 65536) (hf : m.finds true s = 0) (hl : (m.at s).1.length ≠ j.long) : m.add s j r = (9, m, j) := by
  unfold Dm.add
  rw [if_neg (by omega), if_neg (by simp [hf]), if_pos hl]
theorem add_limit {m : Dm} {s : ByteArray} {j : Jm} {r : List Int} (hr : 65536 < r.length) : m.add s j r = (3, m, j) := by
  unfold Dm.add
  rw [if_pos hr]

set_option maxRecDepth 100000 in
set_option maxHeartbeats 4000000 in
theorem alive18 (w : World) : Calls Tryd.prog 18 #[] w (fun e w' => e = .returned (.bool true) ∧ Below w.heap.size w w') := by
  have hb01 := litW_below w
  have hR1 := Lib.hid (litW_recs w)
  have hsz1 := litW_size w
  have H := Lib.hid (kept_at (b0 := (litW w).heap.size) (z := 10000) (n := 2) (cap := 2) (w := litW w) (L := []) (R := []) (A := some ⟨w.heap.size + 1, 0, none⟩) (litS w) (Disks.none_ (Sep.nil _) (Nat.le_refl _)) (by omega) (by omega) rfl (by rw [litS_bs, endR_kA]; omega) (by rw [litS_bs, endR_kA]; omega) (fun r hr => k_le r (by rw [kB_eq]; exact List.mem_append_left _ hr)) hR1.out)
  rw [litS_bs, show ((10000 : Nat) : Int) = 10000 from rfl] at H
  obtain ⟨b1, hb1⟩ : ∃ b1, b1 = (litW w).heap.size := ⟨_, rfl⟩
  rw [← hb1] at H hsz1
  have hcv := conv_const
  have HW : Hid (litW w = (w.alloc (.cells #[.int .u8 97] 5 (1, 2))).alloc (.cells #[.slice none 0 0, .slice (some ⟨w.heap.size, 0, none⟩) 1 1] 37)) := rfl
  go_enter Tryd.func18, Tryd.ntmps18
  go_wp2_with fail
  rw [← HW.out]
  (with_reducible refine H.out.mono ?_)
  rintro e w2 ⟨g, rfl, d2, b2⟩
  have B2 : Below b1 (litW w) w2 := b2
  obtain ⟨bsA, hA⟩ : ∃ bsA, bsA = chain first32 kA := ⟨_, rfl⟩
  rw [← hA] at d2
  have hAl : bsA.length = 17 := by rw [hA, length_chain, endR_kA]
  have hAu : IsU8 bsA := by rw [hA]; exact isU8_chain isU8_kA
  have hAr : recs first32 bsA = kA := by rw [hA]; exact recs_kA
  have D2 := Lib.hid d2
  have HA := Lib.hid hA
  have HAL := Lib.hid hAl
  have HAU := Lib.hid hAu
  have HAR := Lib.hid hAr
  clear d2 b2 hA hAl hAu hAr H
  have H := Lib.hid (row_at (s := sj) D2.out (by decide) (oneS_finds (by decide) (by omega)))
  rw [oneS_at, HAL.out] at H
  go_wp2_with fail
  (with_reducible refine H.out.mono ?_)
  rintro e w3 ⟨X, rfl, ho, b3⟩
  have hrA := (ho.rd rfl (Nat.le_refl w3.heap.size))
  have D3 := Lib.hid (D2.out.below b3)
  have B3 := B2.trans (b3.mono D2.out.size)
  have hR3 := Lib.hid (litW_recs w3)
  have H3 := Lib.hid (told_at (n := 17) (c := 17) (k := 2) (cap := 2) (w := litW w3) (A := X) (A' := some ⟨w3.heap.size + 1, 0, none⟩) bsA (litS w3) HAL.out.symm (by omega) HAU.out (hrA.below (litW_below w3) (litW_below w3).size) rfl hR3.out)
  rw [litS_bs, HAR.out] at H3
  have D4 := Lib.hid (D3.out.below (litW_below w3))
  have B4 := B3.trans ((litW_below w3).mono D3.out.size)
  have HW3 : Hid (litW w3 = (w3.alloc (.cells #[.int .u8 97] 5 (1, 2))).alloc (.cells #[.slice none 0 0, .slice (some ⟨w3.heap.size, 0, none⟩) 1 1] 37)) := rfl
  clear H ho b3 D2 B2 D3 B3 hrA
  go_wp2_with fail
  rw [← HW3.out]
  (with_reducible refine H3.out.mono ?_)
  rintro e w5 ⟨rfl, b5⟩
  have D5 := Lib.hid (D4.out.below b5)
  have B5 := B4.trans (b5.mono D4.out.size)
  clear H3 b5 D4 B4 hR3 HW3
  have H := Lib.hid (Open_there (s := sj) D5.out (by decide) (oneS_finds (by decide) (by omega)))
  rw [oneS_at] at H
  go_wp2_with fail
  (with_reducible refine H.out.mono ?_)
  rintro e w6 ⟨gj, Y, q, srcs, rfl, _, _, _, hgj, d6, b6⟩
  have D6 := Lib.hid (RetOpen.journal d6)
  rw [HAR.out] at D6
  have B6 := B5.trans b6
  clear H d6 b6 D5 B5
  obtain ⟨i0, hi, hz0, hz1, hz2⟩ := info_parts Tryd.infoByte
  go_wp2_with (at_make; refine wpList_make_blk rfl (.const (.int .i64 200)) (.const (.int .i64 200)) 37 rfl 5 i0 (.int .u8 0) Tryd.underlying37 hi hz0 hz1 rfl .i64 .i64 200 200 rfl rfl 200 200 rfl rfl (by omega) (by rw [hz2]; omega) (by omega) ?_; intro w7 hw7; have hB7 : Hid (Blk w7 w6.heap.size 5 (U8 (zeros 200))) := by { show Blk w7 w6.heap.size 5 (U8 (zeros 200)); rw [hw7, U8_zeros]; exact Blk.new w6 _ _ }; have b7 : Below w6.heap.size w6 w7 := by { rw [hw7]; exact (Below.refl _ _).alloc (Nat.le_refl _) _ }; clear hw7)
  have D7 := Lib.hid (D6.out.below b7)
  have B7 := B6.trans (b7.mono D6.out.size)
  have hadd := oneS_add (s := sj) (size := 10000) (safe := free64) (l := kA) (k := 0) (r := zeros 200) (by decide) (by omega) (by rw [length_zeros]; omega) (by rw [endR_kA, length_zeros]; omega) (by rw [endR_kA, length_zeros]; omega)
  rw [← HA.out, ← kB_eq] at hadd
  have H := Lib.hid (JAdd_at (bs := zeros 200) (A := some ⟨w6.heap.size, 0, none⟩) (n := 200) (cb := 200) D7.out hgj (by decide) (chainC_lt first32_lt _) (by show endR kA ≤ _; rw [endR_kA]; omega) (length_zeros 200).symm (by omega) (isU8_zeros 200) (Rd.of_blk hB7.out 0 (fun j u hj => by rw [Nat.zero_add]; exact hj) hB7.out.lt) hadd)
  clear hadd D6 B6 b7
  (with_reducible refine H.out.mono ?_)
  rintro e w8 ⟨rfl, d8, b8⟩
  have D8 := Lib.hid d8
  have B8 := B7.trans b8
  clear H d8 b8 D7 B7 hB7
  obtain ⟨bsB, hbsB⟩ : ∃ bsB, bsB = chain first32 kB := ⟨_, rfl⟩
  rw [← hbsB] at D8
  have hBl : bsB.length = 225 := by rw [hbsB, length_chain, endR_kB]
  have HBB := Lib.hid hbsB
  have HBL := Lib.hid hBl
  clear hbsB hBl
  have H := Lib.hid (row_at (s := sj) D8.out (by decide) (oneS_finds (by decide) (by omega)))
  rw [oneS_at, HBL.out] at H
  go_wp2_with fail
  (with_reducible refine H.out.mono ?_)
  rintro e w9 ⟨X9, rfl, _, b9⟩
  have D9 := Lib.hid (D8.out.below b9)
  have B9 := B8.trans (b9.mono D8.out.size)
  clear H D8 B8 b9
  have H := Lib.hid (JSync_at D9.out (by decide) (oneS_sync (by decide) (by omega)))
  go_wp2_with fail
  (with_reducible refine H.out.mono ?_)
  rintro e w10 ⟨rfl, d10, b10⟩
  have D10 := Lib.hid d10
  have B10 := B9.trans b10
  clear H d10 b10 D9 B9
  go_wp2_with (at_make; refine wpList_make_blk rfl (.const (.int .i64 65537)) (.const (.int .i64 65537)) 37 rfl 5 i0 (.int .u8 0) Tryd.underlying37 hi hz0 hz1 rfl .i64 .i64 65537 65537 rfl rfl 65537 65537 rfl rfl (by omega) (by rw [hz2]; omega) (by omega) ?_; intro w11 hw11; have hB11 : Hid (Blk w11 w10.heap.size 5 (U8 (zeros 65537))) := by { show Blk w11 w10.heap.size 5 (U8 (zeros 65537)); rw [hw11, U8_zeros]; exact Blk.new w10 _ _ }; have b11 : Below w10.heap.size w10 w11 := by { rw [hw11]; exact (Below.refl _ _).alloc (Nat.le_refl _) _ }; clear hw11)
  have D11 := Lib.hid (D10.out.below b11)
  have B11 := B10.trans (b11.mono D10.out.size)
  have H := Lib.hid (JAdd_at (bs := zeros 65537) (A := some ⟨w10.heap.size, 0, none⟩) (n := 65537) (cb := 65537) D11.out hgj (by decide) (chainC_lt first32_lt _) (by show endR kB ≤ _; rw [endR_kB]; omega) (length_zeros 65537).symm (by omega) (isU8_zeros 65537) (Rd.of_blk hB11.out 0 (fun j u hj => by rw [Nat.zero_add]; exact hj) hB11.out.lt) (add_limit (by rw [length_zeros]; omega)))
  clear D10 B10 b11
  (with_reducible refine H.out.mono ?_)
  rintro e w12 ⟨rfl, d12, b12⟩
  have D12 := Lib.hid d12
  have B12 := B11.trans b12
  clear H d12 b12 D11 B11 hB11
  have DA := Lib.hid (D12.out.below ((Below.refl w12.heap.size w12).alloc (Nat.le_refl _) (.cells #[.int .u8 0] 5)))
  have BA := B12.alloc D12.out.size (.cells #[.int .u8 0] 5)
  have H := Lib.hid (Append_at (s := sj) (bs := [0]) (n := 1) (cb := 1) (B := some ⟨w12.heap.size, 0, none⟩) DA.out (by decide) rfl (by omega) (fun x hx => by obtain rfl := List.mem_singleton.1 hx; omega) (rd_const w12 5 #[.int .u8 0] [.int .u8 0] rfl (0, 0)) (oneS_append (by decide) (by omega) (by rw [HBL.out]; simp) (by rw [HBL.out]; simp)))
  clear D12 B12
  go_wp2_with fail
  (with_reducible refine H.out.mono ?_)
  rintro e w13 ⟨rfl, d13, b13⟩
  have D13 : Hid (Disks b1 w13 ((g, oneS sj 10000 free64 (bsB ++ [0], bsB.length)) :: []) (Jn gj g sj ⟨endR kB, chainC first32 kB⟩ :: [])) := d13
  have B13 := BA.trans b13
  clear H d13 b13 DA BA
  have DB := Lib.hid (D13.out.below ((Below.refl w13.heap.size w13).alloc (Nat.le_refl _) (.cells #[.int .u8 98] 5 (1, 2))))
  have BB := B13.alloc D13.out.size (.cells #[.int .u8 98] 5 (1, 2))
  have H := Lib.hid (JAdd_at (bs := [98]) (A := some ⟨w13.heap.size, 0, none⟩) (n := 1) (cb := 1) DB.out hgj (by decide) (chainC_lt first32_lt _) (by show endR kB ≤ _; rw [endR_kB]; omega) rfl (by omega) (fun x hx => by obtain rfl := List.mem_singleton.1 hx; omega) (rd_const w13 5 #[.int .u8 98] [.int .u8 98] rfl (1, 2)) (add_state (by simp) (oneS_finds (by decide) (by omega)) (by rw [oneS_at, List.length_append, HBL.out]; show 225 + 1 ≠ endR kB; rw [endR_kB]; omega)))
  clear D13 B13
  go_wp2_with fail
  (with_reducible refine H.out.mono ?_)
  rintro e w14 ⟨rfl, d14, b14⟩
  have D14 := Lib.hid d14.lessR
  have B14 := BB.trans b14
  clear H d14 b14 DB BB
  have H := Lib.hid (Open_there (s := sj) D14.out (by decide) (oneS_finds (by decide) (by omega)))
  rw [oneS_at] at H
  go_wp2_with fail
  (with_reducible refine H.out.mono ?_)
  rintro e w15 ⟨gk, Z, p, srcs2, rfl, hm2, _, hp, hgk, d15, b15⟩
  have hrB : Hid (recs first32 (bsB ++ [0]) = kB) := by show recs first32 (bsB ++ [0]) = kB; rw [HBB.out]; exact recs_kB
  have hp3 : p = 3 := by
    have h := congrArg List.length (hm2.trans hrB.out)
    rw [List.length_map] at h
    rw [hp, h]; rfl
  subst hp3
  have D15 := Lib.hid (RetOpen.journal d15)
  rw [hrB.out] at D15
  have B15 := B14.trans b15
  clear H d15 b15 D14 B14 hm2 hp
  have DC := Lib.hid (D15.out.below ((Below.refl w15.heap.size w15).alloc (Nat.le_refl _) (.cells #[.int .u8 98] 5 (1, 2))))
  have BC := B15.alloc D15.out.size (.cells #[.int .u8 98] 5 (1, 2))
  have H := Lib.hid (JAdd_at (bs := [98]) (A := some ⟨w15.heap.size, 0, none⟩) (n := 1) (cb := 1) DC.out hgk (by decide) (chainC_lt first32_lt _) (by show endR kB ≤ _; rw [endR_kB]; omega) rfl (by omega) (fun x hx => by obtain rfl := List.mem_singleton.1 hx; omega) (rd_const w15 5 #[.int .u8 98] [.int .u8 98] rfl (1, 2)) (add_state (by simp) (oneS_finds (by decide) (by omega)) (by rw [oneS_at, List.length_append, HBL.out]; show 225 + 1 ≠ endR kB; rw [endR_kB]; omega)))
  clear D15 B15
  go_wp2_with fail
  (with_reducible refine H.out.mono ?_)
  rintro e w16 ⟨rfl, d16, b16⟩
  have B16 := BC.trans b16
  clear H d16 b16 DC BC
  go_wp2
  go_ret
  exact ⟨rfl, hb01.trans (B16.mono (by omega))⟩
end Go.Proofs.YtgibdecgmageeaaDoor
