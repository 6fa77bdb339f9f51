/- Create walked. -/
import Derived.Test.YtgibdecgmageeaaDoorDisk7
namespace Go.Proofs.YtgibdecgmageeaaDoor
open Go.RowKit

theorem tabCells_more (rows xs : List RowC) (t : List Pl) (h : ∀ p ∈ t, ∀ i, p.2 = some i → i < rows.length) : tabCells (rows ++ xs) t = tabCells rows t := by
  unfold tabCells
  rw [List.flatMap_def, List.flatMap_def]
  congr 1
  apply List.map_congr_left
  intro p hp
  unfold plCells
  cases h2 : p.2 with
  | none => rfl
  | some i => simp only [Option.bind_some]; rw [List.getElem?_append_left (h p hp i h2)]
/-- A new file's row. -/
theorem Cd.grow {w : World} {c : Cd} {b0 : Nat} (hS : Sep w (c.asn b0)) (hb0 : b0 ≤ w.heap.size) (hk : c.m.ok) :
    Step w (w.alloc (.cells #[.slice none 0 0, .int .i64 0] 101)) (c.asn b0) (({ c with rows := c.rows ++ [⟨w.heap.size, .slice none 0 0, [], 0⟩] } : Cd).asn b0) := by
  have hc : ({ c with rows := c.rows ++ [⟨w.heap.size, .slice none 0 0, [], 0⟩] } : Cd).cells = c.cells := by
    unfold Cd.cells
    rw [tabCells_more _ _ _ (fun p hp i hi => by have := (hk.now.some_ p hp i hi).2; simpa [Cd.m] using this), tabCells_more _ _ _ (fun p hp i hi => by have := (hk.safe.some_ p hp i hi).2; simpa [Cd.m] using this)]
  have hN : Sep (w.alloc (.cells #[.slice none 0 0, .int .i64 0] 101)) [RowC.asn b0 ⟨w.heap.size, .slice none 0 0, [], 0⟩] :=
    Sep.one.2 ⟨Blk.lit w _ _ rfl _ _ rfl, Own.nil _ _ _ _, by simp [Value.ownBlock], hb0⟩
  have h := Step.fresh hS ((Below.refl w.heap.size w).alloc (Nat.le_refl _) (.cells #[.slice none 0 0, .int .i64 0] 101)) hN (fun k hk => by
    rcases foots_cons.1 hk with h | h
    · rcases h with h | h
      · exact Nat.le_of_eq h.symm
      · simp [Value.ownBlock] at h
    · exact absurd h foots_nil)
  refine h.perm (List.Perm.refl _) ?_
  unfold Cd.asn
  rw [hc]
  simp only [List.map_append, List.map_cons, List.map_nil, List.singleton_append]
  exact (List.Perm.swap _ _ _).trans (List.Perm.cons _ (List.perm_append_comm (l₁ := [_])))

theorem ptr_last (rows : List RowC) (x : RowC) : ptr (rows ++ [x]) (some rows.length) = some ⟨x.r, 0, none⟩ := by
  unfold ptr; simp

set_option maxHeartbeats 1000000 in
theorem Create_any (c : Cd) (b0 : Nat) (s : ByteArray) (w : World) (hS : Sep w (c.asn b0)) (hk : c.m.ok) (hs : s.size ≤ 9223372036854775807) (hb0 : b0 ≤ w.heap.size) :
    Calls Tryd.prog 32 #[.pointer (some ⟨c.g, 0, none⟩), .string s] w (fun e w' => e = .returned (.int .i64 (c.m.create s).1) ∧ ∃ c' : Cd, c'.g = c.g ∧ c'.m = (c.m.create s).2 ∧ Step w w' (c.asn b0) (c'.asn b0)) := by
  have hS' : ∀ w', Below w.heap.size w w' → Sep w' (c.asn b0) := fun w' hb => hS.below hb (fun _ hk => hS.lt hk)
  have hgo := goes_all c true s w (Cd.blk hS) hs
  have hat : ∀ t w', Below w.heap.size w w' → Calls Tryd.prog 54 #[.pointer (some ⟨c.g, 1, none⟩), .string t] w' (fun e w'' => e = .returned (.int .i64 (atI c.now t)) ∧ Below w'.heap.size w' w'') := fun t w' hb =>
    at_any c.g 1 c.rows c.now t w' hk.now.len ((Cd.nowAt (Cd.blk hS)).below hb (Cd.blk hS).lt) (Nat.lt_of_lt_of_le (Cd.blk hS).lt hb.size)
  unfold Dm.create
  by_cases hg : c.m.goes true s = 0
  · rw [if_neg (by simp [hg])]
    rw [hg] at hgo
    by_cases hi : idx c.now s < c.now.length
    · rw [if_pos (show idx c.m.now s < c.m.now.length from hi)]
      have ha1 : atI c.now s = idx c.now s := if_pos hi
      have hat1 := hat free.1; have hat2 := hat s
      rw [ha1] at hat2
      have hf0 : (-1 : Int) ≤ atI c.now free.1 := by unfold atI; split <;> omega
      generalize atI c.now free.1 = f at hat1 hf0
      generalize idx c.now s = k at hat2
      have HG := Lib.hid hgo; have H1 := Lib.hid hat1; have H2 := Lib.hid hat2; have HS := Lib.hid hS
      clear hgo hat1 hat2 hat hS hS' hi ha1 hg hk
      go_enter Tryd.func32, Tryd.ntmps32
      go_wp2_with fail
      refine HG.out.mono ?_
      rintro e w1 ⟨rfl, hb⟩
      go_wp2_with fail
      refine (H1.out w1 hb).mono ?_
      rintro e w2 ⟨rfl, hb2⟩
      have hb2' := hb.trans (hb2.mono hb.size)
      clear hb hb2
      go_wp2_with fail
      refine (H2.out w2 hb2').mono ?_
      rintro e w3 ⟨rfl, hb3⟩
      have hb3' := hb2'.trans (hb3.mono hb2'.size)
      clear hb2' hb3
      go_wp2
      go_ret
      exact ⟨rfl, c, rfl, rfl, HS.out.below hb3' (fun _ hk => HS.out.lt hk), Mods.of_below hb3' _, fun _ hk => .inl hk⟩
    · rw [if_neg (show ¬ idx c.m.now s < c.m.now.length from hi)]
      have ha1 : atI c.now s = -1 := if_neg hi
      have hat1 := hat free.1; have hat2 := hat s
      rw [ha1] at hat2
      by_cases hfr : idx c.now free.1 < c.now.length
      · rw [if_pos (show idx c.m.now free.1 < c.m.now.length from hfr)]
        have ha2 : atI c.now free.1 = idx c.now free.1 := if_pos hfr
        rw [ha2] at hat1
        have hfr64 : idx c.now free.1 < 64 := by have := hk.now.len; have h' := hfr; rw [show c.now.length = 64 from this] at h'; exact h'
        have key : ∀ w', Below w.heap.size w w' → _ := fun w' hb => Cd.put_facts (hS' w' hb) _ hfr
        have fin : ∀ w1, Below w.heap.size w w1 → ∃ c' : Cd, c'.g = c.g ∧ c'.m = { c.m with now := c.m.now.set (idx c.m.now free.1) (s, some c.m.rows.length), rows := c.m.rows ++ [([], 0)] } ∧
            Step w (((w1.alloc (.cells #[.slice none 0 0, .int .i64 0] 101)).setCell ⟨c.g, 1 + idx c.now free.1 * 2, none⟩ (.string s)).setCell ⟨c.g, 1 + idx c.now free.1 * 2 + 1, none⟩ (.pointer (some ⟨w1.heap.size, 0, none⟩))) (c.asn b0) (c'.asn b0) := by
          intro w1 hb
          have h1 := Cd.grow (hS' w1 hb) (Nat.le_trans hb0 hb.size) hk
          have h2 := Cd.put h1.sep (idx c.now free.1) hfr (s, some c.rows.length)
          rw [ptr_last] at h2
          refine ⟨{ c with now := c.now.set (idx c.now free.1) (s, some c.rows.length), rows := c.rows ++ [⟨w1.heap.size, .slice none 0 0, [], 0⟩] }, rfl, ?_, Step.after hS hb (h1.trans h2)⟩
          unfold Cd.m
          simp
        have HG := Lib.hid hgo; have H1 := Lib.hid hat1; have H2 := Lib.hid hat2; have HK := Lib.hid key; have HFIN := Lib.hid fin
        clear hgo hat1 hat2 hat hS hS' ha1 ha2 hg hk key fin hi
        go_enter Tryd.func32, Tryd.ntmps32
        go_wp2_with fail
        refine HG.out.mono ?_
        rintro e w1 ⟨rfl, hb⟩
        go_wp2_with fail
        refine (H1.out w1 hb).mono ?_
        rintro e w2 ⟨rfl, hb2⟩
        have hb2' := hb.trans (hb2.mono hb.size)
        clear hb hb2
        go_wp2_with fail
        refine (H2.out w2 hb2').mono ?_
        rintro e w3 ⟨rfl, hb3⟩
        have hb3' := hb2'.trans (hb3.mono hb2'.size)
        obtain ⟨u, v, k1, k2, k3, k4⟩ := HK.out _ (hb3'.alloc hb3'.size (.cells #[.slice none 0 0, .int .i64 0] 101))
        clear hb2' hb3 HK
        go_wp2
        go_ret
        exact ⟨rfl, HFIN.out w3 hb3'⟩
      · rw [if_neg (show ¬ idx c.m.now free.1 < c.m.now.length from hfr)]
        have ha2 : atI c.now free.1 = -1 := if_neg hfr
        rw [ha2] at hat1
        have HG := Lib.hid hgo; have H1 := Lib.hid hat1; have H2 := Lib.hid hat2; have HS := Lib.hid hS
        clear hgo hat1 hat2 hat hS hS' ha1 ha2 hg hk hi hfr
        go_enter Tryd.func32, Tryd.ntmps32
        go_wp2_with fail
        refine HG.out.mono ?_
        rintro e w1 ⟨rfl, hb⟩
        go_wp2_with fail
        refine (H1.out w1 hb).mono ?_
        rintro e w2 ⟨rfl, hb2⟩
        have hb2' := hb.trans (hb2.mono hb.size)
        clear hb hb2
        go_wp2_with fail
        refine (H2.out w2 hb2').mono ?_
        rintro e w3 ⟨rfl, hb3⟩
        have hb3' := hb2'.trans (hb3.mono hb2'.size)
        clear hb2' hb3
        go_wp2
        go_ret
        exact ⟨rfl, c, rfl, rfl, HS.out.below hb3' (fun _ hk => HS.out.lt hk), Mods.of_below hb3' _, fun _ hk => .inl hk⟩
  · rw [if_pos hg]
    generalize c.m.goes true s = E at hgo hg
    have HG := Lib.hid hgo; have HS := Lib.hid hS
    have hE1 : (E != 0) = true := by simpa using hg
    clear hgo hat hS hS' hg hk
    go_enter Tryd.func32, Tryd.ntmps32
    go_wp2_with fail
    refine HG.out.mono ?_
    rintro e w1 ⟨rfl, hb⟩
    go_wp2
    go_ret
    exact ⟨rfl, c, rfl, rfl, HS.out.below hb (fun _ hk => HS.out.lt hk), Mods.of_below hb _, fun _ hk => .inl hk⟩
end Go.Proofs.YtgibdecgmageeaaDoor
