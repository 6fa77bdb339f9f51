/- Rename walked. -/
import Derived.Test.YtgibdecgmageeaaDoorDisk8
namespace Go.Proofs.YtgibdecgmageeaaDoor
open Go.RowKit

/-- A name alone is written. -/
theorem Cd.name_ {w : World} {c : Cd} {b0 : Nat} (hS : Sep w (c.asn b0)) (k : Nat) (h : k < c.now.length) (s : ByteArray) :
    Step w (w.setCell ⟨c.g, 1 + k * 2, none⟩ (.string s)) (c.asn b0) (({ c with now := c.now.set k (s, (c.now[k]'h).2) } : Cd).asn b0) := by
  obtain ⟨l, r, hl, hc, hn⟩ := c.cells_at k h
  have hB := Cd.blk hS
  have h1 : Step w (w.setCell ⟨c.g, 1 + k * 2, none⟩ (.string s)) [Asn.blk c.g 72 c.cells] [Asn.blk c.g 72 ({ c with now := c.now.set k (s, (c.now[k]'h).2) } : Cd).cells] := by
    refine ⟨Sep.one.2 ?_, ?_, fun k hk => .inl ?_⟩
    · have := hB.set (1 + k * 2) (.string s)
      rw [hc, ← hl, List.set_append_right _ _ (Nat.le_refl _), Nat.sub_self, List.set_cons_zero, hl] at this
      rw [hn]
      exact this
    · exact (Mods.refl _ _).putc (p := ⟨c.g, _, none⟩) (.inl (foots_cons.2 (.inl rfl))) _
    · rcases foots_cons.1 hk with h | h
      · exact foots_cons.2 (.inl h)
      · exact absurd h foots_nil
  exact h1.frame (A := [_]) (A' := [_]) (R := c.rows.map (RowC.asn b0)) hS

theorem string_eq_dec (a b : ByteArray) : (a.toList == b.toList) = decide (a = b) := by
  by_cases h : a = b
  · subst h; simp
  · rw [decide_eq_false h]
    cases hb : (a.toList == b.toList) with
    | false => rfl
    | true => exact absurd (bytes_eq hb) h

set_option maxHeartbeats 2000000 in
theorem Rename_any (c : Cd) (b0 : Nat) (a b : ByteArray) (w : World) (hS : Sep w (c.asn b0)) (hk : c.m.ok) (ha : a.size ≤ 9223372036854775807) (hb : b.size ≤ 9223372036854775807) :
    Calls Tryd.prog 40 #[.pointer (some ⟨c.g, 0, none⟩), .string a, .string b] w (fun e w' => e = .returned (.int .i64 (c.m.rename a b).1) ∧ ∃ c' : Cd, c'.g = c.g ∧ c'.m = (c.m.rename a b).2 ∧ Step w w' (c.asn b0) (c'.asn b0)) := by
  have hS' : ∀ w', Below w.heap.size w w' → Sep w' (c.asn b0) := fun w' hb => hS.below hb (fun _ hk => hS.lt hk)
  have HSTAY : Hid (∀ w', Below w.heap.size w w' → ∃ c' : Cd, c'.g = c.g ∧ c'.m = c.m ∧ Step w w' (c.asn b0) (c'.asn b0)) := fun w' hb => ⟨c, rfl, rfl, hS' w' hb, Mods.of_below hb _, fun _ hk => .inl hk⟩
  have hgo := goes_all c true b w (Cd.blk hS) hb
  unfold Dm.rename
  by_cases hg : c.m.goes true b = 0
  · rw [if_neg (by simp [hg])]
    rw [hg] at hgo
    by_cases h : c.m.finds true a = 0
    · rw [if_neg (by simp [h])]
      have hf : ∀ w', Below w.heap.size w w' → Calls Tryd.prog 50 #[.pointer (some ⟨c.g, 0, none⟩), .bool true, .string a] w' (fun e w'' => e = .returned (.tuple #[.pointer (some ⟨c.g, 1 + idx c.now a * 2, none⟩), .int .i64 0]) ∧ Below w'.heap.size w' w'') := fun w' hb => finds_ok c true a w' (Cd.blk (hS' w' hb)) hk.now.len ha h
      by_cases hab : a = b
      · rw [if_pos hab]
        have hbe : (a.toList == b.toList) = true := by rw [hab]; simp
        have HG := Lib.hid hgo; have HF := Lib.hid hf
        clear hS hgo hf hS' hk hg h hab
        go_enter Tryd.func40, Tryd.ntmps40
        go_wp2_with fail
        refine HG.out.mono ?_
        rintro e w1 ⟨rfl, hb1⟩
        go_wp2_with fail
        refine (HF.out w1 hb1).mono ?_
        rintro e w2 ⟨rfl, hb2⟩
        have hb2' := hb1.trans (hb2.mono hb1.size)
        clear hb1 hb2
        go_wp2
        go_ret
        exact ⟨rfl, HSTAY.out w2 hb2'⟩
      · rw [if_neg hab]
        have hbe : (a.toList == b.toList) = false := by rw [string_eq_dec]; exact decide_eq_false hab
        obtain ⟨hn, _⟩ := Dm.finds_at h
        have hn' : idx c.now a < c.now.length := hn
        have hn64 : idx c.now a < 64 := by rw [show c.now.length = 64 from hk.now.len] at hn'; exact hn'
        have hat : ∀ w', Below w.heap.size w w' → Calls Tryd.prog 54 #[.pointer (some ⟨c.g, 1, none⟩), .string b] w' (fun e w'' => e = .returned (.int .i64 (atI c.now b)) ∧ Below w'.heap.size w' w'') := fun w' hb =>
          at_any c.g 1 c.rows c.now b w' hk.now.len ((Cd.nowAt (Cd.blk hS)).below hb (Cd.blk hS).lt) (Nat.lt_of_lt_of_le (Cd.blk hS).lt hb.size)
        by_cases hi : idx c.now b < c.now.length
        · have hi64 : idx c.now b < 64 := by have := hi; rw [show c.now.length = 64 from hk.now.len] at this; exact this
          have hclear : c.m.clear b = c.now.set (idx c.now b) free := if_pos hi
          have hat' : atI c.now b = idx c.now b := if_pos hi
          rw [hat'] at hat
          have hij : idx c.now b ≠ idx c.now a := fun e => hab (by have h1 := idx_at hn'; have h2 := idx_at hi; rw [← h1, ← h2]; congr 2; exact e.symm)
          have key : ∀ w', Below w.heap.size w w' → _ := fun w' hb => Cd.put_facts (hS' w' hb) _ hi
          have fin : ∀ w1, Below w.heap.size w w1 → (∃ u, ((w1.setCell ⟨c.g, 1 + idx c.now b * 2, none⟩ (.string ⟨#[]⟩)).setCell ⟨c.g, 1 + idx c.now b * 2 + 1, none⟩ (.pointer none)).cell? ⟨c.g, 1 + idx c.now a * 2, none⟩ = some u) ∧ ((w1.setCell ⟨c.g, 1 + idx c.now b * 2, none⟩ (.string ⟨#[]⟩)).setCell ⟨c.g, 1 + idx c.now b * 2 + 1, none⟩ (.pointer none)).frozen? ⟨c.g, 1 + idx c.now a * 2, none⟩ = false ∧
              ∃ c' : Cd, c'.g = c.g ∧ c'.m = { c.m with now := (c.m.clear b).set (idx c.m.now a) (b, (c.m.now.getD (idx c.m.now a) free).2) } ∧
              Step w (((w1.setCell ⟨c.g, 1 + idx c.now b * 2, none⟩ (.string ⟨#[]⟩)).setCell ⟨c.g, 1 + idx c.now b * 2 + 1, none⟩ (.pointer none)).setCell ⟨c.g, 1 + idx c.now a * 2, none⟩ (.string b)) (c.asn b0) (c'.asn b0) := by
            intro w1 hb
            have h1 := Cd.put (hS' w1 hb) _ hi free
            have hl2 : idx c.now a < (c.now.set (idx c.now b) free).length := by rw [List.length_set]; exact hn'
            obtain ⟨u, v, k1, k2, k3, k4⟩ := Cd.put_facts h1.sep (idx c.now a) hl2
            refine ⟨⟨_, k1⟩, k3, { c with now := (c.now.set (idx c.now b) free).set (idx c.now a) (b, ((c.now.set (idx c.now b) free)[idx c.now a]'hl2).2) }, rfl, ?_, Step.after hS hb (h1.trans (Cd.name_ h1.sep (idx c.now a) hl2 b))⟩
            rw [hclear]
            unfold Cd.m
            simp only [List.getElem_set_ne hij, List.getD, List.getElem?_eq_getElem hn', Option.getD_some]
          have HG := Lib.hid hgo; have HF := Lib.hid hf; have HK := Lib.hid key; have HFIN := Lib.hid fin; have HA := Lib.hid hat
          clear hS hgo hf hS' hk hg h hab hn hn' hat hclear hat' hij key fin HSTAY hi
          go_enter Tryd.func40, Tryd.ntmps40
          go_wp2_with fail
          refine HG.out.mono ?_
          rintro e w1 ⟨rfl, hb1⟩
          go_wp2_with fail
          refine (HF.out w1 hb1).mono ?_
          rintro e w2 ⟨rfl, hb2⟩
          have hb2' := hb1.trans (hb2.mono hb1.size)
          clear hb1 hb2
          go_wp2_with fail
          refine (HA.out w2 hb2').mono ?_
          rintro e w3 ⟨rfl, hb3⟩
          have hb3' := hb2'.trans (hb3.mono hb2'.size)
          obtain ⟨u, v, k1, k2, k3, k4⟩ := HK.out w3 hb3'
          obtain ⟨⟨u2, k5⟩, k6, k7⟩ := HFIN.out w3 hb3'
          clear hb2' hb3 HK HFIN
          have K7 := Lib.hid k7; clear k7
          go_wp2
          go_ret
          exact ⟨rfl, K7.out⟩
        · have hclear : c.m.clear b = c.now := if_neg hi
          have hat' : atI c.now b = -1 := if_neg hi
          rw [hat'] at hat
          have key : ∀ w', Below w.heap.size w w' → _ := fun w' hb => Cd.put_facts (hS' w' hb) _ hn'
          have fin : ∀ w1, Below w.heap.size w w1 → ∃ c' : Cd, c'.g = c.g ∧ c'.m = { c.m with now := (c.m.clear b).set (idx c.m.now a) (b, (c.m.now.getD (idx c.m.now a) free).2) } ∧ Step w (w1.setCell ⟨c.g, 1 + idx c.now a * 2, none⟩ (.string b)) (c.asn b0) (c'.asn b0) := by
            intro w1 hb
            refine ⟨{ c with now := c.now.set (idx c.now a) (b, (c.now[idx c.now a]'hn').2) }, rfl, ?_, Step.after hS hb (Cd.name_ (hS' w1 hb) _ hn' b)⟩
            rw [hclear]
            unfold Cd.m
            simp only [List.getD, List.getElem?_eq_getElem hn', Option.getD_some]
          have HG := Lib.hid hgo; have HF := Lib.hid hf; have HK := Lib.hid key; have HFIN := Lib.hid fin; have HA := Lib.hid hat
          clear hS hgo hf hS' hk hg h hab hn hn' hat hclear hat' key fin HSTAY hi
          go_enter Tryd.func40, Tryd.ntmps40
          go_wp2_with fail
          refine HG.out.mono ?_
          rintro e w1 ⟨rfl, hb1⟩
          go_wp2_with fail
          refine (HF.out w1 hb1).mono ?_
          rintro e w2 ⟨rfl, hb2⟩
          have hb2' := hb1.trans (hb2.mono hb1.size)
          clear hb1 hb2
          go_wp2_with fail
          refine (HA.out w2 hb2').mono ?_
          rintro e w3 ⟨rfl, hb3⟩
          have hb3' := hb2'.trans (hb3.mono hb2'.size)
          obtain ⟨u, v, k1, k2, k3, k4⟩ := HK.out w3 hb3'
          clear hb2' hb3 HK
          go_wp2
          go_ret
          exact ⟨rfl, HFIN.out w3 hb3'⟩
    · rw [if_pos h]
      have hf : ∀ w', Below w.heap.size w w' → Calls Tryd.prog 50 #[.pointer (some ⟨c.g, 0, none⟩), .bool true, .string a] w' (fun e w'' => e = .returned (.tuple #[.pointer none, .int .i64 (c.m.finds true a)]) ∧ Below w'.heap.size w' w'') := fun w' hb => finds_err c true a _ w' (Cd.blk (hS' w' hb)) hk.now.len ha rfl h
      generalize c.m.finds true a = E at hf h
      have hE1 : (E != 0) = true := by simpa using h
      have HG := Lib.hid hgo; have HF := Lib.hid hf
      clear hS hgo hf hS' hk hg h
      go_enter Tryd.func40, Tryd.ntmps40
      go_wp2_with fail
      refine HG.out.mono ?_
      rintro e w1 ⟨rfl, hb1⟩
      go_wp2_with fail
      refine (HF.out w1 hb1).mono ?_
      rintro e w2 ⟨rfl, hb2⟩
      have hb2' := hb1.trans (hb2.mono hb1.size)
      clear hb1 hb2
      go_wp2
      all_goals go_ret
      all_goals exact ⟨rfl, HSTAY.out w2 hb2'⟩
  · rw [if_pos hg]
    generalize c.m.goes true b = E at hgo hg
    have HG := Lib.hid hgo
    have hE1 : (E != 0) = true := by simpa using hg
    clear hgo hS hS' hg hk
    go_enter Tryd.func40, Tryd.ntmps40
    go_wp2_with fail
    refine HG.out.mono ?_
    rintro e w1 ⟨rfl, hb⟩
    go_wp2
    go_ret
    exact ⟨rfl, HSTAY.out w1 hb⟩
end Go.Proofs.YtgibdecgmageeaaDoor
