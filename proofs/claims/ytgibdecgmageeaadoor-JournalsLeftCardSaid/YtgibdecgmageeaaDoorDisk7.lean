/- A place that turns; Remove, Create walked. -/
import Derived.Test.YtgibdecgmageeaaDoorDisk6
namespace Go.Proofs.YtgibdecgmageeaaDoor
open Go.RowKit

def ptr (rows : List RowC) (o : Option Nat) : Option Addr := o.bind fun i => rows[i]?.map fun x => ⟨x.r, 0, none⟩
theorem set_two (l r : List Value) (a b a' b' : Value) (i j : Nat) (hi : i = l.length) (hj : j = i + 1) : ((l ++ a :: b :: r).set i a').set j b' = l ++ a' :: b' :: r := by
  subst hi hj
  simp
theorem Cd.cells_at (c : Cd) (k : Nat) (h : k < c.now.length) : ∃ l r, l.length = 1 + k * 2 ∧ c.cells = l ++ .string (c.now[k]'h).1 :: .pointer (ptr c.rows (c.now[k]'h).2) :: r ∧
    ∀ p : Pl, ({ c with now := c.now.set k p } : Cd).cells = l ++ .string p.1 :: .pointer (ptr c.rows p.2) :: r := by
  have e1 : c.now = c.now.take k ++ (c.now[k]'h) :: c.now.drop (k + 1) := by rw [List.getElem_cons_drop, List.take_append_drop]
  have e2 : ∀ p, c.now.set k p = c.now.take k ++ p :: c.now.drop (k + 1) := by intro p; rw [List.set_eq_take_append_cons_drop, if_pos h]
  have hl : (tabCells c.rows (c.now.take k)).length = k * 2 := by rw [length_tabCells, List.length_take, Nat.min_eq_left (by omega)]
  have key : ∀ p : Pl, .int .i64 c.size :: (tabCells c.rows (c.now.take k ++ p :: c.now.drop (k + 1)) ++ tabCells c.rows c.safe) =
      (.int .i64 c.size :: tabCells c.rows (c.now.take k)) ++ .string p.1 :: .pointer (ptr c.rows p.2) :: (tabCells c.rows (c.now.drop (k + 1)) ++ tabCells c.rows c.safe) := by
    intro p
    rw [tabCells_append]
    unfold tabCells
    rw [List.flatMap_cons]
    simp [plCells, ptr]
  refine ⟨.int .i64 c.size :: tabCells c.rows (c.now.take k), tabCells c.rows (c.now.drop (k + 1)) ++ tabCells c.rows c.safe, by simp [hl]; omega, ?_, ?_⟩
  · rw [← key]; unfold Cd.cells; rw [← e1]
  · intro p; rw [← key]; unfold Cd.cells
    show .int .i64 c.size :: (tabCells c.rows (c.now.set k p) ++ _) = _
    rw [e2]
/-- A place is written. -/
theorem Cd.put {w : World} {c : Cd} {b0 : Nat} (hS : Sep w (c.asn b0)) (k : Nat) (h : k < c.now.length) (p : Pl) :
    Step w ((w.setCell ⟨c.g, 1 + k * 2, none⟩ (.string p.1)).setCell ⟨c.g, 1 + k * 2 + 1, none⟩ (.pointer (ptr c.rows p.2))) (c.asn b0) (({ c with now := c.now.set k p } : Cd).asn b0) := by
  obtain ⟨l, r, hl, hc, hn⟩ := c.cells_at k h
  have hB := Cd.blk hS
  have h1 : Step w ((w.setCell ⟨c.g, 1 + k * 2, none⟩ (.string p.1)).setCell ⟨c.g, 1 + k * 2 + 1, none⟩ (.pointer (ptr c.rows p.2))) [Asn.blk c.g 72 c.cells] [Asn.blk c.g 72 ({ c with now := c.now.set k p } : Cd).cells] := by
    refine ⟨Sep.one.2 ?_, ?_, fun k hk => .inl ?_⟩
    · have := (hB.set (1 + k * 2) (.string p.1)).set (1 + k * 2 + 1) (.pointer (ptr c.rows p.2))
      rw [hc, set_two l r _ _ _ _ _ _ hl.symm rfl, ← hn p] at this
      exact this
    · exact ((Mods.refl _ _).putc (p := ⟨c.g, _, none⟩) (.inl (foots_cons.2 (.inl rfl))) _).putc (p := ⟨c.g, _, none⟩) (.inl (foots_cons.2 (.inl rfl))) _
    · rcases foots_cons.1 hk with h | h
      · exact foots_cons.2 (.inl h)
      · exact absurd h foots_nil
  exact h1.frame (A := [_]) (A' := [_]) (R := c.rows.map (RowC.asn b0)) hS
/-- The facts of a place that is written. -/
theorem Cd.put_facts {w : World} {c : Cd} {b0 : Nat} (hS : Sep w (c.asn b0)) (k : Nat) (h : k < c.now.length) :
    ∃ (u : ByteArray) (v : Option Addr), w.cell? ⟨c.g, 1 + k * 2, none⟩ = some (.string u) ∧ w.cell? ⟨c.g, 1 + k * 2 + 1, none⟩ = some (.pointer v) ∧ w.frozen? ⟨c.g, 1 + k * 2, none⟩ = false ∧ w.frozen? ⟨c.g, 1 + k * 2 + 1, none⟩ = false := by
  obtain ⟨h1, h2⟩ := Cd.nowAt (Cd.blk hS) k h
  exact ⟨_, _, h1, h2, (Cd.blk hS).free _, (Cd.blk hS).free _⟩

set_option maxHeartbeats 1000000 in
theorem Remove_any (c : Cd) (b0 : Nat) (s : ByteArray) (w : World) (hS : Sep w (c.asn b0)) (hk : c.m.ok) (hs : s.size ≤ 9223372036854775807) :
    Calls Tryd.prog 39 #[.pointer (some ⟨c.g, 0, none⟩), .string s] w (fun e w' => e = .returned (.int .i64 (c.m.remove s).1) ∧ ∃ c' : Cd, c'.g = c.g ∧ c'.m = (c.m.remove s).2 ∧ Step w w' (c.asn b0) (c'.asn b0)) := by
  unfold Dm.remove
  by_cases h : c.m.finds true s = 0
  · rw [if_neg (by simp [h])]
    have hf := finds_ok c true s w (Cd.blk hS) hk.now.len hs h
    obtain ⟨hn, _⟩ := Dm.finds_at h
    have hn' : idx c.now s < c.now.length := hn
    have hS' : ∀ w', Below w.heap.size w w' → Sep w' (c.asn b0) := fun w' hb => hS.below hb (fun _ hk => hS.lt hk)
    have key : ∀ w', Below w.heap.size w w' → _ := fun w' hb => Cd.put_facts (hS' w' hb) _ hn'
    have fin : ∀ w1, Below w.heap.size w w1 → ∃ c' : Cd, c'.g = c.g ∧ c'.m = { c.m with now := c.m.now.set (idx c.m.now s) free } ∧ Step w ((w1.setCell ⟨c.g, 1 + idx c.now s * 2, none⟩ (.string ⟨#[]⟩)).setCell ⟨c.g, 1 + idx c.now s * 2 + 1, none⟩ (.pointer none)) (c.asn b0) (c'.asn b0) :=
      fun w1 hb => ⟨{ c with now := c.now.set (idx c.now s) free }, rfl, rfl, Step.after hS hb (Cd.put (hS' w1 hb) _ hn' free)⟩
    have HF := Lib.hid hf; have HK := Lib.hid key; have HFIN := Lib.hid fin
    clear hf key hS' h hS hk fin
    go_enter Tryd.func39, Tryd.ntmps39
    go_wp2_with fail
    refine HF.out.mono ?_
    rintro e w1 ⟨rfl, hb⟩
    obtain ⟨u, v, k1, k2, k3, k4⟩ := HK.out w1 hb
    clear HK hn hn'
    go_wp2
    go_ret
    exact ⟨rfl, HFIN.out w1 hb⟩
  · rw [if_pos h]
    have hf := finds_err c true s _ w (Cd.blk hS) hk.now.len hs rfl h
    generalize c.m.finds true s = E at hf h
    have HF := Lib.hid hf; have HS := Lib.hid hS
    clear hf hk hS
    have hE1 : (E == 0) = false := by simpa using h
    clear h
    go_enter Tryd.func39, Tryd.ntmps39
    go_wp2_with fail
    refine HF.out.mono ?_
    rintro e w1 ⟨rfl, hb⟩
    go_wp2
    go_ret
    exact ⟨rfl, c, rfl, rfl, HS.out.below hb (fun _ hk => HS.out.lt hk), Mods.of_below hb _, fun _ hk => .inl hk⟩
end Go.Proofs.YtgibdecgmageeaaDoor
