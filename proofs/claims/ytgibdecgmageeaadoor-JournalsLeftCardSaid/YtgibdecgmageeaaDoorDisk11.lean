/- Names, New walked. -/
import Derived.Test.YtgibdecgmageeaaDoorDisk9
namespace Go.Proofs.YtgibdecgmageeaaDoor
open Go.RowKit

theorem Blk.setCells {g : Nat} {e : TypeId} : ∀ (vs old l r : List Value) (o : Nat) (w : World), Blk w g e (l ++ (old ++ r)) → old.length = vs.length → o = l.length → Blk (w.setCells g o vs) g e (l ++ (vs ++ r))
  | [], old, l, r, o, w, h, hl, _ => by
    have : old = [] := List.eq_nil_of_length_eq_zero hl
    subst this; exact h
  | v :: vs, [], l, r, o, w, h, hl, _ => by simp at hl
  | v :: vs, u :: old, l, r, o, w, h, hl, ho => by
    rw [World.setCells]
    have h1 := h.set o v
    rw [ho, List.set_append_right _ _ (Nat.le_refl _), Nat.sub_self, List.cons_append, List.set_cons_zero] at h1
    have h2 := Blk.setCells vs old (l ++ [v]) r (o + 1) (w.setCell ⟨g, o, none⟩ v) (by rw [List.append_assoc, List.singleton_append, ho]; exact h1) (by simpa using hl) (by simp [ho])
    rw [List.append_assoc] at h2
    exact h2
theorem Mods.setCells_ {g : Nat} {a : World} : ∀ (vs : List Value) (o : Nat) (w : World), Mods (· = g) a w → Mods (· = g) a (w.setCells g o vs)
  | [], _, _, h => h
  | v :: r, o, w, h => by rw [World.setCells]; exact Mods.setCells_ r (o + 1) _ (h.putg o v)
theorem oneCell_tab (rows : List RowC) (t : List Pl) : ∀ v ∈ tabCells rows t, v.oneCell' = true := by
  intro v hv
  unfold tabCells at hv
  obtain ⟨p, _, hp⟩ := List.mem_flatMap.1 hv
  unfold plCells at hp
  simp at hp
  rcases hp with rfl | rfl <;> rfl

theorem Names_nil (w : World) : Calls Tryd.prog 28 #[.pointer none] w (fun e w' => e = .returned (.int .i64 2) ∧ w = w') := by
  go_enter Tryd.func28, Tryd.ntmps28
  go_wp2
  go_ret
  exact ⟨rfl, rfl⟩

set_option maxRecDepth 100000 in
set_option maxHeartbeats 1000000 in
theorem Names_len (c : Cd) (b0 : Nat) (w : World) (hS : Sep w (c.asn b0)) (hl : c.now.length = 64) (hls : c.safe.length = 64) :
    Calls Tryd.prog 28 #[.pointer (some ⟨c.g, 0, none⟩)] w (fun e w' => e = .returned (.int .i64 (c.m.names).1) ∧ ∃ c' : Cd, c'.g = c.g ∧ c'.m = (c.m.names).2 ∧ Step w w' (c.asn b0) (c'.asn b0)) := by
  have hB := Cd.blk hS
  have hsc := Cd.size_cell hB
  unfold Dm.names
  by_cases hz : c.m.size < 1
  · rw [if_pos hz]
    have hz' : c.size < 1 := hz
    have HSTAY : Hid (∃ c' : Cd, c'.g = c.g ∧ c'.m = c.m ∧ Step w w (c.asn b0) (c'.asn b0)) := ⟨c, rfl, rfl, Step.refl hS⟩
    clear hB hS hz hl hls
    go_enter Tryd.func28, Tryd.ntmps28
    go_wp2
    go_ret
    exact ⟨rfl, HSTAY.out⟩
  · rw [if_neg hz]
    have hz' : 1 ≤ c.size := by have : ¬ c.size < 1 := hz; omega
    have hrange := Cd.tab_range hB
    have hlen : (Tryd.prog.info? 70).map (·.size) = some (tabCells c.rows c.now).length := by rw [Tryd.sizeTable, length_tabCells, hl]
    have hlen2 : (Tryd.prog.info? 70).map (·.size) = some (tabCells c.rows c.now).toArray.size := by rw [hlen]; simp
    have hone : ((tabCells c.rows c.now).toArray).all (·.oneCell') = true := all_oneCell_toArray (oneCell_tab _ _)
    have hth : w.there c.g 129 (tabCells c.rows c.now).toArray.size := by
      intro j hj
      have hj' : j < 128 := by simp [length_tabCells, hl] at hj; exact hj
      refine ⟨?_, hB.free _⟩
      rw [hB.cell]
      have : 129 + j < c.cells.length := by unfold Cd.cells; simp [length_tabCells, hl, hls]; omega
      rw [List.getElem?_eq_getElem this]; rfl
    have fin : ∃ c' : Cd, c'.g = c.g ∧ c'.m = { c.m with safe := c.m.now } ∧ Step w (w.setCells c.g 129 (tabCells c.rows c.now).toArray.toList) (c.asn b0) (c'.asn b0) := by
      refine ⟨{ c with safe := c.now }, rfl, rfl, ?_⟩
      have h1 : Step w (w.setCells c.g 129 (tabCells c.rows c.now).toArray.toList) [Asn.blk c.g 72 c.cells] [Asn.blk c.g 72 ({ c with safe := c.now } : Cd).cells] := by
        refine ⟨Sep.one.2 ?_, (Mods.setCells_ _ _ _ (Mods.refl _ _)).mono (fun k _ hk => foots_cons.2 (.inl hk)), fun k hk => .inl ?_⟩
        · have := Blk.setCells (tabCells c.rows c.now) (tabCells c.rows c.safe) (.int .i64 c.size :: tabCells c.rows c.now) [] 129 w (by rw [List.append_nil, List.cons_append]; exact hB) (by rw [length_tabCells, length_tabCells, hl, hls]) (by simp [length_tabCells, hl])
          rw [List.append_nil, List.cons_append] at this
          exact this
        · rcases foots_cons.1 hk with h | h
          · exact foots_cons.2 (.inl h)
          · exact absurd h foots_nil
      exact h1.frame (A := [_]) (A' := [_]) (R := c.rows.map (RowC.asn b0)) hS
    generalize tabCells c.rows c.now = C at hrange hlen hlen2 hone hth fin
    have HR := Lib.hid hrange; have HL := Lib.hid hlen; have HL2 := Lib.hid hlen2; have HO := Lib.hid hone; have HT := Lib.hid hth; have HFIN := Lib.hid fin
    clear hB hS hz hrange hlen hlen2 hone hth fin hl hls
    go_enter Tryd.func28, Tryd.ntmps28
    go_wp2_with (first | (refine wpList_load_mid rfl 70 (.tmp 15) rfl c.g 1 rfl C _ HR.out Tryd.underlying70 rfl HL.out ?_) | (refine wpList_store_mid rfl 70 (.tmp 18) (.tmp 16) rfl c.g 129 C.toArray rfl rfl HT.out HL2.out HO.out ?_))
    go_ret
    exact ⟨rfl, HFIN.out⟩

theorem Names_any (c : Cd) (b0 : Nat) (w : World) (hS : Sep w (c.asn b0)) (hk : c.m.ok) :
    Calls Tryd.prog 28 #[.pointer (some ⟨c.g, 0, none⟩)] w (fun e w' => e = .returned (.int .i64 (c.m.names).1) ∧ ∃ c' : Cd, c'.g = c.g ∧ c'.m = (c.m.names).2 ∧ Step w w' (c.asn b0) (c'.asn b0)) :=
  Names_len c b0 w hS hk.now.len hk.safe.len

/-- A new disk's cells. -/
def newCells (z : Int) : List Value := .int .i64 z :: (tabCells [] (List.replicate 64 free) ++ tabCells [] (List.replicate 64 free))
theorem built_new (z : Int) : Tryd.prog.built 72 [(0, .int .i64 z)] = some (newCells z).toArray := by kernel_rfl
theorem run_build_new (z : Int) (w : World) : (Instr.build 72 #[(0, .int .i64 z)]).run Tryd.prog w = .ok (.agg (newCells z).toArray) w := run_build w _ _ _ (built_new z)
end Go.Proofs.YtgibdecgmageeaaDoor
