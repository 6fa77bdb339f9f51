/- A disk in memory. -/
import Derived.Test.YtgibdecgmageeaaDoorBas
import Derived.Test.YtgibdecgmageeaaDoorSep
import Derived.Test.YtgibdecgmageeaaDoorDisk0
namespace Go.Proofs.YtgibdecgmageeaaDoor
open Go.RowKit

/-- A file's row in memory: its block, its slice, its bytes, its mark. -/
structure RowC where
  r : Nat
  v : Value
  bs : List Int
  mark : Nat
def RowC.cells (x : RowC) : List Value := [x.v, .int .i64 x.mark]
def RowC.asn (b0 : Nat) (x : RowC) : Asn where
  foot k := k = x.r ∨ x.v.ownBlock = some k
  holds w := Blk w x.r 101 x.cells ∧ Own w b0 5 1 x.v x.bs.length (U8 x.bs) ∧ x.v.ownBlock ≠ some x.r ∧ b0 ≤ x.r
  lt h hk := by
    rcases hk with rfl | hk
    · exact h.1.lt
    · exact (h.2.1.lt _ hk).2
  stable h hm hd := ⟨h.1.mods hm (hd _ (.inl rfl)), h.2.1.mods hm (fun g hg => hd g (.inr hg)), h.2.2⟩
def plCells (rows : List RowC) (p : Pl) : List Value := [.string p.1, .pointer (p.2.bind fun i => rows[i]?.map fun x => ⟨x.r, 0, none⟩)]
def tabCells (rows : List RowC) (t : List Pl) : List Value := t.flatMap (plCells rows)
/-- A disk in memory: its block, and its files' rows. -/
structure Cd where
  g : Nat
  size : Int
  now : List Pl
  safe : List Pl
  rows : List RowC
def Cd.m (c : Cd) : Dm := ⟨c.size, c.now, c.safe, c.rows.map fun x => (x.bs, x.mark)⟩
def Cd.cells (c : Cd) : List Value := .int .i64 c.size :: (tabCells c.rows c.now ++ tabCells c.rows c.safe)
def Cd.asn (b0 : Nat) (c : Cd) : List Asn := Asn.blk c.g 72 c.cells :: c.rows.map (RowC.asn b0)

/-- Where a disk's memory lies. -/
theorem Cd.base {w : World} {c : Cd} {b0 : Nat} (h : Sep w (c.asn b0)) (hg : b0 ≤ c.g) : ∀ k, foots (c.asn b0) k → b0 ≤ k := by
  rintro k ⟨a, ha, hk⟩
  rcases List.mem_cons.1 ha with rfl | h2
  · have : k = c.g := hk
    omega
  · obtain ⟨x, hx, rfl⟩ := List.mem_map.1 h2
    have hh : (x.asn b0).holds w := h.1 _ ha
    rcases hk with rfl | hk
    · exact hh.2.2.2
    · exact (hh.2.1.lt k hk).1

theorem length_tabCells (rows : List RowC) (t : List Pl) : (tabCells rows t).length = t.length * 2 := by
  induction t with
  | nil => rfl
  | cons a r ih => simp only [tabCells, List.flatMap_cons, List.length_append] at ih ⊢; rw [ih]; simp [plCells]; omega
theorem tabCells_append (rows : List RowC) (a b : List Pl) : tabCells rows (a ++ b) = tabCells rows a ++ tabCells rows b := by simp [tabCells]
theorem tabCells_at (rows : List RowC) (t : List Pl) (i : Nat) (h : i < t.length) (q : List Value) :
    (tabCells rows t ++ q)[i * 2]? = some (.string (t[i]'h).1) ∧ (tabCells rows t ++ q)[i * 2 + 1]? = some (.pointer ((t[i]'h).2.bind fun i => rows[i]?.map fun x => ⟨x.r, 0, none⟩)) := by
  have e : t = t.take i ++ (t[i]'h) :: t.drop (i + 1) := by rw [List.getElem_cons_drop, List.take_append_drop]
  have hl : (tabCells rows (t.take i)).length = i * 2 := by rw [length_tabCells, List.length_take, Nat.min_eq_left (by omega)]
  have e2 : tabCells rows t ++ q = tabCells rows (t.take i) ++ (plCells rows (t[i]'h) ++ (tabCells rows (t.drop (i + 1)) ++ q)) := by
    conv => lhs; rw [e]
    rw [tabCells_append, List.append_assoc]
    unfold tabCells
    rw [List.flatMap_cons, List.append_assoc]
  rw [e2]
  refine ⟨?_, ?_⟩ <;> (rw [List.getElem?_append_right (by omega), hl]; simp [plCells])
/-- A table that stands at cell o of block g. -/
def TabAt (w : World) (g o : Nat) (rows : List RowC) (t : List Pl) : Prop :=
  ∀ i (h : i < t.length), w.cell? ⟨g, o + i * 2, none⟩ = some (.string (t[i]'h).1) ∧ w.cell? ⟨g, o + i * 2 + 1, none⟩ = some (.pointer ((t[i]'h).2.bind fun i => rows[i]?.map fun x => ⟨x.r, 0, none⟩))
theorem TabAt.below {w w' : World} {g o B : Nat} {rows : List RowC} {t : List Pl} (h : TabAt w g o rows t) (hb : Below B w w') (hg : g < B) : TabAt w' g o rows t := fun i hi => by
  rw [hb.cell (p := ⟨g, o + i * 2, none⟩) hg, hb.cell (p := ⟨g, o + i * 2 + 1, none⟩) hg]; exact h i hi
theorem Cd.nowAt {w : World} {c : Cd} (h : Blk w c.g 72 c.cells) : TabAt w c.g 1 c.rows c.now := fun i hi => by
  obtain ⟨h1, h2⟩ := tabCells_at c.rows c.now i hi (tabCells c.rows c.safe)
  rw [h.cell, h.cell]
  refine ⟨?_, ?_⟩
  · rw [← h1]; unfold Cd.cells; rw [Nat.add_comm 1, List.getElem?_cons_succ]
  · rw [← h2]; unfold Cd.cells; rw [show 1 + i * 2 + 1 = (i * 2 + 1) + 1 by omega, List.getElem?_cons_succ]
end Go.Proofs.YtgibdecgmageeaaDoor
