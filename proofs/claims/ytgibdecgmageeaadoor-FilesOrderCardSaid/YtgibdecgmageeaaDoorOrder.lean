/- Disks with the two files "a" and "b": the plain part of FilesOrder. -/
import Derived.Test.YtgibdecgmageeaaDoorOne
import Derived.Test.YtgibdecgmageeaaDoorConv
namespace Go.Proofs.YtgibdecgmageeaaDoor
open Go.RowKit

def twoT : List Pl := (⟨#[97]⟩, some 0) :: (⟨#[98]⟩, some 1) :: List.replicate 62 free
abbrev both (f g : List Int × Nat) : Dm := ⟨50000, twoT, free64, [f, g]⟩
/-- A file after i pieces: made safe after each whose number is 1 mod 3. -/
def fil (l : List ByteArray) : Nat → List Int × Nat
  | 0 => ([], 0)
  | i + 1 => ((fil l i).1 ++ bys (l.getD i ⟨#[]⟩), if i % 3 = 1 then ((fil l i).1 ++ bys (l.getD i ⟨#[]⟩)).length else (fil l i).2)
def sizes (l : List ByteArray) : Nat := (l.map ByteArray.size).sum
theorem fil_len (l : List ByteArray) : ∀ i, i ≤ l.length → (fil l i).1.length = sizes (l.take i)
  | 0, _ => by simp [fil, sizes]
  | i + 1, h => by
    have hi : i < l.length := h
    rw [List.take_succ_eq_append_getElem hi]
    show ((fil l i).1 ++ bys (l.getD i ⟨#[]⟩)).length = _
    rw [List.length_append, fil_len l i (Nat.le_of_lt hi), length_bys]
    have e1 : l.getD i ⟨#[]⟩ = l[i]'hi := by simp [List.getD, hi]
    rw [e1]
    unfold sizes
    rw [List.map_append, List.sum_append]
    simp only [List.map_cons, List.map_nil, List.sum_cons, List.sum_nil]
    omega
theorem sizes_take (l : List ByteArray) (i : Nat) : sizes (l.take i) ≤ sizes l := by
  conv => rhs; rw [← List.take_append_drop i l]
  unfold sizes
  rw [List.map_append, List.sum_append]
  omega
theorem fil_le (l : List ByteArray) (i : Nat) (h : i ≤ l.length) : (fil l i).1.length ≤ sizes l := by
  rw [fil_len l i h]; exact sizes_take l i

theorem both_create_a : (newDm 50000).create ⟨#[97]⟩ = (0, ⟨50000, (⟨#[97]⟩, some 0) :: List.replicate 63 free, free64, [([], 0)]⟩) := Prod.ext (by kernel_rfl) (by kernel_rfl)
theorem both_create_b : (⟨50000, (⟨#[97]⟩, some 0) :: List.replicate 63 free, free64, [([], 0)]⟩ : Dm).create ⟨#[98]⟩ = (0, both ([], 0) ([], 0)) := Prod.ext (by kernel_rfl) (by kernel_rfl)
section
variable (f g : List Int × Nat) (p : List Int)
theorem both_goes (s : ByteArray) (h : nameB s = true) : (both f g).goes true s = 0 := Dm.goes_pos (show (1 : Int) ≤ 50000 by omega) h
theorem idx_a : idx twoT ⟨#[97]⟩ = 0 := by decide
theorem idx_b : idx twoT ⟨#[98]⟩ = 1 := by decide
theorem both_finds_a : (both f g).finds true ⟨#[97]⟩ = 0 := by
  unfold Dm.finds
  rw [both_goes f g _ (by decide), if_neg (by decide)]
  show (if idx twoT ⟨#[97]⟩ < twoT.length then (0 : Int) else 7) = 0
  rw [idx_a]; rfl
theorem both_finds_b : (both f g).finds true ⟨#[98]⟩ = 0 := by
  unfold Dm.finds
  rw [both_goes f g _ (by decide), if_neg (by decide)]
  show (if idx twoT ⟨#[98]⟩ < twoT.length then (0 : Int) else 7) = 0
  rw [idx_b]; rfl
theorem both_at_a : (both f g).at ⟨#[97]⟩ = f := by
  unfold Dm.at
  show (both f g).row ((both f g).file (idx twoT ⟨#[97]⟩)) = f
  rw [idx_a]; rfl
theorem both_at_b : (both f g).at ⟨#[98]⟩ = g := by
  unfold Dm.at
  show (both f g).row ((both f g).file (idx twoT ⟨#[98]⟩)) = g
  rw [idx_b]; rfl
theorem both_left : (both f g).left = max ((50000 : Int) - f.1.length - g.1.length) 0 := by
  rw [Dm.left_eq]
  have h := leftUp_free (both f g) [(⟨#[97]⟩, some 0), (⟨#[98]⟩, some 1)] 62
  have e : (both f g).now = [(⟨#[97]⟩, some 0), (⟨#[98]⟩, some 1)] ++ List.replicate 62 free := rfl
  rw [e, h]
  rfl
theorem both_append_a (h : f.1.length + g.1.length + p.length ≤ 50000) : (both f g).append ⟨#[97]⟩ p = (0, both (f.1 ++ p, f.2) g) := by
  unfold Dm.append
  rw [both_finds_a, if_neg (by decide), both_at_a, both_left, if_pos ⟨by omega, by omega⟩]
  show ((0 : Int), ({ (both f g) with rows := [f, g].set ((both f g).file (idx twoT ⟨#[97]⟩)) (f.1 ++ p, f.2) } : Dm)) = _
  rw [idx_a]; rfl
theorem both_append_b (h : f.1.length + g.1.length + p.length ≤ 50000) : (both f g).append ⟨#[98]⟩ p = (0, both f (g.1 ++ p, g.2)) := by
  unfold Dm.append
  rw [both_finds_b, if_neg (by decide), both_at_b, both_left, if_pos ⟨by omega, by omega⟩]
  show ((0 : Int), ({ (both f g) with rows := [f, g].set ((both f g).file (idx twoT ⟨#[98]⟩)) (g.1 ++ p, g.2) } : Dm)) = _
  rw [idx_b]; rfl
theorem both_sync_a : (both f g).sync ⟨#[97]⟩ = (0, both (f.1, f.1.length) g) := by
  unfold Dm.sync
  rw [both_finds_a, if_neg (by decide), both_at_a]
  show ((0 : Int), ({ (both f g) with rows := [f, g].set ((both f g).file (idx twoT ⟨#[97]⟩)) (f.1, f.1.length) } : Dm)) = _
  rw [idx_a]; rfl
theorem both_sync_b : (both f g).sync ⟨#[98]⟩ = (0, both f (g.1, g.1.length)) := by
  unfold Dm.sync
  rw [both_finds_b, if_neg (by decide), both_at_b]
  show ((0 : Int), ({ (both f g) with rows := [f, g].set ((both f g).file (idx twoT ⟨#[98]⟩)) (g.1, g.1.length) } : Dm)) = _
  rw [idx_b]; rfl
end
section
variable (X Y : List ByteArray) (i j : Nat)
/-- The appends and the syncs of a round. -/
theorem step_a (hi : i < X.length) (hj : j ≤ Y.length) (hs : sizes X + sizes Y ≤ 20000) : (both (fil X i) (fil Y j)).append ⟨#[97]⟩ (bys (X.getD i ⟨#[]⟩)) = (0, both ((fil X (i + 1)).1, (fil X i).2) (fil Y j)) := by
  have h1 := fil_le X (i + 1) hi
  have h2 := fil_le Y j hj
  have e : (fil X (i + 1)).1 = (fil X i).1 ++ bys (X.getD i ⟨#[]⟩) := rfl
  rw [e, List.length_append] at h1
  rw [both_append_a _ _ _ (by omega), e]
theorem step_b (hi : i ≤ X.length) (hj : j < Y.length) (hs : sizes X + sizes Y ≤ 20000) : (both (fil X i) (fil Y j)).append ⟨#[98]⟩ (bys (Y.getD j ⟨#[]⟩)) = (0, both (fil X i) ((fil Y (j + 1)).1, (fil Y j).2)) := by
  have h1 := fil_le X i hi
  have h2 := fil_le Y (j + 1) hj
  have e : (fil Y (j + 1)).1 = (fil Y j).1 ++ bys (Y.getD j ⟨#[]⟩) := rfl
  rw [e, List.length_append] at h2
  rw [both_append_b _ _ _ (by omega), e]
theorem safe_a (h : i % 3 = 1) : (both ((fil X (i + 1)).1, (fil X i).2) (fil Y j)).sync ⟨#[97]⟩ = (0, both (fil X (i + 1)) (fil Y j)) := by
  rw [both_sync_a]
  have : fil X (i + 1) = ((fil X (i + 1)).1, (fil X (i + 1)).1.length) := Prod.ext rfl (by show (if i % 3 = 1 then _ else _) = _; rw [if_pos h]; rfl)
  conv => rhs; rw [this]
theorem safe_b (h : j % 3 = 1) : (both (fil X i) ((fil Y (j + 1)).1, (fil Y j).2)).sync ⟨#[98]⟩ = (0, both (fil X i) (fil Y (j + 1))) := by
  rw [both_sync_b]
  have : fil Y (j + 1) = ((fil Y (j + 1)).1, (fil Y (j + 1)).1.length) := Prod.ext rfl (by show (if j % 3 = 1 then _ else _) = _; rw [if_pos h]; rfl)
  conv => rhs; rw [this]
theorem none_a (h : i % 3 ≠ 1) : both ((fil X (i + 1)).1, (fil X i).2) (fil Y j) = both (fil X (i + 1)) (fil Y j) := by
  have : fil X (i + 1) = ((fil X (i + 1)).1, (fil X i).2) := Prod.ext rfl (by show (if i % 3 = 1 then _ else _) = _; rw [if_neg h])
  conv => rhs; rw [this]
theorem none_b (h : j % 3 ≠ 1) : both (fil X i) ((fil Y (j + 1)).1, (fil Y j).2) = both (fil X i) (fil Y (j + 1)) := by
  have : fil Y (j + 1) = ((fil Y (j + 1)).1, (fil Y j).2) := Prod.ext rfl (by show (if j % 3 = 1 then _ else _) = _; rw [if_neg h])
  conv => rhs; rw [this]
end
end Go.Proofs.YtgibdecgmageeaaDoor
