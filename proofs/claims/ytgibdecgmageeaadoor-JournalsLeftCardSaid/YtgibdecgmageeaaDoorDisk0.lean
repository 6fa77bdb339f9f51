/- A disk and what is done with it: the plain mathematics of layer 17. Nothing of the program stands here. -/
import Derived.Test.YtgibdecgmageeaaDoorNum
namespace Go.Proofs.YtgibdecgmageeaaDoor
open Go.RowKit

/-- A place in a table: a name, and the number of its file's row. -/
abbrev Pl := ByteArray × Option Nat
def mayL : List UInt8 := [97, 98, 99, 100, 101, 102, 103, 104, 105, 106, 107, 108, 109, 110, 111, 112, 113, 114, 115, 116, 117, 118, 119, 120, 121, 122, 48, 49, 50, 51, 52, 53, 54, 55, 56, 57, 45, 46]
/-- May the name be? -/
def nameB (s : ByteArray) : Bool := decide (0 < s.size ∧ s.size ≤ 16) && s.data.toList.all fun b => mayL.contains b

/-- A disk: its size, the tables of names, the rows (bytes, mark) of all files there ever were. -/
structure Dm where
  size : Int
  now : List Pl
  safe : List Pl
  rows : List (List Int × Nat)

def free : Pl := (⟨#[]⟩, none)
def newDm (size : Int) : Dm := ⟨size, List.replicate 64 free, List.replicate 64 free, []⟩

/-- Where a name stands; as many as there are places: nowhere. -/
def idx (t : List Pl) (s : ByteArray) : Nat := t.findIdx fun p => decide (p.1 = s)
def Dm.row (m : Dm) (i : Nat) : List Int × Nat := m.rows.getD i ([], 0)
def Dm.goes (m : Dm) (ok : Bool) (s : ByteArray) : Int := if m.size < 1 then 2 else if ok && nameB s then 0 else 1
/-- The error of a call on a name that is to be there. -/
def Dm.finds (m : Dm) (ok : Bool) (s : ByteArray) : Int := if m.goes ok s ≠ 0 then m.goes ok s else if idx m.now s < m.now.length then 0 else 7
/-- The row of the file whose name stands at a place. -/
def Dm.file (m : Dm) (k : Nat) : Nat := ((m.now.getD k free).2).getD 0
def Dm.at (m : Dm) (s : ByteArray) : List Int × Nat := m.row (m.file (idx m.now s))
def Dm.left (m : Dm) : Int := max (m.now.foldl (fun n p => match p.2 with | some i => n - (m.row i).1.length | none => n) m.size) 0

def Dm.create (m : Dm) (s : ByteArray) : Int × Dm :=
  if m.goes true s ≠ 0 then (m.goes true s, m) else
  if idx m.now s < m.now.length then (8, m) else
  if idx m.now free.1 < m.now.length then (0, { m with now := m.now.set (idx m.now free.1) (s, some m.rows.length), rows := m.rows ++ [([], 0)] }) else (6, m)
def Dm.remove (m : Dm) (s : ByteArray) : Int × Dm :=
  if m.finds true s ≠ 0 then (m.finds true s, m) else (0, { m with now := m.now.set (idx m.now s) free })
def Dm.clear (m : Dm) (s : ByteArray) : List Pl := if idx m.now s < m.now.length then m.now.set (idx m.now s) free else m.now
def Dm.rename (m : Dm) (a b : ByteArray) : Int × Dm :=
  if m.goes true b ≠ 0 then (m.goes true b, m) else
  if m.finds true a ≠ 0 then (m.finds true a, m) else
  if a = b then (0, m) else (0, { m with now := (m.clear b).set (idx m.now a) (b, (m.now.getD (idx m.now a) free).2) })
def Dm.append (m : Dm) (s : ByteArray) (b : List Int) : Int × Dm :=
  if m.finds true s ≠ 0 then (m.finds true s, m) else
  if (b.length : Int) ≤ m.left ∧ (m.at s).1.length + b.length ≤ 1048576 then (0, { m with rows := m.rows.set (m.file (idx m.now s)) ((m.at s).1 ++ b, (m.at s).2) }) else (6, m)
def Dm.read (m : Dm) (s : ByteArray) (a n : Int) : List Int × Int :=
  if m.finds (decide (0 ≤ min a n)) s ≠ 0 then ([], m.finds (decide (0 ≤ min a n)) s) else
  if a ≤ (m.at s).1.length ∧ n ≤ (m.at s).1.length - a then (((m.at s).1.drop a.toNat).take n.toNat, 0) else ([], 5)
def Dm.sizeOf (m : Dm) (s : ByteArray) : Int × Int := if m.finds true s ≠ 0 then (0, m.finds true s) else ((m.at s).1.length, 0)
def Dm.sync (m : Dm) (s : ByteArray) : Int × Dm :=
  if m.finds true s ≠ 0 then (m.finds true s, m) else (0, { m with rows := m.rows.set (m.file (idx m.now s)) ((m.at s).1, (m.at s).1.length) })
def Dm.names (m : Dm) : Int × Dm := if m.size < 1 then (2, m) else (0, { m with safe := m.now })
/-- Texts in order. -/
def sorted (l : List ByteArray) : List ByteArray := ((l.map fun s => s.data.toList).mergeSort fun x y => decide (x ≤ y)).map fun l => ⟨l.toArray⟩
def Dm.list (m : Dm) : List ByteArray := sorted ((m.now.filter fun p => p.2.isSome).map (·.1))
/-- What is left of a row. -/
def kept (keep : Int) (f : List Int × Nat) : List Int × Nat := let n := f.2 + min keep.toNat (f.1.length - f.2); (f.1.take n, n)
/-- The names of a table, each with a row of its own, numbered on from n. -/
def anewT : Nat → List Pl → List Pl
  | _, [] => []
  | n, (s, none) :: r => (s, none) :: anewT n r
  | n, (s, some _) :: r => (s, some n) :: anewT (n + 1) r
/-- These rows. -/
def Dm.anewR (m : Dm) (keep : Int) : List Pl → List (List Int × Nat)
  | [] => []
  | (_, none) :: r => m.anewR keep r
  | (_, some i) :: r => kept keep (m.row i) :: m.anewR keep r
def Dm.fail (m : Dm) (keep : Int) (names : Bool) : Dm :=
  ⟨m.size, anewT 0 (if names then m.now else m.safe), anewT 0 (if names then m.now else m.safe), m.anewR keep (if names then m.now else m.safe)⟩

/-- A table that is as it must be, where there are so many rows: 64 places; a place has a name just if it has a file; names, and files, differ. -/
structure TabOk (n : Nat) (t : List Pl) : Prop where
  len : t.length = 64
  none_ : ∀ p ∈ t, p.2 = none → p.1 = free.1
  some_ : ∀ p ∈ t, ∀ i, p.2 = some i → nameB p.1 = true ∧ i < n
  names : ∀ (i j : Nat) (p q : Pl), t[i]? = some p → t[j]? = some q → p.2.isSome → p.1 = q.1 → i = j
  files : ∀ (i j : Nat) (p q : Pl), t[i]? = some p → t[j]? = some q → p.2.isSome → p.2 = q.2 → i = j
structure Dm.ok (m : Dm) : Prop where
  size0 : 0 ≤ m.size
  size1 : m.size ≤ 8388608
  now : TabOk m.rows.length m.now
  safe : TabOk m.rows.length m.safe
  rows : ∀ f ∈ m.rows, f.2 ≤ f.1.length ∧ f.1.length ≤ 1048576 ∧ IsU8 f.1

theorem idx_le (t : List Pl) (s : ByteArray) : idx t s ≤ t.length := List.findIdx_le_length
theorem idx_at {t : List Pl} {s : ByteArray} (h : idx t s < t.length) : (t[idx t s]'h).1 = s := by
  have := List.findIdx_getElem (w := h)
  exact of_decide_eq_true this
theorem idx_ahead {t : List Pl} {s : ByteArray} {j : Nat} (hj : j < idx t s) (h : j < t.length) : (t[j]'h).1 ≠ s := by
  have := List.not_of_lt_findIdx hj
  simpa using this
theorem idx_eq {t : List Pl} {s : ByteArray} {j : Nat} (h : j < t.length) (he : (t[j]'h).1 = s) (hn : ∀ i (hi : i < j), (t[i]'(by omega)).1 ≠ s) : idx t s = j := by
  unfold idx
  rw [List.findIdx_eq h]
  exact ⟨by simpa using he, fun i hi => by simpa using hn i hi⟩
theorem idx_none {t : List Pl} {s : ByteArray} (h : ¬ idx t s < t.length) : ∀ p ∈ t, p.1 ≠ s := by
  intro p hp e
  exact h (List.findIdx_lt_length_of_exists ⟨p, hp, by simpa using e⟩)
theorem nameB_ne {s : ByteArray} (h : nameB s = true) : s ≠ free.1 := by
  rintro rfl
  simp [nameB, free, ByteArray.size] at h
end Go.Proofs.YtgibdecgmageeaaDoor
