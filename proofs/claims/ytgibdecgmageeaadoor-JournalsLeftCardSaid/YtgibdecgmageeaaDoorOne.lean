/- Disks with one file: the plain part. -/
import Derived.Test.YtgibdecgmageeaaDoorAlike
namespace Go.Proofs.YtgibdecgmageeaaDoor
open Go.RowKit

theorem Dm.goes_pos {m : Dm} {s : ByteArray} (h : 1 ≤ m.size) (hs : nameB s = true) : m.goes true s = 0 := by
  unfold Dm.goes
  rw [if_neg (by omega), hs]
  rfl
theorem Dm.names_of {m : Dm} (h : 1 ≤ m.size) : m.names = (0, { m with safe := m.now }) := by
  unfold Dm.names
  rw [if_neg (by omega)]
theorem Dm.all_of {m : Dm} {s : ByteArray} (h : m.finds true s = 0) : m.all s = (m.at s).1 := by
  unfold Dm.all Dm.sizeOf
  rw [if_neg (by simp [h])]
  unfold Dm.read
  have e : decide ((0 : Int) ≤ min (0 : Int) ((m.at s).1.length : Int)) = true := by
    rw [decide_eq_true_iff]; omega
  simp only [e]
  rw [if_neg (by simp [h]), if_pos ⟨by omega, by omega⟩]
  simp
abbrev sf : ByteArray := ⟨#[102]⟩
def free64 : List Pl := List.replicate 64 free
/-- A disk whose only name is f's. -/
def one (size : Int) (i : Nat) (safe : List Pl) (rows : List (List Int × Nat)) : Dm := ⟨size, (sf, some i) :: List.replicate 63 free, safe, rows⟩
theorem one_row (size : Int) (i : Nat) (safe : List Pl) (rows : List (List Int × Nat)) (j : Nat) : (one size i safe rows).row j = rows.getD j ([], 0) := rfl
theorem one_idx (size : Int) (i : Nat) (safe : List Pl) (rows : List (List Int × Nat)) : idx (one size i safe rows).now sf = 0 := by
  unfold one idx
  rw [List.findIdx_cons]
  simp
theorem one_goes (size : Int) (i : Nat) (safe : List Pl) (rows : List (List Int × Nat)) (h : 1 ≤ size) : (one size i safe rows).goes true sf = 0 := by
  exact Dm.goes_pos h (by decide)
theorem one_finds (size : Int) (i : Nat) (safe : List Pl) (rows : List (List Int × Nat)) (h : 1 ≤ size) : (one size i safe rows).finds true sf = 0 := by
  unfold Dm.finds
  rw [one_goes size i safe rows h, if_neg (by decide), one_idx, if_pos (by simp [one])]
theorem one_file (size : Int) (i : Nat) (safe : List Pl) (rows : List (List Int × Nat)) : (one size i safe rows).file 0 = i := rfl
theorem one_at (size : Int) (i : Nat) (safe : List Pl) (rows : List (List Int × Nat)) : (one size i safe rows).at sf = rows.getD i ([], 0) := by
  unfold Dm.at; rw [one_idx, one_file, one_row]
theorem leftUp_free (m : Dm) (t : List Pl) (n : Nat) : m.leftUp (t ++ List.replicate n free) = m.leftUp t := by
  induction n with
  | zero => simp
  | succ n ih => rw [List.replicate_succ', ← List.append_assoc, Dm.leftUp_snoc, ih]; simp [free]
theorem one_left (size : Int) (i : Nat) (safe : List Pl) (rows : List (List Int × Nat)) : (one size i safe rows).left = max (size - (rows.getD i ([], 0)).1.length) 0 := by
  rw [Dm.left_eq]
  have h := leftUp_free (one size i safe rows) [(sf, some i)] 63
  have e : (one size i safe rows).now = [(sf, some i)] ++ List.replicate 63 free := rfl
  rw [e, h]
  rfl
theorem one_append (size : Int) (i : Nat) (safe : List Pl) (rows : List (List Int × Nat)) (b : List Int) (h : 1 ≤ size) (hl : ((rows.getD i ([], 0)).1.length : Int) + b.length ≤ size) (hm : (rows.getD i ([], 0)).1.length + b.length ≤ 1048576) :
    (one size i safe rows).append sf b = (0, one size i safe (rows.set i ((rows.getD i ([], 0)).1 ++ b, (rows.getD i ([], 0)).2))) := by
  unfold Dm.append
  rw [one_finds size i safe rows h, if_neg (by decide), one_at, one_idx, one_file, one_left, if_pos ⟨by omega, hm⟩]
  rfl
theorem one_sync (size : Int) (i : Nat) (safe : List Pl) (rows : List (List Int × Nat)) (h : 1 ≤ size) :
    (one size i safe rows).sync sf = (0, one size i safe (rows.set i ((rows.getD i ([], 0)).1, (rows.getD i ([], 0)).1.length))) := by
  unfold Dm.sync
  rw [one_finds size i safe rows h, if_neg (by decide), one_at, one_idx, one_file]
  rfl
theorem one_names (size : Int) (i : Nat) (safe : List Pl) (rows : List (List Int × Nat)) (h : 1 ≤ size) : (one size i safe rows).names = (0, one size i ((sf, some i) :: List.replicate 63 free) rows) := by
  exact Dm.names_of h
theorem one_remove (size : Int) (i : Nat) (safe : List Pl) (rows : List (List Int × Nat)) (h : 1 ≤ size) : (one size i safe rows).remove sf = (0, ⟨size, free64, safe, rows⟩) := by
  unfold Dm.remove
  rw [one_finds size i safe rows h, if_neg (by decide), one_idx]
  rfl
theorem void_names (size : Int) (safe : List Pl) (rows : List (List Int × Nat)) (h : 1 ≤ size) : (⟨size, free64, safe, rows⟩ : Dm).names = (0, ⟨size, free64, free64, rows⟩) := by
  exact Dm.names_of h
theorem idx_free64 (s : ByteArray) (h : s ≠ free.1) : ¬ idx free64 s < free64.length := by
  intro hlt
  have := List.eq_of_mem_replicate (List.getElem_mem (l := free64) hlt)
  have h2 := idx_at hlt
  rw [this] at h2
  exact h h2.symm
theorem void_create (size : Int) (safe : List Pl) (rows : List (List Int × Nat)) (h : 1 ≤ size) : (⟨size, free64, safe, rows⟩ : Dm).create sf = (0, one size rows.length safe (rows ++ [([], 0)])) := by
  unfold Dm.create
  have hg : (⟨size, free64, safe, rows⟩ : Dm).goes true sf = 0 := by
    exact Dm.goes_pos h (by decide)
  rw [hg, if_neg (by decide), if_neg (idx_free64 sf (by decide))]
  have h0 : idx free64 free.1 = 0 := by decide
  show (if idx free64 free.1 < free64.length then _ else _) = _
  rw [h0, if_pos (by decide)]
  rfl
theorem void_list (size : Int) (safe : List Pl) (rows : List (List Int × Nat)) : (⟨size, free64, safe, rows⟩ : Dm).list = [] := by
  rw [Dm.list_eq, show namesOf (⟨size, free64, safe, rows⟩ : Dm).now = [] from (by decide : namesOf free64 = []), sorted_nil]
theorem void_left (size : Int) (safe : List Pl) (rows : List (List Int × Nat)) (h : 0 ≤ size) : (⟨size, free64, safe, rows⟩ : Dm).left = size := by
  rw [Dm.left_eq]
  have h1 := leftUp_free (⟨size, free64, safe, rows⟩ : Dm) [] 64
  rw [List.nil_append] at h1
  rw [show (⟨size, free64, safe, rows⟩ : Dm).now = List.replicate 64 free from rfl, h1]
  show max size 0 = size
  omega
theorem sorted_single (s : ByteArray) : sorted [s] = [s] := by
  unfold sorted
  simp
theorem one_list (size : Int) (i : Nat) (safe : List Pl) (rows : List (List Int × Nat)) : (one size i safe rows).list = [sf] := by
  rw [Dm.list_eq]
  have e : (one size i safe rows).now = [(sf, some i)] ++ List.replicate 63 free := rfl
  have h0 : ((List.replicate 63 free).filter fun p : Pl => p.2.isSome) = [] := by decide
  have : namesOf (one size i safe rows).now = [sf] := by
    rw [e]
    unfold namesOf
    rw [List.filter_append, h0]
    rfl
  rw [this, sorted_single]
theorem one_all (size : Int) (i : Nat) (safe : List Pl) (rows : List (List Int × Nat)) (h : 1 ≤ size) : (one size i safe rows).all sf = (rows.getD i ([], 0)).1 := by
  rw [Dm.all_of (one_finds size i safe rows h), one_at]
theorem one_alike {size : Int} {i j : Nat} {safe safe' : List Pl} {rows rows' : List (List Int × Nat)} (h : 1 ≤ size) (he : (rows.getD i ([], 0)).1 = (rows'.getD j ([], 0)).1) : Alike (one size i safe rows) (one size j safe' rows') := by
  refine ⟨by rw [one_list, one_list], by rw [one_left, one_left, he], fun s hs => ?_⟩
  rw [one_list] at hs
  obtain rfl := List.mem_singleton.1 hs
  rw [one_all size i safe rows h, one_all size j safe' rows' h, he]
/-- What is left of a table with one file hangs on that file's row alone. -/
theorem fail_one (m : Dm) (keep : Int) (i : Nat) : anewT 0 ((sf, some i) :: List.replicate 63 free) = (sf, some 0) :: List.replicate 63 free ∧ m.anewR keep ((sf, some i) :: List.replicate 63 free) = [kept keep (m.row i)] := by
  constructor
  · rfl
  · rfl
end Go.Proofs.YtgibdecgmageeaaDoor
