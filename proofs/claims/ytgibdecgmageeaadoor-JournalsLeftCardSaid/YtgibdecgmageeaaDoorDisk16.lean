/- What Fail makes of a table: the plain part. -/
import Derived.Test.YtgibdecgmageeaaDoorDisk9
namespace Go.Proofs.YtgibdecgmageeaaDoor
open Go.RowKit

/-- How many nFiles a table names. -/
def nFiles (t : List Pl) : Nat := (t.filter fun p => p.2.isSome).length
theorem files_snoc (t : List Pl) (p : Pl) : nFiles (t ++ [p]) = nFiles t + (if p.2.isSome then 1 else 0) := by
  unfold nFiles
  rw [List.filter_append, List.length_append]
  cases h : p.2.isSome <;> simp [h]
theorem anewT_append : ∀ (a b : List Pl) (n : Nat), anewT n (a ++ b) = anewT n a ++ anewT (n + nFiles a) b
  | [], b, n => by simp [anewT, nFiles]
  | (s, none) :: a, b, n => by
    have h := anewT_append a b n
    simp only [List.cons_append, anewT]
    rw [h]; simp [nFiles]
  | (s, some i) :: a, b, n => by
    have h := anewT_append a b (n + 1)
    simp only [List.cons_append, anewT]
    rw [h]
    have : nFiles ((s, some i) :: a) = nFiles a + 1 := by simp [nFiles]
    rw [this, show n + (nFiles a + 1) = n + 1 + nFiles a by omega]
theorem length_anewT : ∀ (t : List Pl) (n : Nat), (anewT n t).length = t.length
  | [], _ => rfl
  | (_, none) :: t, n => by simp [anewT, length_anewT t n]
  | (_, some _) :: t, n => by simp [anewT, length_anewT t (n + 1)]
theorem anewR_append (m : Dm) (keep : Int) : ∀ (a b : List Pl), m.anewR keep (a ++ b) = m.anewR keep a ++ m.anewR keep b
  | [], _ => rfl
  | (_, none) :: a, b => by simp only [List.cons_append, Dm.anewR]; exact anewR_append m keep a b
  | (_, some _) :: a, b => by simp only [List.cons_append, Dm.anewR]; rw [anewR_append m keep a b]
theorem length_anewR (m : Dm) (keep : Int) : ∀ t : List Pl, (m.anewR keep t).length = nFiles t
  | [] => rfl
  | (_, none) :: t => by simp only [Dm.anewR]; rw [length_anewR m keep t]; simp [nFiles]
  | (_, some _) :: t => by simp only [Dm.anewR, List.length_cons]; rw [length_anewR m keep t]; simp [nFiles]
/-- Each file of the new table is numbered below the count. -/
theorem anewT_lt : ∀ (t : List Pl) (n : Nat), ∀ p ∈ anewT n t, ∀ i, p.2 = some i → n ≤ i ∧ i < n + nFiles t
  | [], _ => by intro p hp; cases hp
  | (s, none) :: t, n => by
    intro p hp i hi
    simp only [anewT, List.mem_cons] at hp
    rcases hp with rfl | hp
    · cases hi
    · have := anewT_lt t n p hp i hi
      simpa [nFiles] using this
  | (s, some j) :: t, n => by
    intro p hp i hi
    have e : nFiles ((s, some j) :: t) = nFiles t + 1 := by simp [nFiles]
    rw [e]
    simp only [anewT, List.mem_cons] at hp
    rcases hp with rfl | hp
    · have : n = i := Option.some.inj hi
      omega
    · have := anewT_lt t (n + 1) p hp i hi
      omega
theorem anewT_at (t : List Pl) (n i : Nat) : (anewT n t)[i]? = t[i]?.map fun p => (p.1, p.2.map fun _ => n + nFiles (t.take i)) := by
  by_cases h : i < t.length
  · have e : t = t.take i ++ (t[i]'h) :: t.drop (i + 1) := by rw [List.getElem_cons_drop, List.take_append_drop]
    have e2 : anewT n t = anewT n (t.take i) ++ anewT (n + nFiles (t.take i)) ((t[i]'h) :: t.drop (i + 1)) := by
      conv => lhs; rw [e]
      exact anewT_append _ _ _
    have hl : (anewT n (t.take i)).length = i := by rw [length_anewT]; simp; omega
    rw [e2, List.getElem?_append_right (by omega), hl, Nat.sub_self, List.getElem?_eq_getElem h, Option.map_some]
    cases hp : t[i]'h with
    | mk s o => cases o <;> simp [anewT]
  · rw [List.getElem?_eq_none (by rw [length_anewT]; omega), List.getElem?_eq_none (by omega)]; rfl
theorem files_take_lt {t : List Pl} {i j : Nat} (hij : i < j) (h : i < t.length) (hs : (t[i]'h).2.isSome = true) : nFiles (t.take i) < nFiles (t.take j) := by
  have e : t.take j = t.take i ++ ((t[i]'h) :: (t.take j).drop (i + 1)) := by
    have h2 : i < (t.take j).length := by simp; omega
    have : (t.take j) = (t.take j).take i ++ ((t.take j)[i]'h2) :: (t.take j).drop (i + 1) := by rw [List.getElem_cons_drop, List.take_append_drop]
    rw [List.take_take, Nat.min_eq_left (by omega)] at this
    have e3 : (t.take j)[i]'h2 = t[i]'h := by simp
    rw [e3] at this
    exact this
  rw [e]
  unfold nFiles
  rw [List.filter_append, List.length_append]
  simp [hs]
theorem TabOk.anew {n : Nat} {t : List Pl} (h : TabOk n t) : TabOk (nFiles t) (anewT 0 t) := by
  have at_ : ∀ (i : Nat) (p : Pl), (anewT 0 t)[i]? = some p → ∃ q : Pl, t[i]? = some q ∧ p = (q.1, q.2.map fun _ => nFiles (t.take i)) := by
    intro i p hp
    rw [anewT_at] at hp
    cases hq : t[i]? with
    | none => rw [hq] at hp; cases hp
    | some q =>
      rw [hq] at hp
      refine ⟨q, rfl, ?_⟩
      have := (Option.some.inj hp).symm
      rw [this]; simp
  refine ⟨by rw [length_anewT]; exact h.len, ?_, ?_, ?_, ?_⟩
  · intro p hp h2
    obtain ⟨i, hi⟩ := List.getElem?_of_mem hp
    obtain ⟨q, hq, rfl⟩ := at_ i p hi
    exact h.none_ q (List.mem_of_getElem? hq) (by simpa using h2)
  · intro p hp k hk
    obtain ⟨i, hi⟩ := List.getElem?_of_mem hp
    have hlt := (anewT_lt t 0 p hp k hk).2
    obtain ⟨q, hq, rfl⟩ := at_ i p hi
    cases hq2 : q.2 with
    | none => rw [hq2] at hk; cases hk
    | some m => exact ⟨(h.some_ q (List.mem_of_getElem? hq) m hq2).1, by omega⟩
  · intro i j p q hp hq hs he
    obtain ⟨p', hp', rfl⟩ := at_ i p hp
    obtain ⟨q', hq', rfl⟩ := at_ j q hq
    exact h.names i j p' q' hp' hq' (by simpa using hs) he
  · intro i j p q hp hq hs he
    obtain ⟨p', hp', rfl⟩ := at_ i p hp
    obtain ⟨q', hq', rfl⟩ := at_ j q hq
    have hs' : p'.2.isSome = true := by simpa using hs
    have hs2 : q'.2.isSome = true := by
      have he' : (p'.2.map fun _ => nFiles (t.take i)) = (q'.2.map fun _ => nFiles (t.take j)) := he
      have h3 : (q'.2.map fun _ => nFiles (t.take j)).isSome = true := by rw [← he']; exact hs
      simpa using h3
    obtain ⟨hi, hpi⟩ := List.getElem?_eq_some_iff.1 hp'
    obtain ⟨hj, hqj⟩ := List.getElem?_eq_some_iff.1 hq'
    have hf : nFiles (t.take i) = nFiles (t.take j) := by
      cases hp2 : p'.2 with
      | none => rw [hp2] at hs'; cases hs'
      | some a =>
        cases hq2 : q'.2 with
        | none => rw [hq2] at hs2; cases hs2
        | some b => rw [hp2, hq2] at he; simpa using he
    rcases Nat.lt_trichotomy i j with hlt | heq | hlt
    · have := files_take_lt hlt hi (by rw [hpi]; exact hs'); omega
    · exact heq
    · have := files_take_lt hlt hj (by rw [hqj]; exact hs2); omega
theorem kept_ok {keep : Int} {f : List Int × Nat} (h : f.2 ≤ f.1.length ∧ f.1.length ≤ 1048576 ∧ IsU8 f.1) : (kept keep f).2 ≤ (kept keep f).1.length ∧ (kept keep f).1.length ≤ 1048576 ∧ IsU8 (kept keep f).1 := by
  unfold kept
  simp only [List.length_take]
  refine ⟨by omega, by omega, fun x hx => h.2.2 x (List.mem_of_mem_take hx)⟩
theorem anewR_ok {m : Dm} (hk : m.ok) (keep : Int) : ∀ t : List Pl, ∀ f ∈ m.anewR keep t, f.2 ≤ f.1.length ∧ f.1.length ≤ 1048576 ∧ IsU8 f.1
  | [], f, hf => by cases hf
  | (_, none) :: t, f, hf => anewR_ok hk keep t f hf
  | (_, some i) :: t, f, hf => by
    simp only [Dm.anewR, List.mem_cons] at hf
    rcases hf with rfl | hf
    · refine kept_ok ?_
      unfold Dm.row
      by_cases h : i < m.rows.length
      · simp only [List.getD, List.getElem?_eq_getElem h, Option.getD_some]; exact hk.rows _ (List.getElem_mem h)
      · simp only [List.getD, List.getElem?_eq_none (Nat.le_of_not_lt h), Option.getD_none]; simp [IsU8]
    · exact anewR_ok hk keep t f hf
/-- What is left of a disk that is as it must be is so, too. -/
theorem Dm.fail_ok {m : Dm} (hk : m.ok) (keep : Int) (names : Bool) : (m.fail keep names).ok := by
  have ht : TabOk (m.anewR keep (if names then m.now else m.safe)).length (anewT 0 (if names then m.now else m.safe)) := by
    rw [length_anewR]
    cases names
    · exact hk.safe.anew
    · exact hk.now.anew
  exact ⟨hk.size0, hk.size1, ht, ht, anewR_ok hk keep _⟩
end Go.Proofs.YtgibdecgmageeaaDoor
