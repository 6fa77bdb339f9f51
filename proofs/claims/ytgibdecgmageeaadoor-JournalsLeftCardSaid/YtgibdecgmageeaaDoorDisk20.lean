/- What is done with a disk that is as it must be leaves it so: the plain part. -/
import Derived.Test.YtgibdecgmageeaaDoorDisk16
namespace Go.Proofs.YtgibdecgmageeaaDoor
open Go.RowKit

theorem TabOk.mono {n m : Nat} {t : List Pl} (h : TabOk n t) (hm : n ≤ m) : TabOk m t :=
  ⟨h.len, h.none_, fun p hp i hi => ⟨(h.some_ p hp i hi).1, Nat.lt_of_lt_of_le (h.some_ p hp i hi).2 hm⟩, h.names, h.files⟩
theorem TabOk.set {n : Nat} {t : List Pl} (h : TabOk n t) (k : Nat) (p : Pl) (h0 : p.2 = none → p.1 = free.1) (h1 : ∀ i, p.2 = some i → nameB p.1 = true ∧ i < n)
    (h2 : ∀ (j : Nat) (q : Pl), j ≠ k → t[j]? = some q → p.2.isSome = true → q.2.isSome = true → p.1 ≠ q.1 ∧ p.2 ≠ q.2) : TabOk n (t.set k p) := by
  have at_ : ∀ (i : Nat) (q : Pl), (t.set k p)[i]? = some q → (i = k ∧ q = p) ∨ (i ≠ k ∧ t[i]? = some q) := by
    intro i q hq
    rw [List.getElem?_set] at hq
    by_cases hik : k = i
    · subst hik
      rw [if_pos rfl] at hq
      split at hq
      · exact .inl ⟨rfl, (Option.some.inj hq).symm⟩
      · cases hq
    · rw [if_neg hik] at hq; exact .inr ⟨fun e => hik e.symm, hq⟩
  have name_some : ∀ q : Pl, (∀ i, q.2 = some i → nameB q.1 = true ∧ i < n) → q.2.isSome = true → nameB q.1 = true := by
    intro q hq hs
    obtain ⟨i, hi⟩ := Option.isSome_iff_exists.1 hs
    exact (hq i hi).1
  refine ⟨by rw [List.length_set]; exact h.len, ?_, ?_, ?_, ?_⟩
  · intro q hq hn
    rcases List.mem_or_eq_of_mem_set hq with hq | rfl
    · exact h.none_ q hq hn
    · exact h0 hn
  · intro q hq i hi
    rcases List.mem_or_eq_of_mem_set hq with hq | rfl
    · exact h.some_ q hq i hi
    · exact h1 i hi
  · intro i j a b ha hb hs he
    rcases at_ i a ha with ⟨rfl, rfl⟩ | ⟨hi, ha'⟩ <;> rcases at_ j b hb with ⟨rfl, rfl⟩ | ⟨hj, hb'⟩
    · rfl
    · have hna := name_some a h1 hs
      have hbs : b.2.isSome = true := by
        cases hb2 : b.2 with
        | none => have := h.none_ b (List.mem_of_getElem? hb') hb2; rw [he, this] at hna; exact absurd rfl (nameB_ne hna)
        | some _ => rfl
      exact absurd he (h2 j b hj hb' hs hbs).1
    · have hna := name_some a (h.some_ a (List.mem_of_getElem? ha')) hs
      have hbs : b.2.isSome = true := by
        cases hb2 : b.2 with
        | none => have := h0 hb2; rw [he, this] at hna; exact absurd rfl (nameB_ne hna)
        | some _ => rfl
      exact absurd he.symm (h2 i a hi ha' hbs hs).1
    · exact h.names i j a b ha' hb' hs he
  · intro i j a b ha hb hs he
    have hbs : b.2.isSome = true := by rw [← he]; exact hs
    rcases at_ i a ha with ⟨rfl, rfl⟩ | ⟨hi, ha'⟩ <;> rcases at_ j b hb with ⟨rfl, rfl⟩ | ⟨hj, hb'⟩
    · rfl
    · exact absurd he (h2 j b hj hb' hs hbs).2
    · exact absurd he.symm (h2 i a hi ha' hbs hs).2
    · exact h.files i j a b ha' hb' hs he
theorem TabOk.clear {n : Nat} {t : List Pl} (h : TabOk n t) (k : Nat) : TabOk n (t.set k free) :=
  h.set k free (fun _ => rfl) (fun _ h => by cases h) (fun _ _ _ _ h => by cases h)

theorem Dm.goes_name {m : Dm} {ok : Bool} {s : ByteArray} (h : m.goes ok s = 0) : nameB s = true := by
  unfold Dm.goes at h
  by_cases hz : m.size < 1
  · rw [if_pos hz] at h; cases h
  · rw [if_neg hz] at h
    by_cases h2 : (ok && nameB s) = true
    · simp at h2; exact h2.2
    · rw [if_neg h2] at h; cases h
theorem Dm.create_ok {m : Dm} (hk : m.ok) (s : ByteArray) : (m.create s).2.ok := by
  unfold Dm.create
  by_cases h1 : m.goes true s ≠ 0
  · rw [if_pos h1]; exact hk
  · rw [if_neg h1]
    have h1' : m.goes true s = 0 := by simpa using h1
    by_cases h2 : idx m.now s < m.now.length
    · rw [if_pos h2]; exact hk
    · rw [if_neg h2]
      by_cases h3 : idx m.now free.1 < m.now.length
      · rw [if_pos h3]
        have hl : (m.rows ++ [(([] : List Int), 0)]).length = m.rows.length + 1 := by simp
        refine ⟨hk.size0, hk.size1, ?_, ?_, ?_⟩
        · show TabOk (m.rows ++ [([], 0)]).length (m.now.set _ _)
          rw [hl]
          refine (hk.now.mono (Nat.le_succ _)).set _ _ (fun h => by cases h) (fun i hi => ⟨Dm.goes_name h1', by have := Option.some.inj hi; omega⟩) (fun j q hj hq _ hs => ⟨fun e => ?_, fun e => ?_⟩)
          · exact idx_none h2 q (List.mem_of_getElem? hq) e.symm
          · have := (hk.now.some_ q (List.mem_of_getElem? hq) m.rows.length e.symm).2
            omega
        · show TabOk (m.rows ++ [([], 0)]).length m.safe
          rw [hl]; exact hk.safe.mono (Nat.le_succ _)
        · intro f hf
          rcases List.mem_append.1 hf with hf | hf
          · exact hk.rows f hf
          · simp only [List.mem_singleton] at hf
            subst hf
            exact ⟨Nat.le_refl _, by simp, by intro x hx; cases hx⟩
      · rw [if_neg h3]; exact hk
theorem Dm.remove_ok {m : Dm} (hk : m.ok) (s : ByteArray) : (m.remove s).2.ok := by
  unfold Dm.remove
  by_cases h1 : m.finds true s ≠ 0
  · rw [if_pos h1]; exact hk
  · rw [if_neg h1]; exact ⟨hk.size0, hk.size1, hk.now.clear _, hk.safe, hk.rows⟩
theorem Dm.names_ok {m : Dm} (hk : m.ok) : m.names.2.ok := by
  unfold Dm.names
  by_cases h : m.size < 1
  · rw [if_pos h]; exact hk
  · rw [if_neg h]; exact ⟨hk.size0, hk.size1, hk.now, hk.now, hk.rows⟩
theorem Dm.rowset_ok {m : Dm} (hk : m.ok) (i : Nat) (f : List Int × Nat) (hf : f.2 ≤ f.1.length ∧ f.1.length ≤ 1048576 ∧ IsU8 f.1) : ({ m with rows := m.rows.set i f } : Dm).ok := by
  refine ⟨hk.size0, hk.size1, ?_, ?_, ?_⟩
  · show TabOk (m.rows.set i f).length m.now
    rw [List.length_set]; exact hk.now
  · show TabOk (m.rows.set i f).length m.safe
    rw [List.length_set]; exact hk.safe
  · intro g hg
    rcases List.mem_or_eq_of_mem_set hg with hg | rfl
    · exact hk.rows g hg
    · exact hf
theorem Dm.row_ok {m : Dm} (hk : m.ok) (i : Nat) : (m.row i).2 ≤ (m.row i).1.length ∧ (m.row i).1.length ≤ 1048576 ∧ IsU8 (m.row i).1 := by
  unfold Dm.row
  by_cases h : i < m.rows.length
  · simp only [List.getD, List.getElem?_eq_getElem h, Option.getD_some]; exact hk.rows _ (List.getElem_mem h)
  · simp only [List.getD, List.getElem?_eq_none (Nat.le_of_not_lt h), Option.getD_none]; simp [IsU8]
theorem Dm.append_ok {m : Dm} (hk : m.ok) (s : ByteArray) (b : List Int) (hb : IsU8 b) : (m.append s b).2.ok := by
  unfold Dm.append
  by_cases h1 : m.finds true s ≠ 0
  · rw [if_pos h1]; exact hk
  · rw [if_neg h1]
    by_cases h2 : (b.length : Int) ≤ m.left ∧ (m.at s).1.length + b.length ≤ 1048576
    · rw [if_pos h2]
      have hr := Dm.row_ok hk (m.file (idx m.now s))
      refine Dm.rowset_ok hk _ _ ⟨?_, ?_, isU8_append hr.2.2 hb⟩
      · show (m.at s).2 ≤ ((m.at s).1 ++ b).length
        rw [List.length_append]
        exact Nat.le_trans hr.1 (Nat.le_add_right _ _)
      · show ((m.at s).1 ++ b).length ≤ 1048576
        rw [List.length_append]; exact h2.2
    · rw [if_neg h2]; exact hk
theorem Dm.sync_ok {m : Dm} (hk : m.ok) (s : ByteArray) : (m.sync s).2.ok := by
  unfold Dm.sync
  by_cases h1 : m.finds true s ≠ 0
  · rw [if_pos h1]; exact hk
  · rw [if_neg h1]
    have hr := Dm.row_ok hk (m.file (idx m.now s))
    exact Dm.rowset_ok hk _ _ ⟨Nat.le_refl _, hr.2.1, hr.2.2⟩
theorem Dm.rename_ok {m : Dm} (hk : m.ok) (a b : ByteArray) : (m.rename a b).2.ok := by
  unfold Dm.rename
  by_cases h1 : m.goes true b ≠ 0
  · rw [if_pos h1]; exact hk
  · rw [if_neg h1]
    have h1' : m.goes true b = 0 := by simpa using h1
    by_cases h2 : m.finds true a ≠ 0
    · rw [if_pos h2]; exact hk
    · rw [if_neg h2]
      have h2' : m.finds true a = 0 := by simpa using h2
      by_cases h3 : a = b
      · rw [if_pos h3]; exact hk
      · rw [if_neg h3]
        refine ⟨hk.size0, hk.size1, ?_, hk.safe, hk.rows⟩
        have hgo : m.finds true a = 0 → idx m.now a < m.now.length := by
          intro h
          unfold Dm.finds at h
          by_cases hg : m.goes true a ≠ 0
          · rw [if_pos hg] at h; exact absurd h hg
          · rw [if_neg hg] at h
            by_cases hi : idx m.now a < m.now.length
            · exact hi
            · rw [if_neg hi] at h; cases h
        have hia := hgo h2'
        have hget : (m.now.getD (idx m.now a) free) = m.now[idx m.now a]'hia := by simp [List.getD, hia]
        show TabOk m.rows.length ((m.clear b).set (idx m.now a) (b, (m.now.getD (idx m.now a) free).2))
        rw [hget]
        have hcl : TabOk m.rows.length (m.clear b) := by
          unfold Dm.clear
          by_cases hib : idx m.now b < m.now.length
          · rw [if_pos hib]; exact hk.now.clear _
          · rw [if_neg hib]; exact hk.now
        have hnc : ∀ q ∈ m.clear b, q.2.isSome = true → q.1 ≠ b := by
          intro q hq hs e
          unfold Dm.clear at hq
          by_cases hib : idx m.now b < m.now.length
          · rw [if_pos hib] at hq
            obtain ⟨j, hj⟩ := List.getElem?_of_mem hq
            rw [List.getElem?_set] at hj
            by_cases hjk : idx m.now b = j
            · rw [if_pos hjk, if_pos hib] at hj
              obtain rfl := Option.some.inj hj
              cases hs
            · rw [if_neg hjk] at hj
              have := hk.now.names j (idx m.now b) q (m.now[idx m.now b]'hib) hj (List.getElem?_eq_getElem hib) hs (by rw [idx_at hib]; exact e)
              exact hjk this.symm
          · rw [if_neg hib] at hq
            exact idx_none hib q hq e
        have hold : ∀ (j : Nat) (q : Pl), (m.clear b)[j]? = some q → q.2.isSome = true → m.now[j]? = some q := by
          intro j q hq hs
          unfold Dm.clear at hq
          by_cases hib : idx m.now b < m.now.length
          · rw [if_pos hib, List.getElem?_set] at hq
            by_cases hjk : idx m.now b = j
            · rw [if_pos hjk, if_pos hib] at hq
              obtain rfl := Option.some.inj hq
              cases hs
            · rw [if_neg hjk] at hq; exact hq
          · rw [if_neg hib] at hq; exact hq
        have hfa := List.getElem_mem hia
        refine hcl.set _ _ ?_ ?_ ?_
        · intro h
          have := hk.now.none_ _ hfa h
          rw [idx_at hia] at this
          exact absurd this (nameB_ne (by
            unfold Dm.finds at h2'
            by_cases hg : m.goes true a ≠ 0
            · rw [if_pos hg] at h2'; exact absurd h2' hg
            · exact Dm.goes_name (by simpa using hg)))
        · intro i hi
          exact ⟨Dm.goes_name h1', (hk.now.some_ _ hfa i hi).2⟩
        · intro j q hj hq hs hqs
          refine ⟨fun e => hnc q (List.mem_of_getElem? hq) hqs e.symm, fun e => ?_⟩
          have := hk.now.files j (idx m.now a) q _ (hold j q hq hqs) (List.getElem?_eq_getElem hia) hqs e.symm
          exact hj this
end Go.Proofs.YtgibdecgmageeaaDoor
