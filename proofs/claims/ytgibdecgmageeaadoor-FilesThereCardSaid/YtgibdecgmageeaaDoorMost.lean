/- Names in a disk, counted: the plain part of FilesMost. -/
import Derived.Test.YtgibdecgmageeaaDoorOne
namespace Go.Proofs.YtgibdecgmageeaaDoor
open Go.RowKit

theorem namesOf_count (t : List Pl) : (namesOf t).length = t.countP fun p => p.2.isSome := by
  unfold namesOf
  rw [List.length_map, List.countP_eq_length_filter]
theorem mem_namesOf {t : List Pl} {s : ByteArray} : s ∈ namesOf t ↔ ∃ p ∈ t, p.2.isSome = true ∧ p.1 = s := by
  unfold namesOf
  simp only [List.mem_map, List.mem_filter]
  constructor
  · rintro ⟨p, ⟨h1, h2⟩, h3⟩; exact ⟨p, h1, h2, h3⟩
  · rintro ⟨p, h1, h2, h3⟩; exact ⟨p, ⟨h1, h2⟩, h3⟩
/-- A place with a proper name has a file. -/
theorem TabOk.isSome {n : Nat} {t : List Pl} (h : TabOk n t) {p : Pl} (hp : p ∈ t) (hs : p.1 ≠ free.1) : p.2.isSome = true := by
  cases h2 : p.2 with
  | none => exact absurd (h.none_ p hp h2) hs
  | some _ => rfl
theorem TabOk.there {n : Nat} {t : List Pl} (h : TabOk n t) {s : ByteArray} (hs : s ≠ free.1) : idx t s < t.length ↔ s ∈ namesOf t := by
  rw [mem_namesOf]
  constructor
  · intro hi
    refine ⟨_, List.getElem_mem hi, h.isSome (List.getElem_mem hi) (by rw [idx_at hi]; exact hs), idx_at hi⟩
  · rintro ⟨p, hp, _, rfl⟩
    exact List.findIdx_lt_length_of_exists ⟨p, hp, by simp⟩
theorem TabOk.room {n : Nat} {t : List Pl} (h : TabOk n t) : idx t free.1 < t.length ↔ (namesOf t).length < 64 := by
  rw [namesOf_count]
  constructor
  · intro hi
    refine Nat.lt_of_lt_of_eq (Nat.lt_of_le_of_ne List.countP_le_length fun e => ?_) h.len
    have := List.countP_eq_length.1 e _ (List.getElem_mem hi)
    obtain ⟨i, hi'⟩ := Option.isSome_iff_exists.1 this
    have h2 := (h.some_ _ (List.getElem_mem hi) i hi').1
    rw [idx_at hi] at h2
    exact nameB_ne h2 rfl
  · intro hc
    have : ∃ p ∈ t, ¬ p.2.isSome = true := by
      refine Classical.byContradiction fun hn => ?_
      have : t.countP (fun p => p.2.isSome) = t.length := List.countP_eq_length.2 fun p hp => Classical.byContradiction fun hps => hn ⟨p, hp, hps⟩
      rw [this, h.len] at hc
      omega
    obtain ⟨p, hp, hps⟩ := this
    have h2 : p.2 = none := by cases h2 : p.2 with
      | none => rfl
      | some i => rw [h2] at hps; exact absurd rfl hps
    exact List.findIdx_lt_length_of_exists ⟨p, hp, by simp [h.none_ p hp h2]⟩
theorem count_set (t : List Pl) (k : Nat) (p : Pl) (h : k < t.length) : (namesOf (t.set k p)).length + (if (t[k]'h).2.isSome then 1 else 0) = (namesOf t).length + (if p.2.isSome then 1 else 0) := by
  have ht : t = t.take k ++ (t[k]'h) :: t.drop (k + 1) := by rw [List.getElem_cons_drop, List.take_append_drop]
  have hs : t.set k p = t.take k ++ p :: t.drop (k + 1) := by rw [List.set_eq_take_append_cons_drop, if_pos h]
  rw [namesOf_count, namesOf_count, hs]
  conv => rhs; rw [ht]
  rw [List.countP_append, List.countP_append, List.countP_cons, List.countP_cons]
  omega
theorem names_set {t : List Pl} {k : Nat} {p : Pl} {s : ByteArray} (h : s ∈ namesOf (t.set k p)) : s = p.1 ∨ s ∈ namesOf t := by
  obtain ⟨q, hq, h1, h2⟩ := mem_namesOf.1 h
  rcases List.mem_or_eq_of_mem_set hq with hq | rfl
  · exact .inr (mem_namesOf.2 ⟨q, hq, h1, h2⟩)
  · exact .inl h2.symm
theorem names_keep {t : List Pl} {k : Nat} {p : Pl} {s : ByteArray} (hs : s ∈ namesOf t) (hk : ∀ h : k < t.length, (t[k]'h).1 ≠ s) : s ∈ namesOf (t.set k p) := by
  obtain ⟨q, hq, h1, h2⟩ := mem_namesOf.1 hs
  obtain ⟨j, hj, rfl⟩ := List.getElem_of_mem hq
  have hjk : k ≠ j := fun e => by subst e; exact hk hj h2
  refine mem_namesOf.2 ⟨t[j], ?_, h1, h2⟩
  exact List.mem_of_getElem? (i := j) (by rw [List.getElem?_set_ne hjk, List.getElem?_eq_getElem hj])

/-- As it must be, of size 10, with so many names, all of which are S's. -/
structure Cnt (m : Dm) (n : Nat) (S : ByteArray → Prop) : Prop where
  ok : m.ok
  size : m.size = 10
  cnt : (namesOf m.now).length = n
  sub : ∀ s ∈ namesOf m.now, S s

section
variable {m : Dm} {n : Nat} {S S' : ByteArray → Prop} {s a b : ByteArray}
theorem Cnt.mono (h : Cnt m n S) (hS : ∀ s, S s → S' s) : Cnt m n S' := ⟨h.ok, h.size, h.cnt, fun s hs => hS s (h.sub s hs)⟩
theorem Cnt.goes (h : Cnt m n S) (hs : nameB s = true) : m.goes true s = 0 := Dm.goes_pos (by rw [h.size]; omega) hs
theorem Cnt.finds (h : Cnt m n S) (hs : nameB s = true) (hi : s ∈ namesOf m.now) : m.finds true s = 0 := by
  unfold Dm.finds
  rw [h.goes hs, if_neg (by decide), if_pos ((h.ok.now.there (nameB_ne hs)).2 hi)]
theorem Cnt.create (h : Cnt m n S) (hs : nameB s = true) (hS : S s) (hn : s ∉ namesOf m.now) (hr : n < 64) : ∃ m', m.create s = (0, m') ∧ Cnt m' (n + 1) S ∧ s ∈ namesOf m'.now ∧ ∀ x ∈ namesOf m.now, x ∈ namesOf m'.now := by
  have hroom : idx m.now free.1 < m.now.length := h.ok.now.room.2 (by rw [h.cnt]; exact hr)
  have e : m.create s = (0, { m with now := m.now.set (idx m.now free.1) (s, some m.rows.length), rows := m.rows ++ [([], 0)] }) := by
    unfold Dm.create
    rw [h.goes hs, if_neg (by decide), if_neg (fun hi => hn ((h.ok.now.there (nameB_ne hs)).1 hi)), if_pos hroom]
  have hk := Dm.create_ok h.ok s
  rw [e] at hk
  have hfree : (m.now[idx m.now free.1]'hroom).2.isSome = false := by
    cases h2 : (m.now[idx m.now free.1]'hroom).2 with
    | none => rfl
    | some i =>
      have h3 := (h.ok.now.some_ _ (List.getElem_mem hroom) i h2).1
      rw [idx_at hroom] at h3
      exact absurd rfl (nameB_ne h3)
  refine ⟨_, e, ⟨hk, h.size, ?_, ?_⟩, ?_, ?_⟩
  · have := count_set m.now (idx m.now free.1) (s, some m.rows.length) hroom
    rw [hfree, h.cnt] at this
    simpa using this
  · intro x hx
    rcases names_set hx with rfl | hx
    · exact hS
    · exact h.sub x hx
  · exact mem_namesOf.2 ⟨(s, some m.rows.length), List.mem_set hroom _, rfl, rfl⟩
  · intro x hx
    refine names_keep hx fun _ he => ?_
    rw [idx_at] at he
    subst he
    obtain ⟨p, hp, h1, h2⟩ := mem_namesOf.1 hx
    obtain ⟨i, hi⟩ := Option.isSome_iff_exists.1 h1
    exact nameB_ne (h.ok.now.some_ p hp i hi).1 h2
theorem Cnt.full (h : Cnt m n S) (hs : nameB s = true) (hn : s ∉ namesOf m.now) (hr : n = 64) : m.create s = (6, m) := by
  unfold Dm.create
  rw [h.goes hs, if_neg (by decide), if_neg (fun hi => hn ((h.ok.now.there (nameB_ne hs)).1 hi)), if_neg (fun hi => by have := h.ok.now.room.1 hi; rw [h.cnt] at this; omega)]
theorem Cnt.remove (h : Cnt m n S) (hs : nameB s = true) (hi : s ∈ namesOf m.now) : ∃ m', m.remove s = (0, m') ∧ Cnt m' (n - 1) S ∧ s ∉ namesOf m'.now ∧ ∀ x ∈ namesOf m.now, x ≠ s → x ∈ namesOf m'.now := by
  have hx := (h.ok.now.there (nameB_ne hs)).2 hi
  have e : m.remove s = (0, { m with now := m.now.set (idx m.now s) free }) := by
    unfold Dm.remove
    rw [h.finds hs hi, if_neg (by decide)]
  have hk := Dm.remove_ok h.ok s
  rw [e] at hk
  have hsm := h.ok.now.isSome (List.getElem_mem hx) (by rw [idx_at hx]; exact nameB_ne hs)
  refine ⟨_, e, ⟨hk, h.size, ?_, ?_⟩, ?_, ?_⟩
  · have := count_set m.now (idx m.now s) free hx
    rw [hsm, h.cnt] at this
    simp [free] at this
    show (namesOf (m.now.set (idx m.now s) free)).length = n - 1
    simp only [free]
    omega
  · intro x hx'
    obtain ⟨q, hq, h1, h2⟩ := mem_namesOf.1 hx'
    rcases List.mem_or_eq_of_mem_set hq with hq | rfl
    · exact h.sub x (mem_namesOf.2 ⟨q, hq, h1, h2⟩)
    · cases h1
  · intro hx'
    obtain ⟨q, hq, h1, h2⟩ := mem_namesOf.1 hx'
    obtain ⟨j, hj⟩ := List.getElem?_of_mem hq
    rw [List.getElem?_set] at hj
    by_cases hjk : idx m.now s = j
    · rw [if_pos hjk, if_pos (by exact hx)] at hj
      obtain rfl := Option.some.inj hj
      cases h1
    · rw [if_neg hjk] at hj
      exact hjk (h.ok.now.names _ j _ q (List.getElem?_eq_getElem hx) hj hsm (by rw [idx_at hx, h2]))
  · intro x hx' hne
    refine names_keep hx' fun hl he => ?_
    rw [idx_at] at he
    exact hne he.symm
theorem Cnt.rename_same (h : Cnt m n S) (ha : nameB a = true) (hi : a ∈ namesOf m.now) : m.rename a a = (0, m) := by
  unfold Dm.rename
  rw [h.goes ha, if_neg (by decide), h.finds ha hi, if_neg (by decide), if_pos rfl]
theorem Cnt.rename (h : Cnt m n S) (ha : nameB a = true) (hb : nameB b = true) (hia : a ∈ namesOf m.now) (hib : b ∈ namesOf m.now) (hab : a ≠ b) : ∃ m', m.rename a b = (0, m') ∧ Cnt m' (n - 1) S := by
  have xa := (h.ok.now.there (nameB_ne ha)).2 hia
  have xb := (h.ok.now.there (nameB_ne hb)).2 hib
  have e : m.rename a b = (0, { m with now := (m.clear b).set (idx m.now a) (b, (m.now.getD (idx m.now a) free).2) }) := by
    unfold Dm.rename
    rw [h.goes hb, if_neg (by decide), h.finds ha hia, if_neg (by decide), if_neg hab]
  have hk := Dm.rename_ok h.ok a b
  rw [e] at hk
  have sma := h.ok.now.isSome (List.getElem_mem xa) (by rw [idx_at xa]; exact nameB_ne ha)
  have smb := h.ok.now.isSome (List.getElem_mem xb) (by rw [idx_at xb]; exact nameB_ne hb)
  have hne : idx m.now b ≠ idx m.now a := fun he => hab (by rw [← idx_at xa, ← idx_at xb]; simp only [he])
  have hcl : m.clear b = m.now.set (idx m.now b) free := by unfold Dm.clear; rw [if_pos xb]
  have hgd : m.now.getD (idx m.now a) free = m.now[idx m.now a]'xa := by simp [List.getD, xa]
  rw [hcl, hgd] at e hk
  refine ⟨_, e, ⟨hk, h.size, ?_, ?_⟩⟩
  · have c1 := count_set m.now (idx m.now b) free xb
    have xa' : idx m.now a < (m.now.set (idx m.now b) free).length := by rw [List.length_set]; exact xa
    have c2 := count_set (m.now.set (idx m.now b) free) (idx m.now a) (b, (m.now[idx m.now a]'xa).2) xa'
    rw [List.getElem_set_ne hne, sma] at c2
    rw [smb, h.cnt] at c1
    simp only [free, Option.isSome_none, if_true] at c1 c2
    have c1' : (namesOf (m.now.set (idx m.now b) (⟨#[]⟩, none))).length + 1 = n := by simpa using c1
    show (namesOf ((m.now.set (idx m.now b) free).set (idx m.now a) (b, (m.now[idx m.now a]'xa).2))).length = n - 1
    simp only [free]
    omega
  · intro x hx
    rcases names_set hx with rfl | hx
    · exact h.sub _ hib
    · obtain ⟨q, hq, h1, h2⟩ := mem_namesOf.1 hx
      rcases List.mem_or_eq_of_mem_set hq with hq | rfl
      · exact h.sub x (mem_namesOf.2 ⟨q, hq, h1, h2⟩)
      · cases h1
theorem Cnt.list_len (h : Cnt m n S) : m.list.length = n := by rw [Dm.list_eq, length_sorted, h.cnt]
theorem Cnt.of_list (_h : Cnt m n S) (hs : s ∈ m.list) : s ∈ namesOf m.now := by rw [Dm.list_eq] at hs; exact mem_sorted hs
end

/-- The name that is made in turn i. -/
def nm (i : Nat) : ByteArray := strOfNums [((97 + i / 10 : Nat) : Int), ((48 + i % 10 : Nat) : Int)]
def nmB : Bool := (List.range 80).all fun i => nameB (nm i) && decide (nm i ≠ ⟨#[111, 110, 101, 46, 109, 111, 114, 101]⟩) && (List.range 80).all fun j => decide (i = j) || decide (nm i ≠ nm j)
set_option maxRecDepth 100000 in
theorem nmB_yes : nmB = true := by kernel_rfl
theorem nm_name {i : Nat} (h : i < 80) : nameB (nm i) = true := by
  have := List.all_eq_true.1 nmB_yes i (List.mem_range.2 h)
  simp only [Bool.and_eq_true] at this
  exact this.1.1
theorem nm_more {i : Nat} (h : i < 80) : nm i ≠ ⟨#[111, 110, 101, 46, 109, 111, 114, 101]⟩ := by
  have := List.all_eq_true.1 nmB_yes i (List.mem_range.2 h)
  simp only [Bool.and_eq_true] at this
  exact of_decide_eq_true this.1.2
theorem nm_inj {i j : Nat} (hi : i < 80) (hj : j < 80) (h : nm i = nm j) : i = j := by
  have := List.all_eq_true.1 nmB_yes i (List.mem_range.2 hi)
  simp only [Bool.and_eq_true] at this
  have := List.all_eq_true.1 this.2 j (List.mem_range.2 hj)
  rcases Bool.or_eq_true_iff.1 this with h1 | h1
  · exact of_decide_eq_true h1
  · exact absurd h (of_decide_eq_true h1)
theorem Cnt.new10 : Cnt (newDm 10) 0 (fun _ => False) := by
  have h : namesOf (newDm 10).now = [] := by decide
  exact ⟨newDm_ok (by omega) (by omega), rfl, by rw [h]; rfl, fun s hs => by rw [h] at hs; cases hs⟩
end Go.Proofs.YtgibdecgmageeaaDoor
