/- A name given away and given back: the plain part of FilesThere. -/
import Derived.Test.YtgibdecgmageeaaDoorMost
import Derived.Test.YtgibdecgmageeaaDoorLIdle
namespace Go.Proofs.YtgibdecgmageeaaDoor
open Go.RowKit

theorem TabOk.idx {n : Nat} {t : List Pl} (h : TabOk n t) {s : ByteArray} {i : Nat} (hi : i < t.length) (he : (t[i]'hi).1 = s) (hs : s ≠ free.1) : idx t s = i := by
  have hx : Go.Proofs.YtgibdecgmageeaaDoor.idx t s < t.length := List.findIdx_lt_length_of_exists ⟨_, List.getElem_mem hi, by simp [he]⟩
  exact h.names _ _ _ _ (List.getElem?_eq_getElem hx) (List.getElem?_eq_getElem hi) (h.isSome (List.getElem_mem hx) (by rw [idx_at hx]; exact hs)) (by rw [idx_at hx, he])
theorem Dm.goes_size {m k : Dm} (h : m.size = k.size) (b : Bool) (s : ByteArray) : m.goes b s = k.goes b s := by unfold Dm.goes; rw [h]
theorem Dm.finds_goes {m : Dm} {s : ByteArray} (h : m.finds true s = 0) : m.goes true s = 0 ∧ idx m.now s < m.now.length := by
  unfold Dm.finds at h
  by_cases hg : m.goes true s ≠ 0
  · rw [if_pos hg] at h; exact absurd h hg
  · rw [if_neg hg] at h
    refine ⟨by simpa using hg, ?_⟩
    by_cases hi : idx m.now s < m.now.length
    · exact hi
    · rw [if_neg hi] at h; cases h
theorem Dm.finds_of {m : Dm} {s : ByteArray} (h1 : m.goes true s = 0) (h2 : idx m.now s < m.now.length) : m.finds true s = 0 := by
  unfold Dm.finds; rw [h1, if_neg (by decide), if_pos h2]
theorem Dm.rename_err {m m1 : Dm} {a b : ByteArray} {e : Int} (h : m.rename a b = (e, m1)) (he : e ≠ 0) : m1 = m := by
  unfold Dm.rename at h
  split at h
  · exact (Prod.mk.inj h).2.symm
  · split at h
    · exact (Prod.mk.inj h).2.symm
    · split at h
      · exact (Prod.mk.inj h).2.symm
      · exact absurd (Prod.mk.inj h).1.symm he
theorem Dm.rename_ok_of {m m1 : Dm} {a b : ByteArray} (h : m.rename a b = (0, m1)) : m.goes true b = 0 ∧ m.finds true a = 0 ∧ ((a = b ∧ m1 = m) ∨ (a ≠ b ∧ m1 = { m with now := (m.clear b).set (idx m.now a) (b, (m.now.getD (idx m.now a) free).2) })) := by
  unfold Dm.rename at h
  by_cases h1 : m.goes true b ≠ 0
  · rw [if_pos h1] at h; exact absurd (Prod.mk.inj h).1 h1
  · rw [if_neg h1] at h
    by_cases h2 : m.finds true a ≠ 0
    · rw [if_pos h2] at h; exact absurd (Prod.mk.inj h).1 h2
    · rw [if_neg h2] at h
      refine ⟨by simpa using h1, by simpa using h2, ?_⟩
      by_cases h3 : a = b
      · rw [if_pos h3] at h; exact .inl ⟨h3, (Prod.mk.inj h).2.symm⟩
      · rw [if_neg h3] at h; exact .inr ⟨h3, (Prod.mk.inj h).2.symm⟩
theorem set_self {t : List Pl} {k : Nat} {p : Pl} (hk : k < t.length) (h : t[k]'hk = p) : t.set k p = t := by
  subst h; exact List.set_getElem_self hk

section
variable {m m1 : Dm} {a b : ByteArray}
/-- What stands behind both renamings. -/
theorem Dm.back (hk : m.ok) (h : m.rename a b = (0, m1)) (hab : a ≠ b) : m1.rename b a = (0, { m with now := m.clear b }) := by
  obtain ⟨gb, fa, hh⟩ := Dm.rename_ok_of h
  have hk1 : m1.ok := by have := Dm.rename_ok hk a b; rw [h] at this; exact this
  rcases hh with ⟨e, _⟩ | ⟨_, e⟩
  · exact absurd e hab
  obtain ⟨ga, hia⟩ := Dm.finds_goes fa
  have na := Dm.goes_name ga
  have nb := Dm.goes_name gb
  have hgd : m.now.getD (Go.Proofs.YtgibdecgmageeaaDoor.idx m.now a) free = m.now[Go.Proofs.YtgibdecgmageeaaDoor.idx m.now a]'hia := by simp [List.getD, hia]
  rw [hgd] at e
  have hcl : (m.clear b).length = m.now.length := by
    unfold Dm.clear; split
    · rw [List.length_set]
    · rfl
  have hcg : ∀ (k : Nat) (h1 : k < (m.clear b).length) (h2 : k < m.now.length), ((m.clear b)[k]'h1 = m.now[k]'h2 ∧ (k ≠ Go.Proofs.YtgibdecgmageeaaDoor.idx m.now b)) ∨ ((m.clear b)[k]'h1 = free ∧ k = Go.Proofs.YtgibdecgmageeaaDoor.idx m.now b) := by
    intro k h1 h2
    have hcb : m.clear b = if Go.Proofs.YtgibdecgmageeaaDoor.idx m.now b < m.now.length then m.now.set (Go.Proofs.YtgibdecgmageeaaDoor.idx m.now b) free else m.now := rfl
    by_cases hib : Go.Proofs.YtgibdecgmageeaaDoor.idx m.now b < m.now.length
    · have e1 : m.clear b = m.now.set (Go.Proofs.YtgibdecgmageeaaDoor.idx m.now b) free := by rw [hcb, if_pos hib]
      by_cases hkb : k = Go.Proofs.YtgibdecgmageeaaDoor.idx m.now b
      · exact .inr ⟨by subst hkb; simp [e1], hkb⟩
      · refine .inl ⟨?_, hkb⟩
        simp only [e1]
        rw [List.getElem_set_ne (fun h => hkb h.symm)]
    · have e1 : m.clear b = m.now := by rw [hcb, if_neg hib]
      exact .inl ⟨by simp only [e1], by omega⟩
  have hne : Go.Proofs.YtgibdecgmageeaaDoor.idx m.now a ≠ Go.Proofs.YtgibdecgmageeaaDoor.idx m.now b := fun he => by
    have hib : Go.Proofs.YtgibdecgmageeaaDoor.idx m.now b < m.now.length := by rw [← he]; exact hia
    have h1 := idx_at hia
    have h2 := idx_at hib
    simp only [he] at h1
    exact hab (h1.symm.trans h2)
  have hia' : Go.Proofs.YtgibdecgmageeaaDoor.idx m.now a < (m.clear b).length := by rw [hcl]; exact hia
  have ha1 : ((m.clear b)[Go.Proofs.YtgibdecgmageeaaDoor.idx m.now a]'hia') = m.now[Go.Proofs.YtgibdecgmageeaaDoor.idx m.now a]'hia := by
    rcases hcg _ hia' hia with ⟨h1, _⟩ | ⟨_, h2⟩
    · exact h1
    · exact absurd h2 hne
  have hnow : m1.now = (m.clear b).set (Go.Proofs.YtgibdecgmageeaaDoor.idx m.now a) (b, (m.now[Go.Proofs.YtgibdecgmageeaaDoor.idx m.now a]'hia).2) := by rw [e]
  have hln : m1.now.length = m.now.length := by rw [hnow, List.length_set, hcl]
  have hib1 : Go.Proofs.YtgibdecgmageeaaDoor.idx m1.now b = Go.Proofs.YtgibdecgmageeaaDoor.idx m.now a := by
    refine hk1.now.idx (by rw [hln]; exact hia) ?_ (nameB_ne nb)
    simp only [hnow, List.getElem_set_self]
  have hna1 : ¬ Go.Proofs.YtgibdecgmageeaaDoor.idx m1.now a < m1.now.length := fun hx => by
    have h1 := idx_at hx
    generalize hkk : Go.Proofs.YtgibdecgmageeaaDoor.idx m1.now a = k at hx h1
    have hk2 : k < m.now.length := by rw [← hln]; exact hx
    by_cases hka : Go.Proofs.YtgibdecgmageeaaDoor.idx m.now a = k
    · subst hka
      simp only [hnow, List.getElem_set_self] at h1
      exact hab h1.symm
    · simp only [hnow] at h1
      rw [List.getElem_set_ne hka] at h1
      rcases hcg k (by rw [hcl]; exact hk2) hk2 with ⟨h3, _⟩ | ⟨h3, _⟩
      · rw [h3] at h1
        exact hka (hk.now.idx hk2 h1 (nameB_ne na))
      · rw [h3] at h1
        exact nameB_ne na h1.symm
  have hz : m1.size = m.size := by rw [e]
  have gb1 : m1.goes true b = 0 := (Dm.goes_size hz _ _).trans gb
  have ga1 : m1.goes true a = 0 := (Dm.goes_size hz _ _).trans ga
  have fb1 : m1.finds true b = 0 := Dm.finds_of gb1 (by rw [hib1, hln]; exact hia)
  unfold Dm.rename
  rw [ga1, if_neg (by decide), fb1, if_neg (by decide), if_neg (fun h => hab h.symm)]
  have hc1 : m1.clear a = m1.now := by unfold Dm.clear; rw [if_neg hna1]
  rw [hc1, hib1]
  have hg1 : m1.now.getD (Go.Proofs.YtgibdecgmageeaaDoor.idx m.now a) free = (b, (m.now[Go.Proofs.YtgibdecgmageeaaDoor.idx m.now a]'hia).2) := by
    rw [hnow]; simp [List.getD, hia']
  rw [hg1, hnow, List.set_set]
  have hp : (a, (m.now[Go.Proofs.YtgibdecgmageeaaDoor.idx m.now a]'hia).2) = m.now[Go.Proofs.YtgibdecgmageeaaDoor.idx m.now a]'hia := Prod.ext (idx_at hia).symm rfl
  show ((0 : Int), ({ m1 with now := (m.clear b).set (Go.Proofs.YtgibdecgmageeaaDoor.idx m.now a) (a, (m.now[Go.Proofs.YtgibdecgmageeaaDoor.idx m.now a]'hia).2) } : Dm)) = _
  rw [hp, set_self hia' ha1, e]

theorem Dm.back_free (hk : m.ok) (h : m.rename a b = (0, m1)) (hw : a = b ∨ m.finds true b ≠ 0) : m1.rename b a = (0, m) := by
  by_cases hab : a = b
  · obtain ⟨gb, fa, hh⟩ := Dm.rename_ok_of h
    rcases hh with ⟨_, e⟩ | ⟨e, _⟩
    · subst hab; rw [e]; rw [e] at h; exact h
    · exact absurd hab e
  · rcases hw with e | hw
    · exact absurd e hab
    rw [Dm.back hk h hab]
    obtain ⟨gb, _, _⟩ := Dm.rename_ok_of h
    have : ¬ Go.Proofs.YtgibdecgmageeaaDoor.idx m.now b < m.now.length := fun hi => hw (Dm.finds_of gb hi)
    unfold Dm.clear
    rw [if_neg this]
theorem Dm.back_took (hk : m.ok) (h : m.rename a b = (0, m1)) (hab : a ≠ b) (hw : m.finds true b = 0) :
    ∃ (m2 : Dm) (n : Nat), m1.rename b a = (0, m2) ∧ m2.finds true b = 7 ∧ m.list.length = n + 1 ∧ m2.list.length = n ∧ m2.all a = m.all a := by
  obtain ⟨gb, fa, _⟩ := Dm.rename_ok_of h
  obtain ⟨_, hib⟩ := Dm.finds_goes hw
  obtain ⟨ga, hia⟩ := Dm.finds_goes fa
  have na := Dm.goes_name ga
  have nb := Dm.goes_name gb
  have hcb : m.clear b = m.now.set (Go.Proofs.YtgibdecgmageeaaDoor.idx m.now b) free := by unfold Dm.clear; rw [if_pos hib]
  have hr := Dm.back hk h hab
  have hrem : m.remove b = (0, { m with now := m.clear b }) := by unfold Dm.remove; rw [hw, if_neg (by decide), hcb]
  have hk2 : ({ m with now := m.clear b } : Dm).ok := by have := Dm.remove_ok hk b; rw [hrem] at this; exact this
  have hne : Go.Proofs.YtgibdecgmageeaaDoor.idx m.now b ≠ Go.Proofs.YtgibdecgmageeaaDoor.idx m.now a := fun he => by
    have h1 := idx_at hia
    have h2 := idx_at hib
    simp only [he] at h2
    exact hab (h1.symm.trans h2)
  have smb := hk.now.isSome (List.getElem_mem hib) (by rw [idx_at hib]; exact nameB_ne nb)
  have hcnt := count_set m.now (Go.Proofs.YtgibdecgmageeaaDoor.idx m.now b) free hib
  rw [smb] at hcnt
  simp only [free, Option.isSome_none, if_true] at hcnt
  have hcnt' : (namesOf (m.now.set (Go.Proofs.YtgibdecgmageeaaDoor.idx m.now b) (⟨#[]⟩, none))).length + 1 = (namesOf m.now).length := by simpa using hcnt
  have hia2 : Go.Proofs.YtgibdecgmageeaaDoor.idx m.now a < (m.clear b).length := by rw [hcb, List.length_set]; exact hia
  have hg2 : (m.clear b)[Go.Proofs.YtgibdecgmageeaaDoor.idx m.now a]'hia2 = m.now[Go.Proofs.YtgibdecgmageeaaDoor.idx m.now a]'hia := by
    simp only [hcb]; rw [List.getElem_set_ne hne]
  have hx2 : Go.Proofs.YtgibdecgmageeaaDoor.idx (m.clear b) a = Go.Proofs.YtgibdecgmageeaaDoor.idx m.now a := hk2.now.idx hia2 (by rw [hg2]; exact idx_at hia) (nameB_ne na)
  refine ⟨_, (namesOf (m.clear b)).length, hr, ?_, ?_, ?_, ?_⟩
  · have hnot : ¬ Go.Proofs.YtgibdecgmageeaaDoor.idx (m.clear b) b < (m.clear b).length := fun hx => by
      have h1 := idx_at hx
      generalize Go.Proofs.YtgibdecgmageeaaDoor.idx (m.clear b) b = k at hx h1
      have hk' : k < m.now.length := by rw [hcb, List.length_set] at hx; exact hx
      by_cases hkb : Go.Proofs.YtgibdecgmageeaaDoor.idx m.now b = k
      · subst hkb
        simp only [hcb, List.getElem_set_self] at h1
        exact nameB_ne nb h1.symm
      · simp only [hcb] at h1
        rw [List.getElem_set_ne hkb] at h1
        exact hkb (hk.now.idx hk' h1 (nameB_ne nb))
    unfold Dm.finds
    rw [show ({ m with now := m.clear b } : Dm).goes true b = 0 from gb, if_neg (by decide), if_neg hnot]
  · rw [Dm.list_eq, length_sorted, hcb, ← hcnt']; rfl
  · rw [Dm.list_eq, length_sorted]
  · have f2 : ({ m with now := m.clear b } : Dm).finds true a = 0 := Dm.finds_of ga (by rw [hx2]; exact hia2)
    rw [Dm.all_of f2, Dm.all_of fa]
    have : ({ m with now := m.clear b } : Dm).at a = m.at a := by
      unfold Dm.at
      show ({ m with now := m.clear b } : Dm).row (({ m with now := m.clear b } : Dm).file (Go.Proofs.YtgibdecgmageeaaDoor.idx (m.clear b) a)) = m.row (m.file (Go.Proofs.YtgibdecgmageeaaDoor.idx m.now a))
      rw [hx2]
      have hf : ({ m with now := m.clear b } : Dm).file (Go.Proofs.YtgibdecgmageeaaDoor.idx m.now a) = m.file (Go.Proofs.YtgibdecgmageeaaDoor.idx m.now a) := by
        unfold Dm.file
        have g1 : (m.clear b).getD (Go.Proofs.YtgibdecgmageeaaDoor.idx m.now a) free = m.now[Go.Proofs.YtgibdecgmageeaaDoor.idx m.now a]'hia := by rw [← hg2]; simp [List.getD, hia2]
        have g2 : m.now.getD (Go.Proofs.YtgibdecgmageeaaDoor.idx m.now a) free = m.now[Go.Proofs.YtgibdecgmageeaaDoor.idx m.now a]'hia := by simp [List.getD, hia]
        show (((m.clear b).getD (Go.Proofs.YtgibdecgmageeaaDoor.idx m.now a) free).2).getD 0 = ((m.now.getD (Go.Proofs.YtgibdecgmageeaaDoor.idx m.now a) free).2).getD 0
        rw [g1, g2]
      rw [hf]
      rfl
    rw [this]
end
end Go.Proofs.YtgibdecgmageeaaDoor
