/- What of a disk is where; Size and Sync walked. -/
import Derived.Test.YtgibdecgmageeaaDoorDisk4
import Derived.RegionTactic
import Derived.BigRegion
namespace Go.Proofs.YtgibdecgmageeaaDoor
open Go.RowKit

theorem Cd.blk {w : World} {c : Cd} {b0 : Nat} (h : Sep w (c.asn b0)) : Blk w c.g 72 c.cells := h.head
theorem Cd.m_row {c : Cd} {i : Nat} {x : RowC} (h : c.rows[i]? = some x) : c.m.row i = (x.bs, x.mark) := by
  unfold Dm.row Cd.m
  simp [List.getD, h]
theorem Dm.finds_at {m : Dm} {ok : Bool} {s : ByteArray} (h : m.finds ok s = 0) : idx m.now s < m.now.length ∧ nameB s = true ∧ 1 ≤ m.size := by
  unfold Dm.finds at h
  by_cases hg : m.goes ok s = 0
  · rw [if_neg (by simp [hg])] at h
    have h1 : idx m.now s < m.now.length := by
      by_cases h' : idx m.now s < m.now.length
      · exact h'
      · rw [if_neg h'] at h; cases h
    unfold Dm.goes at hg
    by_cases hz : m.size < 1
    · rw [if_pos hz] at hg; cases hg
    · rw [if_neg hz] at hg
      by_cases h2 : (ok && nameB s) = true
      · exact ⟨h1, by simp at h2; exact h2.2, by omega⟩
      · rw [if_neg h2] at hg; cases hg
  · rw [if_pos hg] at h; exact absurd h hg
/-- The file whose name is there. -/
theorem Dm.file_at {m : Dm} (hk : m.ok) {ok : Bool} {s : ByteArray} (h : m.finds ok s = 0) : ∃ hn : idx m.now s < m.now.length, (m.now[idx m.now s]'hn).2 = some (m.file (idx m.now s)) ∧ m.file (idx m.now s) < m.rows.length := by
  obtain ⟨h1, h2, _⟩ := Dm.finds_at h
  have hm := List.getElem_mem h1
  have hn := idx_at h1
  cases hp : (m.now[idx m.now s]'h1).2 with
  | none =>
    have := hk.now.none_ _ hm hp
    rw [hn] at this
    exact absurd this (nameB_ne h2)
  | some i =>
    have hf : m.file (idx m.now s) = i := by unfold Dm.file; simp [List.getD, h1, hp]
    exact ⟨h1, by rw [hf]; exact hp, by rw [hf]; exact (hk.now.some_ _ hm i hp).2⟩
/-- What is found where a name is there. -/
theorem Cd.found {c : Cd} (hk : c.m.ok) {ok : Bool} {s : ByteArray} (h : c.m.finds ok s = 0) :
    ∃ x A n cap, c.rows[c.m.file (idx c.now s)]? = some x ∧ c.m.at s = (x.bs, x.mark) ∧ n = x.bs.length ∧ n ≤ 1048576 ∧ x.mark ≤ n ∧ IsU8 x.bs ∧ idx c.now s < 64 ∧ (∀ w b0, Sep w (c.asn b0) → x.v = .slice A n cap ∧
      w.cell? ⟨c.g, 1 + idx c.now s * 2, none⟩ = some (.string s) ∧ w.cell? ⟨c.g, 1 + idx c.now s * 2 + 1, none⟩ = some (.pointer (some ⟨x.r, 0, none⟩)) ∧ w.cell? ⟨x.r, 0, none⟩ = some (.slice A n cap) ∧ w.cell? ⟨x.r, 1, none⟩ = some (.int .i64 x.mark) ∧
      Rd w w.heap.size A (U8 x.bs) ∧ n ≤ cap ∧ cap ≤ 9223372036854775807 ∧ (∀ i, w.frozen? ⟨x.r, i, none⟩ = false) ∧ x.r < w.heap.size) := by
  obtain ⟨hn, h2, h3⟩ := Dm.file_at hk h
  have h3' : c.m.file (idx c.now s) < c.rows.length := by simpa [Cd.m] using h3
  have hx : c.rows[c.m.file (idx c.now s)]? = some (c.rows[c.m.file (idx c.now s)]'h3') := List.getElem?_eq_getElem h3'
  generalize hx0 : c.rows[c.m.file (idx c.now s)]'h3' = x at hx
  have hrow := Cd.m_row hx
  have hmem : (x.bs, x.mark) ∈ c.m.rows := by
    unfold Cd.m
    exact List.mem_map.2 ⟨x, List.mem_of_getElem? hx, rfl⟩
  obtain ⟨g1, g2, g3⟩ := hk.rows _ hmem
  obtain ⟨A, cap, hv⟩ : ∃ A cap, (∃ w b0, Sep w (c.asn b0)) → x.v = .slice A x.bs.length cap := by
    by_cases hw : ∃ w b0, Sep w (c.asn b0)
    · obtain ⟨w, b0, hS⟩ := hw
      have ha : (x.asn b0).holds w := hS.1 _ (by unfold Cd.asn; exact List.mem_cons_of_mem _ (List.mem_map.2 ⟨x, List.mem_of_getElem? hx, rfl⟩))
      obtain ⟨A, cap, e, _⟩ := ha.2.1.shape
      exact ⟨A, cap, fun _ => e⟩
    · exact ⟨none, 0, fun h => absurd h hw⟩
  refine ⟨x, A, x.bs.length, cap, hx, ?_, rfl, g2, g1, g3, ?_, ?_⟩
  · unfold Dm.at; exact hrow
  · have := hk.now.len; have hn' := hn; rw [this] at hn'; exact hn'
  · intro w b0 hS
    have hv' := hv ⟨w, b0, hS⟩
    have ha : (x.asn b0).holds w := hS.1 _ (by unfold Cd.asn; exact List.mem_cons_of_mem _ (List.mem_map.2 ⟨x, List.mem_of_getElem? hx, rfl⟩))
    obtain ⟨t1, t2⟩ := Cd.nowAt (Cd.blk hS) (idx c.now s) hn
    have e1 : (c.now[idx c.now s]'hn).1 = s := idx_at hn
    have e2 : (c.now[idx c.now s]'hn).2 = some (c.m.file (idx c.now s)) := h2
    rw [e1] at t1
    rw [e2] at t2
    simp only [Option.bind_some, hx, Option.map_some] at t2
    obtain ⟨A', cap', ev, q1, q2, q3⟩ := ha.2.1.shape
    rw [hv'] at ev
    obtain ⟨rfl, _, rfl⟩ := Value.slice.inj ev
    refine ⟨hv', t1, t2, ?_, ?_, ha.2.1.rd hv' (Nat.le_refl _), q1, q2, ha.1.free, ha.1.lt⟩
    · rw [ha.1.cell, ← hv']; rfl
    · rw [ha.1.cell]; rfl
/-- A row that turns. -/
theorem Cd.step_row {w w' : World} {c : Cd} {b0 i : Nat} {x x' : RowC} (hi : c.rows[i]? = some x) (hr : x'.r = x.r) (h : Step w w' [x.asn b0] [x'.asn b0]) (hS : Sep w (c.asn b0)) :
    Step w w' (c.asn b0) ({ c with rows := c.rows.set i x' }.asn b0) := by
  obtain ⟨hlt, hx⟩ := List.getElem?_eq_some_iff.1 hi
  have e1 : c.rows = c.rows.take i ++ x :: c.rows.drop (i + 1) := by rw [← hx, List.getElem_cons_drop, List.take_append_drop]
  have e2 : c.rows.set i x' = c.rows.take i ++ x' :: c.rows.drop (i + 1) := by rw [List.set_eq_take_append_cons_drop, if_pos hlt]
  have hb : ∀ y : RowC, y.r = x.r → ∀ j : Nat, (c.rows.take i ++ y :: c.rows.drop (i + 1))[j]?.map RowC.r = c.rows[j]?.map RowC.r := by
    intro y hy j
    conv => rhs; rw [e1]
    by_cases hj : j < i
    · rw [List.getElem?_append_left (by simp; omega), List.getElem?_append_left (by simp; omega)]
    · rw [List.getElem?_append_right (by simp; omega), List.getElem?_append_right (by simp; omega)]
      cases hjj : j - (c.rows.take i).length with
      | zero => simp [hy]
      | succ k => simp
  have hc : ({ c with rows := c.rows.set i x' } : Cd).cells = c.cells := by
    unfold Cd.cells tabCells
    have hp : plCells (c.rows.set i x') = plCells c.rows := by
      funext p
      unfold plCells
      cases hp2 : p.2 with
      | none => rfl
      | some j =>
        have := hb x' hr j
        rw [← e2] at this
        simp only [Option.bind_some]
        have e3 : ∀ l : List RowC, l[j]?.map (fun x => (⟨x.r, 0, none⟩ : Addr)) = (l[j]?.map RowC.r).map (fun r => (⟨r, 0, none⟩ : Addr)) := by intro l; rw [Option.map_map]; rfl
        rw [e3, e3, this]
    rw [hp]
  have p1 : ([x.asn b0] ++ (Asn.blk c.g 72 c.cells :: ((c.rows.take i).map (RowC.asn b0) ++ (c.rows.drop (i + 1)).map (RowC.asn b0)))).Perm (c.asn b0) := by
    unfold Cd.asn
    conv => rhs; rw [e1]
    rw [List.map_append, List.map_cons, List.singleton_append]
    exact (List.Perm.swap _ _ _).trans (List.Perm.cons _ (List.perm_middle.symm))
  have p2 : ([x'.asn b0] ++ (Asn.blk c.g 72 c.cells :: ((c.rows.take i).map (RowC.asn b0) ++ (c.rows.drop (i + 1)).map (RowC.asn b0)))).Perm (({ c with rows := c.rows.set i x' } : Cd).asn b0) := by
    unfold Cd.asn
    rw [hc]
    show List.Perm _ (_ :: List.map _ (c.rows.set i x'))
    rw [e2, List.map_append, List.map_cons, List.singleton_append]
    exact (List.Perm.swap _ _ _).trans (List.Perm.cons _ (List.perm_middle.symm))
  exact (h.frame (hS.perm p1.symm)).perm p1 p2
theorem Cd.m_set {c : Cd} {i : Nat} {x' : RowC} : ({ c with rows := c.rows.set i x' } : Cd).m = { c.m with rows := c.m.rows.set i (x'.bs, x'.mark) } := by
  unfold Cd.m; simp only [List.map_set]
theorem Step.after {w w1 w' : World} {A A' : List Asn} (hS : Sep w A) (hb : Below w.heap.size w w1) (h : Step w1 w' A A') : Step w w' A A' :=
  Step.trans ⟨hS.below hb (fun _ hk => hS.lt hk), Mods.of_below hb _, fun _ hk => .inl hk⟩ h
end Go.Proofs.YtgibdecgmageeaaDoor
