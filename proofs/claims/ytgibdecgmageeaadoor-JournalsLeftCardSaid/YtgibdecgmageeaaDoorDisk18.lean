/- Fail: what a round does. -/
import Derived.Test.YtgibdecgmageeaaDoorDisk17
namespace Go.Proofs.YtgibdecgmageeaaDoor
open Go.RowKit

/-- What stands at a place of the table that is taken. -/
def FailAt (c : Cd) (w : World) (keep : Int) (t : List Pl) (j : Nat) (p : Option Addr) : Prop :=
  (p = none ∧ (∀ nr, failCells c.size c.rows nr t (j + 1) = failCells c.size c.rows nr t j) ∧ c.m.anewR keep (t.take (j + 1)) = c.m.anewR keep (t.take j)) ∨
      ∃ (x : RowC) (A : Option Addr) (n cap kn : Nat), p = some ⟨x.r, 0, none⟩ ∧ n ≤ 1048576 ∧ x.mark ≤ n ∧ n ≤ cap ∧ cap ≤ 9223372036854775807 ∧ (kn : Int) = x.mark + min keep (n - x.mark) ∧ kn ≤ n ∧ (x.bs.take kn).length = kn ∧
        (∀ W, Below w.heap.size w W → W.cell? ⟨x.r, 0, none⟩ = some (.slice A n cap) ∧ W.cell? ⟨x.r, 1, none⟩ = some (.int .i64 x.mark) ∧ Rd W W.heap.size A (U8 (x.bs.take kn))) ∧ (A = none → n = 0 ∧ cap = 0) ∧
        (∀ (nr : List RowC) (gx : Nat) (wr w3 : World) (v : Value), nr.map (fun x => (x.bs, x.mark)) = c.m.anewR keep (t.take j) → Sep wr (Asn.blk gx 72 (failCells c.size c.rows nr t j) :: nr.map (RowC.asn w.heap.size)) → Below wr.heap.size wr w3 → w.heap.size ≤ wr.heap.size → Own w3 wr.heap.size 5 1 v kn (U8 (x.bs.take kn)) →
          ∃ nr' : List RowC, nr'.map (fun x => (x.bs, x.mark)) = c.m.anewR keep (t.take (j + 1)) ∧ Sep ((w3.alloc (.cells #[v, .int .i64 kn] 101)).setCell ⟨gx, 1 + j * 2 + 1, none⟩ (.pointer (some ⟨w3.heap.size, 0, none⟩))) (Asn.blk gx 72 (failCells c.size c.rows nr' t (j + 1)) :: nr'.map (RowC.asn w.heap.size)))

theorem fail_at (c : Cd) (b0 : Nat) (keep : Int) (w : World) (t : List Pl) (hS : Sep w (c.asn b0)) (hk : c.m.ok) (hk0 : 0 ≤ keep) (htok : TabOk c.rows.length t) : ∀ j (h : j < t.length), FailAt c w keep t j (ptr c.rows (t[j]'h).2) := by
  have hS' : ∀ w', Below w.heap.size w w' → Sep w' (c.asn b0) := fun w' hb => hS.below hb (fun _ hk => hS.lt hk)
  intro j h
  cases hp : (t[j]'h).2 with
  | none =>
    left
    refine ⟨rfl, fun nr => failCells_none h hp, ?_⟩
    rw [take_at h, anewR_append]
    cases hq : t[j]'h with
    | mk s o =>
      rw [hq] at hp
      have : o = none := hp
      subst this
      simp [Dm.anewR]
  | some i =>
    right
    have hi : i < c.rows.length := (htok.some_ _ (List.getElem_mem h) i hp).2
    have hx : c.rows[i]? = some (c.rows[i]'hi) := List.getElem?_eq_getElem hi
    generalize c.rows[i]'hi = x at hx
    have hmem : x.asn b0 ∈ c.asn b0 := by unfold Cd.asn; exact List.mem_cons_of_mem _ (List.mem_map.2 ⟨x, List.mem_of_getElem? hx, rfl⟩)
    have ha : (x.asn b0).holds w := hS.1 _ hmem
    obtain ⟨A, cap, ev, q1, q2, q3⟩ := ha.2.1.shape
    have hrow := Cd.m_row hx
    obtain ⟨g1, g2, g3⟩ := hk.rows (x.bs, x.mark) (by unfold Cd.m; exact List.mem_map.2 ⟨x, List.mem_of_getElem? hx, rfl⟩)
    have hkept : kept keep (x.bs, x.mark) = (x.bs.take (x.mark + min keep.toNat (x.bs.length - x.mark)), x.mark + min keep.toNat (x.bs.length - x.mark)) := rfl
    obtain ⟨kn, hkn⟩ : ∃ kn, kn = x.mark + min keep.toNat (x.bs.length - x.mark) := ⟨_, rfl⟩
    rw [← hkn] at hkept
    have g1' : x.mark ≤ x.bs.length := g1
    have hanew : c.m.anewR keep (t.take (j + 1)) = c.m.anewR keep (t.take j) ++ [(x.bs.take kn, kn)] := by
      rw [take_at h, anewR_append]
      cases hq : t[j]'h with
      | mk s o =>
        rw [hq] at hp
        have : o = some i := hp
        subst this
        simp only [Dm.anewR]
        rw [hrow, hkept]
    have hlt : (x.bs.take kn).length = kn := by simp; omega
    refine ⟨x, A, x.bs.length, cap, kn, by unfold ptr; simp [hx], g2, g1', q1, q2, by omega, by omega, hlt, ?_, q3, ?_⟩
    · intro W hb
      have haW : (x.asn b0).holds W := (hS' W hb).1 _ hmem
      refine ⟨by rw [haW.1.cell, ← ev]; rfl, by rw [haW.1.cell]; rfl, ?_⟩
      have hr := haW.2.1.rd ev (Nat.le_refl _)
      intro hx0
      have hlen0 : 0 < (U8 x.bs).length := by simp at hx0 ⊢; omega
      obtain ⟨ad, e, hb', hc⟩ := hr hlen0
      refine ⟨ad, e, hb', fun j u hu => hc j u ?_⟩
      unfold U8 at hu ⊢
      rw [List.map_take, List.getElem?_take] at hu
      split at hu
      · exact hu
      · cases hu
    · intro nr gx wr w3 v hnr hSr hb hw0 ho
      have hn : nr.length = nFiles (t.take j) := by
        have := congrArg List.length hnr
        rw [List.length_map, length_anewR] at this
        exact this
      have ho' : Own w3 wr.heap.size 5 1 v (x.bs.take kn).length (U8 (x.bs.take kn)) := by rw [hlt]; exact ho
      have hst := fail_step h hp hn hSr hb hw0 v (x.bs.take kn) kn ho'
      have hmap : (nr ++ [(⟨w3.heap.size, v, x.bs.take kn, kn⟩ : RowC)]).map (fun x => (x.bs, x.mark)) = c.m.anewR keep (t.take (j + 1)) := by
        rw [hanew, List.map_append, hnr, List.map_cons, List.map_nil]
      exact ⟨nr ++ [(⟨w3.heap.size, v, x.bs.take kn, kn⟩ : RowC)], hmap, hst⟩

theorem Dm.names_pos {m : Dm} (h : ¬ m.size < 1) : m.names = (0, { m with safe := m.now }) := if_neg h
theorem fail_end (c : Cd) (keep : Int) (w : World) (t : List Pl) (h1 : 1 ≤ c.size) (htl : t.length = 64) (gx : Nat) (nr : List RowC) (W : World) (hnr : Hid (nr.map (fun x => (x.bs, x.mark)) = c.m.anewR keep (t.take 64))) (hSr : Hid (Sep W (Asn.blk gx 72 (failCells c.size c.rows nr t 64) :: nr.map (RowC.asn w.heap.size)))) (hgx : w.heap.size ≤ gx) (hbW : Below w.heap.size w W) :
    Calls Tryd.prog 28 #[.pointer (some ⟨gx, 0, none⟩)] W (fun e w' => e = .returned (.int .i64 0) ∧ ∃ c' : Cd, c'.g = gx ∧ c'.m = ⟨c.size, anewT 0 t, anewT 0 t, c.m.anewR keep t⟩ ∧ Sep w' (c'.asn w.heap.size) ∧ Below w.heap.size w w') := by
  have hSc : Sep W ((⟨gx, c.size, anewT 0 t, List.replicate 64 free, nr⟩ : Cd).asn w.heap.size) := by
    unfold Cd.asn
    rw [← failCells_end gx c.size c.rows nr t htl]
    exact hSr
  refine (Names_len ⟨gx, c.size, anewT 0 t, List.replicate 64 free, nr⟩ w.heap.size W hSc (by rw [length_anewT]; exact htl) (by simp)).mono ?_
  rintro e w' ⟨rfl, c', hg', hm', hst⟩
  have hnm : (⟨gx, c.size, anewT 0 t, List.replicate 64 free, nr⟩ : Cd).m.names = (0, ⟨c.size, anewT 0 t, anewT 0 t, nr.map fun x => (x.bs, x.mark)⟩) :=
    Dm.names_pos (m := ⟨c.size, anewT 0 t, List.replicate 64 free, nr.map fun x : RowC => (x.bs, x.mark)⟩) (show ¬ c.size < 1 by omega)
  rw [hnm] at hm' ⊢
  refine ⟨rfl, c', hg', ?_, hst.sep, ?_⟩
  · rw [hm']
    have hnr' : nr.map (fun x => (x.bs, x.mark)) = c.m.anewR keep (t.take 64) := hnr
    rw [List.take_of_length_le (by omega)] at hnr'
    rw [hnr']
  · exact hbW.trans (hst.below hbW.size (Cd.base hSc hgx))
end Go.Proofs.YtgibdecgmageeaaDoor
