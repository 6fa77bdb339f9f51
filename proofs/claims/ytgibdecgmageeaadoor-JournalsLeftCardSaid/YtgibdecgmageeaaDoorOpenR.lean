/- Arguments opened: slices of texts, of Booleans, of slices of bytes; arrays of slices of texts. -/
import Derived.Test.YtgibdecgmageeaaDoorOpenV
import Derived.Deep.Slices
namespace Go.Proofs.YtgibdecgmageeaaDoor
open Go.ChangeShapes Go.WideShapes Go.ChangeAt Go.RowKit

theorem weights_all1 {H : Type} {P : Program} {e : TypeId} {d : DataW H} {n : Nat} : ∀ (L : List (DataW H)), d ∈ L → n ∈ d.weights P e → n ∈ DataW.weightsAll P e L
  | [], h, _ => by cases h
  | a :: r, h, hn => by
    simp only [DataW.weightsAll, List.mem_append]
    rcases List.mem_cons.1 h with rfl | h
    · exact .inl hn
    · exact .inr (weights_all1 r h hn)
theorem exists_map {α β : Type} {f : α → β} {p : α → Prop} : ∀ (l : List β), (∀ u ∈ l, ∃ x, u = f x ∧ p x) → ∃ r : List α, l = r.map f ∧ ∀ x ∈ r, p x
  | [], _ => ⟨[], rfl, by simp⟩
  | u :: l, h => by
    obtain ⟨x, rfl, hx⟩ := h u (by simp)
    obtain ⟨r, rfl, hr⟩ := exists_map l (fun v hv => h v (by simp [hv]))
    exact ⟨x :: r, rfl, fun y hy => by
      rcases List.mem_cons.1 hy with rfl | hy
      · exact hx
      · exact hr y hy⟩

section
variable {H : Type} {enc : TypeId × Value → H} {P : Program} {W : World}

/-- A slice of elements of one cell. -/
theorem open_slice1 {t e : TypeId} {held : Bool} {fuel m : Nat} {v : Value} {d : DataW H} {ps : List MemPlace} (ht : P.underlying t = some (.slice e)) (hc : P.cellsOf e = 1) (hby : 1 ≤ P.bytesOf e)
    (h : DataW.trod enc P W 0 (fun _ => true) held fuel t [v] = some (d, ps)) (hw : ∀ n ∈ d.weights P t, n ≤ m) :
    ∃ (A : Option Addr) (vs : List Value) (cap : Nat), v = .slice A vs.length cap ∧ vs.length ≤ m ∧ (∀ B, (∀ p ∈ ps, p.block < B) → Rd W B A vs) ∧
      ∀ u ∈ vs, ∃ fu du pu, DataW.trod enc P W 0 (fun _ => true) held fu e [u] = some (du, pu) ∧ (∀ x ∈ pu, x ∈ ps) ∧ ∀ n ∈ du.weights P e, n ≤ m := by
  rcases Go.Deep.open_slice ht h with ⟨hcs, hx⟩ | ⟨a, len, cap, mm, n, D, Pl, hcs, _, hl, _, hmm, hx, hi⟩
  · simp only [List.cons.injEq, and_true] at hcs
    subst hcs
    exact ⟨none, [], 0, rfl, by simp, fun _ _ => Rd.nil _ _ _, fun u hu => by cases hu⟩
  · simp only [List.cons.injEq, and_true] at hcs
    subst hcs
    simp only [if_true] at hmm
    subst hmm
    rw [hc] at hx hi
    simp only [Prod.mk.injEq] at hx
    obtain ⟨rfl, rfl⟩ := hx
    rw [DataW.weights, ht] at hw
    have hlen := hw _ List.mem_cons_self
    rw [List.length_map, List.length_map, List.length_range, List.length_range] at hlen
    have hlen' : len ≤ m := by
      have := Nat.mul_le_mul_left (len + (mm - len)) hby
      omega
    have each : ∀ i, i < len → ∃ u : Value, W.cell? (a.add i) = some u ∧ ∃ fu du pu, DataW.trod enc P W 0 (fun _ => true) held fu e [u] = some (du, pu) ∧ (∀ x ∈ pu, x ∈ (MemPlace.row a (mm * 1)) ++ (List.range mm).flatMap Pl) ∧ ∀ n ∈ du.weights P e, n ≤ m := by
      intro i hil
      obtain ⟨cs', hc', ht'⟩ := hi i (by omega)
      obtain ⟨_, hcl, hat⟩ := World.cells?_some hc'
      match cs', hcl with
      | [u], _ =>
        have h0 := hat 0 (by omega)
        simp only [Nat.mul_one, Go.Deep.add_add, Nat.add_zero, List.getElem?_cons_zero] at h0
        exact ⟨u, h0, _, _, _, ht', fun x hx => List.mem_append_right _ (List.mem_flatMap.2 ⟨i, List.mem_range.2 (by omega), hx⟩),
          fun n hn => hw n (List.mem_cons_of_mem _ (List.mem_append_left _ (weights_all1 _ (List.mem_map.2 ⟨i, List.mem_range.2 hil, rfl⟩) hn)))⟩
    obtain ⟨X, hX⟩ : ∃ X : Nat → Value, ∀ i, i < len → W.cell? (a.add i) = some (X i) ∧ ∃ fu du pu, DataW.trod enc P W 0 (fun _ => true) held fu e [X i] = some (du, pu) ∧ (∀ x ∈ pu, x ∈ (MemPlace.row a (mm * 1)) ++ (List.range mm).flatMap Pl) ∧ ∀ n ∈ du.weights P e, n ≤ m :=
      ⟨fun i => if h : i < len then (each i h).choose else undef, fun i h => by simp only [dif_pos h]; exact (each i h).choose_spec⟩
    have hll : ((List.range len).map X).length = len := by simp
    refine ⟨some a, (List.range len).map X, mm, by rw [hll], by rw [hll]; exact hlen', fun B hB h0 => ⟨a, rfl, ?_, fun j u hj => ?_⟩, fun u hu => ?_⟩
    · rw [hll] at h0
      exact hB (.cell a.block a.off) (List.mem_append_left _ (MemPlace.mem_row.2 ⟨0, by omega, by simp⟩))
    · have hj1 : j < len := by
        have := (List.getElem?_eq_some_iff.1 hj).1
        rwa [hll] at this
      rw [(hX j hj1).1, ← hj]
      simp [hj1]
    · obtain ⟨i, hi', rfl⟩ := List.mem_map.1 hu
      exact (hX i (List.mem_range.1 hi')).2

/-- '[]string'. -/
theorem open_texts {t e : TypeId} {held : Bool} {fuel m : Nat} {v : Value} {d : DataW H} {ps : List MemPlace} (ht : P.underlying t = some (.slice e)) (he : P.underlying e = some .string) (hc : P.cellsOf e = 1) (hby : 1 ≤ P.bytesOf e)
    (h : DataW.trod enc P W 0 (fun _ => true) held fuel t [v] = some (d, ps)) (hw : ∀ n ∈ d.weights P t, n ≤ m) :
    ∃ (A : Option Addr) (l : List ByteArray) (cap : Nat), v = .slice A l.length cap ∧ l.length ≤ m ∧ (∀ B, (∀ p ∈ ps, p.block < B) → Rd W B A (l.map Value.string)) ∧ ∀ s ∈ l, s.size ≤ m := by
  obtain ⟨A, vs, cap, h1, h2, h3, h4⟩ := open_slice1 ht hc hby h hw
  obtain ⟨l, rfl, hl⟩ := exists_map (f := Value.string) (p := fun s => s.size ≤ m) vs fun u hu => by
    obtain ⟨fu, du, pu, k1, _, k3⟩ := h4 u hu
    obtain ⟨s, rfl, k4⟩ := open_str_one he k1
    exact ⟨s, rfl, k4 m k3⟩
  rw [List.length_map] at h1 h2
  exact ⟨A, l, cap, h1, h2, h3, hl⟩
/-- '[]bool'. -/
theorem open_bools {t e : TypeId} {held : Bool} {fuel m : Nat} {v : Value} {d : DataW H} {ps : List MemPlace} (ht : P.underlying t = some (.slice e)) (he : P.underlying e = some .bool) (hc : P.cellsOf e = 1) (hby : 1 ≤ P.bytesOf e)
    (h : DataW.trod enc P W 0 (fun _ => true) held fuel t [v] = some (d, ps)) (hw : ∀ n ∈ d.weights P t, n ≤ m) :
    ∃ (A : Option Addr) (l : List Bool) (cap : Nat), v = .slice A l.length cap ∧ l.length ≤ m ∧ (∀ B, (∀ p ∈ ps, p.block < B) → Rd W B A (l.map Value.bool)) := by
  obtain ⟨A, vs, cap, h1, h2, h3, h4⟩ := open_slice1 ht hc hby h hw
  obtain ⟨l, rfl, _⟩ := exists_map (f := Value.bool) (p := fun _ => True) vs fun u hu => by
    obtain ⟨fu, du, pu, k1, _⟩ := h4 u hu
    obtain ⟨b, k2, _⟩ := DataW.trod_bool he k1
    simp only [List.cons.injEq, and_true] at k2
    exact ⟨b, k2, trivial⟩
  rw [List.length_map] at h1 h2
  exact ⟨A, l, cap, h1, h2, h3⟩
/-- '[][]byte'. -/
theorem open_recs {t s e : TypeId} {held : Bool} {fuel m : Nat} {v : Value} {d : DataW H} {ps : List MemPlace} (ht : P.underlying t = some (.slice s)) (hs : P.underlying s = some (.slice e)) (he : P.underlying e = some (.int .u8)) (hc : P.cellsOf s = 1) (hby : 1 ≤ P.bytesOf s) (hce : P.cellsOf e = 1) (hbe : P.bytesOf e = 1)
    (h : DataW.trod enc P W 0 (fun _ => true) held fuel t [v] = some (d, ps)) (hw : ∀ n ∈ d.weights P t, n ≤ m) :
    ∃ (A : Option Addr) (l : List (Option Addr × List Int × Nat)) (cap : Nat), v = .slice A l.length cap ∧ l.length ≤ m ∧ (∀ B, (∀ p ∈ ps, p.block < B) → Rd W B A (l.map fun r => Value.slice r.1 r.2.1.length r.2.2)) ∧
      ∀ r ∈ l, IsU8 r.2.1 ∧ r.2.1.length ≤ r.2.2 ∧ r.2.2 ≤ m ∧ ∀ B, (∀ p ∈ ps, p.block < B) → Rd W B r.1 (U8 r.2.1) := by
  obtain ⟨A, vs, cap, h1, h2, h3, h4⟩ := open_slice1 ht hc hby h hw
  obtain ⟨l, rfl, hl⟩ := exists_map (f := fun r : Option Addr × List Int × Nat => Value.slice r.1 r.2.1.length r.2.2) (p := fun r => IsU8 r.2.1 ∧ r.2.1.length ≤ r.2.2 ∧ r.2.2 ≤ m ∧ ∀ B, (∀ p ∈ ps, p.block < B) → Rd W B r.1 (U8 r.2.1)) vs fun u hu => by
    obtain ⟨fu, du, pu, k1, k2, k3⟩ := h4 u hu
    obtain ⟨X, p, c, rfl, u1, u2, _, u4, u5⟩ := open_bytes hs he hce k1
    have := u5 m k3
    rw [hbe, Nat.mul_one] at this
    exact ⟨(X, p, c), rfl, u1, u2, this, fun B hB => u4 B fun x hx => hB x (k2 x hx)⟩
  rw [List.length_map] at h1 h2
  exact ⟨A, l, cap, h1, h2, h3, hl⟩
/-- '[2][]string'. -/
theorem open_two_texts {t s e : TypeId} {held : Bool} {fuel m : Nat} {cs : List Value} {d : DataW H} {ps : List MemPlace} (ht : P.underlying t = some (.array 2 s)) (hs : P.underlying s = some (.slice e)) (he : P.underlying e = some .string) (hc : P.cellsOf e = 1) (hby : 1 ≤ P.bytesOf e) (hcs : P.cellsOf s = 1) (hct : P.cellsOf t = 2)
    (h : DataW.trod enc P W 0 (fun _ => true) held fuel t cs = some (d, ps)) (hw : ∀ n ∈ d.weights P t, n ≤ m) :
    ∃ (A0 A1 : Option Addr) (l0 l1 : List ByteArray) (c0 c1 : Nat), cs = [.slice A0 l0.length c0, .slice A1 l1.length c1] ∧ (l0.length ≤ m ∧ l1.length ≤ m) ∧
      (∀ B, (∀ p ∈ ps, p.block < B) → Rd W B A0 (l0.map Value.string) ∧ Rd W B A1 (l1.map Value.string)) ∧ (∀ s ∈ l0, s.size ≤ m) ∧ ∀ s ∈ l1, s.size ≤ m := by
  obtain ⟨hl, hp⟩ := open_arr1 ht hcs hct h
  obtain ⟨a, b, rfl⟩ := list_two hl
  obtain ⟨m0, d0, p0, h0, s0, w0⟩ := hp 0 (by simp)
  obtain ⟨m1, d1, p1, h1, s1, w1⟩ := hp 1 (by simp)
  obtain ⟨A0, l0, c0, e0, n0, r0, k0⟩ := open_texts hs he hc hby h0 (fun n hn => hw n (w0 n hn))
  obtain ⟨A1, l1, c1, e1, n1, r1, k1⟩ := open_texts hs he hc hby h1 (fun n hn => hw n (w1 n hn))
  simp only [List.getElem_cons_zero, List.getElem_cons_succ] at e0 e1
  subst e0; subst e1
  exact ⟨A0, A1, l0, l1, c0, c1, rfl, ⟨n0, n1⟩, fun B hB => ⟨r0 B fun x hx => hB x (s0 x hx), r1 B fun x hx => hB x (s1 x hx)⟩, k0, k1⟩
end
end Go.Proofs.YtgibdecgmageeaaDoor
