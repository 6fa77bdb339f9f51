/- Arguments opened: slices of bytes, of integers and strings, arrays and structs of one-cell parts. -/
import Derived.Test.YtgibdecgmageeaaDoorLib
import Derived.ProofKit
import Derived.SizedLaws
import Derived.OpenShut
namespace Go.Proofs.YtgibdecgmageeaaDoor
open Go.ChangeShapes Go.WideShapes Go.ChangeAt Go.RowKit

section
variable {H : Type} {enc : TypeId × Value → H} {P : Program} {w : World}

theorem map_getElem? {α : Type} (f : Int → α) (zs : List Int) (j : Nat) (u : α) (h : (zs.map f)[j]? = some u) : j < zs.length ∧ u = f (zs.getD j 0) := by
  rw [List.getElem?_map] at h
  cases hz : zs[j]? with
  | none => rw [hz] at h; simp at h
  | some z =>
    rw [hz] at h
    have := (List.getElem?_eq_some_iff.1 hz).1
    refine ⟨this, ?_⟩
    simp at h
    rw [List.getD, hz]
    exact h.symm

/-- A slice of bytes among the arguments. -/
theorem open_bytes {t e : TypeId} {held : Bool} {fuel : Nat} {v : Value} {d : DataW H} {ps : List MemPlace} (ht : P.underlying t = some (.slice e)) (he : P.underlying e = some (.int .u8)) (hc : P.cellsOf e = 1)
    (h : DataW.trod enc P w 0 (fun _ => true) held fuel t [v] = some (d, ps)) :
    ∃ (A : Option Addr) (p : List Int) (cap : Nat), v = .slice A p.length cap ∧ IsU8 p ∧ p.length ≤ cap ∧ cap ≤ maxLen ∧ (∀ B, (∀ x ∈ ps, x.block < B) → Rd w B A (U8 p)) ∧
      ∀ m, (∀ n ∈ d.weights P t, n ≤ m) → cap * P.bytesOf e ≤ m := by
  rcases open_ints ht he hc h with ⟨hcs, hx⟩ | ⟨a, len, cap, zs, hcs, _, hl, hm, hz, hx, hcell, hwz⟩
  · simp only [List.cons.injEq, and_true] at hcs
    subst hcs
    exact ⟨none, [], 0, rfl, by simp [IsU8], by simp, by simp, fun B _ => Rd.nil _ _ _, by simp⟩
  · simp only [List.cons.injEq, and_true] at hcs
    subst hcs
    simp only [Prod.mk.injEq] at hx
    obtain ⟨rfl, rfl⟩ := hx
    simp only [if_true] at hz
    have hlen : (zs.take len).length = len := by simp; omega
    refine ⟨some a, zs.take len, cap, by rw [hlen], ?_, by omega, hm, ?_, ?_⟩
    · intro x hx
      have := bounds_u8 (hwz x (List.mem_of_mem_take hx))
      omega
    · intro B hB h0
      have h0' : 0 < zs.length := by simp at h0; omega
      refine ⟨a, rfl, hB (.cell a.block a.off) (MemPlace.mem_row.2 ⟨0, by omega, by simp⟩), ?_⟩
      intro j u hj
      obtain ⟨hj1, rfl⟩ := map_getElem? _ _ _ _ hj
      rw [hlen] at hj1
      rw [hcell j (by omega)]
      simp [List.getD, hj1]
    · intro m hw
      have := hw _ (show (((lits (H := H) .u8 (zs.take len)).length + (lits (H := H) .u8 (zs.drop len)).length) * P.bytesOf e) ∈ _ by simp [DataW.weights, ht])
      simp only [lits, List.length_map, List.length_take, List.length_drop] at this
      rw [show min len zs.length + (zs.length - len) = cap by omega] at this
      exact this

/-- An array of one-cell elements: its parts, each read. -/
theorem open_arr1 {t e : TypeId} {n : Nat} {held : Bool} {fuel : Nat} {cs : List Value} {d : DataW H} {ps : List MemPlace} (ht : P.underlying t = some (.array n e)) (hc : P.cellsOf e = 1) (hn : P.cellsOf t = n)
    (h : DataW.trod enc P w 0 (fun _ => true) held fuel t cs = some (d, ps)) :
    cs.length = n ∧ ∀ i (hi : i < cs.length), ∃ m di pi, DataW.trod enc P w 0 (fun _ => true) held m e [cs[i]] = some (di, pi) ∧ (∀ x ∈ pi, x ∈ ps) ∧ ∀ k ∈ di.weights P e, k ∈ d.weights P t := by
  obtain ⟨xs, m, rfl, hx, hl, hlx, hf⟩ := DataW.trod_array ht h
  simp only [Prod.mk.injEq] at hx
  obtain ⟨rfl, rfl⟩ := hx
  rw [hn] at hl
  refine ⟨hl, fun i hi => ?_⟩
  have h1 := hf i (by omega)
  rw [hc, Nat.mul_one] at h1
  have e1 : (cs.drop i).take 1 = [cs[i]] := by
    rw [List.drop_eq_getElem_cons hi]; rfl
  have hix : i < xs.length := by omega
  rw [e1, List.getElem?_eq_getElem hix] at h1
  refine ⟨m, (xs[i]).1, (xs[i]).2, h1, ?_, ?_⟩
  · intro x hx
    exact List.mem_flatMap.2 ⟨xs[i], List.getElem_mem hix, hx⟩
  · intro k hk
    have hmem : (xs[i]).1 ∈ xs.map (·.1) := List.mem_map.2 ⟨_, List.getElem_mem hix, rfl⟩
    rw [DataW.weights, ht]
    generalize xs.map (·.1) = L at hmem
    simp only
    induction L with
    | nil => simp at hmem
    | cons a r ih =>
      simp only [DataW.weightsAll, List.mem_append]
      rcases List.mem_cons.1 hmem with rfl | h
      · exact Or.inl hk
      · exact Or.inr (ih h)

/-- An array of integers. -/
theorem open_arr_int {t e : TypeId} {n : Nat} {k : IntKind} {held : Bool} {fuel : Nat} {cs : List Value} {d : DataW H} {ps : List MemPlace} (ht : P.underlying t = some (.array n e)) (he : P.underlying e = some (.int k)) (hc : P.cellsOf e = 1) (hn : P.cellsOf t = n)
    (h : DataW.trod enc P w 0 (fun _ => true) held fuel t cs = some (d, ps)) :
    cs.length = n ∧ ∀ i (hi : i < cs.length), ∃ a, cs[i] = .int k a ∧ (Lit.int k a).wf = true := by
  obtain ⟨h1, h2⟩ := open_arr1 ht hc hn h
  refine ⟨h1, fun i hi => ?_⟩
  obtain ⟨m, di, pi, h3, _⟩ := h2 i hi
  obtain ⟨a, ea, _, wa⟩ := DataW.trod_int he h3
  simp only [List.cons.injEq, and_true] at ea
  exact ⟨a, ea, wa⟩

theorem okWide_agg {t e : TypeId} {n : Nat} {r : Reach} {b0 : Nat} {v : Value} (ht : P.underlying t = some (.array n e)) (h : Value.okWide P w r b0 t v) : ∃ cs, v = .agg cs := by
  simp only [Value.okWide, ht] at h
  obtain ⟨cs, h1, _⟩ := h
  exact ⟨cs, h1⟩

theorem weights_each {ts : List TypeId} {ds : List (DataW H)} {m : Nat} (h : (DataW.weightsEach P ts ds).all (· ≤ m) = true) {j : Nat} {t : TypeId} {d : DataW H} (ht : ts[j]? = some t) (hd : ds[j]? = some d) : ∀ n ∈ d.weights P t, n ≤ m := fun n hn => by
  have := List.all_eq_true.1 h _ (DataW.weights_mem_each ht hd n hn)
  simpa using this

theorem list_two {α : Type} {l : List α} (h : l.length = 2) : ∃ a b, l = [a, b] := by
  match l, h with
  | [a, b], _ => exact ⟨a, b, rfl⟩
theorem list_four {α : Type} {l : List α} (h : l.length = 4) : ∃ a b c d, l = [a, b, c, d] := by
  match l, h with
  | [a, b, c, d], _ => exact ⟨a, b, c, d, rfl⟩

/-- '[2][]byte'. -/
theorem open_two_bytes {t s e : TypeId} {held : Bool} {fuel : Nat} {cs : List Value} {d : DataW H} {ps : List MemPlace} (ht : P.underlying t = some (.array 2 s)) (hs : P.underlying s = some (.slice e)) (he : P.underlying e = some (.int .u8)) (hce : P.cellsOf e = 1) (hcs : P.cellsOf s = 1) (hct : P.cellsOf t = 2) (hbe : P.bytesOf e = 1)
    (h : DataW.trod enc P w 0 (fun _ => true) held fuel t cs = some (d, ps)) :
    ∃ (A0 A1 : Option Addr) (p q : List Int) (c0 c1 : Nat), cs = [.slice A0 p.length c0, .slice A1 q.length c1] ∧ IsU8 p ∧ IsU8 q ∧
      (∀ B, (∀ x ∈ ps, x.block < B) → Rd w B A0 (U8 p) ∧ Rd w B A1 (U8 q)) ∧ ∀ m, (∀ n ∈ d.weights P t, n ≤ m) → p.length ≤ m ∧ q.length ≤ m := by
  obtain ⟨hl, hp⟩ := open_arr1 ht hcs hct h
  obtain ⟨a, b, rfl⟩ := list_two hl
  obtain ⟨m0, d0, p0, h0, s0, w0⟩ := hp 0 (by simp)
  obtain ⟨m1, d1, p1, h1, s1, w1⟩ := hp 1 (by simp)
  obtain ⟨A0, p, c0, e0, u0, l0, _, r0, k0⟩ := open_bytes hs he hce h0
  obtain ⟨A1, q, c1, e1, u1, l1, _, r1, k1⟩ := open_bytes hs he hce h1
  simp only [List.getElem_cons_zero, List.getElem_cons_succ] at e0 e1
  subst e0; subst e1
  refine ⟨A0, A1, p, q, c0, c1, rfl, u0, u1, fun B hB => ⟨r0 B fun x hx => hB x (s0 x hx), r1 B fun x hx => hB x (s1 x hx)⟩, fun m hm => ?_⟩
  have a0 := k0 m fun n hn => hm n (w0 n hn)
  have a1 := k1 m fun n hn => hm n (w1 n hn)
  rw [hbe] at a0 a1
  omega

/-- '[4]uint64'. -/
theorem open_four {t e : TypeId} {held : Bool} {fuel : Nat} {cs : List Value} {d : DataW H} {ps : List MemPlace} (ht : P.underlying t = some (.array 4 e)) (he : P.underlying e = some (.int .u64)) (hce : P.cellsOf e = 1) (hct : P.cellsOf t = 4)
    (h : DataW.trod enc P w 0 (fun _ => true) held fuel t cs = some (d, ps)) :
    ∃ a0 a1 a2 a3 : Int, cs = [.int .u64 a0, .int .u64 a1, .int .u64 a2, .int .u64 a3] ∧ ∀ x ∈ [a3, a2, a1, a0], 0 ≤ x ∧ x < 18446744073709551616 := by
  obtain ⟨hl, hp⟩ := open_arr_int ht he hce hct h
  obtain ⟨c0, c1, c2, c3, rfl⟩ := list_four hl
  obtain ⟨a0, e0, w0⟩ := hp 0 (by simp)
  obtain ⟨a1, e1, w1⟩ := hp 1 (by simp)
  obtain ⟨a2, e2, w2⟩ := hp 2 (by simp)
  obtain ⟨a3, e3, w3⟩ := hp 3 (by simp)
  simp only [List.getElem_cons_zero, List.getElem_cons_succ] at e0 e1 e2 e3
  subst e0; subst e1; subst e2; subst e3
  have := bounds_u64 w0
  have := bounds_u64 w1
  have := bounds_u64 w2
  have := bounds_u64 w3
  refine ⟨a0, a1, a2, a3, rfl, ?_⟩
  intro x hx
  simp at hx
  omega
end
end Go.Proofs.YtgibdecgmageeaaDoor
