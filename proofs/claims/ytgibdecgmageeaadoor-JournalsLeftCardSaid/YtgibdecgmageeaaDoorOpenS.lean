/- Arguments opened: strings, arrays of strings, small integers. -/
import Derived.Test.YtgibdecgmageeaaDoorOpen
namespace Go.Proofs.YtgibdecgmageeaaDoor
open Go.ChangeShapes Go.WideShapes Go.ChangeAt Go.RowKit

section
variable {H : Type} {enc : TypeId × Value → H} {P : Program} {w : World}

theorem open_str_one {t : TypeId} {held : Bool} {fuel : Nat} {v : Value} {d : DataW H} {ps : List MemPlace} (ht : P.underlying t = some .string)
    (h : DataW.trod enc P w 0 (fun _ => true) held fuel t [v] = some (d, ps)) : ∃ s : ByteArray, v = .string s ∧ ∀ m, (∀ n ∈ d.weights P t, n ≤ m) → s.size ≤ m := by
  obtain ⟨s, e1, e2, _⟩ := DataW.trod_string ht h
  simp only [List.cons.injEq, and_true] at e1
  simp only [Prod.mk.injEq] at e2
  obtain ⟨rfl, _⟩ := e2
  refine ⟨s, e1, fun m hm => hm _ ?_⟩
  simp [DataW.weights]
/-- '[2]string'. -/
theorem open_two_str {t e : TypeId} {held : Bool} {fuel : Nat} {cs : List Value} {d : DataW H} {ps : List MemPlace} (ht : P.underlying t = some (.array 2 e)) (he : P.underlying e = some .string) (hce : P.cellsOf e = 1) (hct : P.cellsOf t = 2)
    (h : DataW.trod enc P w 0 (fun _ => true) held fuel t cs = some (d, ps)) : ∃ x y : ByteArray, cs = [.string x, .string y] ∧ ∀ m, (∀ n ∈ d.weights P t, n ≤ m) → x.size ≤ m ∧ y.size ≤ m := by
  obtain ⟨hl, hp⟩ := open_arr1 ht hce hct h
  obtain ⟨a, b, rfl⟩ := list_two hl
  obtain ⟨m0, d0, p0, h0, _, w0⟩ := hp 0 (by simp)
  obtain ⟨m1, d1, p1, h1, _, w1⟩ := hp 1 (by simp)
  obtain ⟨x, e0, k0⟩ := open_str_one he h0
  obtain ⟨y, e1, k1⟩ := open_str_one he h1
  simp only [List.getElem_cons_zero, List.getElem_cons_succ] at e0 e1
  subst e0; subst e1
  exact ⟨x, y, rfl, fun m hm => ⟨k0 m fun n hn => hm n (w0 n hn), k1 m fun n hn => hm n (w1 n hn)⟩⟩
end
end Go.Proofs.YtgibdecgmageeaaDoor
