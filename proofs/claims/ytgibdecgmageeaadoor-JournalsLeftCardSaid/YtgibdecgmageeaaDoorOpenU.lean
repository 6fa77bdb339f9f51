/- Arguments opened: slices of small integers; a string's weight. -/
import Derived.Test.YtgibdecgmageeaaDoorOpenS
import Derived.ChangeMaps5
namespace Go.Proofs.YtgibdecgmageeaaDoor
open Go.ChangeShapes Go.WideShapes Go.ChangeAt Go.RowKit

section
variable {H : Type} {enc : TypeId × Value → H} {P : Program} {w : World}

/-- '[]uint16'. -/
theorem open_u16s {t e : TypeId} {held : Bool} {fuel : Nat} {v : Value} {d : DataW H} {ps : List MemPlace} (ht : P.underlying t = some (.slice e)) (he : P.underlying e = some (.int .u16)) (hc : P.cellsOf e = 1) (hbe : P.bytesOf e = 2)
    (h : DataW.trod enc P w 0 (fun _ => true) held fuel t [v] = some (d, ps)) :
    ∃ (A : Option Addr) (p : List Int) (cap : Nat), v = .slice A p.length cap ∧ (∀ x ∈ p, 0 ≤ x ∧ x < 65536) ∧ (∀ B, (∀ x ∈ ps, x.block < B) → Rd w B A (p.map (Value.int .u16))) ∧
      ∀ m, (∀ n ∈ d.weights P t, n ≤ m) → p.length ≤ m := by
  rcases open_ints ht he hc h with ⟨hcs, hx⟩ | ⟨a, len, cap, zs, hcs, _, hl, hm, hz, hx, hcell, hwz⟩
  · simp only [List.cons.injEq, and_true] at hcs
    subst hcs
    exact ⟨none, [], 0, rfl, by simp, fun B _ => Rd.nil _ _ _, by simp⟩
  · simp only [List.cons.injEq, and_true] at hcs
    subst hcs
    simp only [Prod.mk.injEq] at hx
    obtain ⟨rfl, rfl⟩ := hx
    simp only [if_true] at hz
    have hlen : (zs.take len).length = len := by simp; omega
    refine ⟨some a, zs.take len, cap, by rw [hlen], ?_, ?_, ?_⟩
    · intro x hx
      have h := bounds_u16 (hwz x (List.mem_of_mem_take hx))
      omega
    · intro B hB h0
      have h0' : 0 < zs.length := by simp at h0; omega
      refine ⟨a, rfl, hB (.cell a.block a.off) (MemPlace.mem_row.2 ⟨0, by omega, by simp⟩), ?_⟩
      intro j u hj
      obtain ⟨hj1, rfl⟩ := map_getElem? _ _ _ _ hj
      rw [hlen] at hj1
      rw [hcell j (by omega)]
      simp [List.getD, hj1]
    · intro m hw
      have := hw _ (show (((lits (H := H) .u16 (zs.take len)).length + (lits (H := H) .u16 (zs.drop len)).length) * P.bytesOf e) ∈ _ by simp [DataW.weights, ht])
      simp only [lits, List.length_map, List.length_take, List.length_drop, hbe] at this
      rw [hlen]
      omega
theorem open_string_weight {t : TypeId} {s : ByteArray} {m : Nat} (h : ∀ n ∈ (DataW.lit (.string s.data.toList) : DataW H).weights P t, n ≤ m) : s.size ≤ m := by
  refine h _ ?_
  simp [DataW.weights]
end
end Go.Proofs.YtgibdecgmageeaaDoor
