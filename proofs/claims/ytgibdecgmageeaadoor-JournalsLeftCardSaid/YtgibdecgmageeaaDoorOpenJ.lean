/- Arguments opened: records; a slice's capacity. -/
import Derived.Test.YtgibdecgmageeaaDoorOpenR
import Derived.Test.YtgibdecgmageeaaDoorJr7
namespace Go.Proofs.YtgibdecgmageeaaDoor
open Go.ChangeShapes Go.WideShapes Go.ChangeAt Go.RowKit

section
variable {H : Type} {enc : TypeId × Value → H} {P : Program} {W : World}
theorem open_slice_cap {t e : TypeId} {held : Bool} {fuel len cap : Nat} {A : Option Addr} {d : DataW H} {ps : List MemPlace} (ht : P.underlying t = some (.slice e))
    (h : DataW.trod enc P W 0 (fun _ => true) held fuel t [.slice A len cap] = some (d, ps)) : len ≤ cap := by
  rcases Go.Deep.open_slice ht h with ⟨hcs, _⟩ | ⟨a, l, c, mm, n, D, Pl, hcs, _, hl, _, _, _, _⟩
  · cases hcs; omega
  · cases hcs; exact hl
/-- Records among the arguments. -/
theorem open_records {t s e : TypeId} {held : Bool} {fuel m B : Nat} {A : Option Addr} {n cap : Nat} {d : DataW H} {ps : List MemPlace} (ht : P.underlying t = some (.slice s)) (hs : P.underlying s = some (.slice e)) (he : P.underlying e = some (.int .u8)) (hc : P.cellsOf s = 1) (hby : 1 ≤ P.bytesOf s) (hce : P.cellsOf e = 1) (hbe : P.bytesOf e = 1)
    (h : DataW.trod enc P W 0 (fun _ => true) held fuel t [.slice A n cap] = some (d, ps)) (hw : ∀ n ∈ d.weights P t, n ≤ m) (hm : m ≤ 140737488351232) (hB : ∀ p ∈ ps, p.block < B) :
    ∃ l : List Src, n = l.length ∧ n ≤ cap ∧ n ≤ 140737488351232 ∧ RecsIn W B A l ∧ ∀ r ∈ bsOf l, IsU8 r := by
  obtain ⟨A', l, cap', e1, h2, h3, h4⟩ := open_recs ht hs he hc hby hce hbe h hw
  have hcap := open_slice_cap ht h
  simp only [Value.slice.injEq] at e1
  obtain ⟨rfl, rfl, rfl⟩ := e1
  refine ⟨l, rfl, hcap, by omega, ⟨h3 B hB, fun r hr => ?_⟩, fun r hr => ?_⟩
  · obtain ⟨u1, u2, u3, u4⟩ := h4 r hr
    exact ⟨u4 B hB, u1, by omega⟩
  · obtain ⟨x, hx, rfl⟩ := List.mem_map.1 hr
    exact (h4 x hx).1
end
end Go.Proofs.YtgibdecgmageeaaDoor
