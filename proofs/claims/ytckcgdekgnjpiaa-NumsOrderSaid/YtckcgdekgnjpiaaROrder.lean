/- NumsOrder, the row. -/
import Derived.Test.YtckcgdekgnjpiaaRows
import Derived.Test.YtckcgdekgnjpiaaLOrder
import Derived.Test.YtckcgdekgnjpiaaOpen
namespace Go.Proofs.Ytckcgdekgnjpiaa
open Go.ChangeShapes Go.WideShapes Go.ChangeAt Go.RowKit

theorem own3 : ownKnob Try.prog.godebug = none := by kernel_rfl
theorem laidOut3 : laidOutB Try.prog = true := by kernel_rfl

theorem list_eight {α : Type} {l : List α} (h : l.length = 8) : ∃ a b c d e f g i, l = [a, b, c, d, e, f, g, i] := by
  match l, h with
  | [a, b, c, d, e, f, g, i], _ => exact ⟨a, b, c, d, e, f, g, i, rfl⟩

theorem NumsOrder_lifted (os : Os) (started : os.Started) (H : Type) (enc : TypeId × Value → H) :
    ReturnsInHanded {} Try.checked os 5 .any (Rows.numsOrderSpec.pre6 enc Try.prog Try.f5 Rows.numsOrderRow.domain false) (Rows.numsOrderSpec.post enc Try.prog Try.f5 false true false false) := by
  refine returnsInHanded_of_change_sized (C := Try.checked) own3 started (by kernel_rfl) Try.func5
    (ChangeSpec.witness6 (enc := enc) (C := Try.checked) false ⟨#[], #[.int .u64 0, .int .u64 0, .agg #[.int .u64 0, .int .u64 0, .int .u64 0, .int .u64 0, .int .u64 0, .int .u64 0, .int .u64 0, .int .u64 0]], []⟩ 8 (by kernel_rfl) (by kernel_rfl) (by kernel_rfl) (by kernel_rfl)) ?_
  intro W base args ds gs before hval0 hW _ _ _
  have hval : ∀ (j : Nat) t v, Try.f5.params[j]? = some t → args[j]? = some v → Value.okWide Try.prog W .any base t v := hval0
  have hW' := hW
  obtain ⟨p, q, hA0, hV, rfl, _, _⟩ := hW
  have hA : DataW.TrodAll enc Try.prog W 0 (fun _ => true) true Try.f5.params.toList args.toList ds p := hA0
  rw [Try.params5] at hA hval
  obtain ⟨v0, v1, v2, d0, d1, d2, p0, p1, p2, rfl, rfl, rfl, h0, h1, h2⟩ := trodAll_three hA
  obtain ⟨rfl, rfl⟩ := trodVars_none hV
  obtain ⟨m, rfl, rfl, rfl, wm⟩ := open_int Try.underlying22 (hval 0 22 v0 rfl rfl) h0
  obtain ⟨n, rfl, rfl, rfl, wn⟩ := open_int Try.underlying22 (hval 1 22 v1 rfl rfl) h1
  obtain ⟨cs, rfl⟩ := okWide_agg Try.underlying45 (hval 2 45 v2 rfl rfl)
  have h2k := h2
  obtain ⟨fu2, hf2⟩ := h2
  clear hA0 hval0
  simp only [List.append_nil, List.nil_append] at hW'
  have hlt : ∀ x ∈ p2, x.block < W.heap.size := fun x hx => by simpa using hW'.lt x hx
  have hargs : ∀ (W' : World), Below W.heap.size W W' → DataW.TrodAll enc Try.prog W' 0 (fun b => decide (b < W.heap.size)) true [22, 22, 45] [.int .u64 m, .int .u64 n, .agg cs] [.lit (.int .u64 m), .lit (.int .u64 n), d2] ([] ++ ([] ++ p2)) :=
    fun W' hn => trodAll_mk3 (shut_int Try.underlying22 wm) (shut_int Try.underlying22 wn) (Below.trod laidOut3 (by kernel_rfl) (of_decide_eq_true (by kernel_rfl)) h2k hn hlt)
  obtain ⟨ys, k, rfl, _, hl, hly, hf⟩ := DataW.trod_array Try.underlying45 hf2
  rw [show Try.prog.cellsOf 45 = 8 by kernel_rfl] at hl
  have g0 := hf 0 (by omega)
  have g1 := hf 1 (by omega)
  simp only [show Try.prog.cellsOf 24 = 4 by kernel_rfl] at g0 g1
  obtain ⟨y0, y1, rfl⟩ := list_two hly
  obtain ⟨c0, c1, c2, c3, c4, c5, c6, c7, hcs⟩ := list_eight hl
  rw [hcs] at g0 g1
  simp only [Nat.zero_mul, Nat.one_mul, List.drop_zero, List.take_succ_cons, List.take_zero, List.drop_succ_cons, List.getElem?_cons_zero, List.getElem?_cons_succ] at g0 g1
  obtain ⟨a0, a1, a2, a3, ea, ha⟩ := open_four Try.underlying24 Try.underlying22 (by kernel_rfl) (by kernel_rfl) g0
  obtain ⟨b0, b1, b2, b3, eb, hb⟩ := open_four Try.underlying24 Try.underlying22 (by kernel_rfl) (by kernel_rfl) g1
  simp only [List.cons.injEq, and_true] at ea eb
  obtain ⟨rfl, rfl, rfl, rfl⟩ := ea
  obtain ⟨rfl, rfl, rfl, rfl⟩ := eb
  have E : cs = #[.int .u64 a0, .int .u64 a1, .int .u64 a2, .int .u64 a3, .int .u64 b0, .int .u64 b1, .int .u64 b2, .int .u64 b3] := by
    apply Array.ext'; simpa [Value.cells] using hcs
  subst E
  have := bounds_u64 wm
  have := bounds_u64 wn
  refine (NumsOrder_all m n a0 a1 a2 a3 b0 b1 b2 b3 W (by omega) (by omega) ha hb).mono fun e W' ⟨he, hnx⟩ => ?_
  subst he
  exact ⟨_, rfl, _, _, _, [], _, [], hW', trodAll_mk1 (shut_bool Try.underlying4 true), hargs _ hnx, rfl, hnx.frame _, fun h => by cases h⟩

theorem NumsOrder_holds : Rows.NumsOrderSaid :=
  OpenClaim.holds_of_wide 5 Try.f5 rfl rfl rfl rfl rfl rfl rfl ⟨rfl, rfl, rfl, rfl, rfl⟩ rfl rfl rfl rfl rfl (by kernel_rfl) Try.func5 (by kernel_rfl)
    (of_decide_eq_true (by kernel_rfl)) (by unfold Func.isWrapper; rw [if_neg (of_decide_eq_false (by kernel_rfl))]; exact ⟨rfl, rfl⟩)
    (fun os started H enc _ => NumsOrder_lifted os started H enc)
end Go.Proofs.Ytckcgdekgnjpiaa
