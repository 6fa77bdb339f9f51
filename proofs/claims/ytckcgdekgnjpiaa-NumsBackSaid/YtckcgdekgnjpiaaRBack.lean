/- NumsBack, the row. -/
import Derived.Test.YtckcgdekgnjpiaaRows
import Derived.Test.YtckcgdekgnjpiaaLBack
import Derived.Test.YtckcgdekgnjpiaaOpen
namespace Go.Proofs.Ytckcgdekgnjpiaa
open Go.ChangeShapes Go.WideShapes Go.ChangeAt Go.RowKit

theorem Try.own : ownKnob Try.prog.godebug = none := by kernel_rfl
theorem Try.laidOut : laidOutB Try.prog = true := by kernel_rfl

/-- The law returns true whatever comes, and leaves what stood. -/
theorem NumsBack_all (N b a0 a1 a2 a3 : Int) (p q : List Int) (A0 A1 : Option Addr) (c0 c1 : Nat) (w : World) (hp : p.length ≤ 140737488351232) (hq : q.length ≤ 140737488351232)
    (hN : 0 ≤ N ∧ N < 18446744073709551616) (hb0 : -9223372036854775808 ≤ b) (hb1 : b ≤ 9223372036854775807) (ha : ∀ x ∈ [a3, a2, a1, a0], 0 ≤ x ∧ x < 18446744073709551616)
    (huq : IsU8 q) (hrp : Rd w w.heap.size A0 (U8 p)) (hrq : Rd w w.heap.size A1 (U8 q)) :
    Calls Try.prog 3 #[.agg #[.int .u64 N, .int .i64 b, .int .u64 a0, .int .u64 a1, .int .u64 a2, .int .u64 a3], .agg #[.slice A0 p.length c0, .slice A1 q.length c1]] w
      (fun e w' => e = .returned (.bool true) ∧ Below w.heap.size w w') := by
  by_cases h : 1048576 < p.length + q.length
  · exact NumsBack_beyond N b a0 a1 a2 a3 p q A0 A1 c0 c1 w hp hq h
  · exact NumsBack_within N b a0 a1 a2 a3 p q A0 A1 c0 c1 w (by omega) hN hb0 hb1 ha huq hrp hrq

theorem NumsBack_lifted (os : Os) (started : os.Started) (H : Type) (enc : TypeId × Value → H) :
    ReturnsInHanded {} Try.checked os 3 .any (Rows.numsBackSpec.pre6 enc Try.prog Try.f3 Rows.numsBackRow.domain false) (Rows.numsBackSpec.post enc Try.prog Try.f3 false true false false) := by
  refine returnsInHanded_of_change_sized (C := Try.checked) Try.own started (by kernel_rfl) Try.func3
    (ChangeSpec.witness6 (enc := enc) (C := Try.checked) false ⟨#[], #[.agg #[.int .u64 0, .int .i64 0, .int .u64 0, .int .u64 0, .int .u64 0, .int .u64 0], .agg #[.slice none 0 0, .slice none 0 0]], []⟩ 8 (by kernel_rfl) (by kernel_rfl) (by kernel_rfl) (by kernel_rfl)) ?_
  intro W base args ds gs before hval0 hW _ hsz0 _
  have hsz : (DataW.weightsEach Try.prog (Try.f3.params.toList ++ Rows.numsBackSpec.plain.varTypes Try.prog) (ds ++ gs)).all (· ≤ reachBytes) = true := hsz0
  clear hsz0
  have hval : ∀ (j : Nat) t v, Try.f3.params[j]? = some t → args[j]? = some v → Value.okWide Try.prog W .any base t v := hval0
  have hW' := hW
  obtain ⟨p, q, hA0, hV, rfl, _, _⟩ := hW
  have hA : DataW.TrodAll enc Try.prog W 0 (fun _ => true) true Try.f3.params.toList args.toList ds p := hA0
  rw [Try.params3] at hA hval hsz
  obtain ⟨v0, v1, d0, d1, p0, p1, rfl, rfl, rfl, h0, h1⟩ := trodAll_two hA
  obtain ⟨rfl, rfl⟩ := trodVars_none hV
  obtain ⟨cs0, rfl, _⟩ := okWide_struct Try.underlying26 (hval 0 26 v0 rfl rfl)
  obtain ⟨cs1, rfl⟩ := okWide_agg Try.underlying28 (hval 1 28 v1 rfl rfl)
  have h0k := h0
  have h1k := h1
  obtain ⟨fu0, hf0⟩ := h0
  obtain ⟨fu1, hf1⟩ := h1
  clear hA0 hval0
  simp only [List.append_nil] at hW'
  have hlt : ∀ x ∈ p0 ++ p1, x.block < W.heap.size := fun x hx => by simpa using hW'.lt x hx
  have hargs : ∀ (W' : World), Below W.heap.size W W' → DataW.TrodAll enc Try.prog W' 0 (fun b => decide (b < W.heap.size)) true [26, 28] [.agg cs0, .agg cs1] [d0, d1] (p0 ++ p1) :=
    fun W' hn => trodAll_mk2 (Below.trod Try.laidOut (by kernel_rfl) (of_decide_eq_true (by kernel_rfl)) h0k hn (fun x hx => hlt x (by simp [hx]))) (Below.trod Try.laidOut (by kernel_rfl) (of_decide_eq_true (by kernel_rfl)) h1k hn (fun x hx => hlt x (by simp [hx])))
  have w1 := weights_each hsz (j := 1) (t := 28) (d := d1) rfl rfl
  obtain ⟨A0, A1, x, y, c0, c1, e1, _, uy, rd, k1⟩ := open_two_bytes Try.underlying28 Try.underlying27 Try.underlying5 (by kernel_rfl) (by kernel_rfl) (by kernel_rfl) (by kernel_rfl) hf1
  obtain ⟨rx, ry⟩ := rd W.heap.size (fun x hx => hlt x (by simp [hx]))
  obtain ⟨lx, ly⟩ := k1 _ w1
  -- the struct
  obtain ⟨xs, m, rfl, _, hl, hlx, hf⟩ := DataW.trod_struct Try.underlying26 hf0
  rw [show Try.prog.cellsOf 26 = 6 by kernel_rfl] at hl
  have g0 : DataW.trod enc Try.prog W 0 (fun _ => true) true m 22 (List.take (Try.prog.cellsOf 22) (List.drop 0 (Value.agg cs0).cells.toList)) = xs[0]? := hf 0 _ rfl
  have g1 : DataW.trod enc Try.prog W 0 (fun _ => true) true m 3 (List.take (Try.prog.cellsOf 3) (List.drop 1 (Value.agg cs0).cells.toList)) = xs[1]? := hf 1 _ rfl
  have g2 : DataW.trod enc Try.prog W 0 (fun _ => true) true m 24 (List.take (Try.prog.cellsOf 24) (List.drop 2 (Value.agg cs0).cells.toList)) = xs[2]? := hf 2 _ rfl
  clear hf
  simp only [show Try.prog.cellsOf 22 = 1 by kernel_rfl, show Try.prog.cellsOf 3 = 1 by kernel_rfl, show Try.prog.cellsOf 24 = 4 by kernel_rfl] at g0 g1 g2
  match xs, hlx with
  | [y0, y1, y2], _ =>
    generalize hcs : (Value.agg cs0).cells.toList = cs at hl g0 g1 g2
    match cs, hl with
    | [b0, b1, b2, b3, b4, b5], _ =>
      simp only [List.drop_zero, List.take_succ_cons, List.take_zero, List.drop_succ_cons, List.getElem?_cons_zero, List.getElem?_cons_succ] at g0 g1 g2
      obtain ⟨N, eN, _, wN⟩ := DataW.trod_int Try.underlying22 g0
      obtain ⟨b, eb, _, wb⟩ := DataW.trod_int Try.underlying3 g1
      obtain ⟨a0, a1, a2, a3, ea, ha⟩ := open_four Try.underlying24 Try.underlying22 (by kernel_rfl) (by kernel_rfl) g2
      simp only [List.cons.injEq, and_true] at eN eb ea
      obtain ⟨rfl, rfl, rfl, rfl⟩ := ea
      subst eN; subst eb
      have E0 : cs0 = #[.int .u64 N, .int .i64 b, .int .u64 a0, .int .u64 a1, .int .u64 a2, .int .u64 a3] := by
        apply Array.ext'; simpa [Value.cells] using hcs
      have E1 : cs1 = #[.slice A0 x.length c0, .slice A1 y.length c1] := by
        apply Array.ext'; simpa [Value.cells] using e1
      subst E0; subst E1
      have := bounds_u64 wN
      have := bounds_i64 wb
      have hr : (reachBytes : Nat) = 140737488351232 := by decide
      refine (NumsBack_all N b a0 a1 a2 a3 x y A0 A1 c0 c1 W (by omega) (by omega) (by omega) (by omega) (by omega) ha uy rx ry).mono fun e W' ⟨he, hnx⟩ => ?_
      subst he
      exact ⟨_, rfl, _, _, _, [], _, [], hW', trodAll_mk1 (shut_bool Try.underlying4 true), hargs _ hnx, rfl, hnx.frame _, fun h => by cases h⟩

theorem NumsBack_holds : Rows.NumsBackSaid :=
  OpenClaim.holds_of_wide 3 Try.f3 rfl rfl rfl rfl rfl rfl rfl ⟨rfl, rfl, rfl, rfl, rfl⟩ rfl rfl rfl rfl rfl (by kernel_rfl) Try.func3 (by kernel_rfl)
    (of_decide_eq_true (by kernel_rfl)) (by unfold Func.isWrapper; rw [if_neg (of_decide_eq_false (by kernel_rfl))]; exact ⟨rfl, rfl⟩)
    (fun os started H enc _ => NumsBack_lifted os started H enc)
end Go.Proofs.Ytckcgdekgnjpiaa
