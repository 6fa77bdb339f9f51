/- NumsJoin, the row. -/
import Derived.Test.YtckcgdekgnjpiaaRows
import Derived.Test.YtckcgdekgnjpiaaLJoin
import Derived.Test.YtckcgdekgnjpiaaOpen
namespace Go.Proofs.Ytckcgdekgnjpiaa
open Go.ChangeShapes Go.WideShapes Go.ChangeAt Go.RowKit

theorem own2 : ownKnob Try.prog.godebug = none := by kernel_rfl
theorem laidOut2 : laidOutB Try.prog = true := by kernel_rfl

/-- The law returns true whatever comes, and leaves what stood. -/
theorem NumsJoin_all (cut : Int) (p q : List Int) (A0 A1 : Option Addr) (c0 c1 : Nat) (w : World) (hp : p.length ≤ 140737488351232) (hq : q.length ≤ 140737488351232)
    (hc0 : 0 ≤ cut) (hc1 : cut < 65536) (hup : IsU8 p) (huq : IsU8 q) (hrp : Rd w w.heap.size A0 (U8 p)) (hrq : Rd w w.heap.size A1 (U8 q)) :
    Calls Try.prog 4 #[.agg #[.slice A0 p.length c0, .slice A1 q.length c1], .int .u16 cut] w
      (fun e w' => e = .returned (.bool true) ∧ Below w.heap.size w w') := by
  by_cases h : 1048576 < p.length + q.length
  · exact NumsJoin_beyond cut p q A0 A1 c0 c1 w hp hq h
  · exact NumsJoin_within cut p q A0 A1 c0 c1 w (by omega) hc0 hc1 hup huq hrp hrq

theorem NumsJoin_lifted (os : Os) (started : os.Started) (H : Type) (enc : TypeId × Value → H) :
    ReturnsInHanded {} Try.checked os 4 .any (Rows.numsJoinSpec.pre6 enc Try.prog Try.f4 Rows.numsJoinRow.domain false) (Rows.numsJoinSpec.post enc Try.prog Try.f4 false true false false) := by
  refine returnsInHanded_of_change_sized (C := Try.checked) own2 started (by kernel_rfl) Try.func4
    (ChangeSpec.witness6 (enc := enc) (C := Try.checked) false ⟨#[], #[.agg #[.slice none 0 0, .slice none 0 0], .int .u16 0], []⟩ 8 (by kernel_rfl) (by kernel_rfl) (by kernel_rfl) (by kernel_rfl)) ?_
  intro W base args ds gs before hval0 hW _ hsz0 _
  have hsz : (DataW.weightsEach Try.prog (Try.f4.params.toList ++ Rows.numsJoinSpec.plain.varTypes Try.prog) (ds ++ gs)).all (· ≤ reachBytes) = true := hsz0
  clear hsz0
  have hval : ∀ (j : Nat) t v, Try.f4.params[j]? = some t → args[j]? = some v → Value.okWide Try.prog W .any base t v := hval0
  have hW' := hW
  obtain ⟨p, q, hA0, hV, rfl, _, _⟩ := hW
  have hA : DataW.TrodAll enc Try.prog W 0 (fun _ => true) true Try.f4.params.toList args.toList ds p := hA0
  rw [Try.params4] at hA hval hsz
  obtain ⟨v1, v0, d1, d0, p1, p0, rfl, rfl, rfl, h1, h0⟩ := trodAll_two hA
  obtain ⟨rfl, rfl⟩ := trodVars_none hV
  obtain ⟨cs1, rfl⟩ := okWide_agg Try.underlying28 (hval 0 28 v1 rfl rfl)
  obtain ⟨cut, rfl, rfl, rfl, wc⟩ := open_int Try.underlying40 (hval 1 40 v0 rfl rfl) h0
  have h1k := h1
  obtain ⟨fu1, hf1⟩ := h1
  clear hA0 hval0
  simp only [List.append_nil] at hW'
  have hlt : ∀ x ∈ p1, x.block < W.heap.size := fun x hx => by simpa using hW'.lt x hx
  have hargs : ∀ (W' : World), Below W.heap.size W W' → DataW.TrodAll enc Try.prog W' 0 (fun b => decide (b < W.heap.size)) true [28, 40] [.agg cs1, .int .u16 cut] [d1, .lit (.int .u16 cut)] (p1 ++ []) :=
    fun W' hn => trodAll_mk2 (Below.trod laidOut2 (by kernel_rfl) (of_decide_eq_true (by kernel_rfl)) h1k hn hlt) (shut_int Try.underlying40 wc)
  have w1 := weights_each hsz (j := 0) (t := 28) (d := d1) rfl rfl
  obtain ⟨A0, A1, x, y, c0, c1, e1, ux, uy, rd, k1⟩ := open_two_bytes Try.underlying28 Try.underlying27 Try.underlying5 (by kernel_rfl) (by kernel_rfl) (by kernel_rfl) (by kernel_rfl) hf1
  obtain ⟨rx, ry⟩ := rd W.heap.size hlt
  obtain ⟨lx, ly⟩ := k1 _ w1
  have E1 : cs1 = #[.slice A0 x.length c0, .slice A1 y.length c1] := by
    apply Array.ext'; simpa [Value.cells] using e1
  subst E1
  have := bounds_u16 wc
  have hr : (reachBytes : Nat) = 140737488351232 := by decide
  refine (NumsJoin_all cut x y A0 A1 c0 c1 W (by omega) (by omega) (by omega) (by omega) ux uy rx ry).mono fun e W' ⟨he, hnx⟩ => ?_
  subst he
  exact ⟨_, rfl, _, _, _, [], _, [], hW', trodAll_mk1 (shut_bool Try.underlying4 true), hargs _ hnx, rfl, hnx.frame _, fun h => by cases h⟩

theorem NumsJoin_holds : Rows.NumsJoinSaid :=
  OpenClaim.holds_of_wide 4 Try.f4 rfl rfl rfl rfl rfl rfl rfl ⟨rfl, rfl, rfl, rfl, rfl⟩ rfl rfl rfl rfl rfl (by kernel_rfl) Try.func4 (by kernel_rfl)
    (of_decide_eq_true (by kernel_rfl)) (by unfold Func.isWrapper; rw [if_neg (of_decide_eq_false (by kernel_rfl))]; exact ⟨rfl, rfl⟩)
    (fun os started H enc _ => NumsJoin_lifted os started H enc)
end Go.Proofs.Ytckcgdekgnjpiaa
