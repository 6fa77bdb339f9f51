/- FilesOrder: in whatever turns two files are gone on with and made safe, and names are, it is the same in the end, and the same is left. No condition: for all arguments. The row and its card. -/
import Derived.Test.YtgibdecgmageeaaDoorRows
import Derived.Test.YtgibdecgmageeaaDoorTie
import Derived.Test.YtgibdecgmageeaaDoorCards
import Derived.Test.YtgibdecgmageeaaDoorLOrdC
import Derived.Test.YtgibdecgmageeaaDoorOpenR
import Derived.Lay
import Derived.LaidOnce
import Derived.LaidMore
import Derived.SevenTiedAt
import Derived.Stop.Joined
namespace Go.Proofs.YtgibdecgmageeaaDoor
open Go.ChangeShapes Go.WideShapes Go.ChangeAt Go.RowKit

theorem own : ownKnob Tryd.prog.godebug = none := by kernel_rfl
theorem laidOut : laidOutB Tryd.prog = true := by kernel_rfl

set_option maxRecDepth 100000 in
theorem FilesOrder_lifted (os : Os) (started : os.Started) (H : Type) (enc : TypeId × Value → H) :
    ReturnsInHanded {} Tryd.checked os 7 .any (fun w args => (Rows.filesOrderSpec.pre enc Tryd.prog Tryd.f7 [] false w args ∧ laidMetH Tryd.prog Rows.filesOrderRow.laid w) ∧ sizedMet enc Tryd.prog Tryd.f7 (OpenSpec.ofChange Rows.filesOrderSpec) false w args)
      (Rows.filesOrderSpec.post enc Tryd.prog Tryd.f7 false true false false) := by
  refine returnsInHanded_of_change_and (C := Tryd.checked) (X := fun w _ => laidMetH Tryd.prog Rows.filesOrderRow.laid w) (fun _ _ _ hh h => h.of_heap hh) own started (by kernel_rfl) Tryd.func7
    (ChangeSpec.witness_shaped (enc := enc) (C := Tryd.checked) (os := os) (X := fun w _ => laidMetH Tryd.prog Rows.filesOrderRow.laid w) false (World.laidAll Tryd.prog os Rows.filesOrderRow.laid) #[.agg #[.slice none 0 0, .slice none 0 0], .slice none 0 0, .int .u8 0] 8 (World.laidAll_os _ _ _)
      (World.shaped_of_ZipB (by kernel_rfl) (by kernel_rfl)) (by kernel_rfl) (by kernel_rfl) (by kernel_rfl)
      (by rw [MakeChecks.laidMetH_plain _ _ _ (by kernel_rfl)]; exact laidMet_laidAll _ (by kernel_rfl) (by kernel_rfl))) ?_
  intro W base args ds gs before hval0 hW _ hsz0 _ _
  have hsz : (DataW.weightsEach Tryd.prog (Tryd.f7.params.toList ++ Rows.filesOrderSpec.plain.varTypes Tryd.prog) (ds ++ gs)).all (· ≤ reachBytes) = true := hsz0
  clear hsz0
  have hval : ∀ (j : Nat) t v, Tryd.f7.params[j]? = some t → args[j]? = some v → Value.okWide Tryd.prog W .any base t v := hval0
  have hW' := hW
  obtain ⟨p, q, hA0, hV, rfl, _, _⟩ := hW
  have hA : DataW.TrodAll enc Tryd.prog W 0 (fun _ => true) true Tryd.f7.params.toList args.toList ds p := hA0
  rw [Tryd.params7] at hA hval hsz
  obtain ⟨v0, v1, v2, d0, d1, d2, p0, p1, p2, rfl, rfl, rfl, h0, h1, h2⟩ := trodAll_three hA
  obtain ⟨rfl, rfl⟩ := trodVars_none hV
  obtain ⟨cs0, rfl⟩ := okWide_agg Tryd.underlying53 (hval 0 53 v0 rfl rfl)
  obtain ⟨k, rfl, rfl, rfl, wk⟩ := open_int Tryd.underlying5 (hval 2 5 v2 rfl rfl) h2
  obtain ⟨T, tn, tc, rfl⟩ := okWide_slice Tryd.underlying24 (hval 1 24 v1 rfl rfl)
  have h0k := h0
  have h1k := h1
  obtain ⟨fu0, hf0⟩ := h0
  obtain ⟨fu1, hf1⟩ := h1
  clear hA0 hval0
  simp only [List.append_nil] at hW'
  have hlt0 : ∀ x ∈ p0, x.block < W.heap.size := fun x hx => hW'.lt x (by simp [hx])
  have hlt1 : ∀ x ∈ p1, x.block < W.heap.size := fun x hx => hW'.lt x (by simp [hx])
  have hargs : ∀ (W' : World), Below W.heap.size W W' → DataW.TrodAll enc Tryd.prog W' 0 (fun b => decide (b < W.heap.size)) true [53, 24, 5] [.agg cs0, .slice T tn tc, .int .u8 k] [d0, d1, .lit (.int .u8 k)] (p0 ++ (p1 ++ [])) :=
    fun W' hn => trodAll_mk3 (Below.trod laidOut (by kernel_rfl) (of_decide_eq_true (by kernel_rfl)) h0k hn hlt0) (Below.trod laidOut (by kernel_rfl) (of_decide_eq_true (by kernel_rfl)) h1k hn hlt1) (shut_int Tryd.underlying5 wk)
  have hr : (reachBytes : Nat) = 140737488351232 := by decide
  have w0 := weights_each hsz (j := 0) (t := 53) (d := d0) rfl rfl
  have w1 := weights_each hsz (j := 1) (t := 24) (d := d1) rfl rfl
  rw [hr] at w0 w1
  obtain ⟨A0, A1, X, Y, c0, c1, e0, ⟨lx, ly⟩, rr, sx, sy⟩ := open_two_texts Tryd.underlying53 Tryd.underlying52 Tryd.underlying9 (by kernel_rfl) (of_decide_eq_true (by kernel_rfl)) (by kernel_rfl) (by kernel_rfl) hf0 w0
  obtain ⟨r0, r1⟩ := rr _ hlt0
  have E0 : cs0 = #[.slice A0 X.length c0, .slice A1 Y.length c1] := by
    apply Array.ext'; simpa [Value.cells] using e0
  subst E0
  obtain ⟨T', Bs, tc', e1, lb, rT⟩ := open_bools Tryd.underlying24 Tryd.underlying4 (by kernel_rfl) (of_decide_eq_true (by kernel_rfl)) hf1 w1
  cases e1
  have bk := bounds_u8 wk
  have key : Calls Tryd.prog 7 #[.agg #[.slice A0 X.length c0, .slice A1 Y.length c1], .slice T Bs.length tc, .int .u8 k] W (fun e w' => e = .returned (.bool true) ∧ Below W.heap.size W w') := by
    by_cases ha : 20 < X.length
    · exact FilesOrder_a X Y A0 A1 T X.length c0 Y.length c1 Bs.length tc k W rfl rfl lx ly sx sy r0 r1 ha
    · by_cases hb : 20 < Y.length
      · exact FilesOrder_b X Y A0 A1 T X.length c0 Y.length c1 Bs.length tc k W rfl rfl lx ly sx sy r0 r1 (by omega) hb
      · exact FilesOrder_c X Y Bs A0 A1 T X.length c0 Y.length c1 Bs.length tc k W rfl rfl lx ly sx sy r0 r1 (by omega) (by omega) rfl lb (rT _ hlt1) (by omega) (by omega)
  refine key.mono fun e W' ⟨he, hnx⟩ => ?_
  subst he
  exact ⟨_, rfl, _, _, _, [], _, [], hW', trodAll_mk1 (shut_bool Tryd.underlying4 true), hargs _ hnx, rfl, hnx.frame _, fun h => by cases h⟩

theorem FilesOrder_holds : Rows.FilesOrderSaid :=
  OpenClaim.holds_of_wide 7 Tryd.f7 rfl rfl rfl rfl rfl rfl rfl ⟨rfl, rfl, rfl, rfl, rfl⟩ rfl rfl rfl rfl rfl (by kernel_rfl) Tryd.func7 (by kernel_rfl)
    (of_decide_eq_true (by kernel_rfl)) (by unfold Func.isWrapper; rw [if_neg (of_decide_eq_false (by kernel_rfl))]; exact ⟨rfl, rfl⟩)
    (fun os started H enc _ => FilesOrder_lifted os started H enc)

set_option maxRecDepth 100000 in
theorem FilesOrder_card : Rows.FilesOrderCardSaid :=
  Claim7.holds_tied_plain_at .later [] _ _ _ _ FilesOrder_holds (fun _ h => by cases h) (by kernel_rfl) (fun _ h => by cases h) filesOrder_row_tie rfl ⟨rfl, rfl⟩ (by kernel_rfl) rfl
    (fun f fn hf hfn => by
      obtain rfl : f = 7 := Option.some.inj ((show Tryd.prog.funcNamed "balefire/balefirelaw17.FilesOrder" = some 7 by kernel_rfl).symm.trans hf) |>.symm
      obtain rfl : fn = Tryd.f7 := (Option.some.inj (Tryd.func7.symm.trans hfn)).symm
      exact ⟨by kernel_rfl, fun j t ht => by
        rw [Tryd.params7] at ht
        have hm : t ∈ [53, 24, 5] := by simpa using Array.mem_of_getElem? ht
        have hall : ([53, 24, 5].all fun u => !Tryd.prog.wantsStandIn u) = true := by kernel_rfl
        exact (show Tryd.prog.wantsStandIn t = false by simpa using List.all_eq_true.1 hall t hm)⟩)
    (by kernel_rfl)
end Go.Proofs.YtgibdecgmageeaaDoor
