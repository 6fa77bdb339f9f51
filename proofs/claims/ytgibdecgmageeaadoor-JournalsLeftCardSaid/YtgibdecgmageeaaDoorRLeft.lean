/- JournalsLeft: behind a failure the records are told that end where the file does, or ahead; it is gone on with just if none is torn. No condition: for all arguments. The row and its card. -/
import Derived.Test.YtgibdecgmageeaaDoorRows
import Derived.Test.YtgibdecgmageeaaDoorTie
import Derived.Test.YtgibdecgmageeaaDoorCards
import Derived.Test.YtgibdecgmageeaaDoorLLeft
import Derived.Test.YtgibdecgmageeaaDoorOpenJ
import Derived.Lay
import Derived.LaidOnce
import Derived.LaidMore
import Derived.SevenTiedAt
import Derived.Stop.Joined
namespace Go.Proofs.YtgibdecgmageeaaDoor
open Go.ChangeShapes Go.WideShapes Go.ChangeAt Go.RowKit

theorem own : ownKnob Tryd.prog.godebug = none := by kernel_rfl
theorem laidOut : laidOutB Tryd.prog = true := by kernel_rfl

set_option maxRecDepth 100000 in
theorem JournalsLeft_lifted (os : Os) (started : os.Started) (H : Type) (enc : TypeId × Value → H) :
    ReturnsInHanded {} Tryd.checked os 6 .any (fun w args => (Rows.journalsLeftSpec.pre enc Tryd.prog Tryd.f6 [] false w args ∧ laidMetH Tryd.prog Rows.journalsLeftRow.laid w) ∧ sizedMet enc Tryd.prog Tryd.f6 (OpenSpec.ofChange Rows.journalsLeftSpec) false w args)
      (Rows.journalsLeftSpec.post enc Tryd.prog Tryd.f6 false true false false) := by
  refine returnsInHanded_of_change_and (C := Tryd.checked) (X := fun w _ => laidMetH Tryd.prog Rows.journalsLeftRow.laid w) (fun _ _ _ hh h => h.of_heap hh) own started (by kernel_rfl) Tryd.func6
    (ChangeSpec.witness_shaped (enc := enc) (C := Tryd.checked) (os := os) (X := fun w _ => laidMetH Tryd.prog Rows.journalsLeftRow.laid w) false (World.laidAll Tryd.prog os Rows.journalsLeftRow.laid) #[.slice none 0 0, .int .u8 0, .int .u16 0] 8 (World.laidAll_os _ _ _)
      (World.shaped_of_ZipB (by kernel_rfl) (by kernel_rfl)) (by kernel_rfl) (by kernel_rfl) (by kernel_rfl)
      (by rw [MakeChecks.laidMetH_plain _ _ _ (by kernel_rfl)]; exact laidMet_laidAll _ (by kernel_rfl) (by kernel_rfl))) ?_
  intro W base args ds gs before hval0 hW _ hsz0 _ _
  have hsz : (DataW.weightsEach Tryd.prog (Tryd.f6.params.toList ++ Rows.journalsLeftSpec.plain.varTypes Tryd.prog) (ds ++ gs)).all (· ≤ reachBytes) = true := hsz0
  clear hsz0
  have hval : ∀ (j : Nat) t v, Tryd.f6.params[j]? = some t → args[j]? = some v → Value.okWide Tryd.prog W .any base t v := hval0
  have hW' := hW
  obtain ⟨p, q, hA0, hV, rfl, _, _⟩ := hW
  have hA : DataW.TrodAll enc Tryd.prog W 0 (fun _ => true) true Tryd.f6.params.toList args.toList ds p := hA0
  rw [Tryd.params6] at hA hval hsz
  obtain ⟨v0, v1, v2, d0, d1, d2, p0, p1, p2, rfl, rfl, rfl, h0, h1, h2⟩ := trodAll_three hA
  obtain ⟨rfl, rfl⟩ := trodVars_none hV
  obtain ⟨s, rfl, rfl, rfl, ws⟩ := open_int Tryd.underlying5 (hval 1 5 v1 rfl rfl) h1
  obtain ⟨k, rfl, rfl, rfl, wk⟩ := open_int Tryd.underlying23 (hval 2 23 v2 rfl rfl) h2
  obtain ⟨A0, n0, c0, rfl⟩ := okWide_slice Tryd.underlying22 (hval 0 22 v0 rfl rfl)
  have h0k := h0
  obtain ⟨fu0, hf0⟩ := h0
  clear hA0 hval0
  simp only [List.append_nil] at hW'
  have hlt0 : ∀ x ∈ p0, x.block < W.heap.size := fun x hx => hW'.lt x (by simp [hx])
  have hargs : ∀ (W' : World), Below W.heap.size W W' → DataW.TrodAll enc Tryd.prog W' 0 (fun b => decide (b < W.heap.size)) true [22, 5, 23] [.slice A0 n0 c0, .int .u8 s, .int .u16 k] [d0, .lit (.int .u8 s), .lit (.int .u16 k)] (p0 ++ ([] ++ [])) :=
    fun W' hn => trodAll_mk3 (Below.trod laidOut (by kernel_rfl) (of_decide_eq_true (by kernel_rfl)) h0k hn hlt0) (shut_int Tryd.underlying5 ws) (shut_int Tryd.underlying23 wk)
  have hr : (reachBytes : Nat) = 140737488351232 := by decide
  have w0 := weights_each hsz (j := 0) (t := 22) (d := d0) rfl rfl
  rw [hr] at w0
  obtain ⟨l, hn, hnc, hnl, hA9, hu⟩ := open_records Tryd.underlying22 Tryd.underlying37 Tryd.underlying5 (by kernel_rfl) (of_decide_eq_true (by kernel_rfl)) (by kernel_rfl) (by kernel_rfl) hf0 w0 (Nat.le_refl _) hlt0
  have bs := bounds_u8 ws
  have bk := bounds_u16 wk
  have key : Calls Tryd.prog 6 #[.slice A0 n0 c0, .int .u8 s, .int .u16 k] W (fun e w' => e = .returned (.bool true) ∧ Below W.heap.size W w') := by
    cases hm : manyB l with
    | true => exact JournalsLeft_many l A0 n0 c0 s k W hn hnl hA9 hm
    | false => exact JournalsLeft_few l A0 n0 c0 s k W hn hnc hnl hA9 hm hu (by omega) (by omega) (by omega) (by omega)
  refine key.mono fun e W' ⟨he, hnx⟩ => ?_
  subst he
  exact ⟨_, rfl, _, _, _, [], _, [], hW', trodAll_mk1 (shut_bool Tryd.underlying4 true), hargs _ hnx, rfl, hnx.frame _, fun h => by cases h⟩

theorem JournalsLeft_holds : Rows.JournalsLeftSaid :=
  OpenClaim.holds_of_wide 6 Tryd.f6 rfl rfl rfl rfl rfl rfl rfl ⟨rfl, rfl, rfl, rfl, rfl⟩ rfl rfl rfl rfl rfl (by kernel_rfl) Tryd.func6 (by kernel_rfl)
    (of_decide_eq_true (by kernel_rfl)) (by unfold Func.isWrapper; rw [if_neg (of_decide_eq_false (by kernel_rfl))]; exact ⟨rfl, rfl⟩)
    (fun os started H enc _ => JournalsLeft_lifted os started H enc)

set_option maxRecDepth 100000 in
theorem JournalsLeft_card : Rows.JournalsLeftCardSaid :=
  Claim7.holds_tied_plain_at .later [] _ _ _ _ JournalsLeft_holds (fun _ h => by cases h) (by kernel_rfl) (fun _ h => by cases h) journalsLeft_row_tie rfl ⟨rfl, rfl⟩ (by kernel_rfl) rfl
    (fun f fn hf hfn => by
      obtain rfl : f = 6 := Option.some.inj ((show Tryd.prog.funcNamed "balefire/balefirelaw18.JournalsLeft" = some 6 by kernel_rfl).symm.trans hf) |>.symm
      obtain rfl : fn = Tryd.f6 := (Option.some.inj (Tryd.func6.symm.trans hfn)).symm
      exact ⟨by kernel_rfl, fun j t ht => by
        rw [Tryd.params6] at ht
        have hm : t ∈ [22, 5, 23] := by simpa using Array.mem_of_getElem? ht
        have hall : ([22, 5, 23].all fun u => !Tryd.prog.wantsStandIn u) = true := by kernel_rfl
        exact (show Tryd.prog.wantsStandIn t = false by simpa using List.all_eq_true.1 hall t hm)⟩)
    (by kernel_rfl)
end Go.Proofs.YtgibdecgmageeaaDoor
