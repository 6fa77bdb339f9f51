/- FilesGone: a file that has no name, and no safe one, is gone for good: whatever is made under its name then is another one, and what is left is the same as if it had never been. No condition: for all arguments. The row and its card. -/
import Derived.Test.YtgibdecgmageeaaDoorRows
import Derived.Test.YtgibdecgmageeaaDoorTie
import Derived.Test.YtgibdecgmageeaaDoorCards
import Derived.Test.YtgibdecgmageeaaDoorLGone
import Derived.Test.YtgibdecgmageeaaDoorOpenS
import Derived.Lay
import Derived.LaidOnce
import Derived.LaidMore
import Derived.SevenTiedAt
import Derived.Stop.Joined
namespace Go.Proofs.YtgibdecgmageeaaDoor
open Go.ChangeShapes Go.WideShapes Go.ChangeAt Go.RowKit

theorem own : ownKnob Tryd.prog.godebug = none := by kernel_rfl
theorem laidOut : laidOutB Tryd.prog = true := by kernel_rfl

set_option maxRecDepth 100000 in
theorem FilesGone_lifted (os : Os) (started : os.Started) (H : Type) (enc : TypeId × Value → H) :
    ReturnsInHanded {} Tryd.checked os 12 .any (fun w args => (Rows.filesGoneSpec.pre enc Tryd.prog Tryd.f12 [] false w args ∧ laidMetH Tryd.prog Rows.filesGoneRow.laid w) ∧ sizedMet enc Tryd.prog Tryd.f12 (OpenSpec.ofChange Rows.filesGoneSpec) false w args)
      (Rows.filesGoneSpec.post enc Tryd.prog Tryd.f12 false true false false) := by
  refine returnsInHanded_of_change_and (C := Tryd.checked) (X := fun w _ => laidMetH Tryd.prog Rows.filesGoneRow.laid w) (fun _ _ _ hh h => h.of_heap hh) own started (by kernel_rfl) Tryd.func12
    (ChangeSpec.witness_shaped (enc := enc) (C := Tryd.checked) (os := os) (X := fun w _ => laidMetH Tryd.prog Rows.filesGoneRow.laid w) false (World.laidAll Tryd.prog os Rows.filesGoneRow.laid) #[.agg #[.string ⟨#[]⟩, .string ⟨#[]⟩], .int .u8 0] 8 (World.laidAll_os _ _ _)
      (World.shaped_of_ZipB (by kernel_rfl) (by kernel_rfl)) (by kernel_rfl) (by kernel_rfl) (by kernel_rfl)
      (by rw [MakeChecks.laidMetH_plain _ _ _ (by kernel_rfl)]; exact laidMet_laidAll _ (by kernel_rfl) (by kernel_rfl))) ?_
  intro W base args ds gs before hval0 hW _ hsz0 _ _
  have hsz : (DataW.weightsEach Tryd.prog (Tryd.f12.params.toList ++ Rows.filesGoneSpec.plain.varTypes Tryd.prog) (ds ++ gs)).all (· ≤ reachBytes) = true := hsz0
  clear hsz0
  have hval : ∀ (j : Nat) t v, Tryd.f12.params[j]? = some t → args[j]? = some v → Value.okWide Tryd.prog W .any base t v := hval0
  have hW' := hW
  obtain ⟨p, q, hA0, hV, rfl, _, _⟩ := hW
  have hA : DataW.TrodAll enc Tryd.prog W 0 (fun _ => true) true Tryd.f12.params.toList args.toList ds p := hA0
  rw [Tryd.params12] at hA hval hsz
  obtain ⟨v0, v1, d0, d1, p0, p1, rfl, rfl, rfl, h0, h1⟩ := trodAll_two hA
  obtain ⟨rfl, rfl⟩ := trodVars_none hV
  obtain ⟨cs0, rfl⟩ := okWide_agg Tryd.underlying83 (hval 0 83 v0 rfl rfl)
  obtain ⟨k, rfl, rfl, rfl, wk⟩ := open_int Tryd.underlying5 (hval 1 5 v1 rfl rfl) h1
  have h0k := h0
  obtain ⟨fu0, hf0⟩ := h0
  clear hA0 hval0
  simp only [List.append_nil] at hW'
  have hlt : ∀ x ∈ p0, x.block < W.heap.size := fun x hx => by simpa using hW'.lt x hx
  have hargs : ∀ (W' : World), Below W.heap.size W W' → DataW.TrodAll enc Tryd.prog W' 0 (fun b => decide (b < W.heap.size)) true [83, 5] [.agg cs0, .int .u8 k] [d0, .lit (.int .u8 k)] (p0 ++ []) :=
    fun W' hn => trodAll_mk2 (Below.trod laidOut (by kernel_rfl) (of_decide_eq_true (by kernel_rfl)) h0k hn (fun x hx => hlt x (by simp [hx]))) (shut_int Tryd.underlying5 wk)
  have w0 := weights_each hsz (j := 0) (t := 83) (d := d0) rfl rfl
  obtain ⟨x, y, e0, k0⟩ := open_two_str Tryd.underlying83 Tryd.underlying9 (by kernel_rfl) (by kernel_rfl) hf0
  obtain ⟨lx, ly⟩ := k0 _ w0
  have E0 : cs0 = #[.string x, .string y] := by
    apply Array.ext'; simpa [Value.cells] using e0
  subst E0
  have hr : (reachBytes : Nat) = 140737488351232 := by decide
  have := bounds_u8 wk
  have key : Calls Tryd.prog 12 #[.agg #[.string x, .string y], .int .u8 k] W (fun e w' => e = .returned (.bool true) ∧ Below W.heap.size W w') := by
    by_cases hl : 20000 < x.size + y.size
    · exact FilesGone_long k x y W (by omega) (by omega) hl
    · exact FilesGone_within k x y W (by omega) (by omega) (by omega)
  refine key.mono fun e W' ⟨he, hnx⟩ => ?_
  subst he
  exact ⟨_, rfl, _, _, _, [], _, [], hW', trodAll_mk1 (shut_bool Tryd.underlying4 true), hargs _ hnx, rfl, hnx.frame _, fun h => by cases h⟩

theorem FilesGone_holds : Rows.FilesGoneSaid :=
  OpenClaim.holds_of_wide 12 Tryd.f12 rfl rfl rfl rfl rfl rfl rfl ⟨rfl, rfl, rfl, rfl, rfl⟩ rfl rfl rfl rfl rfl (by kernel_rfl) Tryd.func12 (by kernel_rfl)
    (of_decide_eq_true (by kernel_rfl)) (by unfold Func.isWrapper; rw [if_neg (of_decide_eq_false (by kernel_rfl))]; exact ⟨rfl, rfl⟩)
    (fun os started H enc _ => FilesGone_lifted os started H enc)

set_option maxRecDepth 100000 in
theorem FilesGone_card : Rows.FilesGoneCardSaid :=
  Claim7.holds_tied_plain_at .later [] _ _ _ _ FilesGone_holds (fun _ h => by cases h) (by kernel_rfl) (fun _ h => by cases h) filesGone_row_tie rfl ⟨rfl, rfl⟩ (by kernel_rfl) rfl
    (fun f fn hf hfn => by
      obtain rfl : f = 12 := Option.some.inj ((show Tryd.prog.funcNamed "balefire/balefirelaw17.FilesGone" = some 12 by kernel_rfl).symm.trans hf) |>.symm
      obtain rfl : fn = Tryd.f12 := (Option.some.inj (Tryd.func12.symm.trans hfn)).symm
      exact ⟨by kernel_rfl, fun j t ht => by
        rw [Tryd.params12] at ht
        have hm : t ∈ [83, 5] := by simpa using Array.mem_of_getElem? ht
        have hall : ([83, 5].all fun u => !Tryd.prog.wantsStandIn u) = true := by kernel_rfl
        exact (show Tryd.prog.wantsStandIn t = false by simpa using List.all_eq_true.1 hall t hm)⟩)
    (by kernel_rfl)
end Go.Proofs.YtgibdecgmageeaaDoor
