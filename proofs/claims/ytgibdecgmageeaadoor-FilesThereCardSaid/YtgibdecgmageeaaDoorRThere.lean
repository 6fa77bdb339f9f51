/- FilesThere: a name that is given away, and given back, is as it was, and so is all else: what is left is the same with the names, and without them; unless it took another one's, which is gone. No condition: for all arguments. The row and its card. -/
import Derived.Test.YtgibdecgmageeaaDoorRows
import Derived.Test.YtgibdecgmageeaaDoorTie
import Derived.Test.YtgibdecgmageeaaDoorCards
import Derived.Test.YtgibdecgmageeaaDoorLThere
import Derived.Test.YtgibdecgmageeaaDoorOpenW
import Derived.Lay
import Derived.LaidOnce
import Derived.LaidMore
import Derived.SevenTiedAt
import Derived.Stop.Joined
namespace Go.Proofs.YtgibdecgmageeaaDoor
open Go.ChangeShapes Go.WideShapes Go.ChangeAt Go.RowKit

theorem own : ownKnob Tryd.prog.godebug = none := by kernel_rfl
theorem laidOut : laidOutB Tryd.prog = true := by kernel_rfl

set_option maxRecDepth 100000 in
theorem FilesThere_lifted (os : Os) (started : os.Started) (H : Type) (enc : TypeId × Value → H) :
    ReturnsInHanded {} Tryd.checked os 11 .any (fun w args => (Rows.filesThereSpec.pre enc Tryd.prog Tryd.f11 [] false w args ∧ laidMetH Tryd.prog Rows.filesThereRow.laid w) ∧ sizedMet enc Tryd.prog Tryd.f11 (OpenSpec.ofChange Rows.filesThereSpec) false w args)
      (Rows.filesThereSpec.post enc Tryd.prog Tryd.f11 false true false false) := by
  refine returnsInHanded_of_change_and (C := Tryd.checked) (X := fun w _ => laidMetH Tryd.prog Rows.filesThereRow.laid w) (fun _ _ _ hh h => h.of_heap hh) own started (by kernel_rfl) Tryd.func11
    (ChangeSpec.witness_shaped (enc := enc) (C := Tryd.checked) (os := os) (X := fun w _ => laidMetH Tryd.prog Rows.filesThereRow.laid w) false (World.laidAll Tryd.prog os Rows.filesThereRow.laid) #[.slice none 0 0, .agg #[.string ⟨#[]⟩, .string ⟨#[]⟩], .int .u8 0] 8 (World.laidAll_os _ _ _)
      (World.shaped_of_ZipB (by kernel_rfl) (by kernel_rfl)) (by kernel_rfl) (by kernel_rfl) (by kernel_rfl)
      (by rw [MakeChecks.laidMetH_plain _ _ _ (by kernel_rfl)]; exact laidMet_laidAll _ (by kernel_rfl) (by kernel_rfl))) ?_
  intro W base args ds gs before hval0 hW _ hsz0 _ _
  have hsz : (DataW.weightsEach Tryd.prog (Tryd.f11.params.toList ++ Rows.filesThereSpec.plain.varTypes Tryd.prog) (ds ++ gs)).all (· ≤ reachBytes) = true := hsz0
  clear hsz0
  have hval : ∀ (j : Nat) t v, Tryd.f11.params[j]? = some t → args[j]? = some v → Value.okWide Tryd.prog W .any base t v := hval0
  have hW' := hW
  obtain ⟨p, q, hA0, hV, rfl, _, _⟩ := hW
  have hA : DataW.TrodAll enc Tryd.prog W 0 (fun _ => true) true Tryd.f11.params.toList args.toList ds p := hA0
  rw [Tryd.params11] at hA hval hsz
  obtain ⟨v0, v1, v2, d0, d1, d2, p0, p1, p2, rfl, rfl, rfl, h0, h1, h2⟩ := trodAll_three hA
  obtain ⟨rfl, rfl⟩ := trodVars_none hV
  obtain ⟨cs1, rfl⟩ := okWide_agg Tryd.underlying83 (hval 1 83 v1 rfl rfl)
  obtain ⟨k, rfl, rfl, rfl, wk⟩ := open_int Tryd.underlying5 (hval 2 5 v2 rfl rfl) h2
  obtain ⟨A0, n0, c0, rfl⟩ := okWide_slice Tryd.underlying80 (hval 0 80 v0 rfl rfl)
  have h0k := h0
  have h1k := h1
  obtain ⟨fu0, hf0⟩ := h0
  obtain ⟨fu1, hf1⟩ := h1
  clear hA0 hval0
  simp only [List.append_nil] at hW'
  have hlt0 : ∀ x ∈ p0, x.block < W.heap.size := fun x hx => hW'.lt x (by simp [hx])
  have hlt1 : ∀ x ∈ p1, x.block < W.heap.size := fun x hx => hW'.lt x (by simp [hx])
  have hargs : ∀ (W' : World), Below W.heap.size W W' → DataW.TrodAll enc Tryd.prog W' 0 (fun b => decide (b < W.heap.size)) true [80, 83, 5] [.slice A0 n0 c0, .agg cs1, .int .u8 k] [d0, d1, .lit (.int .u8 k)] (p0 ++ (p1 ++ [])) :=
    fun W' hn => trodAll_mk3 (Below.trod laidOut (by kernel_rfl) (of_decide_eq_true (by kernel_rfl)) h0k hn hlt0) (Below.trod laidOut (by kernel_rfl) (of_decide_eq_true (by kernel_rfl)) h1k hn hlt1) (shut_int Tryd.underlying5 wk)
  have hr : (reachBytes : Nat) = 140737488351232 := by decide
  have w0 := weights_each hsz (j := 0) (t := 80) (d := d0) rfl rfl
  have w1 := weights_each hsz (j := 1) (t := 83) (d := d1) rfl rfl
  rw [hr] at w0 w1
  obtain ⟨A, l, cap, e0, ll, ha⟩ := open_acts hf0 hlt0 w0
  cases e0
  obtain ⟨a, b, e1, k1⟩ := open_two_str Tryd.underlying83 Tryd.underlying9 (by kernel_rfl) (by kernel_rfl) hf1
  obtain ⟨la, lb⟩ := k1 _ w1
  have E0 : cs1 = #[.string a, .string b] := by
    apply Array.ext'; simpa [Value.cells] using e1
  subst E0
  have bk := bounds_u8 wk
  refine (FilesThere_all l A0 l.length c0 a b k W rfl ll la lb (by omega) (by omega) ha).mono fun e W' ⟨he, hnx⟩ => ?_
  subst he
  exact ⟨_, rfl, _, _, _, [], _, [], hW', trodAll_mk1 (shut_bool Tryd.underlying4 true), hargs _ hnx, rfl, hnx.frame _, fun h => by cases h⟩

theorem FilesThere_holds : Rows.FilesThereSaid :=
  OpenClaim.holds_of_wide 11 Tryd.f11 rfl rfl rfl rfl rfl rfl rfl ⟨rfl, rfl, rfl, rfl, rfl⟩ rfl rfl rfl rfl rfl (by kernel_rfl) Tryd.func11 (by kernel_rfl)
    (of_decide_eq_true (by kernel_rfl)) (by unfold Func.isWrapper; rw [if_neg (of_decide_eq_false (by kernel_rfl))]; exact ⟨rfl, rfl⟩)
    (fun os started H enc _ => FilesThere_lifted os started H enc)

set_option maxRecDepth 100000 in
theorem FilesThere_card : Rows.FilesThereCardSaid :=
  Claim7.holds_tied_plain_at .later [] _ _ _ _ FilesThere_holds (fun _ h => by cases h) (by kernel_rfl) (fun _ h => by cases h) filesThere_row_tie rfl ⟨rfl, rfl⟩ (by kernel_rfl) rfl
    (fun f fn hf hfn => by
      obtain rfl : f = 11 := Option.some.inj ((show Tryd.prog.funcNamed "balefire/balefirelaw17.FilesThere" = some 11 by kernel_rfl).symm.trans hf) |>.symm
      obtain rfl : fn = Tryd.f11 := (Option.some.inj (Tryd.func11.symm.trans hfn)).symm
      exact ⟨by kernel_rfl, fun j t ht => by
        rw [Tryd.params11] at ht
        have hm : t ∈ [80, 83, 5] := by simpa using Array.mem_of_getElem? ht
        have hall : ([80, 83, 5].all fun u => !Tryd.prog.wantsStandIn u) = true := by kernel_rfl
        exact (show Tryd.prog.wantsStandIn t = false by simpa using List.all_eq_true.1 hall t hm)⟩)
    (by kernel_rfl)
end Go.Proofs.YtgibdecgmageeaaDoor
