/- FilesMost: there are as many names as there may be, and no more; whoever takes another one's name, or goes, makes room for one. No condition: for all arguments. The row and its card. -/
import Derived.Test.YtgibdecgmageeaaDoorRows
import Derived.Test.YtgibdecgmageeaaDoorTie
import Derived.Test.YtgibdecgmageeaaDoorCards
import Derived.Test.YtgibdecgmageeaaDoorLMost
import Derived.Test.YtgibdecgmageeaaDoorOpenV
import Derived.Lay
import Derived.LaidOnce
import Derived.LaidMore
import Derived.SevenTiedAt
import Derived.Stop.Joined
namespace Go.Proofs.YtgibdecgmageeaaDoor
open Go.ChangeShapes Go.WideShapes Go.ChangeAt Go.RowKit

theorem own : ownKnob Tryd.prog.godebug = none := by kernel_rfl
theorem laidOut : laidOutB Tryd.prog = true := by kernel_rfl

set_option maxRecDepth 100000 in
theorem FilesMost_lifted (os : Os) (started : os.Started) (H : Type) (enc : TypeId × Value → H) :
    ReturnsInHanded {} Tryd.checked os 13 .any (fun w args => (Rows.filesMostSpec.pre enc Tryd.prog Tryd.f13 [] false w args ∧ laidMetH Tryd.prog Rows.filesMostRow.laid w) ∧ sizedMet enc Tryd.prog Tryd.f13 (OpenSpec.ofChange Rows.filesMostSpec) false w args)
      (Rows.filesMostSpec.post enc Tryd.prog Tryd.f13 false true false false) := by
  refine returnsInHanded_of_change_and (C := Tryd.checked) (X := fun w _ => laidMetH Tryd.prog Rows.filesMostRow.laid w) (fun _ _ _ hh h => h.of_heap hh) own started (by kernel_rfl) Tryd.func13
    (ChangeSpec.witness_shaped (enc := enc) (C := Tryd.checked) (os := os) (X := fun w _ => laidMetH Tryd.prog Rows.filesMostRow.laid w) false (World.laidAll Tryd.prog os Rows.filesMostRow.laid) #[.int .u8 0, .agg #[.int .u8 0, .int .u8 0], .bool false] 8 (World.laidAll_os _ _ _)
      (World.shaped_of_ZipB (by kernel_rfl) (by kernel_rfl)) (by kernel_rfl) (by kernel_rfl) (by kernel_rfl)
      (by rw [MakeChecks.laidMetH_plain _ _ _ (by kernel_rfl)]; exact laidMet_laidAll _ (by kernel_rfl) (by kernel_rfl))) ?_
  intro W base args ds gs before hval0 hW _ hsz0 _ _
  have hsz : (DataW.weightsEach Tryd.prog (Tryd.f13.params.toList ++ Rows.filesMostSpec.plain.varTypes Tryd.prog) (ds ++ gs)).all (· ≤ reachBytes) = true := hsz0
  clear hsz0
  have hval : ∀ (j : Nat) t v, Tryd.f13.params[j]? = some t → args[j]? = some v → Value.okWide Tryd.prog W .any base t v := hval0
  have hW' := hW
  obtain ⟨p, q, hA0, hV, rfl, _, _⟩ := hW
  have hA : DataW.TrodAll enc Tryd.prog W 0 (fun _ => true) true Tryd.f13.params.toList args.toList ds p := hA0
  rw [Tryd.params13] at hA hval hsz
  clear hsz
  obtain ⟨v0, v1, v2, d0, d1, d2, p0, p1, p2, rfl, rfl, rfl, h0, h1, h2⟩ := trodAll_three hA
  obtain ⟨rfl, rfl⟩ := trodVars_none hV
  obtain ⟨y, rfl, rfl, rfl, wy⟩ := open_int Tryd.underlying5 (hval 0 5 v0 rfl rfl) h0
  obtain ⟨cs0, rfl⟩ := okWide_agg Tryd.underlying46 (hval 1 46 v1 rfl rfl)
  obtain ⟨tk, rfl, rfl, rfl⟩ := open_bool Tryd.underlying4 (hval 2 4 v2 rfl rfl) h2
  have h1k := h1
  obtain ⟨fu1, hf1⟩ := h1
  clear hA0 hval0
  simp only [List.append_nil, List.nil_append] at hW'
  have hlt1 : ∀ x ∈ p1, x.block < W.heap.size := fun x hx => hW'.lt x (by simp [hx])
  have hargs : ∀ (W' : World), Below W.heap.size W W' → DataW.TrodAll enc Tryd.prog W' 0 (fun b => decide (b < W.heap.size)) true [5, 46, 4] [.int .u8 y, .agg cs0, .bool tk] [.lit (.int .u8 y), d1, .lit (.bool tk)] ([] ++ (p1 ++ [])) :=
    fun W' hn => trodAll_mk3 (shut_int Tryd.underlying5 wy) (Below.trod laidOut (by kernel_rfl) (of_decide_eq_true (by kernel_rfl)) h1k hn hlt1) (shut_bool Tryd.underlying4 tk)
  obtain ⟨hl1, hz⟩ := open_arr_int Tryd.underlying46 Tryd.underlying5 (by kernel_rfl) (by kernel_rfl) hf1
  obtain ⟨a, b', hab⟩ := list_two hl1
  have E0 : cs0 = #[a, b'] := by
    apply Array.ext'; simpa [Value.cells] using hab
  subst E0
  obtain ⟨z0, ez0, wz0⟩ := hz 0 (by simp [Value.cells])
  obtain ⟨z1, ez1, wz1⟩ := hz 1 (by simp [Value.cells])
  simp [Value.cells] at ez0 ez1
  subst ez0; subst ez1
  have by_ := bounds_u8 wy
  have b0 := bounds_u8 wz0
  have b1 := bounds_u8 wz1
  refine (FilesMost_all y z0 z1 tk W (by omega) (by omega) (by omega) (by omega) (by omega) (by omega)).mono fun e W' ⟨he, hnx⟩ => ?_
  subst he
  exact ⟨_, rfl, _, _, _, [], _, [], hW', trodAll_mk1 (shut_bool Tryd.underlying4 true), hargs _ hnx, rfl, hnx.frame _, fun h => by cases h⟩

theorem FilesMost_holds : Rows.FilesMostSaid :=
  OpenClaim.holds_of_wide 13 Tryd.f13 rfl rfl rfl rfl rfl rfl rfl ⟨rfl, rfl, rfl, rfl, rfl⟩ rfl rfl rfl rfl rfl (by kernel_rfl) Tryd.func13 (by kernel_rfl)
    (of_decide_eq_true (by kernel_rfl)) (by unfold Func.isWrapper; rw [if_neg (of_decide_eq_false (by kernel_rfl))]; exact ⟨rfl, rfl⟩)
    (fun os started H enc _ => FilesMost_lifted os started H enc)

set_option maxRecDepth 100000 in
theorem FilesMost_card : Rows.FilesMostCardSaid :=
  Claim7.holds_tied_plain_at .later [] _ _ _ _ FilesMost_holds (fun _ h => by cases h) (by kernel_rfl) (fun _ h => by cases h) filesMost_row_tie rfl ⟨rfl, rfl⟩ (by kernel_rfl) rfl
    (fun f fn hf hfn => by
      obtain rfl : f = 13 := Option.some.inj ((show Tryd.prog.funcNamed "balefire/balefirelaw17.FilesMost" = some 13 by kernel_rfl).symm.trans hf) |>.symm
      obtain rfl : fn = Tryd.f13 := (Option.some.inj (Tryd.func13.symm.trans hfn)).symm
      exact ⟨by kernel_rfl, fun j t ht => by
        rw [Tryd.params13] at ht
        have hm : t ∈ [5, 46, 4] := by simpa using Array.mem_of_getElem? ht
        have hall : ([5, 46, 4].all fun u => !Tryd.prog.wantsStandIn u) = true := by kernel_rfl
        exact (show Tryd.prog.wantsStandIn t = false by simpa using List.all_eq_true.1 hall t hm)⟩)
    (by kernel_rfl)
end Go.Proofs.YtgibdecgmageeaaDoor
