/- FilesPieces: bytes that come in pieces, or at once, are the same, and the same is left of them, if they were made safe at the same place. No condition: for all arguments. The row and its card. -/
import Derived.Test.YtgibdecgmageeaaDoorRows
import Derived.Test.YtgibdecgmageeaaDoorTie
import Derived.Test.YtgibdecgmageeaaDoorCards
import Derived.Test.YtgibdecgmageeaaDoorLPieces
import Derived.Test.YtgibdecgmageeaaDoorOpenU
import Derived.Lay
import Derived.LaidOnce
import Derived.LaidMore
import Derived.SevenTiedAt
import Derived.Stop.Joined
namespace Go.Proofs.YtgibdecgmageeaaDoor
open Go.ChangeShapes Go.WideShapes Go.ChangeAt Go.RowKit

theorem own : ownKnob Tryd.prog.godebug = none := by kernel_rfl
theorem laidOut : laidOutB Tryd.prog = true := by kernel_rfl

set_option maxRecDepth 100000 in
theorem FilesPieces_lifted (os : Os) (started : os.Started) (H : Type) (enc : TypeId × Value → H) :
    ReturnsInHanded {} Tryd.checked os 8 .any (fun w args => (Rows.filesPiecesSpec.pre enc Tryd.prog Tryd.f8 [] false w args ∧ laidMetH Tryd.prog Rows.filesPiecesRow.laid w) ∧ sizedMet enc Tryd.prog Tryd.f8 (OpenSpec.ofChange Rows.filesPiecesSpec) false w args)
      (Rows.filesPiecesSpec.post enc Tryd.prog Tryd.f8 false true false false) := by
  refine returnsInHanded_of_change_and (C := Tryd.checked) (X := fun w _ => laidMetH Tryd.prog Rows.filesPiecesRow.laid w) (fun _ _ _ hh h => h.of_heap hh) own started (by kernel_rfl) Tryd.func8
    (ChangeSpec.witness_shaped (enc := enc) (C := Tryd.checked) (os := os) (X := fun w _ => laidMetH Tryd.prog Rows.filesPiecesRow.laid w) false (World.laidAll Tryd.prog os Rows.filesPiecesRow.laid) #[.string ⟨#[]⟩, .slice none 0 0, .agg #[.int .u16 0, .int .u16 0]] 8 (World.laidAll_os _ _ _)
      (World.shaped_of_ZipB (by kernel_rfl) (by kernel_rfl)) (by kernel_rfl) (by kernel_rfl) (by kernel_rfl)
      (by rw [MakeChecks.laidMetH_plain _ _ _ (by kernel_rfl)]; exact laidMet_laidAll _ (by kernel_rfl) (by kernel_rfl))) ?_
  intro W base args ds gs before hval0 hW _ hsz0 _ _
  have hsz : (DataW.weightsEach Tryd.prog (Tryd.f8.params.toList ++ Rows.filesPiecesSpec.plain.varTypes Tryd.prog) (ds ++ gs)).all (· ≤ reachBytes) = true := hsz0
  clear hsz0
  have hval : ∀ (j : Nat) t v, Tryd.f8.params[j]? = some t → args[j]? = some v → Value.okWide Tryd.prog W .any base t v := hval0
  have hW' := hW
  obtain ⟨p, q, hA0, hV, rfl, _, _⟩ := hW
  have hA : DataW.TrodAll enc Tryd.prog W 0 (fun _ => true) true Tryd.f8.params.toList args.toList ds p := hA0
  rw [Tryd.params8] at hA hval hsz
  obtain ⟨v0, v1, v2, d0, d1, d2, p0, p1, p2, rfl, rfl, rfl, h0, h1, h2⟩ := trodAll_three hA
  obtain ⟨rfl, rfl⟩ := trodVars_none hV
  obtain ⟨b, rfl, rfl, rfl, lb⟩ := ChangeMaps.open_string Tryd.underlying9 (hval 0 9 v0 rfl rfl) h0
  obtain ⟨cs0, rfl⟩ := okWide_agg Tryd.underlying62 (hval 2 62 v2 rfl rfl)
  have hv1 := hval 1 61 v1 rfl rfl
  obtain ⟨A0, n0, c0, rfl⟩ := okWide_slice Tryd.underlying61 hv1
  have h1k := h1
  have h2k := h2
  obtain ⟨fu1, hf1⟩ := h1
  obtain ⟨fu2, hf2⟩ := h2
  clear hA0 hval0
  simp only [List.append_nil] at hW'
  have hlt1 : ∀ x ∈ p1, x.block < W.heap.size := fun x hx => hW'.lt x (by simp [hx])
  have hlt2 : ∀ x ∈ p2, x.block < W.heap.size := fun x hx => hW'.lt x (by simp [hx])
  have hargs : ∀ (W' : World), Below W.heap.size W W' → DataW.TrodAll enc Tryd.prog W' 0 (fun b => decide (b < W.heap.size)) true [9, 61, 62] [.string b, .slice A0 n0 c0, .agg cs0] [.lit (.string b.data.toList), d1, d2] ([] ++ (p1 ++ p2)) :=
    fun W' hn => trodAll_mk3 (ChangeMaps.shut_string Tryd.underlying9 lb) (Below.trod laidOut (by kernel_rfl) (of_decide_eq_true (by kernel_rfl)) h1k hn hlt1) (Below.trod laidOut (by kernel_rfl) (of_decide_eq_true (by kernel_rfl)) h2k hn hlt2)
  have w0 := weights_each hsz (j := 0) (t := 9) (d := .lit (.string b.data.toList)) rfl rfl
  have w1 := weights_each hsz (j := 1) (t := 61) (d := d1) rfl rfl
  have lb0 := open_string_weight w0
  obtain ⟨A, cs, cap, e1, u1, r1, k1⟩ := open_u16s Tryd.underlying61 Tryd.underlying23 (by kernel_rfl) (by kernel_rfl) hf1
  cases e1
  have lcs := k1 _ w1
  obtain ⟨hl2, hz⟩ := open_arr_int Tryd.underlying62 Tryd.underlying23 (by kernel_rfl) (by kernel_rfl) hf2
  obtain ⟨a, b', hab⟩ := list_two hl2
  have E0 : cs0 = #[a, b'] := by
    apply Array.ext'; simpa [Value.cells] using hab
  subst E0
  obtain ⟨z0, ez0, wz0⟩ := hz 0 (by simp [Value.cells])
  obtain ⟨z1, ez1, wz1⟩ := hz 1 (by simp [Value.cells])
  simp [Value.cells] at ez0 ez1
  subst ez0; subst ez1
  have hr : (reachBytes : Nat) = 140737488351232 := by decide
  have b0 := bounds_u16 wz0
  have b1 := bounds_u16 wz1
  have key : Calls Tryd.prog 8 #[.string b, .slice A0 cs.length c0, .agg #[.int .u16 z0, .int .u16 z1]] W (fun e w' => e = .returned (.bool true) ∧ Below W.heap.size W w') := by
    by_cases hl : 20000 < b.size ∨ 50 < cs.length
    · exact FilesPieces_long b A0 cs.length c0 z0 z1 W (by omega) (by omega) hl
    · exact FilesPieces_within b A0 cs cs.length c0 z0 z1 W (by omega) (by omega) (by omega) (by omega) rfl u1 (r1 _ hlt1) (by omega) (by omega)
  refine key.mono fun e W' ⟨he, hnx⟩ => ?_
  subst he
  exact ⟨_, rfl, _, _, _, [], _, [], hW', trodAll_mk1 (shut_bool Tryd.underlying4 true), hargs _ hnx, rfl, hnx.frame _, fun h => by cases h⟩

theorem FilesPieces_holds : Rows.FilesPiecesSaid :=
  OpenClaim.holds_of_wide 8 Tryd.f8 rfl rfl rfl rfl rfl rfl rfl ⟨rfl, rfl, rfl, rfl, rfl⟩ rfl rfl rfl rfl rfl (by kernel_rfl) Tryd.func8 (by kernel_rfl)
    (of_decide_eq_true (by kernel_rfl)) (by unfold Func.isWrapper; rw [if_neg (of_decide_eq_false (by kernel_rfl))]; exact ⟨rfl, rfl⟩)
    (fun os started H enc _ => FilesPieces_lifted os started H enc)

set_option maxRecDepth 100000 in
theorem FilesPieces_card : Rows.FilesPiecesCardSaid :=
  Claim7.holds_tied_plain_at .later [] _ _ _ _ FilesPieces_holds (fun _ h => by cases h) (by kernel_rfl) (fun _ h => by cases h) filesPieces_row_tie rfl ⟨rfl, rfl⟩ (by kernel_rfl) rfl
    (fun f fn hf hfn => by
      obtain rfl : f = 8 := Option.some.inj ((show Tryd.prog.funcNamed "balefire/balefirelaw17.FilesPieces" = some 8 by kernel_rfl).symm.trans hf) |>.symm
      obtain rfl : fn = Tryd.f8 := (Option.some.inj (Tryd.func8.symm.trans hfn)).symm
      exact ⟨by kernel_rfl, fun j t ht => by
        rw [Tryd.params8] at ht
        have hm : t ∈ [9, 61, 62] := by simpa using Array.mem_of_getElem? ht
        have hall : ([9, 61, 62].all fun u => !Tryd.prog.wantsStandIn u) = true := by kernel_rfl
        exact (show Tryd.prog.wantsStandIn t = false by simpa using List.all_eq_true.1 hall t hm)⟩)
    (by kernel_rfl)
end Go.Proofs.YtgibdecgmageeaaDoor
