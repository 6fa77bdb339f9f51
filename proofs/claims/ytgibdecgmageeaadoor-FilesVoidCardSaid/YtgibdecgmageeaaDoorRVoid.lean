/- FilesVoid: a disk that is not there, or that no call made, answers ErrNil to whatever is done with it, and has nothing. No condition: for all arguments. The row and its card. -/
import Derived.Test.YtgibdecgmageeaaDoorRows
import Derived.Test.YtgibdecgmageeaaDoorTie
import Derived.Test.YtgibdecgmageeaaDoorCards
import Derived.Test.YtgibdecgmageeaaDoorLVoid
import Derived.Test.YtgibdecgmageeaaDoorOpen
import Derived.Lay
import Derived.LaidOnce
import Derived.LaidMore
import Derived.SevenTiedAt
import Derived.Stop.Joined
namespace Go.Proofs.YtgibdecgmageeaaDoor
open Go.ChangeShapes Go.WideShapes Go.ChangeAt Go.RowKit

theorem own : ownKnob Tryd.prog.godebug = none := by kernel_rfl
theorem laidOut : laidOutB Tryd.prog = true := by kernel_rfl

set_option maxRecDepth 100000 in
theorem FilesVoid_lifted (os : Os) (started : os.Started) (H : Type) (enc : TypeId × Value → H) :
    ReturnsInHanded {} Tryd.checked os 9 .any (fun w args => (Rows.filesVoidSpec.pre enc Tryd.prog Tryd.f9 [] false w args ∧ laidMetH Tryd.prog Rows.filesVoidRow.laid w) ∧ sizedMet enc Tryd.prog Tryd.f9 (OpenSpec.ofChange Rows.filesVoidSpec) false w args)
      (Rows.filesVoidSpec.post enc Tryd.prog Tryd.f9 false true false false) := by
  refine returnsInHanded_of_change_and (C := Tryd.checked) (X := fun w _ => laidMetH Tryd.prog Rows.filesVoidRow.laid w) (fun _ _ _ hh h => h.of_heap hh) own started (by kernel_rfl) Tryd.func9
    (ChangeSpec.witness_shaped (enc := enc) (C := Tryd.checked) (os := os) (X := fun w _ => laidMetH Tryd.prog Rows.filesVoidRow.laid w) false (World.laidAll Tryd.prog os Rows.filesVoidRow.laid) #[.agg #[.int .u8 0, .string ⟨#[]⟩, .string ⟨#[]⟩, .slice none 0 0, .int .i64 0, .int .i64 0, .bool false]] 8 (World.laidAll_os _ _ _)
      (World.shaped_of_ZipB (by kernel_rfl) (by kernel_rfl)) (by kernel_rfl) (by kernel_rfl) (by kernel_rfl)
      (by rw [MakeChecks.laidMetH_plain _ _ _ (by kernel_rfl)]; exact laidMet_laidAll _ (by kernel_rfl) (by kernel_rfl))) ?_
  intro W base args ds gs before hval0 hW _ hsz0 _ _
  clear hsz0
  have hval : ∀ (j : Nat) t v, Tryd.f9.params[j]? = some t → args[j]? = some v → Value.okWide Tryd.prog W .any base t v := hval0
  have hW' := hW
  obtain ⟨p, q, hA0, hV, rfl, _, _⟩ := hW
  have hA : DataW.TrodAll enc Tryd.prog W 0 (fun _ => true) true Tryd.f9.params.toList args.toList ds p := hA0
  rw [Tryd.params9] at hA hval
  obtain ⟨v0, d0, rfl, rfl, h0⟩ := trodAll_one hA
  obtain ⟨rfl, rfl⟩ := trodVars_none hV
  obtain ⟨cs0, rfl, _⟩ := okWide_struct Tryd.underlying65 (hval 0 65 v0 rfl rfl)
  have h0k := h0
  obtain ⟨fu0, hf0⟩ := h0
  clear hA0 hval0
  simp only [List.append_nil] at hW'
  have hlt : ∀ x ∈ p, x.block < W.heap.size := fun x hx => by simpa using hW'.lt x hx
  have hargs : ∀ (W' : World), Below W.heap.size W W' → DataW.TrodAll enc Tryd.prog W' 0 (fun b => decide (b < W.heap.size)) true [65] [.agg cs0] [d0] p :=
    fun W' hn => trodAll_mk1 (Below.trod laidOut (by kernel_rfl) (of_decide_eq_true (by kernel_rfl)) h0k hn hlt)
  obtain ⟨xs, m, rfl, _, hl, hlx, hf⟩ := DataW.trod_struct Tryd.underlying65 hf0
  rw [show Tryd.prog.cellsOf 65 = 7 by kernel_rfl] at hl
  have g0 : DataW.trod enc Tryd.prog W 0 (fun _ => true) true m 5 (List.take (Tryd.prog.cellsOf 5) (List.drop 0 (Value.agg cs0).cells.toList)) = xs[0]? := hf 0 _ rfl
  have g1 : DataW.trod enc Tryd.prog W 0 (fun _ => true) true m 9 (List.take (Tryd.prog.cellsOf 9) (List.drop 1 (Value.agg cs0).cells.toList)) = xs[1]? := hf 1 _ rfl
  have g2 : DataW.trod enc Tryd.prog W 0 (fun _ => true) true m 9 (List.take (Tryd.prog.cellsOf 9) (List.drop 2 (Value.agg cs0).cells.toList)) = xs[2]? := hf 2 _ rfl
  have g3 : DataW.trod enc Tryd.prog W 0 (fun _ => true) true m 37 (List.take (Tryd.prog.cellsOf 37) (List.drop 3 (Value.agg cs0).cells.toList)) = xs[3]? := hf 3 _ rfl
  have g4 : DataW.trod enc Tryd.prog W 0 (fun _ => true) true m 3 (List.take (Tryd.prog.cellsOf 3) (List.drop 4 (Value.agg cs0).cells.toList)) = xs[4]? := hf 4 _ rfl
  have g5 : DataW.trod enc Tryd.prog W 0 (fun _ => true) true m 3 (List.take (Tryd.prog.cellsOf 3) (List.drop 5 (Value.agg cs0).cells.toList)) = xs[5]? := hf 5 _ rfl
  have g6 : DataW.trod enc Tryd.prog W 0 (fun _ => true) true m 4 (List.take (Tryd.prog.cellsOf 4) (List.drop 6 (Value.agg cs0).cells.toList)) = xs[6]? := hf 6 _ rfl
  clear hf
  simp only [show Tryd.prog.cellsOf 5 = 1 by kernel_rfl, show Tryd.prog.cellsOf 9 = 1 by kernel_rfl, show Tryd.prog.cellsOf 37 = 1 by kernel_rfl, show Tryd.prog.cellsOf 3 = 1 by kernel_rfl, show Tryd.prog.cellsOf 4 = 1 by kernel_rfl] at g0 g1 g2 g3 g4 g5 g6
  match xs, hlx with
  | [y0, y1, y2, y3, y4, y5, y6], _ =>
    generalize hcs : (Value.agg cs0).cells.toList = cs at hl g0 g1 g2 g3 g4 g5 g6
    match cs, hl with
    | [b0, b1, b2, b3, b4, b5, b6], _ =>
      simp only [List.drop_zero, List.take_succ_cons, List.take_zero, List.drop_succ_cons, List.getElem?_cons_zero, List.getElem?_cons_succ] at g0 g1 g2 g3 g4 g5 g6
      obtain ⟨K, eK, _, _⟩ := DataW.trod_int Tryd.underlying5 g0
      obtain ⟨nm, en, _, _⟩ := DataW.trod_string Tryd.underlying9 g1
      obtain ⟨too, et, _, _⟩ := DataW.trod_string Tryd.underlying9 g2
      obtain ⟨B, x, bc, eb, _⟩ := open_bytes Tryd.underlying37 Tryd.underlying5 (by kernel_rfl) g3
      obtain ⟨a, ea, _, _⟩ := DataW.trod_int Tryd.underlying3 g4
      obtain ⟨n, enn, _, _⟩ := DataW.trod_int Tryd.underlying3 g5
      obtain ⟨nb, enb, _⟩ := DataW.trod_bool Tryd.underlying4 g6
      simp only [List.cons.injEq, and_true] at eK en et ea enn enb
      subst eK; subst en; subst et; subst eb; subst ea; subst enn; subst enb
      have E0 : cs0 = #[.int .u8 K, .string nm, .string too, .slice B x.length bc, .int .i64 a, .int .i64 n, .bool nb] := by
        apply Array.ext'; simpa [Value.cells] using hcs
      subst E0
      refine (FilesVoid_all K a n nm too B x.length bc nb W).mono fun e W' ⟨he, hnx⟩ => ?_
      subst he
      exact ⟨_, rfl, _, _, _, [], _, [], hW', trodAll_mk1 (shut_bool Tryd.underlying4 true), hargs _ hnx, rfl, hnx.frame _, fun h => by cases h⟩

theorem FilesVoid_holds : Rows.FilesVoidSaid :=
  OpenClaim.holds_of_wide 9 Tryd.f9 rfl rfl rfl rfl rfl rfl rfl ⟨rfl, rfl, rfl, rfl, rfl⟩ rfl rfl rfl rfl rfl (by kernel_rfl) Tryd.func9 (by kernel_rfl)
    (of_decide_eq_true (by kernel_rfl)) (by unfold Func.isWrapper; rw [if_neg (of_decide_eq_false (by kernel_rfl))]; exact ⟨rfl, rfl⟩)
    (fun os started H enc _ => FilesVoid_lifted os started H enc)

set_option maxRecDepth 100000 in
theorem FilesVoid_card : Rows.FilesVoidCardSaid :=
  Claim7.holds_tied_plain_at .later [] _ _ _ _ FilesVoid_holds (fun _ h => by cases h) (by kernel_rfl) (fun _ h => by cases h) filesVoid_row_tie rfl ⟨rfl, rfl⟩ (by kernel_rfl) rfl
    (fun f fn hf hfn => by
      obtain rfl : f = 9 := Option.some.inj ((show Tryd.prog.funcNamed "balefire/balefirelaw17.FilesVoid" = some 9 by kernel_rfl).symm.trans hf) |>.symm
      obtain rfl : fn = Tryd.f9 := (Option.some.inj (Tryd.func9.symm.trans hfn)).symm
      exact ⟨by kernel_rfl, fun j t ht => by
        rw [Tryd.params9] at ht
        have hm : t ∈ [65] := by simpa using Array.mem_of_getElem? ht
        have hall : ([65].all fun u => !Tryd.prog.wantsStandIn u) = true := by kernel_rfl
        exact (show Tryd.prog.wantsStandIn t = false by simpa using List.all_eq_true.1 hall t hm)⟩)
    (by kernel_rfl)
end Go.Proofs.YtgibdecgmageeaaDoor
