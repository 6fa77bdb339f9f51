/- NumsPut: any bytes with any number, any long one, or any bytes behind them are exactly as documented; what came in stays as it was, and the answers are memory of their own. No condition: for all arguments. The row and its card. -/
import Derived.Test.YtgibdecgmageeaaGreatDoorRows
import Derived.Test.YtgibdecgmageeaaGreatDoorTie
import Derived.Test.YtgibdecgmageeaaGreatDoorCards
import Derived.Test.YtgibdecgmageeaaGreatDoorLPut
import Derived.Test.YtgibdecgmageeaaGreatDoorOpen
import Derived.LaidMore
import Derived.SevenTiedAt
import Derived.Stop.Joined
namespace Go.Proofs.YtgibdecgmageeaaGreatDoor
open Go.ChangeShapes Go.WideShapes Go.ChangeAt Go.RowKit

theorem own : ownKnob Tryz.prog.godebug = none := by kernel_rfl
theorem laidOut : laidOutB Tryz.prog = true := by kernel_rfl

/-- The door's own heap meets the condition. -/
theorem door_met (os : Os) (args : Array Value) : laidMetH Tryz.prog Rows.numsPutRow.laid ((World.doorLaid Tryz.prog 400 os).forCall (fun _ _ => 0) ⟨#[], args, []⟩).memory :=
  laidMetH_of_parts3 (fuel := 8) (laidMet_of_run' 8 (by kernel_rfl) (by kernel_rfl)) (by kernel_rfl) (by kernel_rfl)

theorem NumsPut_all (N b a0 a1 a2 a3 : Int) (p q : List Int) (A0 A1 : Option Addr) (c0 c1 : Nat) (w : World) (hp : p.length ≤ 140737488351232) (hq : q.length ≤ 140737488351232)
    (hN : 0 ≤ N ∧ N < 18446744073709551616) (hb0 : -9223372036854775808 ≤ b) (hb1 : b ≤ 9223372036854775807) (ha : ∀ x ∈ [a3, a2, a1, a0], 0 ≤ x ∧ x < 18446744073709551616)
    (hrp : Rd w w.heap.size A0 (U8 p)) (hrq : Rd w w.heap.size A1 (U8 q)) :
    Calls Tryz.prog 4 #[.slice A0 p.length c0, .slice A1 q.length c1, .agg #[.int .u64 N, .int .i64 b, .int .u64 a0, .int .u64 a1, .int .u64 a2, .int .u64 a3]] w (fun e w' => e = .returned (.bool true) ∧ Below w.heap.size w w') := by
  by_cases h : 1048576 < p.length + q.length
  · exact NumsPut_beyond N b a0 a1 a2 a3 p q A0 A1 c0 c1 w hp hq h
  · exact NumsPut_within N b a0 a1 a2 a3 p q A0 A1 c0 c1 w (by omega) hN hb0 hb1 ha hrp hrq

set_option maxRecDepth 100000 in
theorem NumsPut_lifted (os : Os) (started : os.Started) (H : Type) (enc : TypeId × Value → H) :
    ReturnsInHanded {} Tryz.checked os 4 .any (fun w args => (Rows.numsPutSpec.pre enc Tryz.prog Tryz.f4 [] false w args ∧ laidMetH Tryz.prog Rows.numsPutRow.laid w) ∧ sizedMet enc Tryz.prog Tryz.f4 (OpenSpec.ofChange Rows.numsPutSpec) false w args)
      (Rows.numsPutSpec.post enc Tryz.prog Tryz.f4 false true false false) := by
  refine returnsInHanded_of_change_and (C := Tryz.checked) (X := fun w _ => laidMetH Tryz.prog Rows.numsPutRow.laid w) (fun _ _ _ hh h => h.of_heap hh) own started (by kernel_rfl) Tryz.func4
    (ChangeSpec.witness_shaped (enc := enc) (C := Tryz.checked) (os := os) (X := fun w _ => laidMetH Tryz.prog Rows.numsPutRow.laid w) false (World.doorLaid Tryz.prog 400 os) #[.slice none 0 0, .slice none 0 0, .agg #[.int .u64 0, .int .i64 0, .int .u64 0, .int .u64 0, .int .u64 0, .int .u64 0]] 8 rfl (World.shaped_of_RefB (by kernel_rfl) (by kernel_rfl)) (by kernel_rfl) (by kernel_rfl) (by kernel_rfl) (door_met os _)) ?_
  intro W base args ds gs before hval0 hW _ hsz0 _ _
  have hsz : (DataW.weightsEach Tryz.prog (Tryz.f4.params.toList ++ Rows.numsPutSpec.plain.varTypes Tryz.prog) (ds ++ gs)).all (· ≤ reachBytes) = true := hsz0
  clear hsz0
  have hval : ∀ (j : Nat) t v, Tryz.f4.params[j]? = some t → args[j]? = some v → Value.okWide Tryz.prog W .any base t v := hval0
  have hW' := hW
  obtain ⟨p, q, hA0, hV, rfl, _, _⟩ := hW
  have hA : DataW.TrodAll enc Tryz.prog W 0 (fun _ => true) true Tryz.f4.params.toList args.toList ds p := hA0
  rw [Tryz.params4] at hA hval hsz
  obtain ⟨v1, v2, v0, d1, d2, d0, p1, p2, p0, rfl, rfl, rfl, h1, h2, h0⟩ := trodAll_three hA
  obtain ⟨rfl, rfl⟩ := trodVars_none hV
  obtain ⟨A1, len1, cap1, rfl⟩ := okWide_slice Tryz.underlying22 (hval 0 22 v1 rfl rfl)
  obtain ⟨A2, len2, cap2, rfl⟩ := okWide_slice Tryz.underlying22 (hval 1 22 v2 rfl rfl)
  obtain ⟨cs0, rfl, _⟩ := okWide_struct Tryz.underlying59 (hval 2 59 v0 rfl rfl)
  have h0k := h0
  have h1k := h1
  have h2k := h2
  obtain ⟨fu0, hf0⟩ := h0
  obtain ⟨fu1, hf1⟩ := h1
  obtain ⟨fu2, hf2⟩ := h2
  clear hA0 hval0
  simp only [List.append_nil, List.append_assoc] at hW'
  have hlt : ∀ x ∈ p1 ++ (p2 ++ p0), x.block < W.heap.size := fun x hx => by simpa using hW'.lt x hx
  have hargs : ∀ (W' : World), Below W.heap.size W W' → DataW.TrodAll enc Tryz.prog W' 0 (fun b => decide (b < W.heap.size)) true [22, 22, 59] [.slice A1 len1 cap1, .slice A2 len2 cap2, .agg cs0] [d1, d2, d0] (p1 ++ (p2 ++ p0)) :=
    fun W' hn => trodAll_mk3 (Below.trod laidOut (by kernel_rfl) (of_decide_eq_true (by kernel_rfl)) h1k hn (fun x hx => hlt x (by simp [hx]))) (Below.trod laidOut (by kernel_rfl) (of_decide_eq_true (by kernel_rfl)) h2k hn (fun x hx => hlt x (by simp [hx]))) (Below.trod laidOut (by kernel_rfl) (of_decide_eq_true (by kernel_rfl)) h0k hn (fun x hx => hlt x (by simp [hx])))
  have w1 := weights_each hsz (j := 0) (t := 22) (d := d1) rfl rfl
  have w2 := weights_each hsz (j := 1) (t := 22) (d := d2) rfl rfl
  obtain ⟨A, x, c, e1, ux, hxc, hcm, rd, k1⟩ := open_bytes Tryz.underlying22 Tryz.underlying5 (by kernel_rfl) (by simpa [Value.cells] using hf1)
  simp only [Value.slice.injEq] at e1
  obtain ⟨rfl, rfl, rfl⟩ := e1
  obtain ⟨A', y, c', e2, uy, hyc, hcm', rd', k2⟩ := open_bytes Tryz.underlying22 Tryz.underlying5 (by kernel_rfl) (by simpa [Value.cells] using hf2)
  simp only [Value.slice.injEq] at e2
  obtain ⟨rfl, rfl, rfl⟩ := e2
  have rx := rd W.heap.size (fun x hx => hlt x (by simp [hx]))
  have ry := rd' W.heap.size (fun x hx => hlt x (by simp [hx]))
  have lx := k1 _ w1
  have ly := k2 _ w2
  rw [show Tryz.prog.bytesOf 5 = 1 by kernel_rfl] at lx ly
  obtain ⟨xs, m, rfl, _, hl, hlx, hf⟩ := DataW.trod_struct Tryz.underlying59 hf0
  rw [show Tryz.prog.cellsOf 59 = 6 by kernel_rfl] at hl
  have g0 : DataW.trod enc Tryz.prog W 0 (fun _ => true) true m 25 (List.take (Tryz.prog.cellsOf 25) (List.drop 0 (Value.agg cs0).cells.toList)) = xs[0]? := hf 0 _ rfl
  have g1 : DataW.trod enc Tryz.prog W 0 (fun _ => true) true m 3 (List.take (Tryz.prog.cellsOf 3) (List.drop 1 (Value.agg cs0).cells.toList)) = xs[1]? := hf 1 _ rfl
  have g2 : DataW.trod enc Tryz.prog W 0 (fun _ => true) true m 30 (List.take (Tryz.prog.cellsOf 30) (List.drop 2 (Value.agg cs0).cells.toList)) = xs[2]? := hf 2 _ rfl
  clear hf
  simp only [show Tryz.prog.cellsOf 25 = 1 by kernel_rfl, show Tryz.prog.cellsOf 3 = 1 by kernel_rfl, show Tryz.prog.cellsOf 30 = 4 by kernel_rfl] at g0 g1 g2
  match xs, hlx with
  | [y0, y1, y2], _ =>
    generalize hcs : (Value.agg cs0).cells.toList = cs at hl g0 g1 g2
    match cs, hl with
    | [b0, b1, b2, b3, b4, b5], _ =>
      simp only [List.drop_zero, List.take_succ_cons, List.take_zero, List.drop_succ_cons, List.getElem?_cons_zero, List.getElem?_cons_succ] at g0 g1 g2
      obtain ⟨N, eN, _, wN⟩ := DataW.trod_int Tryz.underlying25 g0
      obtain ⟨b, eb, _, wb⟩ := DataW.trod_int Tryz.underlying3 g1
      obtain ⟨a0, a1, a2, a3, ea, ha⟩ := open_four Tryz.underlying30 Tryz.underlying25 (by kernel_rfl) (by kernel_rfl) g2
      simp only [List.cons.injEq, and_true] at eN eb ea
      obtain ⟨rfl, rfl, rfl, rfl⟩ := ea
      subst eN; subst eb
      have E0 : cs0 = #[.int .u64 N, .int .i64 b, .int .u64 a0, .int .u64 a1, .int .u64 a2, .int .u64 a3] := by
        apply Array.ext'; simpa [Value.cells] using hcs
      subst E0
      have := bounds_u64 wN
      have := bounds_i64 wb
      have hr : (reachBytes : Nat) = 140737488351232 := by decide
      refine (NumsPut_all N b a0 a1 a2 a3 x y A1 A2 cap1 cap2 W (by omega) (by omega) (by omega) (by omega) (by omega) ha rx ry).mono fun e W' ⟨he, hnx⟩ => ?_
      subst he
      exact ⟨_, rfl, _, _, _, [], _, [], hW', trodAll_mk1 (shut_bool Tryz.underlying4 true), hargs _ hnx, rfl, hnx.frame _, fun h => by cases h⟩

theorem NumsPut_holds : Rows.NumsPutSaid :=
  OpenClaim.holds_of_wide 4 Tryz.f4 rfl rfl rfl rfl rfl rfl rfl ⟨rfl, rfl, rfl, rfl, rfl⟩ rfl rfl rfl rfl rfl (by kernel_rfl) Tryz.func4 (by kernel_rfl)
    (of_decide_eq_true (by kernel_rfl)) (by unfold Func.isWrapper; rw [if_neg (of_decide_eq_false (by kernel_rfl))]; exact ⟨rfl, rfl⟩)
    (fun os started H enc _ => NumsPut_lifted os started H enc)

set_option maxRecDepth 100000 in
theorem NumsPut_card : Rows.NumsPutCardSaid :=
  Claim7.holds_tied_plain_at .later [] [.data, .data, .data] true (true, "df63327eb590c7558c07e1277b9ddc6ff2fac26f8efaf938666ca540c929930c") false
    NumsPut_holds (fun _ h => by cases h) (by kernel_rfl) (fun _ h => by cases h) numsPut_row_tie rfl ⟨rfl, rfl⟩ (by kernel_rfl) rfl
    (fun f fn hf hfn => by
      obtain rfl : f = 4 := Option.some.inj ((show Tryz.prog.funcNamed "balefire/balefirelaw01.NumsPut" = some 4 by kernel_rfl).symm.trans hf) |>.symm
      obtain rfl : fn = Tryz.f4 := (Option.some.inj (Tryz.func4.symm.trans hfn)).symm
      exact ⟨by kernel_rfl, fun j t ht => by
        rw [Tryz.params4] at ht
        have hm : t ∈ [22, 22, 59] := by simpa using Array.mem_of_getElem? ht
        have hall : ([22, 22, 59].all fun u => !Tryz.prog.wantsStandIn u) = true := by kernel_rfl
        exact (show Tryz.prog.wantsStandIn t = false by simpa using List.all_eq_true.1 hall t hm)⟩)
    (by kernel_rfl)
end Go.Proofs.YtgibdecgmageeaaGreatDoor
