/- NumsGet, the row and its card. -/
import Derived.Test.YtgibdecgmageeaaGreatDoorRows
import Derived.Test.YtgibdecgmageeaaGreatDoorTie
import Derived.Test.YtgibdecgmageeaaGreatDoorCards
import Derived.Test.YtgibdecgmageeaaGreatDoorLGet
import Derived.Test.YtgibdecgmageeaaGreatDoorOpen
import Derived.LaidMore
import Derived.SevenTiedAt
import Derived.Stop.Joined
namespace Go.Proofs.YtgibdecgmageeaaGreatDoor
open Go.ChangeShapes Go.WideShapes Go.ChangeAt Go.RowKit

theorem own : ownKnob Tryz.prog.godebug = none := by kernel_rfl
theorem laidOut : laidOutB Tryz.prog = true := by kernel_rfl

/-- The door's own heap meets the condition. -/
theorem door_met (os : Os) (args : Array Value) : laidMetH Tryz.prog Rows.numsGetRow.laid ((World.doorLaid Tryz.prog 400 os).forCall (fun _ _ => 0) ⟨#[], args, []⟩).memory :=
  laidMetH_of_parts3 (fuel := 8) (laidMet_of_run' 8 (by kernel_rfl) (by kernel_rfl)) (by kernel_rfl) (by kernel_rfl)

theorem NumsGet_all (b : Int) (p : List Int) (A : Option Addr) (c : Nat) (w : World) (hp : p.length ≤ 140737488351232) (hc : p.length ≤ c) (hcm : c ≤ 9223372036854775807) (hu : IsU8 p) (hr : Rd w w.heap.size A (U8 p)) :
    Calls Tryz.prog 3 #[.slice A p.length c, .int .i64 b] w (fun e w' => e = .returned (.bool true) ∧ Below w.heap.size w w') := by
  by_cases h : 1048576 < p.length
  · exact NumsGet_beyond b p A c w hp h
  · exact NumsGet_within b p A c w (by omega) hc hcm hu hr

set_option maxRecDepth 100000 in
theorem NumsGet_lifted (os : Os) (started : os.Started) (H : Type) (enc : TypeId × Value → H) :
    ReturnsInHanded {} Tryz.checked os 3 .any (fun w args => (Rows.numsGetSpec.pre enc Tryz.prog Tryz.f3 [] false w args ∧ laidMetH Tryz.prog Rows.numsGetRow.laid w) ∧ sizedMet enc Tryz.prog Tryz.f3 (OpenSpec.ofChange Rows.numsGetSpec) false w args)
      (Rows.numsGetSpec.post enc Tryz.prog Tryz.f3 false true false false) := by
  refine returnsInHanded_of_change_and (C := Tryz.checked) (X := fun w _ => laidMetH Tryz.prog Rows.numsGetRow.laid w) (fun _ _ _ hh h => h.of_heap hh) own started (by kernel_rfl) Tryz.func3
    (ChangeSpec.witness_shaped (enc := enc) (C := Tryz.checked) (os := os) (X := fun w _ => laidMetH Tryz.prog Rows.numsGetRow.laid w) false (World.doorLaid Tryz.prog 400 os) #[.slice none 0 0, .int .i64 0] 8 rfl (World.shaped_of_RefB (by kernel_rfl) (by kernel_rfl)) (by kernel_rfl) (by kernel_rfl) (by kernel_rfl) (door_met os _)) ?_
  intro W base args ds gs before hval0 hW _ hsz0 _ _
  have hsz : (DataW.weightsEach Tryz.prog (Tryz.f3.params.toList ++ Rows.numsGetSpec.plain.varTypes Tryz.prog) (ds ++ gs)).all (· ≤ reachBytes) = true := hsz0
  clear hsz0
  have hval : ∀ (j : Nat) t v, Tryz.f3.params[j]? = some t → args[j]? = some v → Value.okWide Tryz.prog W .any base t v := hval0
  have hW' := hW
  obtain ⟨p, q, hA0, hV, rfl, _, _⟩ := hW
  have hA : DataW.TrodAll enc Tryz.prog W 0 (fun _ => true) true Tryz.f3.params.toList args.toList ds p := hA0
  rw [Tryz.params3] at hA hval hsz
  obtain ⟨v1, v0, d1, d0, p1, p0, rfl, rfl, rfl, h1, h0⟩ := trodAll_two hA
  obtain ⟨rfl, rfl⟩ := trodVars_none hV
  obtain ⟨a0, len, cap, rfl⟩ := okWide_slice Tryz.underlying22 (hval 0 22 v1 rfl rfl)
  obtain ⟨b, rfl, rfl, rfl, wb⟩ := open_int Tryz.underlying3 (hval 1 3 v0 rfl rfl) h0
  have h1k := h1
  obtain ⟨fu1, hf1⟩ := h1
  clear hA0 hval0
  simp only [List.append_nil] at hW'
  have hlt : ∀ x ∈ p1, x.block < W.heap.size := fun x hx => by simpa using hW'.lt x hx
  have hargs : ∀ (W' : World), Below W.heap.size W W' → DataW.TrodAll enc Tryz.prog W' 0 (fun b => decide (b < W.heap.size)) true [22, 3] [.slice a0 len cap, .int .i64 b] [d1, .lit (.int .i64 b)] (p1 ++ []) :=
    fun W' hn => trodAll_mk2 (Below.trod laidOut (by kernel_rfl) (of_decide_eq_true (by kernel_rfl)) h1k hn hlt) (shut_int Tryz.underlying3 wb)
  have w1 := weights_each hsz (j := 0) (t := 22) (d := d1) rfl rfl
  obtain ⟨A, x, c, e1, ux, hxc, hcm, rd, k1⟩ := open_bytes Tryz.underlying22 Tryz.underlying5 (by kernel_rfl) (by simpa [Value.cells] using hf1)
  simp only [Value.slice.injEq] at e1
  obtain ⟨rfl, rfl, rfl⟩ := e1
  have rx := rd W.heap.size hlt
  have lx := k1 _ w1
  rw [show Tryz.prog.bytesOf 5 = 1 by kernel_rfl] at lx
  have := bounds_i64 wb
  have hr : (reachBytes : Nat) = 140737488351232 := by decide
  have hmx : (maxLen : Nat) = 9223372036854775807 := by decide
  refine (NumsGet_all b x a0 cap W (by omega) hxc (by omega) ux rx).mono fun e W' ⟨he, hnx⟩ => ?_
  subst he
  exact ⟨_, rfl, _, _, _, [], _, [], hW', trodAll_mk1 (shut_bool Tryz.underlying4 true), hargs _ hnx, rfl, hnx.frame _, fun h => by cases h⟩

theorem NumsGet_holds : Rows.NumsGetSaid :=
  OpenClaim.holds_of_wide 3 Tryz.f3 rfl rfl rfl rfl rfl rfl rfl ⟨rfl, rfl, rfl, rfl, rfl⟩ rfl rfl rfl rfl rfl (by kernel_rfl) Tryz.func3 (by kernel_rfl)
    (of_decide_eq_true (by kernel_rfl)) (by unfold Func.isWrapper; rw [if_neg (of_decide_eq_false (by kernel_rfl))]; exact ⟨rfl, rfl⟩)
    (fun os started H enc _ => NumsGet_lifted os started H enc)

set_option maxRecDepth 100000 in
theorem NumsGet_card : Rows.NumsGetCardSaid :=
  Claim7.holds_tied_plain_at .later [] [.data, .data, .data] true (true, "df63327eb590c7558c07e1277b9ddc6ff2fac26f8efaf938666ca540c929930c") false
    NumsGet_holds (fun _ h => by cases h) (by kernel_rfl) (fun _ h => by cases h) numsGet_row_tie rfl ⟨rfl, rfl⟩ (by kernel_rfl) rfl
    (fun f fn hf hfn => by
      obtain rfl : f = 3 := Option.some.inj ((show Tryz.prog.funcNamed "balefire/balefirelaw01.NumsGet" = some 3 by kernel_rfl).symm.trans hf) |>.symm
      obtain rfl : fn = Tryz.f3 := (Option.some.inj (Tryz.func3.symm.trans hfn)).symm
      exact ⟨by kernel_rfl, fun j t ht => by
        rw [Tryz.params3] at ht
        have hm : t ∈ [22, 3] := by simpa using Array.mem_of_getElem? ht
        have hall : ([22, 3].all fun u => !Tryz.prog.wantsStandIn u) = true := by kernel_rfl
        exact (show Tryz.prog.wantsStandIn t = false by simpa using List.all_eq_true.1 hall t hm)⟩)
    (by kernel_rfl)
end Go.Proofs.YtgibdecgmageeaaGreatDoor
