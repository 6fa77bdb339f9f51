/- Acts among the arguments, opened. -/
import Derived.Test.YtgibdecgmageeaaDoorActs
import Derived.Test.YtgibdecgmageeaaDoorOpenV
import Derived.Deep.Slices
namespace Go.Proofs.YtgibdecgmageeaaDoor
open Go.ChangeShapes Go.WideShapes Go.ChangeAt Go.RowKit

theorem weights_all {H : Type} {P : Program} {e : TypeId} {d : DataW H} {n : Nat} : ∀ (L : List (DataW H)), d ∈ L → n ∈ d.weights P e → n ∈ DataW.weightsAll P e L
  | [], h, _ => by cases h
  | a :: r, h, hn => by
    simp only [DataW.weightsAll, List.mem_append]
    rcases List.mem_cons.1 h with rfl | h
    · exact .inl hn
    · exact .inr (weights_all r h hn)

section
variable {H : Type} {enc : TypeId × Value → H} {W : World}

set_option maxRecDepth 100000 in
set_option maxHeartbeats 1000000 in
theorem open_act {held : Bool} {fuel : Nat} {cs : List Value} {d : DataW H} {ps : List MemPlace} (h : DataW.trod enc Tryd.prog W 0 (fun _ => true) held fuel 65 cs = some (d, ps)) :
    ∃ x : Ac, cs = x.cells ∧ (0 ≤ x.kind ∧ x.kind < 256) ∧ IsU8 x.b ∧ (-9223372036854775808 ≤ x.at_ ∧ x.at_ ≤ 9223372036854775807) ∧ (-9223372036854775808 ≤ x.n ∧ x.n ≤ 9223372036854775807) ∧
      (∀ B, (∀ p ∈ ps, p.block < B) → Rd W B x.B (U8 x.b)) ∧ ∀ m, (∀ n ∈ d.weights Tryd.prog 65, n ≤ m) → x.name.size ≤ m ∧ x.too.size ≤ m ∧ x.b.length ≤ m := by
  obtain ⟨xs, m, rfl, hdx, hl, hlx, hf⟩ := DataW.trod_struct Tryd.underlying65 h
  rw [show Tryd.prog.cellsOf 65 = 7 by kernel_rfl] at hl
  have g0 : DataW.trod enc Tryd.prog W 0 (fun _ => true) held m 5 (List.take (Tryd.prog.cellsOf 5) (List.drop 0 cs)) = xs[0]? := hf 0 _ rfl
  have g1 : DataW.trod enc Tryd.prog W 0 (fun _ => true) held m 9 (List.take (Tryd.prog.cellsOf 9) (List.drop 1 cs)) = xs[1]? := hf 1 _ rfl
  have g2 : DataW.trod enc Tryd.prog W 0 (fun _ => true) held m 9 (List.take (Tryd.prog.cellsOf 9) (List.drop 2 cs)) = xs[2]? := hf 2 _ rfl
  have g3 : DataW.trod enc Tryd.prog W 0 (fun _ => true) held m 37 (List.take (Tryd.prog.cellsOf 37) (List.drop 3 cs)) = xs[3]? := hf 3 _ rfl
  have g4 : DataW.trod enc Tryd.prog W 0 (fun _ => true) held m 3 (List.take (Tryd.prog.cellsOf 3) (List.drop 4 cs)) = xs[4]? := hf 4 _ rfl
  have g5 : DataW.trod enc Tryd.prog W 0 (fun _ => true) held m 3 (List.take (Tryd.prog.cellsOf 3) (List.drop 5 cs)) = xs[5]? := hf 5 _ rfl
  have g6 : DataW.trod enc Tryd.prog W 0 (fun _ => true) held m 4 (List.take (Tryd.prog.cellsOf 4) (List.drop 6 cs)) = xs[6]? := hf 6 _ rfl
  clear hf
  simp only [show Tryd.prog.cellsOf 5 = 1 by kernel_rfl, show Tryd.prog.cellsOf 9 = 1 by kernel_rfl, show Tryd.prog.cellsOf 37 = 1 by kernel_rfl, show Tryd.prog.cellsOf 3 = 1 by kernel_rfl, show Tryd.prog.cellsOf 4 = 1 by kernel_rfl] at g0 g1 g2 g3 g4 g5 g6
  match xs, hlx with
  | [y0, y1, y2, y3, y4, y5, y6], _ =>
    match cs, hl with
    | [b0, b1, b2, b3, b4, b5, b6], _ =>
      simp only [List.drop_zero, List.take_succ_cons, List.take_zero, List.drop_succ_cons, List.getElem?_cons_zero, List.getElem?_cons_succ] at g0 g1 g2 g3 g4 g5 g6
      obtain ⟨K, eK, _, wK⟩ := DataW.trod_int Tryd.underlying5 g0
      obtain ⟨nm, en, hn1, _⟩ := DataW.trod_string Tryd.underlying9 g1
      obtain ⟨too, et, ht1, _⟩ := DataW.trod_string Tryd.underlying9 g2
      obtain ⟨B, x, bc, eb, ub, _, _, rb, kb⟩ := open_bytes Tryd.underlying37 Tryd.underlying5 (by kernel_rfl) g3
      obtain ⟨a, ea, _, wa⟩ := DataW.trod_int Tryd.underlying3 g4
      obtain ⟨n, enn, _, wn⟩ := DataW.trod_int Tryd.underlying3 g5
      obtain ⟨nb, enb, _⟩ := DataW.trod_bool Tryd.underlying4 g6
      simp only [List.cons.injEq, and_true] at eK en et ea enn enb
      subst eK; subst en; subst et; subst eb; subst ea; subst enn; subst enb
      simp only [Prod.mk.injEq] at hdx
      obtain ⟨rfl, rfl⟩ := hdx
      have kK := bounds_u8 wK
      have ka : -9223372036854775808 ≤ a ∧ a ≤ 9223372036854775807 := by
        simp [Lit.wf, IntKind.min, IntKind.max, IntKind.signed, IntKind.bits] at wa
        omega
      have kn : -9223372036854775808 ≤ n ∧ n ≤ 9223372036854775807 := by
        simp [Lit.wf, IntKind.min, IntKind.max, IntKind.signed, IntKind.bits] at wn
        omega
      refine ⟨⟨K, nm, too, x, B, bc, a, n, nb⟩, rfl, ⟨kK.1, by show K < 256; omega⟩, ub, ka, kn, fun B0 hB => rb B0 fun p hp => hB p (by simp [hp]), fun m0 hm => ?_⟩
      have hw : ∀ (j : Nat) (t : TypeId) (y : DataW H × List MemPlace), ([5, 9, 9, 37, 3, 3, 4] : List TypeId)[j]? = some t → ([y0.1, y1.1, y2.1, y3.1, y4.1, y5.1, y6.1] : List (DataW H))[j]? = some y.1 → ∀ n ∈ y.1.weights Tryd.prog t, n ≤ m0 := fun j t y ht hy n hn => by
        refine hm n ?_
        rw [DataW.weights, Tryd.underlying65]
        exact DataW.weights_mem_each ht hy n hn
      have h1 := hw 1 9 y1 rfl rfl
      have h2 := hw 2 9 y2 rfl rfl
      have h3 := hw 3 37 y3 rfl rfl
      have hk := kb m0 h3
      rw [show Tryd.prog.bytesOf 5 = 1 by kernel_rfl] at hk
      rw [hn1] at h1
      rw [ht1] at h2
      exact ⟨open_string_weight h1, open_string_weight h2, by show x.length ≤ m0; omega⟩

set_option maxRecDepth 100000 in
set_option maxHeartbeats 1000000 in
theorem open_acts {held : Bool} {fuel : Nat} {v : Value} {d : DataW H} {ps : List MemPlace} {B0 : Nat} (h : DataW.trod enc Tryd.prog W 0 (fun _ => true) held fuel 80 [v] = some (d, ps)) (hB : ∀ p ∈ ps, p.block < B0) (hw : ∀ n ∈ d.weights Tryd.prog 80, n ≤ 140737488351232) :
    ∃ (A : Option Addr) (l : List Ac) (cap : Nat), v = .slice A l.length cap ∧ l.length ≤ 140737488351232 ∧ Acts W B0 A l := by
  rcases Go.Deep.open_slice Tryd.underlying80 h with ⟨hcs, hx⟩ | ⟨a, len, cap, m, n, D, Pl, hcs, _, hl, _, hmm, hx, hi⟩
  · simp only [List.cons.injEq, and_true] at hcs
    subst hcs
    exact ⟨none, [], 0, rfl, by simp, ⟨Rd.nil _ _ _, fun x hx => by cases hx⟩⟩
  · simp only [List.cons.injEq, and_true] at hcs
    subst hcs
    simp only [if_true] at hmm
    subst hmm
    rw [show Tryd.prog.cellsOf 65 = 7 by kernel_rfl] at hx hi
    simp only [Prod.mk.injEq] at hx
    obtain ⟨rfl, rfl⟩ := hx
    rw [DataW.weights, Tryd.underlying80] at hw
    have hlen := hw _ List.mem_cons_self
    rw [List.length_map, List.length_map, List.length_range, List.length_range] at hlen
    have hby : 1 ≤ Tryd.prog.bytesOf 65 := of_decide_eq_true (by kernel_rfl)
    have hlen' : len ≤ 140737488351232 := by
      have := Nat.mul_le_mul_left (len + (m - len)) hby
      omega
    have each : ∀ i, i < len → ∃ x : Ac, (∀ (j : Nat) (u : Value), x.cells[j]? = some u → W.cell? (a.add (i * 7 + j)) = some u) ∧ x.ok W B0 := by
      intro i hil
      obtain ⟨cs', hc, ht⟩ := hi i (by omega)
      obtain ⟨_, hcl, hat⟩ := World.cells?_some hc
      obtain ⟨x, rfl, kk, ub, ka, kn, rb, kw⟩ := open_act ht
      have hkw := kw 140737488351232 fun n hn => hw n (List.mem_cons_of_mem _ (List.mem_append_left _ (weights_all _ (List.mem_map.2 ⟨i, List.mem_range.2 hil, rfl⟩) hn)))
      refine ⟨x, fun j u hj => ?_, ⟨kk.1, kk.2, hkw.1, hkw.2.1, hkw.2.2, ub, rb B0 fun p hp => hB p ?_, ka.1, ka.2, kn.1, kn.2⟩⟩
      · have hj7 : j < 7 := (List.getElem?_eq_some_iff.1 hj).1
        rw [← Go.Deep.add_add, hat j hj7]
        exact hj
      · exact List.mem_append_right _ (List.mem_flatMap.2 ⟨i, List.mem_range.2 (by omega), hp⟩)
    obtain ⟨X, hX⟩ : ∃ X : Nat → Ac, ∀ i, i < len → (∀ (j : Nat) (u : Value), (X i).cells[j]? = some u → W.cell? (a.add (i * 7 + j)) = some u) ∧ (X i).ok W B0 :=
      ⟨fun i => if h : i < len then (each i h).choose else ⟨0, ⟨#[]⟩, ⟨#[]⟩, [], none, 0, 0, 0, false⟩, fun i h => by simp only [dif_pos h]; exact (each i h).choose_spec⟩
    have hll : ((List.range len).map X).length = len := by simp
    refine ⟨some a, (List.range len).map X, m, by rw [hll], by rw [hll]; exact hlen', ⟨fun h0 => ⟨a, rfl, ?_, fun j u hj => ?_⟩, fun x hx => ?_⟩⟩
    · rw [Ac.cells_len, hll] at h0
      exact hB (.cell a.block a.off) (List.mem_append_left _ (MemPlace.mem_row.2 ⟨0, by omega, by simp⟩))
    · have hj7 : j < len * 7 := by
        have := (List.getElem?_eq_some_iff.1 hj).1
        rw [Ac.cells_len, hll] at this
        exact this
      have hq : j / 7 < len := by omega
      have hr : j % 7 < 7 := Nat.mod_lt _ (by omega)
      have e : j = j / 7 * 7 + j % 7 := by omega
      rw [e, Ac.cells_at _ _ (by rw [hll]; exact hq) _ hr] at hj
      rw [e]
      refine (hX (j / 7) hq).1 _ _ ?_
      simpa using hj
    · obtain ⟨i, hi', rfl⟩ := List.mem_map.1 hx
      exact (hX i (List.mem_range.1 hi')).2
end
end Go.Proofs.YtgibdecgmageeaaDoor
