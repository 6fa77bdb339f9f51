/- slices.Grow (of nil) and slices.Concat walked, at bytes. -/
import Derived.Test.YtgibdecgmageeaaDoorBas
namespace Go.Proofs.YtgibdecgmageeaaDoor
open Go.RowKit

theorem zeroCells_one (z : Value) (n : Nat) : Builtin.zeroCells #[z] n = (List.replicate n z).toArray := by
  have : (Builtin.zeroCells #[z] n).toList = List.replicate n z := by
    apply List.ext_getElem?
    intro j
    by_cases hj : j < n
    · simp [Builtin.zeroCells, hj, Nat.mod_one]
    · simp [Builtin.zeroCells, hj]
  rw [← this]

/-- 'append([]T(nil), make([]T, n)...)', elements of one cell. -/
theorem run_append_zeros_nil {P : Program} (w : World) (t u ty e : TypeId) (k : IntKind) (i : TypeInfo) (z : Value) (ht : P.underlying t = some (.slice e)) (hu : P.underlying u = some (.int k)) (hi : P.info? e = some i) (hz : i.zero = some z)
    (h1 : i.size = 1) (hzc : z.cells = #[z]) (m : Nat) (hm : 0 < m) (hmm : m ≤ 140737488355328) (h48 : m * i.bytes ≤ 281474976710656) :
    ∃ c, m ≤ c ∧ c ≤ 9223372036854775807 ∧ (Builtin.append_ #[t, u] ty #[.slice none 0 0, .int .i64 (m : Int)]).run P w =
      .ok (.slice (some ⟨w.heap.size, 0, none⟩) m c) (w.drew.alloc (.cells (List.replicate c z).toArray e)) := by
  have h48a : (m : Int) * (i.bytes : Int) ≤ 281474976710656 := by
    have h : ((m * i.bytes : Nat) : Int) ≤ 281474976710656 := by omega
    rwa [Int.natCast_mul] at h
  have wm : IntKind.i64.wrap (m : Int) = m := by rw [IntKind.wrap_i64]; omega
  have n1 : ¬ ((m : Int) < 0) := by omega
  have n2 : ¬ (281474976710656 < (m : Int) * (i.bytes : Int)) := by omega
  have n3 : ¬ (m = 0) := by omega
  have n4 : ¬ (9223372036854775807 < (m : Int)) := by omega
  have n5 : ¬ (281474976710656 < Builtin.nextslicecap m 0 * i.bytes) := by rw [nextslicecap_zero hm]; omega
  have hge := grownCap_ge w m 0 e
  have hcm := grownCap_le_maxLen w m 0 e (by simp only [maxLen]; omega)
  refine ⟨grownCap w m 0 e, hge, by simp only [maxLen] at hcm; omega, ?_⟩
  have ec : (Builtin.zeroCells #[z] m ++ Builtin.zeroCells #[z] (grownCap w m 0 e - m)) = (List.replicate (grownCap w m 0 e) z).toArray := by
    rw [zeroCells_one, zeroCells_one]
    rw [List.append_toArray, List.replicate_append_replicate, Nat.add_sub_cancel' hge]
  simp [Builtin.append_, run_underlying ht, run_underlying hu, sizeOf, typeInfo, zeroValue, hi, hz, h1, hzc, asInt, asIntOf, wm, n1, n2, n3, n4, n5, Question.forced, run_firstCells_none, newRow]
  refine ⟨rfl, ?_⟩
  show w.drew.alloc (.cells (Builtin.zeroCells #[z] m ++ Builtin.zeroCells #[z] (grownCap w m 0 e - m)) e) = _
  rw [ec]; simp

/-- That append, in the walk. -/
theorem wpList_append_zeros {P : Program} {w : World} {ops : Array Oper} {rest : List Oper} {o : Oper} {a : Act} {Q : Exit → Act → World → Prop} (hgd : Region.wanted o (yielded ops a.tmps) = true) (s x : Operand) (t u : TypeId)
    (ho : o.op = .call { callee := .builtin .append, args := #[s, x], argTypes := #[t, u] }) (e : TypeId) (k : IntKind) (i : TypeInfo) (z : Value) (ht : P.underlying t = some (.slice e)) (hu : P.underlying u = some (.int k)) (hi : P.info? e = some i) (hz : i.zero = some z)
    (h1 : i.size = 1) (hzc : z.cells = #[z]) (m : Nat) (hm : 0 < m) (hmm : m ≤ 140737488355328) (h48 : m * i.bytes ≤ 281474976710656)
    (hs : a.eval s = .slice none 0 0) (hx : a.eval x = .int .i64 (m : Int))
    (h : ∀ c w', m ≤ c → c ≤ 9223372036854775807 → Blk w' w.heap.size e (List.replicate c z) → Below w.heap.size w w' → wpList P ops Q rest (a.put o.dst (.slice (some ⟨w.heap.size, 0, none⟩) m c)) w') :
    wpList P ops Q (o :: rest) a w := by
  obtain ⟨c, hc1, hc2, hrun⟩ := run_append_zeros_nil (P := P) w t u o.type e k i z ht hu hi hz h1 hzc m hm hmm h48
  refine BigFrame.wpList_want hgd fun K hK => ?_
  unfold Oper.wp execOp
  simp only [ho, resolve, invoke, builtin, Sem.run_bind, Sem.run_pure, Result.andThen_ok, List.map_toArray, List.map_cons, List.map_nil, hs, hx, hrun]
  exact hK _ _ (h c _ hc1 hc2 (Blk.new w.drew e _) (((Below.refl _ _).drew).alloc (Nat.le_refl _) _))

set_option maxRecDepth 100000 in
set_option maxHeartbeats 400000 in
theorem Grow_nil (m : Nat) (w : World) (hm : m ≤ 140737488355328) :
    Calls Tryd.prog 68 #[.slice none 0 0, .int .i64 m] w
      (fun e w' => ∃ v, e = .returned v ∧ (∃ A c, v = .slice A 0 c ∧ m ≤ c) ∧ Own w' w.heap.size 5 1 v 0 [] ∧ Below w.heap.size w w') := by
  obtain ⟨i0, hi, hz0, hz1, hz2⟩ := info_parts Tryd.infoByte
  by_cases h0 : m = 0
  · subst h0
    go_enter Tryd.func68, Tryd.ntmps68
    go_wp2
    go_ret
    exact ⟨_, rfl, ⟨_, _, rfl, Nat.le_refl _⟩, Own.nil _ _ _ _, Below.refl _ _⟩
  · have hmI : (0 : Int) < (m : Int) := by omega
    go_enter Tryd.func68, Tryd.ntmps68
    go_wp2_with (first | (at_builtin; refine wpList_append_zeros rfl (.tmp 20) (.tmp 21) 37 3 rfl 5 .i64 i0 (.int .u8 0) Tryd.underlying37 Tryd.underlying3 hi hz0 hz1 rfl m (by omega) (by omega) (by rw [hz2]; omega) rfl rfl ?_))
    intro c w' hc1 hc2 hB hb
    go_wp2
    go_ret
    refine ⟨_, rfl, ⟨_, _, rfl, ?_⟩, ?_, hb⟩
    · simpa using hc1
    · exact Own.of_blk (rest := List.replicate c (.int .u8 0)) (by simpa using hB) rfl (Nat.le_refl _) (Nat.zero_le _) (by simp) (by simpa using hc2)

/-- A slice of bytes as it stands in a cell: its address, its bytes, its capacity. -/
abbrev Src := Option Addr × List Int × Nat
def SV (s : Src) : Value := .slice s.1 s.2.1.length s.2.2
/-- All the bytes, one row behind the other. -/
def cat (ss : List Src) : List Int := (ss.map (·.2.1)).flatten
theorem cat_take_succ (ss : List Src) (j : Nat) (h : j < ss.length) : cat (ss.take (j + 1)) = cat (ss.take j) ++ (ss[j]'h).2.1 := by
  unfold cat; rw [List.take_succ_eq_append_getElem h, List.map_append, List.flatten_append, List.map_singleton, List.flatten_singleton]
theorem cat_take_le (ss : List Src) (j : Nat) : (cat (ss.take j)).length ≤ (cat ss).length := by
  have : cat ss = cat (ss.take j) ++ cat (ss.drop j) := by
    unfold cat; rw [← List.flatten_append, ← List.map_append, List.take_append_drop]
  rw [this, List.length_append]; omega

set_option maxRecDepth 100000 in
set_option maxHeartbeats 1000000 in
theorem Concat_any (ss : List Src) (S : Option Addr) (n cS : Nat) (w : World) (hn : n = ss.length) (hl : ss.length ≤ 1000) (hr : Rd w w.heap.size S (ss.map SV)) (hs : ∀ s ∈ ss, Rd w w.heap.size s.1 (U8 s.2.1))
    (ht : (cat ss).length ≤ 140737488355328) :
    Calls Tryd.prog 64 #[.slice S n cS] w (RetB w (cat ss)) := by
  subst hn
  obtain ⟨i0, hi, hz0, hz1, hz2⟩ := info_parts Tryd.infoByte
  go_enter Tryd.func64, Tryd.ntmps64
  go_wp2
  go_loop [3, 11] (fun t i => ∃ (j m : Nat), j ≤ ss.length ∧ i = .int .i64 j ∧ t = .int .i64 m ∧ Hid (m = (cat (ss.take j)).length) ∧ m ≤ 140737488355328) (fun _ i => ss.length - (intOf i).toNat)
  case atStart => exact ⟨0, 0, by omega, rfl, rfl, rfl, by omega⟩
  case round =>
    obtain ⟨j, m, hj, rfl, rfl, Hm, hm⟩ := hrel
    by_cases hlt : j < ss.length
    · obtain ⟨ad, rfl, hadb, hc⟩ := hr (by simp; omega)
      have c1 : w.cell? (ad.add j) = some (SV ss[j]) := hc j _ (by simp [hlt])
      have Hn : Hid ((cat (ss.take (j + 1))).length = m + ss[j].2.1.length) := by rw [cat_take_succ _ _ hlt, List.length_append, ← Hm.out]; rfl
      have Hle : Hid ((cat (ss.take (j + 1))).length ≤ (cat ss).length) := cat_take_le ss (j + 1)
      obtain ⟨X, l, c, hx⟩ : ∃ X l c, ss[j] = (X, l, c) := ⟨_, _, _, rfl⟩
      rw [hx] at c1 Hn
      simp only [SV] at c1 Hn
      have hl2 : m + l.length ≤ 140737488355328 := by have h1 := Hle.out; rw [Hn.out] at h1; omega
      clear hc hx
      go_wp2
      go_round
      case rel => exact ⟨j + 1, m + l.length, by omega, by go_num, by go_num, Hn.out.symm, hl2⟩
      case measure => simp [intOf]; omega
    · obtain rfl : j = ss.length := by omega
      have Hm' : Hid (m = (cat ss).length) := by have := Hm.out; rwa [List.take_length] at this
      go_wp2_with fail
      refine (Grow_nil m w hm).mono ?_
      rintro e w1 ⟨v, rfl, ⟨A0, c0, rfl, hc0⟩, hown, hb⟩
      go_wp2
      go_loopw [6, 27] (fun v i wr => ∃ (j m : Nat), j ≤ ss.length ∧ i = .int .i64 j ∧ Hid (m = (cat (ss.take j)).length) ∧ (∃ A c, v = .slice A m c) ∧ Own wr w.heap.size 5 1 v m (U8 (cat (ss.take j))) ∧ Below w.heap.size w wr) (fun _ i _ => ss.length - (intOf i).toNat)
      case atStart => exact ⟨0, 0, by omega, rfl, rfl, ⟨_, _, rfl⟩, by simpa [cat, U8] using hown, hb⟩
      case round =>
        obtain ⟨j, k, hj2, rfl, Hk, ⟨A1, c1, rfl⟩, ho, hb1⟩ := hrel
        by_cases hlt2 : j < ss.length
        · obtain ⟨ad, rfl, hadb, hc⟩ := hr (by simp; omega)
          have c2 : wr.cell? (ad.add j) = some (SV ss[j]) := by rw [hb1.cell (by rw [add_block]; exact hadb)]; exact hc j _ (by simp [hlt2])
          have hrs := (hs _ (List.getElem_mem hlt2)).below hb1 (Nat.le_refl _)
          have Hn : Hid (cat (ss.take (j + 1)) = cat (ss.take j) ++ ss[j].2.1) := cat_take_succ _ _ hlt2
          have Hle : Hid ((cat (ss.take (j + 1))).length ≤ (cat ss).length) := cat_take_le ss (j + 1)
          obtain ⟨X, l, c, hx⟩ : ∃ X l c, ss[j] = (X, l, c) := ⟨_, _, _, rfl⟩
          rw [hx] at c2 Hn hrs
          simp only [SV] at c2 Hn hrs
          have hl2 : k + l.length ≤ 140737488355328 := by have h1 := Hle.out; rw [Hn.out, List.length_append, ← Hk.out] at h1; omega
          clear hc hx
          go_wp2_with (first | (at_builtin; refine wpList_append_Own rfl (.tmp 31) (.tmp 32) 37 rfl i0 (.int .u8 0) 1 Tryd.underlying37 hi hz0 hz1 hz2 rfl (by decide) rfl ho w.heap.size X l.length c rfl (U8 l) (by simp) hrs (oneCell_U8 _) (by omega) (by omega) hb1.size ?_))
          intro v' w' ho' _ hm' _ _
          have hb2 : Below w.heap.size w w' := hb1.trans (hm'.below_own hb1.size (fun g hg => (ho.lt g hg).1))
          obtain ⟨A2, c2', rfl, _⟩ := ho'.shape
          have HO : Hid (Own w' w.heap.size 5 1 (.slice A2 (k + l.length) c2') (k + l.length) (U8 (cat (ss.take (j + 1))))) := by
            rw [Hn.out, U8_append]; exact ho'
          have Hk2 : Hid (k + l.length = (cat (ss.take (j + 1))).length) := by rw [Hn.out, List.length_append, ← Hk.out]; rfl
          clear hm' ho' ho
          go_wp2
          go_roundw
          case rel => exact ⟨j + 1, k + l.length, by omega, by go_num, Hk2, ⟨_, _, rfl⟩, HO, hb2⟩
          case measure => simp [intOf]; omega
        · obtain rfl : j = ss.length := by omega
          go_wp2
          go_ret
          have e1 := Hk.out
          rw [List.take_length] at e1
          rw [List.take_length, e1] at ho
          exact ⟨_, by rw [e1]; rfl, ho, hb1⟩
end Go.Proofs.YtgibdecgmageeaaDoor
