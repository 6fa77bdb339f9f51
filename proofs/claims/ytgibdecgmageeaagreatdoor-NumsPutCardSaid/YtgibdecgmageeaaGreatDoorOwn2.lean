/- append to a slice of the call's own, told in two cases: in place, or into a new block. -/
import Derived.Test.YtgibdecgmageeaaGreatDoorSep
namespace Go.Proofs.YtgibdecgmageeaaGreatDoor
open Go.RowKit

section
variable {P : Program} {w : World} {base : Nat} {e : TypeId} {size : Nat} {v : Value} {n : Nat} {xs : List Value}

/-- How append went: in place, or into a new block. -/
def Went (w w' : World) (v v' : Value) (n m : Nat) : Prop :=
  (∃ A cap, v = .slice A n cap ∧ v' = .slice A (n + m) cap ∧ Mods (fun k => v.ownBlock = some k) w w') ∨ (Mods (fun _ => False) w w' ∧ ∀ k, v'.ownBlock = some k → w.heap.size ≤ k)

theorem Went.mods {w w' : World} {v v' : Value} {n m : Nat} (h : Went w w' v v' n m) : Mods (fun k => v.ownBlock = some k) w w' := by
  rcases h with ⟨_, _, _, _, h⟩ | ⟨h, _⟩
  · exact h
  · exact h.mono (fun _ _ h => h.elim)
theorem Went.grow {w w' : World} {v v' : Value} {n m : Nat} (h : Went w w' v v' n m) : ∀ k, v'.ownBlock = some k → v.ownBlock = some k ∨ w.heap.size ≤ k := by
  intro k hk
  rcases h with ⟨A, cap, rfl, rfl, _⟩ | ⟨_, h⟩
  · left; cases A <;> simp_all [Value.ownBlock]
  · exact .inr (h k hk)

theorem run_append_two (t ty : TypeId) (i : TypeInfo) (z : Value) (bytes : Nat) (ht : P.underlying t = some (.slice e)) (hi : P.info? e = some i) (hz : i.zero = some z)
    (hsize : i.size = size) (hby : i.bytes = bytes) (hzs : z.cells.size = size) (hsz : 0 < size)
    (hown : Own w base e size v n xs) (B : Nat) (A : Option Addr) (m c : Nat) (news : List Value) (hl : news.length = m * size) (hrd : Rd w B A news) (h1 : ∀ u ∈ news, u.oneCell' = true)
    (hbytes : (n + m) * bytes ≤ 140737488355328) (h63 : n + m ≤ 9223372036854775807) (hbase : base ≤ w.heap.size) :
    ∃ v' w', (Builtin.append_ #[t, t] ty #[v, .slice A m c]).run P w = .ok v' w' ∧ Own w' base e size v' (n + m) (xs ++ news) ∧ Own w' base e size v n xs ∧ Went w w' v v' n m := by
  subst hsize hby
  have hlen : (xs ++ news).length = (n + m) * i.size := by rw [List.length_append, hown.1, hl, Nat.add_mul]
  by_cases hm0 : m = 0
  · subst hm0
    have hnn : news = [] := List.eq_nil_of_length_eq_zero (by simpa using hl)
    subst hnn
    obtain ⟨A', cap', rfl, _, _, _⟩ := hown.shape
    refine ⟨_, w, ?_, by simpa using hown, hown, .inl ⟨A', cap', rfl, rfl, Mods.refl _ _⟩⟩
    have hL : ∀ a : Addr, Sem.run P (loadCells a 0) w = .ok #[] w := by intro a; simp [loadCells, loadCellsFrom]
    rcases hown.2 with ⟨h', rfl⟩ | ⟨g, cap, rest, h', hg, hB, hnc, _, _⟩
    · simp only [Value.slice.injEq] at h'
      obtain ⟨rfl, _, rfl⟩ := h'
      cases A <;> simp [Builtin.append_, run_underlying ht, sizeOf, typeInfo, hi, Builtin.lenOf, Builtin.firstCells, hL]
    · simp only [Value.slice.injEq, true_and] at h'
      obtain ⟨rfl, rfl⟩ := h'
      cases A <;> simp [Builtin.append_, run_underlying ht, sizeOf, typeInfo, hi, Builtin.lenOf, Builtin.firstCells, hnc, hL, storeCells]
  · have hnl : 0 < news.length := by rw [hl]; exact Nat.mul_pos (by omega) hsz
    obtain ⟨ad, rfl, _, hnews⟩ := hrd hnl
    have grown : ∀ (old : Nat), old < n + m →
        Own (w.drew.alloc (.cells (xs.toArray ++ news.toArray ++ Builtin.zeroCells z.cells (grownCap w (n + m) old e - (n + m))) e)) base e i.size
          (.slice (some ⟨w.heap.size, 0, none⟩) (n + m) (grownCap w (n + m) old e)) (n + m) (xs ++ news) := by
      intro old ho
      have hge := grownCap_ge w (n + m) old e
      have hcm := grownCap_le_maxLen w (n + m) old e (by simp only [maxLen]; omega)
      have eA : xs.toArray ++ news.toArray ++ Builtin.zeroCells z.cells (grownCap w (n + m) old e - (n + m)) =
          ((xs ++ news) ++ (Builtin.zeroCells z.cells (grownCap w (n + m) old e - (n + m))).toList).toArray := by
        apply Array.ext'; simp
      rw [eA]
      refine Own.of_blk (Blk.new w.drew e _) hlen hbase hge ?_ (by simp only [maxLen] at hcm; omega)
      rw [List.length_append, hlen, toList_zeroCells, hzs, ← Nat.add_mul]
      exact Nat.mul_le_mul_right _ (by omega)
    rcases hown.2 with ⟨rfl, rfl⟩ | ⟨g, cap, rest, rfl, hg, hB, hnc, hcs, hcm⟩
    · have hx : xs = [] := List.eq_nil_of_length_eq_zero (by simpa using hown.1)
      subst hx
      have hr := run_append_nil (P := P) w t ty e i z ht hi hz ad m c news hl hnews (by omega) (by omega) (by have hb := hbytes; simp only [Nat.zero_add] at hb; omega)
      have hgr := grown 0 (by omega)
      simp only [Nat.zero_add, List.nil_append, Array.empty_append] at hgr ⊢
      refine ⟨_, _, hr, hgr, Own.nil _ _ _ _, .inr ⟨((Mods.refl _ _).drw).alc _, fun k hk => ?_⟩⟩
      simp [Value.ownBlock] at hk; omega
    · by_cases hroom : n + m ≤ cap
      · have hfit : n * i.size + news.length ≤ (xs ++ rest).length := by
          rw [hl, ← Nat.add_mul]; exact Nat.le_trans (Nat.mul_le_mul_right _ hroom) hcs
        have hr := run_append_room (P := P) w t ty e i ht hi g n cap (xs ++ rest).toArray hB ad m c news hl hnews h1 hroom (by simpa using hfit)
        have hB' : Blk (w.setRow g ((xs ++ news) ++ rest.drop news.length).toArray) g e ((xs ++ news) ++ rest.drop news.length) := setRow_heap w g _ _ e _ hB
        have eA : ((xs ++ rest).toArray.toList.take (n * i.size) ++ news ++ (xs ++ rest).toArray.toList.drop (n * i.size + news.length)).toArray = ((xs ++ news) ++ rest.drop news.length).toArray := by
          rw [← hown.1]; simp [List.drop_append]
        rw [eA] at hr
        have hB2 : Blk (w.setRow g ((xs ++ news) ++ rest.drop news.length).toArray) g e (xs ++ (news ++ rest.drop news.length)) := by rw [← List.append_assoc]; exact hB'
        refine ⟨_, _, hr, Own.of_blk hB' hlen hg hroom ?_ hcm, ?_, .inl ⟨_, _, rfl, rfl, Mods.setRow w g _ rfl⟩⟩
        · refine Nat.le_trans hcs ?_
          simp only [List.length_append, List.length_drop]
          omega
        · refine Own.of_blk hB2 hown.1 hg hnc ?_ hcm
          refine Nat.le_trans hcs ?_
          simp only [List.length_append, List.length_drop]
          omega
      · have holds : ∀ j u, xs[j]? = some u → w.cell? ((⟨g, 0, none⟩ : Addr).add j) = some u := by
          intro j u hu
          rw [Addr.add_lit, Nat.zero_add, hB.cell, List.getElem?_append_left (List.getElem?_eq_some_iff.1 hu).1]; exact hu
        have hr := run_append_grow (P := P) w t ty e i z ht hi hz ⟨g, 0, none⟩ n cap xs hown.1 holds ad m c news hl hnews (by omega) (by omega) (growslice_fits (by omega) hbytes)
        refine ⟨_, _, hr, grown cap (by omega), ?_, .inr ⟨((Mods.refl _ _).drw).alc _, fun k hk => ?_⟩⟩
        · exact hown.drew.alloc _
        · simp [Value.ownBlock] at hk; omega

/-- 's = append(s, x..)', s of the call's own. -/
theorem wpList_append_two {ops : Array Oper} {rest : List Oper} {o : Oper} {a : Act} {Q : Exit → Act → World → Prop} (hgd : Region.wanted o (yielded ops a.tmps) = true) (s x : Operand) (t : TypeId)
    (ho : o.op = .call { callee := .builtin .append, args := #[s, x], argTypes := #[t, t] })
    (i : TypeInfo) (z : Value) (bytes : Nat) (ht : P.underlying t = some (.slice e)) (hi : P.info? e = some i) (hz : i.zero = some z)
    (hsize : i.size = size) (hby : i.bytes = bytes) (hzs : z.cells.size = size) (hsz : 0 < size)
    (hs : a.eval s = v) (hown : Own w base e size v n xs) (B : Nat) (A : Option Addr) (m c : Nat) (hx : a.eval x = .slice A m c) (news : List Value) (hl : news.length = m * size) (hrd : Rd w B A news) (h1 : ∀ u ∈ news, u.oneCell' = true)
    (hbytes : (n + m) * bytes ≤ 140737488355328) (h63 : n + m ≤ 9223372036854775807) (hbase : base ≤ w.heap.size)
    (h : ∀ v' w', Own w' base e size v' (n + m) (xs ++ news) → Own w' base e size v n xs → Went w w' v v' n m → wpList P ops Q rest (a.put o.dst v') w') : wpList P ops Q (o :: rest) a w := by
  obtain ⟨v', w', hrun, r1, r2, r3⟩ := run_append_two (P := P) t o.type i z bytes ht hi hz hsize hby hzs hsz hown B A m c news hl hrd h1 hbytes h63 hbase
  refine BigFrame.wpList_want hgd fun K hK => ?_
  unfold Oper.wp execOp
  simp only [ho, resolve, invoke, builtin, Sem.run_bind, Sem.run_pure, Result.andThen_ok, List.map_toArray, List.map_cons, List.map_nil, hs, hx, hrun]
  exact hK _ _ (h v' w' r1 r2 r3)
/-- The same as a step of a region that draws its order. -/
theorem step_append_two {ops : Array Oper} {o : Oper} {a : Act} {K : Act → World → Prop} {Q : Exit → Act → World → Prop} {E : Prop} (hgd : Region.wanted o (yielded ops a.tmps) = true) (s x : Operand) (t : TypeId)
    (ho : o.op = .call { callee := .builtin .append, args := #[s, x], argTypes := #[t, t] })
    (i : TypeInfo) (z : Value) (bytes : Nat) (ht : P.underlying t = some (.slice e)) (hi : P.info? e = some i) (hz : i.zero = some z)
    (hsize : i.size = size) (hby : i.bytes = bytes) (hzs : z.cells.size = size) (hsz : 0 < size)
    (hs : a.eval s = v) (hown : Own w base e size v n xs) (B : Nat) (A : Option Addr) (m c : Nat) (hx : a.eval x = .slice A m c) (news : List Value) (hl : news.length = m * size) (hrd : Rd w B A news) (h1 : ∀ u ∈ news, u.oneCell' = true)
    (hbytes : (n + m) * bytes ≤ 140737488355328) (h63 : n + m ≤ 9223372036854775807) (hbase : base ≤ w.heap.size)
    (h : ∀ v' w', Own w' base e size v' (n + m) (xs ++ news) → Own w' base e size v n xs → Went w w' v v' n m → K (a.put o.dst v') w') :
    if Region.wanted o (yielded ops a.tmps) = true then Oper.wp P o a w K Q else E := by
  rw [if_pos hgd]
  obtain ⟨v', w', hrun, r1, r2, r3⟩ := run_append_two (P := P) t o.type i z bytes ht hi hz hsize hby hzs hsz hown B A m c news hl hrd h1 hbytes h63 hbase
  unfold Oper.wp execOp
  simp only [ho, resolve, invoke, builtin, Sem.run_bind, Sem.run_pure, Result.andThen_ok, List.map_toArray, List.map_cons, List.map_nil, hs, hx, hrun]
  exact h v' w' r1 r2 r3

/-- The beginning of a slice of the call's own. -/
theorem Own.pre {A : Option Addr} {cap m : Nat} (h : Own w base e size (.slice A n cap) n xs) (hm : m ≤ n) : Own w base e size (.slice A m cap) m (xs.take (m * size)) := by
  have hl : (xs.take (m * size)).length = m * size := by
    rw [List.length_take, h.1, Nat.min_eq_left (Nat.mul_le_mul_right _ hm)]
  refine ⟨hl, ?_⟩
  rcases h.2 with ⟨h', rfl⟩ | ⟨g, cap', rest, h', hg, hB, h1, h2, h3⟩
  · simp only [Value.slice.injEq] at h'
    obtain ⟨rfl, _, rfl⟩ := h'
    obtain rfl : m = 0 := by omega
    exact .inl ⟨rfl, rfl⟩
  · simp only [Value.slice.injEq, true_and] at h'
    obtain ⟨rfl, rfl⟩ := h'
    have e1 : xs.take (m * size) ++ (xs.drop (m * size) ++ rest) = xs ++ rest := by rw [← List.append_assoc, List.take_append_drop]
    refine .inr ⟨g, cap, xs.drop (m * size) ++ rest, rfl, hg, by rw [e1]; exact hB, by omega, by rw [e1]; exact h2, h3⟩
end
end Go.Proofs.YtgibdecgmageeaaGreatDoor
