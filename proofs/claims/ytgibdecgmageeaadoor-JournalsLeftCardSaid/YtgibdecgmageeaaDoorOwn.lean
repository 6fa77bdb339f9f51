/- A slice of the call's own: nil, or at the head of a block that is known. What append makes of it. No statement of the seat stands here. -/
import Derived.Test.YtgibdecgmageeaaDoorLib
namespace Go.Proofs.YtgibdecgmageeaaDoor
open Go.RowKit

/-- The slice v has n elements (of 'size' cells each), which are the cells xs; it is nil, or begins a block (from base on) that no cell of is frozen, and that holds its whole capacity. -/
def Own (w : World) (base : Nat) (e : TypeId) (size : Nat) (v : Value) (n : Nat) (xs : List Value) : Prop :=
  xs.length = n * size ∧ ((v = .slice none 0 0 ∧ n = 0) ∨
    ∃ g cap rest, v = .slice (some ⟨g, 0, none⟩) n cap ∧ base ≤ g ∧ Blk w g e (xs ++ rest) ∧ n ≤ cap ∧ cap * size ≤ (xs ++ rest).length ∧ cap ≤ 9223372036854775807)

section
variable {w w' : World} {base : Nat} {e : TypeId} {size : Nat} {v : Value} {n : Nat} {xs : List Value}

theorem Own.nil (w : World) (base : Nat) (e : TypeId) (size : Nat) : Own w base e size (.slice none 0 0) 0 [] := ⟨by simp, .inl ⟨rfl, rfl⟩⟩
theorem Own.len (h : Own w base e size v n xs) : xs.length = n * size := h.1
theorem Own.mods {S : Nat → Prop} (h : Own w base e size v n xs) (hm : Mods S w w') (hv : ∀ g, v.ownBlock = some g → ¬ S g) : Own w' base e size v n xs := by
  refine ⟨h.1, ?_⟩
  rcases h.2 with hn | ⟨g, cap, rest, rfl, hg, hB, r⟩
  · exact .inl hn
  · exact .inr ⟨g, cap, rest, rfl, hg, hB.mods hm (hv g rfl), r⟩
theorem Own.lt (h : Own w base e size v n xs) : ∀ g, v.ownBlock = some g → base ≤ g ∧ g < w.heap.size := by
  intro g hg
  rcases h.2 with ⟨rfl, _⟩ | ⟨g', cap, rest, rfl, hb, hB, r⟩
  · simp [Value.ownBlock] at hg
  · simp [Value.ownBlock] at hg; subst hg; exact ⟨hb, hB.lt⟩
theorem Own.below {B : Nat} (h : Own w base e size v n xs) (hm : Below B w w') (hv : ∀ g, v.ownBlock = some g → g < B) : Own w' base e size v n xs := by
  refine ⟨h.1, ?_⟩
  rcases h.2 with hn | ⟨g, cap, rest, rfl, hg, hB, r⟩
  · exact .inl hn
  · exact .inr ⟨g, cap, rest, rfl, hg, hB.below hm (hv g rfl), r⟩
theorem Own.rebase {b' : Nat} (h : Own w base e size v n xs) (hb : ∀ g, v.ownBlock = some g → b' ≤ g) : Own w b' e size v n xs := by
  refine ⟨h.1, ?_⟩
  rcases h.2 with hn | ⟨g, cap, rest, rfl, hg, hB, r⟩
  · exact .inl hn
  · exact .inr ⟨g, cap, rest, rfl, hb g rfl, hB, r⟩
theorem Own.alloc (h : Own w base e size v n xs) (o : Obj) : Own (w.alloc o) base e size v n xs := h.mods (Mods.alloc (S := fun _ => False) w o) (fun _ _ h => h)
theorem Own.drew (h : Own w base e size v n xs) : Own w.drew base e size v n xs := h
/-- Its shape: the address, the length, the capacity. -/
theorem Own.shape (h : Own w base e size v n xs) : ∃ A c, v = .slice A n c ∧ n ≤ c ∧ c ≤ 9223372036854775807 ∧ (A = none → n = 0 ∧ c = 0) := by
  rcases h.2 with ⟨rfl, rfl⟩ | ⟨g, cap, rest, rfl, hg, hB, h1, _, h2⟩
  · exact ⟨none, 0, rfl, Nat.le_refl _, by omega, fun _ => ⟨rfl, rfl⟩⟩
  · exact ⟨_, cap, rfl, h1, h2, fun e => by cases e⟩
theorem Own.some' {g c : Nat} (h : Own w base e size (.slice (some ⟨g, 0, none⟩) n c) n xs) : ∃ rest, base ≤ g ∧ Blk w g e (xs ++ rest) ∧ n ≤ c ∧ c * size ≤ (xs ++ rest).length ∧ c ≤ 9223372036854775807 := by
  rcases h.2 with ⟨h', _⟩ | ⟨g', cap, rest, h', r⟩
  · cases h'
  · simp only [Value.slice.injEq, Option.some.injEq, Addr.mk.injEq, and_true, true_and] at h'
    obtain ⟨rfl, rfl⟩ := h'
    exact ⟨rest, r⟩
theorem Own.rd (h : Own w base e size v n xs) {A : Option Addr} {m c : Nat} (hv : v = .slice A m c) {B : Nat} (hB : w.heap.size ≤ B) : Rd w B A xs := by
  rcases h.2 with ⟨rfl, rfl⟩ | ⟨g, cap, rest, rfl, hg, hBk, r⟩
  · have : xs = [] := List.eq_nil_of_length_eq_zero (by simpa using h.1)
    subst this; exact Rd.nil _ _ _
  · simp only [Value.slice.injEq] at hv
    obtain ⟨rfl, _, _⟩ := hv
    refine Rd.of_blk hBk 0 (fun j u hu => ?_) (by have := hBk.lt; omega)
    rw [Nat.zero_add, List.getElem?_append_left (List.getElem?_eq_some_iff.1 hu).1]; exact hu
theorem Own.of_blk {g cap : Nat} {rest : List Value} (hB : Blk w g e (xs ++ rest)) (hl : xs.length = n * size) (hb : base ≤ g) (hn : n ≤ cap) (hc : cap * size ≤ (xs ++ rest).length) (hm : cap ≤ 9223372036854775807) :
    Own w base e size (.slice (some ⟨g, 0, none⟩) n cap) n xs := ⟨hl, .inr ⟨g, cap, rest, rfl, hb, hB, hn, hc, hm⟩⟩
/-- 's[:len(s):len(s)]'. -/
theorem Own.clip {A : Option Addr} {c : Nat} (h : Own w base e size (.slice A n c) n xs) : Own w base e size (.slice A n n) n xs := by
  refine ⟨h.1, ?_⟩
  rcases h.2 with ⟨h', rfl⟩ | ⟨g, cap, rest, h', hg, hB, h1, h2, h3⟩
  · simp only [Value.slice.injEq] at h'
    obtain ⟨rfl, _, _⟩ := h'
    exact .inl ⟨rfl, rfl⟩
  · simp only [Value.slice.injEq, true_and] at h'
    obtain ⟨rfl, rfl⟩ := h'
    exact .inr ⟨g, n, rest, rfl, hg, hB, Nat.le_refl _, Nat.le_trans (Nat.mul_le_mul_right _ h1) h2, by omega⟩
end

theorem Mods.below_own {v : Value} {a b : World} (h : Mods (fun k => v.ownBlock = some k) a b) {B : Nat} (hB : B ≤ a.heap.size) (hv : ∀ g, v.ownBlock = some g → B ≤ g) : Below B a b :=
  h.below hB (fun k hk e => by have := hv k e; omega)

theorem toList_zeroCells (z : Array Value) (n : Nat) : (Builtin.zeroCells z n).toList.length = n * z.size := by simp [Builtin.zeroCells]

section
variable {P : Program} {w : World} {base : Nat} {e : TypeId} {size : Nat} {v : Value} {n : Nat} {xs : List Value}

/-- What append comes to: all at once. -/
theorem run_append_Own (t ty : TypeId) (i : TypeInfo) (z : Value) (bytes : Nat) (ht : P.underlying t = some (.slice e)) (hi : P.info? e = some i) (hz : i.zero = some z)
    (hsize : i.size = size) (hby : i.bytes = bytes) (hzs : z.cells.size = size) (hsz : 0 < size)
    (hown : Own w base e size v n xs) (B : Nat) (A : Option Addr) (m c : Nat) (news : List Value) (hl : news.length = m * size) (hrd : Rd w B A news) (h1 : ∀ u ∈ news, u.oneCell' = true)
    (hbytes : (n + m) * bytes ≤ 140737488355328) (h63 : n + m ≤ 9223372036854775807) (hbase : base ≤ w.heap.size) :
    ∃ v' w', (Builtin.append_ #[t, t] ty #[v, .slice A m c]).run P w = .ok v' w' ∧ Own w' base e size v' (n + m) (xs ++ news) ∧ Own w' base e size v n xs ∧
      Mods (fun k => v.ownBlock = some k) w w' ∧ (∀ k, v'.ownBlock = some k → v.ownBlock = some k ∨ w.heap.size ≤ k) ∧ (v' = .slice none 0 0 ↔ v = .slice none 0 0 ∧ m = 0) := by
  subst hsize hby
  have hlen : (xs ++ news).length = (n + m) * i.size := by rw [List.length_append, hown.1, hl, Nat.add_mul]
  by_cases hm0 : m = 0
  · subst hm0
    have hnn : news = [] := List.eq_nil_of_length_eq_zero (by simpa using hl)
    subst hnn
    refine ⟨v, w, ?_, by simpa using hown, hown, Mods.refl _ _, fun k hk => .inl hk, by simp⟩
    have hL : ∀ a : Addr, Sem.run P (loadCells a 0) w = .ok #[] w := by intro a; simp [loadCells, loadCellsFrom]
    rcases hown.2 with ⟨rfl, rfl⟩ | ⟨g, cap, rest, rfl, hg, hB, hnc, _, _⟩
    · cases A <;> simp [Builtin.append_, run_underlying ht, sizeOf, typeInfo, hi, Builtin.lenOf, Builtin.firstCells, hL]
    · cases A <;> simp [Builtin.append_, run_underlying ht, sizeOf, typeInfo, hi, Builtin.lenOf, Builtin.firstCells, hnc, hL, storeCells]
  · have hnl : 0 < news.length := by rw [hl]; exact Nat.mul_pos (by omega) hsz
    obtain ⟨ad, rfl, _, hnews⟩ := hrd hnl
    have grown : ∀ (old : Nat), old < n + m →
        Own (w.drew.alloc (.cells (xs.toArray ++ news.toArray ++ Builtin.zeroCells z.cells (grownCap w (n + m) old e - (n + m))) e)) base e i.size
          (.slice (some ⟨w.heap.size, 0, none⟩) (n + m) (grownCap w (n + m) old e)) (n + m) (xs ++ news) := by
      intro old ho
      have hge := grownCap_ge w (n + m) old e
      have hcm := grownCap_le_maxLen w (n + m) old e (by simp only [maxLen]; omega)
      have eA : xs.toArray ++ news.toArray ++ Builtin.zeroCells z.cells (grownCap w (n + m) old e - (n + m)) =
          ((xs ++ news) ++ (Builtin.zeroCells z.cells (grownCap w (n + m) old e - (n + m))).toList).toArray := by
        apply Array.ext'; simp
      rw [eA]
      refine Own.of_blk (Blk.new w.drew e _) hlen hbase hge ?_ (by simp only [maxLen] at hcm; omega)
      rw [List.length_append, hlen, toList_zeroCells, hzs, ← Nat.add_mul]
      exact Nat.mul_le_mul_right _ (by omega)
    rcases hown.2 with ⟨rfl, rfl⟩ | ⟨g, cap, rest, rfl, hg, hB, hnc, hcs, hcm⟩
    · have hx : xs = [] := List.eq_nil_of_length_eq_zero (by simpa using hown.1)
      subst hx
      have hr := run_append_nil (P := P) w t ty e i z ht hi hz ad m c news hl hnews (by omega) (by omega) (by have hb := hbytes; simp only [Nat.zero_add] at hb; omega)
      have hgr := grown 0 (by omega)
      simp only [Nat.zero_add, List.nil_append, Array.empty_append] at hgr ⊢
      refine ⟨_, _, hr, hgr, Own.nil _ _ _ _, ((Mods.refl _ _).drw).alc _, fun k hk => ?_, by simp [hm0]⟩
      simp [Value.ownBlock] at hk; exact .inr (by omega)
    · by_cases hroom : n + m ≤ cap
      · have hfit : n * i.size + news.length ≤ (xs ++ rest).length := by
          rw [hl, ← Nat.add_mul]; exact Nat.le_trans (Nat.mul_le_mul_right _ hroom) hcs
        have hr := run_append_room (P := P) w t ty e i ht hi g n cap (xs ++ rest).toArray hB ad m c news hl hnews h1 hroom (by simpa using hfit)
        have hB' : Blk (w.setRow g ((xs ++ news) ++ rest.drop news.length).toArray) g e ((xs ++ news) ++ rest.drop news.length) := setRow_heap w g _ _ e _ hB
        have eA : ((xs ++ rest).toArray.toList.take (n * i.size) ++ news ++ (xs ++ rest).toArray.toList.drop (n * i.size + news.length)).toArray = ((xs ++ news) ++ rest.drop news.length).toArray := by
          rw [← hown.1]; simp [List.drop_append]
        rw [eA] at hr
        have hB2 : Blk (w.setRow g ((xs ++ news) ++ rest.drop news.length).toArray) g e (xs ++ (news ++ rest.drop news.length)) := by rw [← List.append_assoc]; exact hB'
        refine ⟨_, _, hr, Own.of_blk hB' hlen hg hroom ?_ hcm, ?_, Mods.setRow w g _ rfl, fun k hk => .inl hk, by simp⟩
        · refine Nat.le_trans hcs ?_
          simp only [List.length_append, List.length_drop]
          omega
        · refine Own.of_blk hB2 hown.1 hg hnc ?_ hcm
          refine Nat.le_trans hcs ?_
          simp only [List.length_append, List.length_drop]
          omega
      · have holds : ∀ j u, xs[j]? = some u → w.cell? ((⟨g, 0, none⟩ : Addr).add j) = some u := by
          intro j u hu
          rw [Addr.add_lit, Nat.zero_add, hB.cell, List.getElem?_append_left (List.getElem?_eq_some_iff.1 hu).1]; exact hu
        have hr := run_append_grow (P := P) w t ty e i z ht hi hz ⟨g, 0, none⟩ n cap xs hown.1 holds ad m c news hl hnews (by omega) (by omega) (growslice_fits (by omega) hbytes)
        refine ⟨_, _, hr, grown cap (by omega), ?_, ((Mods.refl _ _).drw).alc _, fun k hk => ?_, by simp⟩
        · exact hown.drew.alloc _
        · simp [Value.ownBlock] at hk; exact .inr (by omega)

/-- 's = append(s, x..)', s of the call's own. -/
theorem wpList_append_Own {ops : Array Oper} {rest : List Oper} {o : Oper} {a : Act} {Q : Exit → Act → World → Prop} (hgd : Region.wanted o (yielded ops a.tmps) = true) (s x : Operand) (t : TypeId)
    (ho : o.op = .call { callee := .builtin .append, args := #[s, x], argTypes := #[t, t] })
    (i : TypeInfo) (z : Value) (bytes : Nat) (ht : P.underlying t = some (.slice e)) (hi : P.info? e = some i) (hz : i.zero = some z)
    (hsize : i.size = size) (hby : i.bytes = bytes) (hzs : z.cells.size = size) (hsz : 0 < size)
    (hs : a.eval s = v) (hown : Own w base e size v n xs) (B : Nat) (A : Option Addr) (m c : Nat) (hx : a.eval x = .slice A m c) (news : List Value) (hl : news.length = m * size) (hrd : Rd w B A news) (h1 : ∀ u ∈ news, u.oneCell' = true)
    (hbytes : (n + m) * bytes ≤ 140737488355328) (h63 : n + m ≤ 9223372036854775807) (hbase : base ≤ w.heap.size)
    (h : ∀ v' w', Own w' base e size v' (n + m) (xs ++ news) → Own w' base e size v n xs → Mods (fun k => v.ownBlock = some k) w w' → (∀ k, v'.ownBlock = some k → v.ownBlock = some k ∨ w.heap.size ≤ k) →
      (v' = .slice none 0 0 ↔ v = .slice none 0 0 ∧ m = 0) → wpList P ops Q rest (a.put o.dst v') w') : wpList P ops Q (o :: rest) a w := by
  obtain ⟨v', w', hrun, r1, r2, r3, r4, r5⟩ := run_append_Own (P := P) t o.type i z bytes ht hi hz hsize hby hzs hsz hown B A m c news hl hrd h1 hbytes h63 hbase
  refine BigFrame.wpList_want hgd fun K hK => ?_
  unfold Oper.wp execOp
  simp only [ho, resolve, invoke, builtin, Sem.run_bind, Sem.run_pure, Result.andThen_ok, List.map_toArray, List.map_cons, List.map_nil, hs, hx, hrun]
  exact hK _ _ (h v' w' r1 r2 r3 r4 r5)
end

section
variable {P : Program} {w : World} {e : TypeId} {size : Nat}

/-- append onto a slice that is full (its capacity is its length), wherever it lies: what there is then is read somewhere, and nothing that was there has turned. -/
theorem run_append_full (t ty : TypeId) (i : TypeInfo) (z : Value) (bytes : Nat) (ht : P.underlying t = some (.slice e)) (hi : P.info? e = some i) (hz : i.zero = some z)
    (hsize : i.size = size) (hby : i.bytes = bytes) (hsz : 0 < size)
    (A : Option Addr) (n : Nat) (xs : List Value) (hl0 : xs.length = n * size) (hrs : Rd w w.heap.size A xs)
    (B : Option Addr) (m c : Nat) (news : List Value) (hl : news.length = m * size) (hrd : Rd w w.heap.size B news)
    (hbytes : (n + m) * bytes ≤ 140737488355328) (h63 : n + m ≤ 9223372036854775807) :
    ∃ C c' w', (Builtin.append_ #[t, t] ty #[.slice A n n, .slice B m c]).run P w = .ok (.slice C (n + m) c') w' ∧ Rd w' w'.heap.size C (xs ++ news) ∧ Below w.heap.size w w' ∧ n + m ≤ c' ∧ c' ≤ 9223372036854775807 := by
  subst hsize hby
  by_cases hm0 : m = 0
  · subst hm0
    have hnn : news = [] := List.eq_nil_of_length_eq_zero (by simpa using hl)
    subst hnn
    refine ⟨A, n, w, ?_, by simpa using hrs, Below.refl _ _, Nat.le_refl _, by omega⟩
    have hL : ∀ a : Addr, Sem.run P (loadCells a 0) w = .ok #[] w := by intro a; simp [loadCells, loadCellsFrom]
    cases A <;> cases B <;> simp [Builtin.append_, run_underlying ht, sizeOf, typeInfo, hi, Builtin.lenOf, Builtin.firstCells, hL, storeCells]
  · have hnl : 0 < news.length := by rw [hl]; exact Nat.mul_pos (by omega) hsz
    obtain ⟨ad, rfl, _, hnews⟩ := hrd hnl
    have hge := grownCap_ge w (n + m) n e
    have hcm := grownCap_le_maxLen w (n + m) n e (by simp only [maxLen]; omega)
    have eA : xs.toArray ++ news.toArray ++ Builtin.zeroCells z.cells (grownCap w (n + m) n e - (n + m)) =
          ((xs ++ news) ++ (Builtin.zeroCells z.cells (grownCap w (n + m) n e - (n + m))).toList).toArray := by
      apply Array.ext'; simp
    have fin : ∀ a : Option Addr, (a.isSome ∨ n = 0) → (∀ b, a = some b → ∀ j v, xs[j]? = some v → w.cell? (b.add j) = some v) →
        (Builtin.append_ #[t, t] ty #[.slice a n n, .slice (some ad) m c]).run P w =
      .ok (.slice (some ⟨w.heap.size, 0, none⟩) (n + m) (grownCap w (n + m) n e)) (w.drew.alloc (.cells (xs.toArray ++ news.toArray ++ Builtin.zeroCells z.cells (grownCap w (n + m) n e - (n + m))) e)) := by
      intro a ha holds
      cases a with
      | none =>
        have hn0 : n = 0 := by simpa using ha
        subst hn0
        have hx : xs = [] := List.eq_nil_of_length_eq_zero (by simpa using hl0)
        subst hx
        have hr := run_append_nil (P := P) w t ty e i z ht hi hz ad m c news hl hnews (by omega) (by omega) (by have hb := hbytes; simp only [Nat.zero_add] at hb; omega)
        simpa using hr
      | some b =>
        exact run_append_grow (P := P) w t ty e i z ht hi hz b n n xs hl0 (holds b rfl) ad m c news hl hnews (by omega) (by omega) (growslice_fits (by omega) hbytes)
    have hr : (Builtin.append_ #[t, t] ty #[.slice A n n, .slice (some ad) m c]).run P w =
      .ok (.slice (some ⟨w.heap.size, 0, none⟩) (n + m) (grownCap w (n + m) n e)) (w.drew.alloc (.cells (xs.toArray ++ news.toArray ++ Builtin.zeroCells z.cells (grownCap w (n + m) n e - (n + m))) e)) := by
      by_cases hx : 0 < xs.length
      · obtain ⟨b, rfl, _, hc⟩ := hrs hx
        exact fin _ (.inl rfl) (fun b' e' => by cases e'; exact hc)
      · have hx0 : xs = [] := List.eq_nil_of_length_eq_zero (by omega)
        subst hx0
        have hn0 : n = 0 := by
          have : n * i.size = 0 := by simpa using hl0.symm
          rcases Nat.mul_eq_zero.1 this with h | h
          · exact h
          · omega
        exact fin _ (.inr hn0) (fun b' _ j v hv => by simp at hv)
    refine ⟨_, _, _, hr, ?_, ((Below.refl _ _).drew).alloc (Nat.le_refl _) _, hge, by simp only [maxLen] at hcm; omega⟩
    rw [eA]
    refine Rd.of_blk (Blk.new w.drew e _) 0 (fun j u hu => ?_) (by simp)
    rw [Nat.zero_add, List.getElem?_append_left (List.getElem?_eq_some_iff.1 hu).1]; exact hu

/-- That append as a step of a region that draws its order. -/
theorem step_append_full {ops : Array Oper} {o : Oper} {a : Act} {K : Act → World → Prop} {Q : Exit → Act → World → Prop} {E : Prop} (hgd : Region.wanted o (yielded ops a.tmps) = true) (s x : Operand) (t : TypeId)
    (ho : o.op = .call { callee := .builtin .append, args := #[s, x], argTypes := #[t, t] })
    (i : TypeInfo) (z : Value) (bytes : Nat) (ht : P.underlying t = some (.slice e)) (hi : P.info? e = some i) (hz : i.zero = some z)
    (hsize : i.size = size) (hby : i.bytes = bytes) (hsz : 0 < size)
    (A : Option Addr) (n k : Nat) (hs : a.eval s = .slice A n k) (hk : k = n) (xs : List Value) (hl0 : xs.length = n * size) (hrs : Rd w w.heap.size A xs)
    (B : Option Addr) (m c : Nat) (hx : a.eval x = .slice B m c) (news : List Value) (hl : news.length = m * size) (hrd : Rd w w.heap.size B news)
    (hbytes : (n + m) * bytes ≤ 140737488355328) (h63 : n + m ≤ 9223372036854775807)
    (h : ∀ C c' w', Rd w' w'.heap.size C (xs ++ news) → Below w.heap.size w w' → n + m ≤ c' → c' ≤ 9223372036854775807 → K (a.put o.dst (.slice C (n + m) c')) w') :
    if Region.wanted o (yielded ops a.tmps) = true then Oper.wp P o a w K Q else E := by
  rw [if_pos hgd]
  subst hk
  obtain ⟨C, c', w', hrun, h1, h2, h3, h4⟩ := run_append_full (P := P) t o.type i z bytes ht hi hz hsize hby hsz A k xs hl0 hrs B m c news hl hrd hbytes h63
  unfold Oper.wp execOp
  simp only [ho, resolve, invoke, builtin, Sem.run_bind, Sem.run_pure, Result.andThen_ok, List.map_toArray, List.map_cons, List.map_nil, hs, hx, hrun]
  exact h C c' w' h1 h2 h3 h4
end
end Go.Proofs.YtgibdecgmageeaaDoor
