/- Words and laws of our own over the kit's walk: blocks, readings, what a call may touch. No statement of the seat stands here. -/
import Derived.WalkKit
import Derived.WalkSpells
import Derived.WalkLawsBesides
import Derived.Laws.CopyOwn
import Derived.Laws.BytesArg
import Derived.Lib.Hide
namespace Go.Proofs.YtgibdecgmageeaaDoor
open Go.RowKit

/-- Block g holds just the cells cs of element type e; none is frozen. -/
def Blk (w : World) (g : Nat) (e : TypeId) (cs : List Value) : Prop := w.heap[g]? = some (.cells cs.toArray e (0, 0))

theorem Blk.lt {w : World} {g : Nat} {e : TypeId} {cs : List Value} (h : Blk w g e cs) : g < w.heap.size := by
  rcases Nat.lt_or_ge g w.heap.size with h' | h'
  · exact h'
  · unfold Blk at h; rw [Array.getElem?_eq_none h'] at h; cases h
theorem Blk.cell {w : World} {g : Nat} {e : TypeId} {cs : List Value} (h : Blk w g e cs) (i : Nat) : w.cell? ⟨g, i, none⟩ = cs[i]? := by
  rw [cell_of_row w g i _ e (0, 0) h]; simp
theorem Blk.free {w : World} {g : Nat} {e : TypeId} {cs : List Value} (h : Blk w g e cs) (i : Nat) : w.frozen? ⟨g, i, none⟩ = false :=
  frozen_of_row w g i _ e h
theorem Blk.drew {w : World} {g : Nat} {e : TypeId} {cs : List Value} (h : Blk w g e cs) : Blk w.drew g e cs := h
theorem Blk.new (w : World) (e : TypeId) (cs : List Value) : Blk (w.alloc (.cells cs.toArray e)) w.heap.size e cs := heap_alloc_new w _
theorem Blk.lit (w : World) (e : TypeId) (n : Nat) (hn : n = w.heap.size) (cs : Array Value) (l : List Value) (h : cs = l.toArray) : Blk (w.alloc (.cells cs e)) n e l := by
  subst hn h; exact Blk.new w e l
theorem Blk.alloc {w : World} {g : Nat} {e : TypeId} {cs : List Value} (h : Blk w g e cs) (o : Obj) : Blk (w.alloc o) g e cs :=
  (Below.heap_alloc w o g h.lt).trans h
theorem Blk.set {w : World} {g : Nat} {e : TypeId} {cs : List Value} (h : Blk w g e cs) (i : Nat) (u : Value) : Blk (w.setCell ⟨g, i, none⟩ u) g e (cs.set i u) := by
  unfold Blk at h ⊢
  simp [World.setCell, Array.getElem?_modify, h]
theorem Blk.far {w : World} {g : Nat} {e : TypeId} {cs : List Value} (h : Blk w g e cs) {p : Addr} (hp : g ≠ p.block) (u : Value) : Blk (w.setCell p u) g e cs :=
  (Below.heap_setCell w p u g hp).trans h
theorem Blk.below {B : Nat} {w w' : World} {g : Nat} {e : TypeId} {cs : List Value} (h : Blk w g e cs) (hb : Below B w w') (hg : g < B) : Blk w' g e cs :=
  (hb.block g hg).trans h

/-- Of the blocks that were there, w' may have turned those in S alone. -/
structure Mods (S : Nat → Prop) (w w' : World) : Prop where
  os : w'.os = w.os
  tape : w'.tape = w.tape
  output : w'.output = w.output
  size : w.heap.size ≤ w'.heap.size
  block : ∀ k, k < w.heap.size → ¬ S k → w'.heap[k]? = w.heap[k]?

theorem Mods.refl (S : Nat → Prop) (w : World) : Mods S w w := ⟨rfl, rfl, rfl, Nat.le_refl _, fun _ _ _ => rfl⟩
theorem Mods.trans {S : Nat → Prop} {a b c : World} (h : Mods S a b) (k : Mods S b c) : Mods S a c :=
  ⟨k.os.trans h.os, k.tape.trans h.tape, k.output.trans h.output, Nat.le_trans h.size k.size,
    fun i hi hs => (k.block i (Nat.lt_of_lt_of_le hi h.size) hs).trans (h.block i hi hs)⟩
theorem Mods.mono {S T : Nat → Prop} {a b : World} (h : Mods S a b) (hst : ∀ k, k < a.heap.size → S k → T k) : Mods T a b :=
  ⟨h.os, h.tape, h.output, h.size, fun i hi ht => h.block i hi (fun hs => ht (hst i hi hs))⟩
/-- Two steps, the second of which may also turn what lay not there before the first. -/
theorem Mods.trans' {S T : Nat → Prop} {a b c : World} (h : Mods S a b) (k : Mods T b c) (hT : ∀ i, i < a.heap.size → T i → S i) : Mods S a c :=
  ⟨k.os.trans h.os, k.tape.trans h.tape, k.output.trans h.output, Nat.le_trans h.size k.size,
    fun i hi hs => (k.block i (Nat.lt_of_lt_of_le hi h.size) (fun ht => hs (hT i hi ht))).trans (h.block i hi hs)⟩
theorem Mods.below {S : Nat → Prop} {a b : World} (h : Mods S a b) {B : Nat} (hB : B ≤ a.heap.size) (hS : ∀ k, k < B → ¬ S k) : Below B a b :=
  ⟨h.os, h.tape, h.output, h.size, fun k hk => h.block k (by omega) (hS k hk)⟩
theorem Mods.below_one {g : Nat} {a b : World} (h : Mods (· = g) a b) {B : Nat} (hB : B ≤ a.heap.size) (hg : B ≤ g) : Below B a b :=
  h.below hB (fun k hk e => by have e' : k = g := e; omega)
theorem Mods.of_below {a b : World} (h : Below a.heap.size a b) (S : Nat → Prop) : Mods S a b :=
  ⟨h.os, h.tape, h.output, h.size, fun k hk _ => h.block k hk⟩
theorem Mods.alloc {S : Nat → Prop} (w : World) (o : Obj) : Mods S w (w.alloc o) := ⟨rfl, rfl, rfl, by simp, fun k hk _ => Below.heap_alloc w o k hk⟩
theorem Mods.drew {S : Nat → Prop} (w : World) : Mods S w w.drew := ⟨rfl, rfl, rfl, Nat.le_refl _, fun _ _ _ => rfl⟩
theorem Mods.setCell {S : Nat → Prop} (w : World) (p : Addr) (u : Value) (hp : S p.block) : Mods S w (w.setCell p u) :=
  ⟨rfl, rfl, rfl, by simp, fun k _ hk => Below.heap_setCell w p u k (fun e => hk (e ▸ hp))⟩
theorem Mods.setRow {S : Nat → Prop} (w : World) (g : Nat) (cs : Array Value) (hp : S g) : Mods S w (w.setRow g cs) :=
  ⟨rfl, rfl, rfl, by simp, fun k _ hk => setRow_other w g k cs (fun e => hk (e ▸ hp))⟩
theorem Mods.grown {w w' : World} {row : Option Nat} (h : w.grownBy w' row) {S : Nat → Prop} (hr : ∀ k, row = some k → S k) : Mods S w w' :=
  ⟨h.os, h.tape, h.output, h.size, fun k hk hs => h.block k hk (fun e => hs (hr k e.symm))⟩
theorem Mods.putc {S : Nat → Prop} {a w : World} (h : Mods S a w) {p : Addr} (hp : S p.block ∨ a.heap.size ≤ p.block) (u : Value) : Mods S a (w.setCell p u) :=
  ⟨h.os, h.tape, h.output, by simpa using h.size, fun k hk hs => by
    rw [Below.heap_setCell w p u k (fun e => by subst e; rcases hp with hp | hp
                                                · exact hs hp
                                                · omega)]
    exact h.block k hk hs⟩
theorem Mods.putg {g : Nat} {a w : World} (h : Mods (· = g) a w) (i : Nat) (u : Value) : Mods (· = g) a (w.setCell ⟨g, i, none⟩ u) := h.putc (.inl rfl) u
theorem Mods.drw {S : Nat → Prop} {a w : World} (h : Mods S a w) : Mods S a w.drew := ⟨h.os, h.tape, h.output, h.size, h.block⟩
theorem Mods.alc {S : Nat → Prop} {a w : World} (h : Mods S a w) (o : Obj) : Mods S a (w.alloc o) :=
  ⟨h.os, h.tape, h.output, by have := h.size; simp; omega, fun k hk hs => by
    rw [Below.heap_alloc w o k (by have := h.size; omega)]; exact h.block k hk hs⟩
theorem Mods.heap {S : Nat → Prop} {a b : World} (h : Mods S a b) {g : Nat} (hg : g < a.heap.size) (hS : ¬ S g) : b.heap[g]? = a.heap[g]? := h.block g hg hS
theorem Blk.mods {S : Nat → Prop} {w w' : World} {g : Nat} {e : TypeId} {cs : List Value} (h : Blk w g e cs) (hm : Mods S w w') (hg : ¬ S g) : Blk w' g e cs :=
  (hm.block g h.lt hg).trans h

/-- The address A has the cells xs behind it, in a block below B. (Where there are none nothing is asked.) -/
def Rd (w : World) (B : Nat) (A : Option Addr) (xs : List Value) : Prop :=
  0 < xs.length → ∃ ad, A = some ad ∧ ad.block < B ∧ ∀ j u, xs[j]? = some u → w.cell? (ad.add j) = some u

theorem add_block (a : Addr) (n : Nat) : (a.add n).block = a.block := by unfold Addr.add; split <;> rfl
theorem add_add (a : Addr) (i j : Nat) : (a.add i).add j = a.add (i + j) := by
  unfold Addr.add
  by_cases hi : i = 0 <;> by_cases hj : j = 0 <;> simp [hi, hj, Nat.add_assoc]
theorem Rd.nil (w : World) (B : Nat) (A : Option Addr) : Rd w B A [] := fun h => absurd h (by simp)
theorem Rd.mods {S : Nat → Prop} {w w' : World} {B B' : Nat} {A : Option Addr} {xs : List Value} (h : Rd w B A xs) (hm : Mods S w w') (hB : B ≤ w.heap.size) (hS : ∀ k, k < B → ¬ S k) (hBB : B ≤ B') : Rd w' B' A xs :=
  fun hx => by
    obtain ⟨ad, e, hb, hc⟩ := h hx
    refine ⟨ad, e, by omega, fun j u hu => ?_⟩
    rw [← hc j u hu]
    exact World.cell?_of_block (w := w) (hm.block _ (by rw [add_block]; omega) (by rw [add_block]; exact hS _ hb))
theorem Rd.below {w w' : World} {B B' : Nat} {A : Option Addr} {xs : List Value} (h : Rd w B A xs) (hm : Below B w w') (hBB : B ≤ B') : Rd w' B' A xs :=
  fun hx => by
    obtain ⟨ad, e, hb, hc⟩ := h hx
    refine ⟨ad, e, by omega, fun j u hu => ?_⟩
    rw [← hc j u hu]
    exact World.cell?_of_block (w := w) (hm.block _ (by rw [add_block]; exact hb))
theorem Rd.mono {w : World} {B B' : Nat} {A : Option Addr} {xs : List Value} (h : Rd w B A xs) (hBB : B ≤ B') : Rd w B' A xs :=
  fun hx => by
    obtain ⟨ad, e, hb, hc⟩ := h hx
    exact ⟨ad, e, by omega, hc⟩
/-- The cells of a block of the call's own, from its head on. -/
theorem Rd.of_blk {w : World} {g : Nat} {e : TypeId} {cs xs : List Value} (h : Blk w g e cs) (o : Nat) (hx : ∀ j u, xs[j]? = some u → cs[o + j]? = some u) {B : Nat} (hB : g < B) : Rd w B (some ⟨g, o, none⟩) xs :=
  fun _ => ⟨_, rfl, hB, fun j u hu => by rw [Addr.add_lit, h.cell]; exact hx j u hu⟩
/-- A cut 's[k:..]'. -/
theorem Rd.cut {w : World} {B : Nat} {A : Option Addr} {xs : List Value} (h : Rd w B A xs) (k cap m : Nat) (size : Nat) (hcap : cap = k → xs.length ≤ k * size) :
    Rd w B (if cap = k then A else A.map (·.add (k * size))) ((xs.drop (k * size)).take m) := by
  intro hx
  have hlen : k * size < xs.length := by simp at hx; omega
  have hne : ¬ cap = k := fun e => by have := hcap e; omega
  obtain ⟨ad, rfl, hb, hc⟩ := h (by omega)
  rw [if_neg hne]
  refine ⟨ad.add (k * size), rfl, by rw [add_block]; exact hb, fun j u hu => ?_⟩
  rw [add_add]
  refine hc _ u ?_
  rw [List.getElem?_take] at hu
  split at hu
  · rw [← hu, List.getElem?_drop]
  · cases hu

def U8 (l : List Int) : List Value := l.map (Value.int .u8)
def U64 (l : List Int) : List Value := l.map (Value.int .u64)
@[simp] theorem length_U8 (l : List Int) : (U8 l).length = l.length := by simp [U8]
@[simp] theorem length_U64 (l : List Int) : (U64 l).length = l.length := by simp [U64]
theorem U8_append (a b : List Int) : U8 (a ++ b) = U8 a ++ U8 b := by simp [U8]
theorem oneCell_U8 (l : List Int) : ∀ u ∈ U8 l, u.oneCell' = true := ints_oneCell _ _
theorem oneCell_U64 (l : List Int) : ∀ u ∈ U64 l, u.oneCell' = true := ints_oneCell _ _
/-- All are bytes. -/
def IsU8 (l : List Int) : Prop := ∀ x ∈ l, 0 ≤ x ∧ x < 256

/-- 'make([]T, l, c)' at elements of one cell. -/
theorem wpList_make_blk {P : Program} {w : World} {ops : Array Oper} {rest : List Oper} {o : Oper} {a : Act} {Q : Exit → Act → World → Prop}
    (hg : Region.wanted o (yielded ops a.tmps) = true) (l c : Operand) (t : TypeId) (hop : o.op = Op.makeSlice t l c)
    (e : TypeId) (i : TypeInfo) (z : Value) (h1 : P.underlying t = some (.slice e)) (h2 : P.info? e = some i) (h3 : i.zero = some z) (h4 : i.size = 1) (h5 : z.cells = #[z])
    (kl kc : IntKind) (L C : Int) (hl : a.eval l = .int kl L) (hc : a.eval c = .int kc C) (m n : Nat) (hL : L = m) (hC : C = n) (hmn : m ≤ n) (b2 : i.bytes * n ≤ 281474976710656) (b3 : n ≤ 9223372036854775807)
    (hK : ∀ w', w' = w.alloc (.cells (List.replicate n z).toArray e) → wpList P ops Q rest (a.put o.dst (.slice (some ⟨w.heap.size, 0, none⟩) m n)) w') :
    wpList P ops Q (o :: rest) a w := by
  refine BigFrame.wpList_want hg fun K hK' => ?_
  subst hL hC
  have hb' : (i.bytes : Int) * (n : Int) ≤ 281474976710656 := by
    have h : ((i.bytes * n : Nat) : Int) ≤ 281474976710656 := by omega
    rwa [Int.natCast_mul] at h
  have hrun := run_make (P := P) w t e i z h1 h2 h3 kl kc m n (by omega) (by omega) hb' (by omega)
  simp only [Int.toNat_natCast, h4, Nat.mul_one, h5] at hrun
  have e2 : madeCells #[z] n = (List.replicate n z).toArray := by rw [← toList_madeCells_one]
  rw [e2] at hrun
  unfold Oper.wp
  simp [execOp, hop, hl, hc, hrun, Result.andThen]
  exact hK' _ _ (by simpa using hK _ rfl)

/-- 'copy(d, s)' into a block that is known whole; elements of one cell. -/
theorem wpList_copy_blk {P : Program} {w : World} {ops : Array Oper} {rest : List Oper} {o : Oper} {a : Act} {Q : Exit → Act → World → Prop} (hgd : o.guard = none) (d s : Operand) (dT sT : TypeId)
    (ho : o.op = .call { callee := .builtin .copy, args := #[d, s], argTypes := #[dT, sT] }) (elem : TypeId) (hu : P.underlying dT = some (.slice elem)) (hsz : (P.info? elem).map (·.size) = some 1)
    (dp sp : Option Addr) (dLen dCap sLen sCap : Nat) (hd : a.eval d = .slice dp dLen dCap) (hs : a.eval s = .slice sp sLen sCap)
    (g off : Nat) (cur : List Value) (t : TypeId) (hg : Blk w g t cur) (cs : List Value) (hn : cs.length = Nat.min sLen dLen)
    (hpos : 0 < cs.length → dp = some ⟨g, off, none⟩) (B : Nat) (hrd : Rd w B sp cs)
    (hfit : off + cs.length ≤ cur.length) (h1 : ∀ v ∈ cs, v.oneCell' = true)
    (h : ∀ w', Blk w' g t (splice cur off cs) → Mods (· = g) w w' → wpList P ops Q rest (a.put o.dst (.int .i64 cs.length)) w') :
    wpList P ops Q (o :: rest) a w := by
  by_cases h0 : cs.length = 0
  · obtain rfl : cs = [] := List.eq_nil_of_length_eq_zero h0
    refine wpList_copy_nothing hgd d s dT sT ho elem hu hsz dp sp dLen dCap sLen sCap hd hs (by simpa using hn.symm) ?_
    exact h w (by simpa [splice] using hg) (Mods.refl _ _)
  · have hdp := hpos (by omega)
    obtain ⟨ad, rfl, _, hsrc⟩ := hrd (by omega)
    subst hdp
    refine wpList_copy_own hgd d s dT sT ho elem hu hsz g off dLen dCap ad sLen sCap hd hs cur.toArray t hg cs hn hsrc (by simpa using hfit) h1 ?_
    exact h _ (show _ = _ by simpa [splice] using setRow_heap w g _ _ t _ hg) (Mods.setRow w g _ rfl)

/-- 'string(b)', whatever b is. -/
theorem run_str {P : Program} (w : World) (src e dst : TypeId) (hs : P.underlying src = some (.slice e)) (he : P.underlying e = some (.int .u8)) (hd : P.underlying dst = some .string)
    (A : Option Addr) (n c : Nat) (l : List Int) (hn : n = l.length) (B : Nat) (hr : Rd w B A (U8 l)) : (convert src dst (.slice A n c)).run P w = .ok (.string (strOfNums l)) w := by
  subst hn
  cases A with
  | none =>
    have : l = [] := by
      by_cases h : 0 < (U8 l).length
      · obtain ⟨ad, h', _⟩ := hr h; cases h'
      · exact List.eq_nil_of_length_eq_zero (by simpa using h)
    subst this
    rw [run_convert_bytes_nil w src e hs he _ c dst hd]; rfl
  | some ad =>
    have hl : (loadCells ad l.length).run P w = .ok (l.map (Value.int .u8)).toArray w := by
      have := run_loadCells_list (P := P) w ad (l.map (Value.int .u8)) (fun j v hj => by
        have h0 : 0 < (U8 l).length := by
          have := (List.getElem?_eq_some_iff.1 hj).1
          simp at this ⊢; omega
        obtain ⟨ad', e', _, hc⟩ := hr h0
        cases e'
        exact hc j v hj)
      simpa using this
    rw [run_convert_bytes_string w src dst e _ _ c hs he hd, run_bytesToString w _ _ c l hl, foldl_push_bytes]
    simp [strOfNums, ByteArray.empty, ByteArray.emptyWithCapacity]
    rfl
theorem wpList_str {P : Program} {w : World} {ops : Array Oper} {rest : List Oper} {o : Oper} {a : Act} {Q : Exit → Act → World → Prop} (hg : Region.wanted o (yielded ops a.tmps) = true) (src dst : TypeId) (x : Operand)
    (ho : o.op = .convert src dst x) (e : TypeId) (hs : P.underlying src = some (.slice e)) (he : P.underlying e = some (.int .u8)) (hd : P.underlying dst = some .string)
    (A : Option Addr) (n c : Nat) (hx : a.eval x = .slice A n c) (l : List Int) (hn : n = l.length) (B : Nat) (hr : Rd w B A (U8 l))
    (h : wpList P ops Q rest (a.put o.dst (.string (strOfNums l))) w) : wpList P ops Q (o :: rest) a w := by
  refine BigFrame.wpList_want hg fun K hK => ?_
  have hrun := run_str (P := P) w src e dst hs he hd A n c l hn B hr
  unfold Oper.wp
  simp [execOp, ho, hx, hrun, Result.andThen]
  exact hK _ _ h

/-- 'append(s, x..)' where there is room, onto a slice that begins at its block's head; the block is known whole. -/
theorem wpList_append_blk {P : Program} {w : World} {ops : Array Oper} {rest : List Oper} {o : Oper} {a : Act} {Q : Exit → Act → World → Prop} (hgd : Region.wanted o (yielded ops a.tmps) = true) (s x : Operand) (t : TypeId)
    (ho : o.op = .call { callee := .builtin .append, args := #[s, x], argTypes := #[t, t] }) (e : TypeId) (i : TypeInfo) (size : Nat) (ht : P.underlying t = some (.slice e)) (hi : P.info? e = some i) (hsize : i.size = size)
    (g n cap : Nat) (cur : List Value) (hs : a.eval s = .slice (some ⟨g, 0, none⟩) n cap) (hg : Blk w g e cur)
    (ad : Addr) (m c : Nat) (hx : a.eval x = .slice (some ad) m c) (news : List Value) (hl : news.length = m * size) (hnews : ∀ j u, news[j]? = some u → w.cell? (ad.add j) = some u) (h1 : ∀ u ∈ news, u.oneCell' = true)
    (hroom : n + m ≤ cap) (hfit : n * size + news.length ≤ cur.length)
    (h : ∀ w', Blk w' g e (splice cur (n * size) news) → Mods (· = g) w w' → wpList P ops Q rest (a.put o.dst (.slice (some ⟨g, 0, none⟩) (n + m) cap)) w') : wpList P ops Q (o :: rest) a w := by
  refine BigFrame.wpList_want hgd fun K hK => ?_
  subst hsize
  have hrun := run_append_room (P := P) w t o.type e i ht hi g n cap cur.toArray hg ad m c news hl hnews h1 hroom (by simpa using hfit)
  unfold Oper.wp
  simp [execOp, ho, resolve, invoke, builtin, hs, hx, hrun, Result.andThen]
  exact hK _ _ (h _ (show _ = _ by simpa [splice] using setRow_heap w g _ _ e _ hg) (Mods.setRow w g _ rfl))
end Go.Proofs.YtgibdecgmageeaaDoor
