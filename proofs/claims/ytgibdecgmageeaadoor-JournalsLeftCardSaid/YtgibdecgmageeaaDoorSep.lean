/- Things in memory that lie apart: each has its footprint; what a call writes it writes into the footprint of what it was handed, or into new blocks. -/
import Derived.Test.YtgibdecgmageeaaDoorOwn
namespace Go.Proofs.YtgibdecgmageeaaDoor
open Go.RowKit

/-- A thing in memory: the blocks in which it lies, and what holds of it. -/
structure Asn where
  foot : Nat → Prop
  holds : World → Prop
  lt : ∀ {w k}, holds w → foot k → k < w.heap.size
  stable : ∀ {S : Nat → Prop} {w w'}, holds w → Mods S w w' → (∀ k, foot k → ¬ S k) → holds w'

def foots (A : List Asn) (k : Nat) : Prop := ∃ a ∈ A, a.foot k
def Sep (w : World) (A : List Asn) : Prop := (∀ a ∈ A, a.holds w) ∧ A.Pairwise (fun a b => ∀ k, a.foot k → b.foot k → False)

def Asn.blk (g : Nat) (e : TypeId) (cs : List Value) : Asn where
  foot k := k = g
  holds w := Blk w g e cs
  lt h hk := by subst hk; exact h.lt
  stable h hm hd := h.mods hm (hd g rfl)
def Asn.own (base : Nat) (e : TypeId) (size : Nat) (v : Value) (n : Nat) (xs : List Value) : Asn where
  foot k := v.ownBlock = some k
  holds w := Own w base e size v n xs
  lt h hk := (h.lt _ hk).2
  stable h hm hd := h.mods hm (fun g hg => hd g hg)

theorem Sep.nil (w : World) : Sep w [] := ⟨by simp, List.Pairwise.nil⟩
theorem Sep.cons {w : World} {a : Asn} {A : List Asn} : Sep w (a :: A) ↔ a.holds w ∧ (∀ k, a.foot k → ¬ foots A k) ∧ Sep w A := by
  unfold Sep foots
  constructor
  · rintro ⟨h, hp⟩
    rw [List.pairwise_cons] at hp
    exact ⟨h a (by simp), fun k hk ⟨b, hb, hbk⟩ => hp.1 b hb k hk hbk, fun b hb => h b (by simp [hb]), hp.2⟩
  · rintro ⟨h1, h2, h3, h4⟩
    refine ⟨fun b hb => ?_, List.pairwise_cons.2 ⟨fun b hb k hk hbk => h2 k hk ⟨b, hb, hbk⟩, h4⟩⟩
    rcases List.mem_cons.1 hb with rfl | hb
    · exact h1
    · exact h3 b hb
theorem Sep.head {w : World} {a : Asn} {A : List Asn} (h : Sep w (a :: A)) : a.holds w := (Sep.cons.1 h).1
theorem Sep.tail {w : World} {a : Asn} {A : List Asn} (h : Sep w (a :: A)) : Sep w A := (Sep.cons.1 h).2.2
theorem Sep.one {w : World} {a : Asn} : Sep w [a] ↔ a.holds w := by
  rw [Sep.cons]
  exact ⟨fun h => h.1, fun h => ⟨h, by simp [foots], Sep.nil w⟩⟩
theorem foots_append {A B : List Asn} {k : Nat} : foots (A ++ B) k ↔ foots A k ∨ foots B k := by
  unfold foots
  constructor
  · rintro ⟨a, ha, hk⟩
    rcases List.mem_append.1 ha with h | h
    · exact .inl ⟨a, h, hk⟩
    · exact .inr ⟨a, h, hk⟩
  · rintro (⟨a, ha, hk⟩ | ⟨a, ha, hk⟩)
    · exact ⟨a, by simp [ha], hk⟩
    · exact ⟨a, by simp [ha], hk⟩
theorem foots_cons {a : Asn} {A : List Asn} {k : Nat} : foots (a :: A) k ↔ a.foot k ∨ foots A k := by
  unfold foots; simp
theorem foots_nil {k : Nat} : ¬ foots [] k := by simp [foots]
theorem Sep.append {w : World} {A B : List Asn} : Sep w (A ++ B) ↔ Sep w A ∧ Sep w B ∧ ∀ k, foots A k → ¬ foots B k := by
  induction A with
  | nil => exact ⟨fun h => ⟨Sep.nil w, h, fun k hk => absurd hk foots_nil⟩, fun h => h.2.1⟩
  | cons a A ih =>
    rw [List.cons_append, Sep.cons, Sep.cons, ih]
    constructor
    · rintro ⟨h1, h2, h3, h4, h5⟩
      refine ⟨⟨h1, fun k hk hf => h2 k hk (foots_append.2 (.inl hf)), h3⟩, h4, fun k hk hb => ?_⟩
      rcases foots_cons.1 hk with h | h
      · exact h2 k h (foots_append.2 (.inr hb))
      · exact h5 k h hb
    · rintro ⟨⟨h1, h2, h3⟩, h4, h5⟩
      refine ⟨h1, fun k hk hf => ?_, h3, h4, fun k hk => h5 k (foots_cons.2 (.inr hk))⟩
      rcases foots_append.1 hf with h | h
      · exact h2 k hk h
      · exact h5 k (foots_cons.2 (.inl hk)) h
theorem foots_perm {A B : List Asn} (h : A.Perm B) {k : Nat} (hk : foots A k) : foots B k := by
  obtain ⟨a, ha, hk⟩ := hk
  exact ⟨a, h.mem_iff.1 ha, hk⟩
theorem Sep.perm {w : World} {A B : List Asn} (h : Sep w A) (hp : A.Perm B) : Sep w B :=
  ⟨fun b hb => h.1 b (hp.mem_iff.2 hb), hp.pairwise h.2 (fun {_ _} hab k hb ha => hab k ha hb)⟩
theorem Sep.lt {w : World} {A : List Asn} (h : Sep w A) {k : Nat} (hk : foots A k) : k < w.heap.size := by
  obtain ⟨a, ha, hk⟩ := hk
  exact a.lt (h.1 a ha) hk
theorem Sep.stable {S : Nat → Prop} {w w' : World} {A : List Asn} (h : Sep w A) (hm : Mods S w w') (hd : ∀ k, foots A k → ¬ S k) : Sep w' A :=
  ⟨fun a ha => a.stable (h.1 a ha) hm (fun k hk => hd k ⟨a, ha, hk⟩), h.2⟩
theorem Sep.below {B : Nat} {w w' : World} {A : List Asn} (h : Sep w A) (hm : Below B w w') (hd : ∀ k, foots A k → k < B) : Sep w' A := by
  have hm' : Mods (fun k => B ≤ k) w w' := ⟨hm.os, hm.tape, hm.output, hm.size, fun k _ h => hm.block k (by omega)⟩
  exact h.stable hm' (fun k hk h => by have := hd k hk; omega)

/-- What A was is A' now; nothing else was touched. -/
structure Step (w w' : World) (A A' : List Asn) : Prop where
  sep : Sep w' A'
  mods : Mods (foots A) w w'
  grow : ∀ k, foots A' k → foots A k ∨ w.heap.size ≤ k
theorem Step.refl {w : World} {A : List Asn} (h : Sep w A) : Step w w A A := ⟨h, Mods.refl _ _, fun _ hk => .inl hk⟩
theorem Step.trans {w w1 w2 : World} {A A1 A2 : List Asn} (h : Step w w1 A A1) (h' : Step w1 w2 A1 A2) : Step w w2 A A2 := by
  refine ⟨h'.sep, h.mods.trans' h'.mods (fun i hi hk => ?_), fun k hk => ?_⟩
  · rcases h.grow i hk with h | h
    · exact h
    · omega
  · rcases h'.grow k hk with h1 | h1
    · exact h.grow k h1
    · exact .inr (Nat.le_trans h.mods.size h1)
theorem Step.frame {w w' : World} {A A' R : List Asn} (h : Step w w' A A') (hs : Sep w (A ++ R)) : Step w w' (A ++ R) (A' ++ R) := by
  obtain ⟨h1, h2, h3⟩ := Sep.append.1 hs
  refine ⟨Sep.append.2 ⟨h.sep, h2.stable h.mods (fun k hk hA => h3 k hA hk), fun k hk hR => ?_⟩, h.mods.mono (fun k _ hk => foots_append.2 (.inl hk)), fun k hk => ?_⟩
  · rcases h.grow k hk with hh | hh
    · exact h3 k hh hR
    · have := h2.lt hR; omega
  · rcases foots_append.1 hk with hh | hh
    · rcases h.grow k hh with h4 | h4
      · exact .inl (foots_append.2 (.inl h4))
      · exact .inr h4
    · exact .inl (foots_append.2 (.inr hh))
theorem Step.perm {w w' : World} {A A' B B' : List Asn} (h : Step w w' A A') (hp : A.Perm B) (hp' : A'.Perm B') : Step w w' B B' :=
  ⟨h.sep.perm hp', h.mods.mono (fun _ _ hk => foots_perm hp hk), fun k hk => (h.grow k (foots_perm hp'.symm hk)).imp (foots_perm hp) id⟩
theorem Step.rest {w w' : World} {A A' R : List Asn} (h : Step w w' A A') (hs : Sep w (A ++ R)) : Sep w' (A' ++ R) := (h.frame hs).sep
/-- New memory beside what stood. -/
theorem Step.fresh {w w' : World} {A N : List Asn} (hs : Sep w A) (hb : Below w.heap.size w w') (hN : Sep w' N) (hn : ∀ k, foots N k → w.heap.size ≤ k) : Step w w' A (N ++ A) := by
  refine ⟨Sep.append.2 ⟨hN, hs.below hb (fun k hk => hs.lt hk), fun k hk hA => ?_⟩, Mods.of_below hb _, fun k hk => ?_⟩
  · have := hn k hk; have := hs.lt hA; omega
  · rcases foots_append.1 hk with h | h
    · exact .inr (hn k h)
    · exact .inl h
theorem Step.below {w w' : World} {A A' : List Asn} (h : Step w w' A A') {B : Nat} (hB : B ≤ w.heap.size) (hA : ∀ k, foots A k → B ≤ k) : Below B w w' :=
  h.mods.below hB (fun k hk hf => by have := hA k hf; omega)
theorem Step.base {w w' : World} {A A' : List Asn} (h : Step w w' A A') {B : Nat} (hB : B ≤ w.heap.size) (hA : ∀ k, foots A k → B ≤ k) : ∀ k, foots A' k → B ≤ k := fun k hk => by
  rcases h.grow k hk with h1 | h1
  · exact hA k h1
  · omega
end Go.Proofs.YtgibdecgmageeaaDoor
