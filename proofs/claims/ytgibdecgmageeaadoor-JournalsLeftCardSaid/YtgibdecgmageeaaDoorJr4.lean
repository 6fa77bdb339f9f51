/- The statement 'for .. := range records(b)': a law of its own (the iterator keeps its state in a cell). -/
import Derived.Test.YtgibdecgmageeaaDoorJr3
import Derived.RangeFuncNested
import Derived.RangeFuncLeaves
import Derived.RangeFuncCalls
import Derived.Shelf.Abstract
namespace Go.Proofs.YtgibdecgmageeaaDoor
open Go.RowKit Go.Shelf

/-- A block that is no row of cells. -/
def Asn.obj (k : Nat) (o : Obj) : Asn where
  foot i := i = k
  holds w := w.heap[k]? = some o
  lt h hk := by subst hk; exact (Array.getElem?_eq_some_iff.1 h).1
  stable h hm hd := (hm.block _ (Array.getElem?_eq_some_iff.1 h).1 (hd _ rfl)).trans h
theorem Mods.putObj {S : Nat → Prop} (w : World) (k : Nat) (o : Obj) (hk : S k) : Mods S w (w.putObj k o) :=
  ⟨rfl, rfl, rfl, by simp, fun i _ hi => World.putObj_heap_other (fun e => hi (e ▸ hk))⟩
theorem Sep.putObj {w : World} {k : Nat} {o : Obj} {R : List Asn} (h : Sep w (Asn.obj k o :: R)) (o' : Obj) : Sep (w.putObj k o') (Asn.obj k o' :: R) := by
  have hB : w.heap[k]? = some o := h.head
  have hst : Step w (w.putObj k o') [Asn.obj k o] [Asn.obj k o'] := by
    refine ⟨Sep.one.2 (World.putObj_heap_same (Array.getElem?_eq_some_iff.1 hB).1), Mods.putObj w k o' (foots_cons.2 (.inl rfl)), fun i hi => ?_⟩
    rcases foots_cons.1 hi with h | h
    · exact .inl (foots_cons.2 (.inl h))
    · exact absurd h foots_nil
  exact hst.rest (R := R) h
theorem below_putObj {B : Nat} (w : World) (k : Nat) (o : Obj) (hk : B ≤ k) : Below B w (w.putObj k o) :=
  ⟨rfl, rfl, rfl, by simp, fun i hi => World.putObj_heap_other (by omega)⟩
theorem Sep.newObj {w : World} {R : List Asn} (h : Sep w R) (o : Obj) : Sep (w.alloc o) (Asn.obj w.heap.size o :: R) := by
  have hst := Step.fresh h ((Below.refl w.heap.size w).alloc (Nat.le_refl _) o) (N := [Asn.obj w.heap.size o]) (Sep.one.2 (World.alloc_heap_new w o)) (fun k hk => by
    rcases foots_cons.1 hk with h | h
    · exact Nat.le_of_eq (show k = w.heap.size from h).symm
    · exact absurd h foots_nil)
  exact hst.sep

theorem wpIn_journal {g : Operand} {ps : Array Tmp} {assign body : Code} {Q : Exit → Act → World → Prop} {a : Act} {w : World} {gB b0 N : Nat} {bs : List Int} {v0 : Value} {Y0 : Option Addr} {c0 : Nat} {A0 : List Asn} (Fr : List (List Int) → List Asn → Prop)
    (hg : a.eval g = .func (.func 59) #[] #[.pointer (some ⟨gB, 0, none⟩)]) (hps : ps.size = 2) (hu : IsU8 bs) (hl : bs.length ≤ 1048576) (hgB : b0 ≤ gB) (hb0 : b0 ≤ w.heap.size) (hF : Fr [] A0)
    (hv0 : v0 = .slice Y0 bs.length c0) (hS : Sep w (Asn.blk gB 37 [v0] :: Asn.own b0 5 1 v0 bs.length (U8 bs) :: A0))
    (hround : ∀ (n l : Nat) (pre : List (List Int)) (r : List Int) (A : List Asn) (X : Option Addr) (m : Nat) (W : World), (pre ++ [r]) <+: recs first32 bs → m = r.length → Fr pre A →
      assign.wpIn (Fence.wide.inRound l) n Tryd.prog (Exit.then (fun a1 W1 => W1 = W ∧ ∀ (W2 : World) (P2 : List Asn), b0 ≤ W2.heap.size → Sep W2 (P2 ++ (Asn.own b0 5 1 (.slice X m m) m (U8 r) :: A)) →
        body.wpIn (Fence.wide.inRound l) n Tryd.prog (fun e _ W' => e = .normal ∧ Below b0 W2 W' ∧ ∃ A', Fr (pre ++ [r]) A' ∧ Sep W' (P2 ++ A')) a1 W2) (fun _ _ _ => False))
        { tmps := (ps.zip #[.slice X m m, .int .u32 (chainC first32 (pre ++ [r]) : Nat)]).foldl (fun t (p, v) => t.setIfInBounds p v) a.tmps, defers := [] } W)
    (hdone : ∀ (D : Nat) (A : List Asn) (W : World), Fr (recs first32 bs) A → Sep W (Asn.obj D (.deferred (some [])) :: A) → b0 ≤ D → Below b0 w W → Q .normal { a with defers := { target := .collected D, args := #[] } :: a.defers } W) :
    (Code.rangeFunc g ps assign body).wpIn Fence.wide N Tryd.prog Q a w := by
  refine wpIn_rangeFunc ?_
  intro fn hfn
  obtain ⟨rec, hrec⟩ : ∃ rec : LoopState → Option Code → Loop, rec = fun st pe => { state := st, pending := pe, fn, tmps := a.tmps, params := ps, assign, body, defers := w.heap.size } := ⟨_, rfl⟩
  obtain ⟨W1, hW1⟩ : ∃ W1, (w.alloc (.deferred (some []))).alloc (.loop (rec .ready none)) = W1 := ⟨_, rfl⟩
  have hS1 : Sep W1 (Asn.blk gB 37 [v0] :: Asn.own b0 5 1 v0 bs.length (U8 bs) :: (Asn.obj (w.heap.size + 1) (.loop (rec .ready none)) :: Asn.obj w.heap.size (.deferred (some [])) :: A0)) := by
    have h1 := (hS.newObj (.deferred (some []))).newObj (.loop (rec .ready none))
    rw [World.size_alloc, hW1] at h1
    refine h1.perm ?_
    exact List.perm_append_comm (l₁ := [Asn.obj (w.heap.size + 1) (.loop (rec .ready none)), Asn.obj w.heap.size (.deferred (some []))]) (l₂ := [Asn.blk gB 37 [v0], Asn.own b0 5 1 v0 bs.length (U8 bs)]) |>.append_right A0
  have hb1 : Below b0 w W1 := by
    rw [← hW1]; exact ((Below.refl _ w).alloc hb0 _).alloc (by simp; omega) _
  refine ⟨w.heap.size + 1, [{ target := .collected w.heap.size, args := #[] }], W1, { target := .fn (.func 59) #[.pointer (some ⟨gB, 0, none⟩)], args := #[.func (.yield (w.heap.size + 1)) #[] #[]] }, W1, 59,
    #[.func (.yield (w.heap.size + 1)) #[] #[]] ++ #[.pointer (some ⟨gB, 0, none⟩)], W1, ?_, ?_, ?_, ?_, (fun h => by cases h), ?_⟩
  · rw [← hW1, hrec]; exact run_enterLoop_outer _ _ _ _ _
  · simp only [resolve, hg]
    simp [go_sem]
  · intro f' _; trivial
  · simp [invoke, go_sem]
  · refine (callsIn_wide.2 (records1_at gB (w.heap.size + 1) b0 bs v0 (fun pre A => ∃ A', Fr pre A' ∧ A = Asn.obj (w.heap.size + 1) (.loop (rec .ready none)) :: Asn.obj w.heap.size (.deferred (some [])) :: A') _ W1 hu hl hgB (Nat.le_trans hb0 (by rw [← hW1]; simp; omega)) ⟨A0, hF, rfl⟩ Y0 c0 hv0 hS1 ?_)).mono ?_
    · -- ONE ROUND
      rintro n pre r W P A X m hpre hm ⟨A', hFr, rfl⟩ hbW hSW
      have hp1 : (P ++ (Asn.own b0 5 1 (.slice X m m) m (U8 r) :: Asn.obj (w.heap.size + 1) (.loop (rec .ready none)) :: Asn.obj w.heap.size (.deferred (some [])) :: A')).Perm (Asn.obj (w.heap.size + 1) (.loop (rec .ready none)) :: (Asn.obj w.heap.size (.deferred (some [])) :: P ++ (Asn.own b0 5 1 (.slice X m m) m (U8 r) :: A'))) := by
        exact ((((List.Perm.swap _ _ _).trans ((List.Perm.swap _ _ _).cons _)).append_left P).trans List.perm_middle).trans (List.perm_middle.cons _)
      have hS2 := hSW.perm hp1
      have hl2 : W.heap[w.heap.size + 1]? = some (.loop (rec .ready none)) := hS2.head
      have hy := run_yield (P := Tryd.prog) (args := #[.slice X m m, .int .u32 (chainC first32 (pre ++ [r]) : Nat)]) hl2 (by rw [hrec]; simp [hps])
      rw [hrec] at hy
      refine ⟨fn, _, assign, body, hy, roundIn_of_wpIn hfn (wpIn_mono (hround n _ pre r A' X m W hpre hm hFr) ?_)⟩
      rintro e a1 W1' hq
      match e, hq with
      | .normal, hq => ?_
      | .ret, hq => exact hq.elim
      | .exit _, hq => exact hq.elim
      | .goto _, hq => exact hq.elim
      | .panic _, hq => exact hq.elim
      | .outgrown, hq => exact hq.elim
      obtain ⟨rfl, hbody⟩ := hq
      refine ⟨_, run_beginRound hl2 (by rw [hrec]), ?_⟩
      have hS3 := hS2.putObj (.loop { rec .ready none with state := .busy })
      refine wpIn_mono (hbody _ (Asn.obj (w.heap.size + 1) (.loop { rec .ready none with state := .busy }) :: Asn.obj w.heap.size (.deferred (some [])) :: P) (by simpa using hbW) hS3) ?_
      rintro e a3 W3 ⟨rfl, hb3, A3, hF3, hS4⟩
      have hl3 : W3.heap[w.heap.size + 1]? = some (.loop { rec .ready none with state := .busy }) := hS4.head
      have he := run_endRound (P := Tryd.prog) none hl3
      have hS5 := Sep.putObj (show Sep W3 (Asn.obj (w.heap.size + 1) (.loop { rec .ready none with state := .busy }) :: (Asn.obj w.heap.size (.deferred (some [])) :: P ++ A3)) from hS4) (.loop (rec .ready none))
      rw [hrec] at he
      refine ⟨_, _, he, rfl, ?_, Asn.obj (w.heap.size + 1) (.loop (rec .ready none)) :: Asn.obj w.heap.size (.deferred (some [])) :: A3, ⟨A3, hF3, rfl⟩, ?_⟩
      · exact ((below_putObj _ _ _ (by omega)).trans hb3).trans (below_putObj W3 _ _ (by omega))
      · rw [hrec] at hS5 ⊢
        refine hS5.perm ?_
        exact ((List.perm_middle.symm.cons _).trans List.perm_middle.symm)
    · -- BEHIND THE ITERATOR
      rintro e W2 ⟨⟨v, rfl⟩, hb2, A, ⟨A', hF', rfl⟩, hS2⟩
      have hl2 : W2.heap[w.heap.size + 1]? = some (.loop (rec .ready none)) := hS2.head
      refine ⟨none, _, by have := run_endLoop (P := Tryd.prog) hl2 (by rw [hrec]; simp); rw [hrec] at this; exact this, ?_⟩
      exact hdone _ A' _ hF' (Sep.cons.1 (hS2.putObj _)).2.2 hb0 ((hb1.trans hb2).trans (below_putObj W2 _ _ (by omega)))
end Go.Proofs.YtgibdecgmageeaaDoor
