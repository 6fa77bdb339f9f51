/- The seat's closed facts that many walks use, and the words in which they end. No statement of the seat stands here. -/
import Derived.Test.YtgibdecgmageeaaDoorProg
import Derived.Test.YtgibdecgmageeaaDoorOwn
import Derived.Test.YtgibdecgmageeaaDoorNum
import Derived.Deep.QuietTactic
import Derived.BigQuiet
import Derived.BigRegion
namespace Go.Proofs.YtgibdecgmageeaaDoor
open Go.RowKit

theorem Tryd.infoByte : (Tryd.prog.info? 5).map (fun i => (i.zero, i.size, i.bytes)) = some (some (.int .u8 0), 1, 1) := by kernel_rfl
theorem Tryd.sizeByte : (Tryd.prog.info? 5).map (·.size) = some 1 := by kernel_rfl

/-- A new row of bytes, known whole: where it lies, and that nothing else has turned. -/
def NewB (w : World) (l : List Int) (e : Ending) (w' : World) : Prop :=
  ∃ g, e = .returned (.slice (some ⟨g, 0, none⟩) l.length l.length) ∧ w.heap.size ≤ g ∧ Blk w' g 5 (U8 l) ∧ Below w.heap.size w w'
theorem NewB.later {w w1 : World} {l : List Int} {e : Ending} {w' : World} (h : NewB w1 l e w') (hb : Below w.heap.size w w1) : NewB w l e w' := by
  obtain ⟨g, he, hg, hB, hbl⟩ := h
  exact ⟨g, he, Nat.le_trans hb.size hg, hB, hb.trans (hbl.mono hb.size)⟩

/-- An answer that is a slice of bytes of the call's own. -/
def RetB (w : World) (l : List Int) (e : Ending) (w' : World) : Prop :=
  ∃ v, e = .returned v ∧ Own w' w.heap.size 5 1 v l.length (U8 l) ∧ Below w.heap.size w w'
theorem RetB.later {w w1 : World} {l : List Int} {e : Ending} {w' : World} (h : RetB w1 l e w') (hb : Below w.heap.size w w1) : RetB w l e w' := by
  obtain ⟨v, he, ho, hbl⟩ := h
  exact ⟨v, he, ho.rebase (fun g hg => Nat.le_trans hb.size (ho.lt g hg).1), hb.trans (hbl.mono hb.size)⟩
theorem NewB.ret {w : World} {l : List Int} {e : Ending} {w' : World} (h : NewB w l e w') (hl : l.length ≤ 9223372036854775807) : RetB w l e w' := by
  obtain ⟨g, he, hg, hB, hbl⟩ := h
  exact ⟨_, he, Own.of_blk (rest := []) (by simpa using hB) (by simp) hg (Nat.le_refl _) (by simp) hl, hbl⟩

/-- Only draws lie between the two. -/
def Drawn (w w' : World) : Prop := ∃ n, w' = w.drewN n
theorem Drawn.refl (w : World) : Drawn w w := ⟨0, rfl⟩
theorem Drawn.trans {a b c : World} (h : Drawn a b) (k : Drawn b c) : Drawn a c := by
  obtain ⟨n, rfl⟩ := h
  obtain ⟨m, rfl⟩ := k
  exact ⟨n + m, by rw [World.drewN_drewN]⟩
theorem Drawn.below {a b : World} (h : Drawn a b) (B : Nat) : Below B a b := by
  obtain ⟨n, rfl⟩ := h
  exact ⟨rfl, rfl, rfl, Nat.le_refl _, fun _ _ => rfl⟩
theorem Drawn.mods {a b : World} (h : Drawn a b) (S : Nat → Prop) : Mods S a b := by
  obtain ⟨n, rfl⟩ := h
  exact ⟨rfl, rfl, rfl, Nat.le_refl _, fun _ _ _ => rfl⟩
theorem Below.dr {B : Nat} {a w : World} (h : Below B a w) (n : Nat) : Below B a (w.drewN n) := ⟨h.os, h.tape, h.output, h.size, h.block⟩
theorem Own.dr {w : World} {base : Nat} {e : TypeId} {size : Nat} {v : Value} {n : Nat} {xs : List Value} (h : Own w base e size v n xs) (k : Nat) : Own (w.drewN k) base e size v n xs := h
theorem Blk.dr {w : World} {g : Nat} {e : TypeId} {cs : List Value} (h : Blk w g e cs) (k : Nat) : Blk (w.drewN k) g e cs := h
theorem Rd.dr {w : World} {B : Nat} {A : Option Addr} {xs : List Value} (h : Rd w B A xs) (k : Nat) : Rd (w.drewN k) B A xs := h
end Go.Proofs.YtgibdecgmageeaaDoor
