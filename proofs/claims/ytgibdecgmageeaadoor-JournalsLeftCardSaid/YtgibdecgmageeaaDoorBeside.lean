/- Blocks beside the disks: a new one, what it holds, a store. (For the journals' statements; LGone and LOrd hold the same for the files'.) -/
import Derived.Test.YtgibdecgmageeaaDoorOne
import Derived.Test.YtgibdecgmageeaaDoorConv
namespace Go.Proofs.YtgibdecgmageeaaDoor
open Go.RowKit

/-- A new block beside the disks. -/
theorem Disks.with_ {b0 : Nat} {w : World} {L : List (Nat × Dm)} {R : List Asn} (h : Disks b0 w L R) (e : TypeId) (cs : Array Value) : Disks b0 (w.alloc (.cells cs e)) L (Asn.blk w.heap.size e cs.toList :: R) := by
  have hb0 := h.size
  obtain ⟨ds, h1, h2, h3, h4⟩ := h
  have hst := Step.fresh h3 ((Below.refl w.heap.size w).alloc (Nat.le_refl _) (.cells cs e)) (N := [Asn.blk w.heap.size e cs.toList]) (Sep.one.2 (Blk.lit w e _ rfl cs _ rfl)) (fun k hk => by
    rcases foots_cons.1 hk with h | h
    · exact Nat.le_of_eq (show k = w.heap.size from h).symm
    · exact absurd h foots_nil)
  exact ⟨ds, h1, h2, hst.sep.perm (List.perm_append_comm.trans (by rw [List.append_assoc]; exact List.Perm.append_left _ List.perm_append_comm)), Nat.le_trans hb0 (by simp)⟩
theorem Disks.drew {b0 : Nat} {w : World} {L : List (Nat × Dm)} {R : List Asn} (h : Disks b0 w L R) : Disks b0 w.drew L R := h.below (Below.refl _ _).drew
theorem Disks.cell {b0 : Nat} {w : World} {L : List (Nat × Dm)} {g : Nat} {e : TypeId} {cs : List Value} {R : List Asn} (h : Disks b0 w L (Asn.blk g e cs :: R)) (i : Nat) : w.cell? ⟨g, i, none⟩ = cs[i]? := by
  have := h.rest.head
  exact Blk.cell (show Blk w g e cs from this) i

/-- A store into a block beside the disks. -/
theorem Disks.put {b0 g : Nat} {w : World} {L : List (Nat × Dm)} {e : TypeId} {cs : List Value} {R : List Asn} (h : Disks b0 w L (Asn.blk g e cs :: R)) (i : Nat) (u : Value) :
    Disks b0 (w.setCell ⟨g, i, none⟩ u) L (Asn.blk g e (cs.set i u) :: R) := by
  obtain ⟨ds, h1, h2, h3, h4⟩ := h
  have hp : Sep w (Asn.blk g e cs :: (ds.flatMap (Cd.asn b0) ++ R)) := h3.perm List.perm_middle
  have hB : Blk w g e cs := (Sep.cons.1 hp).1
  have hst : Step w (w.setCell ⟨g, i, none⟩ u) [Asn.blk g e cs] [Asn.blk g e (cs.set i u)] := by
    refine ⟨Sep.one.2 (hB.set i u), Mods.setCell w _ u ?_, fun k hk => ?_⟩
    · exact foots_cons.2 (.inl rfl)
    · rcases foots_cons.1 hk with h | h
      · exact .inl (foots_cons.2 (.inl h))
      · exact absurd h foots_nil
  refine ⟨ds, h1, h2, ?_, by simpa using h4⟩
  have h5 := hst.rest (R := ds.flatMap (Cd.asn b0) ++ R) hp
  rw [List.singleton_append] at h5
  exact h5.perm List.perm_middle.symm

end Go.Proofs.YtgibdecgmageeaaDoor
