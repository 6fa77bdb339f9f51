/- Disks with one file, whatever its name; what a journal makes of them: the plain part. -/
import Derived.Test.YtgibdecgmageeaaDoorJr6
namespace Go.Proofs.YtgibdecgmageeaaDoor
open Go.RowKit

def oneT (s : ByteArray) : List Pl := (s, some 0) :: List.replicate 63 free
def oneS (s : ByteArray) (size : Int) (safe : List Pl) (f : List Int × Nat) : Dm := ⟨size, oneT s, safe, [f]⟩
section
variable {s : ByteArray} {size : Int} {safe : List Pl} {f : List Int × Nat}
theorem oneT_idx : idx (oneT s) s = 0 := by unfold oneT idx; rw [List.findIdx_cons]; simp
theorem oneS_goes (hs : nameB s = true) (hz : 1 ≤ size) : (oneS s size safe f).goes true s = 0 := Dm.goes_pos (show (1 : Int) ≤ size from hz) hs
theorem oneS_finds (hs : nameB s = true) (hz : 1 ≤ size) : (oneS s size safe f).finds true s = 0 := by
  unfold Dm.finds
  rw [oneS_goes hs hz, if_neg (by decide)]
  show (if idx (oneT s) s < (oneT s).length then (0 : Int) else 7) = 0
  rw [oneT_idx, if_pos (by simp [oneT])]
theorem oneS_file : (oneS s size safe f).file 0 = 0 := rfl
theorem oneS_at : (oneS s size safe f).at s = f := by
  unfold Dm.at
  show (oneS s size safe f).row ((oneS s size safe f).file (idx (oneT s) s)) = f
  rw [oneT_idx]; rfl
theorem oneS_left : (oneS s size safe f).left = max (size - f.1.length) 0 := by
  rw [Dm.left_eq]
  have h := leftUp_free (oneS s size safe f) [(s, some 0)] 63
  have e : (oneS s size safe f).now = [(s, some 0)] ++ List.replicate 63 free := rfl
  rw [e, h]
  rfl
theorem oneS_append {b : List Int} (hs : nameB s = true) (hz : 1 ≤ size) (hl : (f.1.length : Int) + b.length ≤ size) (hm : f.1.length + b.length ≤ 1048576) : (oneS s size safe f).append s b = (0, oneS s size safe (f.1 ++ b, f.2)) := by
  unfold Dm.append
  rw [oneS_finds hs hz, if_neg (by decide), oneS_at, oneS_left, if_pos ⟨by omega, hm⟩]
  show ((0 : Int), ({ (oneS s size safe f) with rows := [f].set ((oneS s size safe f).file (idx (oneT s) s)) (f.1 ++ b, f.2) } : Dm)) = _
  rw [oneT_idx]; rfl
theorem oneS_full {b : List Int} (hs : nameB s = true) (hz : 1 ≤ size) (hl : max (size - f.1.length) 0 < (b.length : Int)) : (oneS s size safe f).append s b = (6, oneS s size safe f) := by
  unfold Dm.append
  rw [oneS_finds hs hz, if_neg (by decide), oneS_at, oneS_left, if_neg (by omega)]
theorem oneS_sync (hs : nameB s = true) (hz : 1 ≤ size) : (oneS s size safe f).sync s = (0, oneS s size safe (f.1, f.1.length)) := by
  unfold Dm.sync
  rw [oneS_finds hs hz, if_neg (by decide), oneS_at]
  show ((0 : Int), ({ (oneS s size safe f) with rows := [f].set ((oneS s size safe f).file (idx (oneT s) s)) (f.1, f.1.length) } : Dm)) = _
  rw [oneT_idx]; rfl
theorem oneS_names (hz : 1 ≤ size) : (oneS s size safe f).names = (0, oneS s size (oneT s) f) := Dm.names_of hz
theorem new_finds (hs : nameB s = true) (hz : 1 ≤ size) : (newDm size).finds true s = 7 := by
  unfold Dm.finds
  have hg : (newDm size).goes true s = 0 := Dm.goes_pos (show (1 : Int) ≤ size from hz) hs
  rw [hg, if_neg (by decide)]
  exact if_neg (idx_free64 s (nameB_ne hs))
theorem new_create (hs : nameB s = true) (hz : 1 ≤ size) : (newDm size).create s = (0, oneS s size free64 ([], 0)) := by
  unfold Dm.create
  have hg : (newDm size).goes true s = 0 := Dm.goes_pos (show (1 : Int) ≤ size from hz) hs
  rw [hg, if_neg (by decide), if_neg (show ¬ idx (newDm size).now s < (newDm size).now.length from idx_free64 s (nameB_ne hs))]
  have h0 : idx free64 free.1 = 0 := by decide
  show (if idx free64 free.1 < free64.length then _ else _) = _
  rw [h0, if_pos (by decide)]
  rfl
theorem oneS_fail (keep : Int) : (oneS s size (oneT s) f).fail keep false = oneS s size (oneT s) (kept keep f) := rfl
theorem oneS_sizeOf (hs : nameB s = true) (hz : 1 ≤ size) : (oneS s size safe f).sizeOf s = (((f.1.length : Nat) : Int), 0) := by
  rw [Dm.sizeOf_ok (oneS_finds hs hz), oneS_at]

/-- A record is added, if there is room. -/
theorem oneS_add {l : List (List Int)} {k : Nat} {r : List Int} (hs : nameB s = true) (hz : 1 ≤ size) (hr : r.length ≤ 65536) (hl : (endR l : Int) + (r.length + 8) ≤ size) (hm : endR l + (r.length + 8) ≤ 1048576) :
    (oneS s size safe (chain first32 l, k)).add s ⟨endR l, chainC first32 l⟩ r = (0, oneS s size safe (chain first32 (l ++ [r]), k), ⟨endR (l ++ [r]), chainC first32 (l ++ [r])⟩) := by
  have e1 : chain first32 (l ++ [r]) = chain first32 l ++ laidB (chainC first32 l) r := by rw [chain_append]; simp [chain]
  have e2 : endR (l ++ [r]) = endR l + (r.length + 8) := by rw [endR_append]; simp [endR]
  have e3 : chainC first32 (l ++ [r]) = nextC (chainC first32 l) r := by rw [chainC_append]; rfl
  have ha := oneS_append (s := s) (size := size) (safe := safe) (f := (chain first32 l, k)) (b := laidB (chainC first32 l) r) hs hz (by rw [length_chain, length_laidB]; omega) (by rw [length_chain, length_laidB]; omega)
  unfold Dm.add
  rw [if_neg (by omega), oneS_finds hs hz, if_neg (by decide), oneS_at, if_neg (by rw [length_chain]; simp), ha, if_pos rfl, e1, e2, e3]
theorem oneS_add_full {l : List (List Int)} {k : Nat} {r : List Int} (hs : nameB s = true) (hz : 1 ≤ size) (hr : r.length ≤ 65536) (hl : max (size - endR l) 0 < (r.length : Int) + 8) :
    (oneS s size safe (chain first32 l, k)).add s ⟨endR l, chainC first32 l⟩ r = (6, oneS s size safe (chain first32 l, k), ⟨endR l, chainC first32 l⟩) := by
  have ha := oneS_full (s := s) (size := size) (safe := safe) (f := (chain first32 l, k)) (b := laidB (chainC first32 l) r) hs hz (by rw [length_chain, length_laidB]; omega)
  unfold Dm.add
  rw [if_neg (by omega), oneS_finds hs hz, if_neg (by decide), oneS_at, if_neg (by rw [length_chain]; simp), ha, if_neg (show ¬ ((6 : Int) = 0) by decide)]
end
end Go.Proofs.YtgibdecgmageeaaDoor
