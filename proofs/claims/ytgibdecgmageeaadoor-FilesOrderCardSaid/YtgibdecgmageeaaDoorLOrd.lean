/- FilesOrder walked: TextsSize, a store beside the disks. -/
import Derived.Test.YtgibdecgmageeaaDoorAlive17
import Derived.Test.YtgibdecgmageeaaDoorOrder
import Derived.Test.YtgibdecgmageeaaDoorLGone
namespace Go.Proofs.YtgibdecgmageeaaDoor
open Go.RowKit

/-- A store into a block beside the disks. -/
theorem Disks.put {b0 g : Nat} {w : World} {L : List (Nat × Dm)} {e : TypeId} {cs : List Value} {R : List Asn} (h : Disks b0 w L (Asn.blk g e cs :: R)) (i : Nat) (u : Value) :
    Disks b0 (w.setCell ⟨g, i, none⟩ u) L (Asn.blk g e (cs.set i u) :: R) := by
  obtain ⟨ds, h1, h2, h3, h4⟩ := h
  have hp : Sep w (Asn.blk g e cs :: (ds.flatMap (Cd.asn b0) ++ R)) := h3.perm List.perm_middle
  have hB : Blk w g e cs := (Sep.cons.1 hp).1
  have hst : Step w (w.setCell ⟨g, i, none⟩ u) [Asn.blk g e cs] [Asn.blk g e (cs.set i u)] := by
    refine ⟨Sep.one.2 (hB.set i u), Mods.setCell w _ u ?_, fun k hk => ?_⟩
    · exact foots_cons.2 (.inl rfl)
    · rcases foots_cons.1 hk with h | h
      · exact .inl (foots_cons.2 (.inl h))
      · exact absurd h foots_nil
  refine ⟨ds, h1, h2, ?_, by simpa using h4⟩
  have h5 := hst.rest (R := ds.flatMap (Cd.asn b0) ++ R) hp
  rw [List.singleton_append] at h5
  exact h5.perm List.perm_middle.symm

def tszGo (T : Nat) : List ByteArray → Nat
  | [] => T
  | x :: r => if T ≤ 1048576 then tszGo (T + x.size) r else T
/-- What TextsSize answers. -/
def tsz (l : List ByteArray) : Nat := tszGo l.length l
theorem tszGo_sum (l : List ByteArray) : ∀ T, tszGo T l ≤ 1048576 → tszGo T l = T + sizes l := by
  induction l with
  | nil => intro T _; simp [tszGo, sizes]
  | cons x r ih =>
    intro T h
    unfold tszGo at h ⊢
    by_cases hT : T ≤ 1048576
    · rw [if_pos hT] at h ⊢
      rw [ih _ h]
      simp [sizes]
      omega
    · rw [if_neg hT] at h; exact absurd h hT
theorem tsz_sum {l : List ByteArray} (h : tsz l ≤ 20000) : tsz l = l.length + sizes l := tszGo_sum l _ (Nat.le_trans h (by decide))

set_option maxHeartbeats 1000000 in
theorem TextsSize_at (l : List ByteArray) (A : Option Addr) (n cap B : Nat) (w : World) (hn : n = l.length) (hl : n ≤ 140737488351232) (hs : ∀ s ∈ l, s.size ≤ 140737488351232) (hr : Rd w B A (Strs l)) :
    Calls Tryd.prog 31 #[.slice A n cap] w (fun e w' => e = .returned (.int .i64 (tsz l : Nat)) ∧ tsz l ≤ 1000000000000000 ∧ Drawn w w') := by
  have HR := Lib.hid hr
  have HN := Lib.hid hn
  clear hr
  have h00 : tszGo n (l.drop 0) = tsz l := by rw [List.drop_zero, hn]; rfl
  have H00 := Lib.hid h00
  clear h00 hn
  go_enter Tryd.func31, Tryd.ntmps31
  go_wp2_with fail
  go_loopw [3, 4] (fun t i wr => ∃ (T j : Nat), t = .int .i64 T ∧ i = .int .i64 j ∧ j ≤ n ∧ Hid (tszGo T (l.drop j) = tsz l) ∧ T ≤ 1000000000000000 ∧ Drawn w wr) (fun _ i _ => n - (intOf i).toNat)
  case atStart => exact ⟨n, 0, rfl, rfl, by omega, H00, by omega, Drawn.refl _⟩
  case round =>
    obtain ⟨T, j, rfl, rfl, hj, HT, hTb, hd⟩ := hrel
    obtain ⟨nq, rfl⟩ := hd
    clear H00
    by_cases hgo : j < n ∧ T ≤ 1048576
    · obtain ⟨h1, h2⟩ := hgo
      have hjl : j < l.length := by have := HN.out; omega
      obtain ⟨ad, rfl, hab, hc⟩ := HR.out (by simp [Strs]; omega)
      have c0 : w.cell? (ad.add j) = some (.string (l[j]'hjl)) := hc j _ (by simp [Strs, hjl])
      have hsz := hs _ (List.getElem_mem hjl)
      have hstep : tszGo (T + (l[j]'hjl).size) (l.drop (j + 1)) = tsz l := by
        have h := HT.out
        rw [List.drop_eq_getElem_cons hjl] at h
        unfold tszGo at h
        rw [if_pos h2] at h
        exact h
      have HS := Lib.hid hstep
      generalize (l[j]'hjl) = x at c0 hsz HS
      clear hstep hc
      go_wp2_with fail
      go_roundw
      case rel => exact ⟨T + x.size, j + 1, by go_num, by go_num, by omega, HS, by omega, _, rfl⟩
      case measure => simp [intOf] <;> omega
    · have hfin : T = tsz l := by
        have h := HT.out
        by_cases hjn : j < n
        · have hjl : j < l.length := by have := HN.out; omega
          rw [List.drop_eq_getElem_cons hjl] at h
          unfold tszGo at h
          rw [if_neg (by omega)] at h
          exact h
        · rw [List.drop_of_length_le (by have := HN.out; omega)] at h
          exact h
      have HF := Lib.hid hfin
      clear hfin
      go_wp2_with fail
      all_goals
        go_ret
        exact ⟨by rw [← HF.out]; rfl, by rw [← HF.out]; exact hTb, _, rfl⟩
end Go.Proofs.YtgibdecgmageeaaDoor
