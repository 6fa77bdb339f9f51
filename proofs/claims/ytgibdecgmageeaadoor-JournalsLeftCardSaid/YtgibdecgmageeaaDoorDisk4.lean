/- finds, Size, Sync walked. -/
import Derived.Test.YtgibdecgmageeaaDoorDisk3
namespace Go.Proofs.YtgibdecgmageeaaDoor
open Go.RowKit

theorem Cd.size_cell {w : World} {c : Cd} (h : Blk w c.g 72 c.cells) : w.cell? ⟨c.g, 0, none⟩ = some (.int .i64 c.size) := by rw [h.cell]; rfl
theorem goes_eq (m : Dm) (ok : Bool) (s : ByteArray) : m.goes ok s = if m.size < 1 then 2 else goI ok s := rfl

/-- What goes answers, whatever the disk's size. -/
theorem goes_all (c : Cd) (ok : Bool) (s : ByteArray) (w : World) (hB : Blk w c.g 72 c.cells) (hs : s.size ≤ 9223372036854775807) :
    Calls Tryd.prog 51 #[.pointer (some ⟨c.g, 0, none⟩), .bool ok, .string s] w (fun e w' => e = .returned (.int .i64 (c.m.goes ok s)) ∧ Below w.heap.size w w') := by
  have hc := Cd.size_cell hB
  rw [goes_eq]
  by_cases hz : c.size < 1
  · rw [if_pos (show c.m.size < 1 from hz)]
    refine (goes_void c.g c.size ok s w hc hz).mono ?_
    rintro e w' ⟨rfl, rfl⟩
    exact ⟨rfl, Below.refl _ _⟩
  · rw [if_neg (show ¬ c.m.size < 1 from hz)]
    exact goes_any c.g c.size ok s w hc hs (by omega)
theorem Dm.goes_cases (m : Dm) (ok : Bool) (s : ByteArray) : m.goes ok s = 0 ∨ m.goes ok s = 1 ∨ m.goes ok s = 2 := by
  unfold Dm.goes
  by_cases h : m.size < 1
  · rw [if_pos h]; omega
  · rw [if_neg h]
    by_cases h2 : (ok && nameB s) = true
    · rw [if_pos h2]; omega
    · rw [if_neg h2]; omega

theorem finds_nil (ok : Bool) (s : ByteArray) (w : World) :
    Calls Tryd.prog 50 #[.pointer none, .bool ok, .string s] w (fun e w' => e = .returned (.tuple #[.pointer none, .int .i64 2]) ∧ w = w') := by
  go_enter Tryd.func50, Tryd.ntmps50
  go_wp2_with fail
  refine (goes_nil ok s w).mono ?_
  rintro e w' ⟨rfl, rfl⟩
  go_wp2
  go_ret2
  exact ⟨rfl, rfl⟩

set_option maxHeartbeats 1000000 in
theorem finds_err (c : Cd) (ok : Bool) (s : ByteArray) (E : Int) (w : World) (hB : Blk w c.g 72 c.cells) (hl : c.now.length = 64) (hs : s.size ≤ 9223372036854775807) (hE : c.m.finds ok s = E) (h0 : E ≠ 0) :
    Calls Tryd.prog 50 #[.pointer (some ⟨c.g, 0, none⟩), .bool ok, .string s] w (fun e w' => e = .returned (.tuple #[.pointer none, .int .i64 E]) ∧ Below w.heap.size w w') := by
  have HG := Lib.hid (goes_all c ok s w hB hs)
  have hA : ∀ w', Below w.heap.size w w' → Calls Tryd.prog 54 #[.pointer (some ⟨c.g, 1, none⟩), .string s] w' (fun e w'' => e = .returned (.int .i64 (atI c.now s)) ∧ Below w'.heap.size w' w'') := fun w' hb =>
    at_any c.g 1 c.rows c.now s w' hl ((Cd.nowAt hB).below hb hB.lt) (Nat.lt_of_lt_of_le hB.lt hb.size)
  have HA := Lib.hid hA
  clear hA
  unfold Dm.finds at hE
  by_cases hg : c.m.goes ok s = 0
  · rw [if_neg (by simp [hg])] at hE
    have hn : ¬ idx c.now s < c.now.length := fun h => h0 (by rw [← hE]; exact if_pos h)
    have h7 : E = 7 := by rw [← hE]; exact if_neg hn
    subst h7
    have hat : atI c.now s = -1 := if_neg hn
    rw [hg] at HG
    rw [hat] at HA
    clear hE hn hat h0 hl hB hg
    go_enter Tryd.func50, Tryd.ntmps50
    go_wp2_with fail
    refine HG.out.mono ?_
    rintro e w1 ⟨rfl, hb⟩
    go_wp2_with fail
    refine (HA.out w1 hb).mono ?_
    rintro e w2 ⟨rfl, hb2⟩
    go_wp2
    go_ret2
    exact ⟨rfl, hb.trans (hb2.mono hb.size)⟩
  · rw [if_pos hg] at hE
    rw [hE] at HG
    have hE0 : (E == 0) = false := by simpa using h0
    have hE1 : (E != 0) = true := by simpa using h0
    clear hE hl hB hg HA
    go_enter Tryd.func50, Tryd.ntmps50
    go_wp2_with fail
    refine HG.out.mono ?_
    rintro e w1 ⟨rfl, hb⟩
    go_wp2
    go_ret2
    exact ⟨rfl, hb⟩

set_option maxHeartbeats 1000000 in
theorem finds_ok (c : Cd) (ok : Bool) (s : ByteArray) (w : World) (hB : Blk w c.g 72 c.cells) (hl : c.now.length = 64) (hs : s.size ≤ 9223372036854775807) (hE : c.m.finds ok s = 0) :
    Calls Tryd.prog 50 #[.pointer (some ⟨c.g, 0, none⟩), .bool ok, .string s] w (fun e w' => e = .returned (.tuple #[.pointer (some ⟨c.g, 1 + idx c.now s * 2, none⟩), .int .i64 0]) ∧ Below w.heap.size w w') := by
  have HG := Lib.hid (goes_all c ok s w hB hs)
  have hA : ∀ w', Below w.heap.size w w' → Calls Tryd.prog 54 #[.pointer (some ⟨c.g, 1, none⟩), .string s] w' (fun e w'' => e = .returned (.int .i64 (atI c.now s)) ∧ Below w'.heap.size w' w'') := fun w' hb =>
    at_any c.g 1 c.rows c.now s w' hl ((Cd.nowAt hB).below hb hB.lt) (Nat.lt_of_lt_of_le hB.lt hb.size)
  have HA := Lib.hid hA
  clear hA
  unfold Dm.finds at hE
  have hg : c.m.goes ok s = 0 := by
    by_cases h : c.m.goes ok s = 0
    · exact h
    · rw [if_pos h] at hE; exact hE
  rw [if_neg (by simp [hg])] at hE
  have hn : idx c.now s < c.now.length := by
    by_cases h : idx c.now s < c.now.length
    · exact h
    · rw [if_neg (show ¬ idx c.m.now s < c.m.now.length from h)] at hE; cases hE
  have hat : atI c.now s = idx c.now s := if_pos hn
  rw [hg] at HG
  rw [hat] at HA
  obtain ⟨k, hk⟩ : ∃ k, k = idx c.now s := ⟨_, rfl⟩
  rw [← hk] at HA hn ⊢
  have hk64 : k < 64 := by omega
  clear hE hn hat hl hB hg hk
  go_enter Tryd.func50, Tryd.ntmps50
  go_wp2_with fail
  refine HG.out.mono ?_
  rintro e w1 ⟨rfl, hb⟩
  go_wp2_with fail
  refine (HA.out w1 hb).mono ?_
  rintro e w2 ⟨rfl, hb2⟩
  go_wp2
  go_ret2
  exact ⟨rfl, hb.trans (hb2.mono hb.size)⟩
end Go.Proofs.YtgibdecgmageeaaDoor
