/- Left walked. -/
import Derived.Test.YtgibdecgmageeaaDoorDisk8
import Derived.Deep.MidRow
namespace Go.Proofs.YtgibdecgmageeaaDoor
open Go.RowKit

theorem Tryd.sizeTable : (Tryd.prog.info? 70).map (·.size) = some 128 := by kernel_rfl
theorem Tryd.sizePlace : (Tryd.prog.info? 68).map (·.size) = some 2 := by kernel_rfl
theorem Cd.tab_range {w : World} {c : Cd} (h : Blk w c.g 72 c.cells) : w.rangeAt c.g 1 (tabCells c.rows c.now) := fun j v hv => by
  rw [h.cell]
  unfold Cd.cells
  rw [Nat.add_comm 1, List.getElem?_cons_succ, List.getElem?_append_left (List.getElem?_eq_some_iff.1 hv).1]
  exact hv
theorem run_index_tab (rows : List RowC) (t : List Pl) (hl : t.length = 64) (j : Nat) (h : j < t.length) (w : World) :
    (Instr.index 70 (.agg (tabCells rows t).toArray) (.int .i64 j)).run Tryd.prog w = .ok (.agg #[.string (t[j]'h).1, .pointer (ptr rows (t[j]'h).2)]) w := by
  obtain ⟨h1, h2⟩ := tabCells_at rows t j h []
  rw [List.append_nil] at h1 h2
  have hlen := length_tabCells rows t
  obtain ⟨i, hi⟩ : ∃ i, Tryd.prog.info? 68 = some i := by
    cases hq : Tryd.prog.info? 68 with
    | none => have := Tryd.sizePlace; rw [hq] at this; cases this
    | some i => exact ⟨i, rfl⟩
  have hsz : i.size = 2 := by have := Tryd.sizePlace; rw [hi] at this; simpa using this
  have hj : j < 64 := by omega
  have hex : List.take 2 (List.drop (j * 2) (tabCells rows t)) = [.string (t[j]'h).1, .pointer (ptr rows (t[j]'h).2)] := by
    rw [List.drop_eq_getElem_cons (by omega), List.drop_eq_getElem_cons (by omega)]
    simp only [List.take_succ_cons, List.take_zero]
    rw [(List.getElem?_eq_some_iff.1 h1).2, (List.getElem?_eq_some_iff.1 h2).2]
    rfl
  unfold Instr.index
  simp [asIntOf, run_underlying Tryd.underlying70, run_underlying Tryd.underlying68, isAgg, sizeOf, typeInfo, hi, hsz, hj, part, hex]

/-- What is left behind so many places. -/
def Dm.leftUp (m : Dm) (t : List Pl) : Int := t.foldl (fun n p => match p.2 with | some i => n - (m.row i).1.length | none => n) m.size
theorem Dm.leftUp_snoc (m : Dm) (t : List Pl) (p : Pl) : m.leftUp (t ++ [p]) = m.leftUp t - (match p.2 with | some i => ((m.row i).1.length : Int) | none => 0) := by
  unfold Dm.leftUp
  rw [List.foldl_append]
  simp only [List.foldl_cons, List.foldl_nil]
  cases p.2 <;> simp
theorem Dm.left_eq (m : Dm) : m.left = max (m.leftUp m.now) 0 := rfl
theorem Dm.row_le {m : Dm} (hk : m.ok) (i : Nat) : (m.row i).1.length ≤ 1048576 := by
  unfold Dm.row
  by_cases h : i < m.rows.length
  · simp only [List.getD, List.getElem?_eq_getElem h, Option.getD_some]; exact (hk.rows _ (List.getElem_mem h)).2.1
  · simp only [List.getD, List.getElem?_eq_none (Nat.le_of_not_lt h), Option.getD_none]; simp
theorem Dm.leftUp_bounds {m : Dm} (hk : m.ok) (t : List Pl) (ht : t.length ≤ 64) : -67108864 ≤ m.leftUp t ∧ m.leftUp t ≤ 8388608 := by
  have : ∀ t : List Pl, m.size - t.length * 1048576 ≤ m.leftUp t ∧ m.leftUp t ≤ m.size := by
    intro t
    induction t using snoc_ind with
    | h0 => simp [Dm.leftUp]
    | hs l p ih =>
      rw [Dm.leftUp_snoc]
      have hr := fun i => Dm.row_le hk i
      simp only [List.length_append, List.length_singleton]
      cases hp : p.2 with
      | none => simp only; omega
      | some i => have := hr i; simp only; omega
  have h1 := this t
  have := hk.size0
  have := hk.size1
  omega

theorem Left_nil (w : World) : Calls Tryd.prog 20 #[.pointer none] w (fun e w' => e = .returned (.int .i64 0) ∧ w = w') := by
  go_enter Tryd.func20, Tryd.ntmps20
  go_wp2
  go_ret
  exact ⟨rfl, rfl⟩

set_option maxRecDepth 100000 in
set_option maxHeartbeats 1000000 in
theorem Left_any (c : Cd) (b0 : Nat) (w : World) (hS : Sep w (c.asn b0)) (hk : c.m.ok) :
    Calls Tryd.prog 20 #[.pointer (some ⟨c.g, 0, none⟩)] w (fun e w' => e = .returned (.int .i64 c.m.left) ∧ Below w.heap.size w w') := by
  have hB := Cd.blk hS
  have hsc := Cd.size_cell hB
  have hrange := Cd.tab_range hB
  have hl : c.now.length = 64 := hk.now.len
  have hidx := run_index_tab c.rows c.now hl
  have hcl : (tabCells c.rows c.now).toArray.size = 128 := by simp [length_tabCells, hl]
  have hlen : (Tryd.prog.info? 70).map (·.size) = some (tabCells c.rows c.now).length := by rw [Tryd.sizeTable, length_tabCells, hl]
  obtain ⟨C, hC⟩ : ∃ C, C = tabCells c.rows c.now := ⟨_, rfl⟩
  rw [← hC] at hrange hidx hlen
  -- what stands at a place
  have place : ∀ j (h : j < c.now.length) w', Below w.heap.size w w' → (ptr c.rows (c.now[j]'h).2 = none ∧ c.m.leftUp (c.now.take (j + 1)) = c.m.leftUp (c.now.take j)) ∨ ∃ (r : Nat) (A : Option Addr) (n cap : Nat), ptr c.rows (c.now[j]'h).2 = some ⟨r, 0, none⟩ ∧ r < w.heap.size ∧ w'.cell? ⟨r, 0, none⟩ = some (.slice A n cap) ∧ n ≤ 1048576 ∧ c.m.leftUp (c.now.take (j + 1)) = c.m.leftUp (c.now.take j) - n := by
    intro j h w' hb
    have ht : c.now.take (j + 1) = c.now.take j ++ [c.now[j]'h] := List.take_succ_eq_append_getElem h
    rw [ht, Dm.leftUp_snoc]
    cases hp : (c.now[j]'h).2 with
    | none => left; exact ⟨rfl, by simp⟩
    | some i =>
      right
      have hi : i < c.rows.length := by have := (hk.now.some_ _ (List.getElem_mem h) i hp).2; simpa [Cd.m] using this
      have hx : c.rows[i]? = some (c.rows[i]'hi) := List.getElem?_eq_getElem hi
      generalize c.rows[i]'hi = x at hx
      have hS' := hS.below hb (fun _ hk => hS.lt hk)
      have ha : (x.asn b0).holds w' := hS'.1 _ (by unfold Cd.asn; exact List.mem_cons_of_mem _ (List.mem_map.2 ⟨x, List.mem_of_getElem? hx, rfl⟩))
      have ha0 : (x.asn b0).holds w := hS.1 _ (by unfold Cd.asn; exact List.mem_cons_of_mem _ (List.mem_map.2 ⟨x, List.mem_of_getElem? hx, rfl⟩))
      obtain ⟨A, cap, ev, _⟩ := ha.2.1.shape
      have hr := Dm.row_le hk i
      rw [Cd.m_row hx] at hr
      refine ⟨x.r, A, x.bs.length, cap, by unfold ptr; simp [hx], ha0.1.lt, ?_, hr, by simp only [Cd.m_row hx]⟩
      rw [ha.1.cell, ← ev]; rfl
  have hbd := fun j => Dm.leftUp_bounds hk (c.now.take j) (by simp; omega)
  have hfin : c.m.leftUp (c.now.take 64) = c.m.leftUp c.m.now := by rw [List.take_of_length_le (by omega)]; rfl
  have h00 : c.m.leftUp (c.now.take 0) = c.size := rfl
  rw [Dm.left_eq]
  generalize c.m.leftUp c.m.now = res at hfin
  have HR := Lib.hid hrange; have HX := Lib.hid hidx; have HP := Lib.hid place; have HBD := Lib.hid hbd; have HFIN := Lib.hid hfin; have HLEN := Lib.hid hlen; have H00 := Lib.hid h00; have HL := Lib.hid hl
  clear hB hrange hidx place hbd hfin hlen hC hS hk hcl h00 hl
  go_enter Tryd.func20, Tryd.ntmps20
  go_wp2_with (first | (refine wpList_load_mid rfl 70 (.tmp 13) rfl c.g 1 rfl C _ HR.out Tryd.underlying70 rfl HLEN.out ?_))
  go_loopw [2, 15] (fun n i wr => ∃ (j : Nat) (z : Int), j ≤ 64 ∧ i = .int .i64 j ∧ n = .int .i64 z ∧ -67108864 ≤ z ∧ z ≤ 8388608 ∧ Hid (z = c.m.leftUp (c.now.take j)) ∧ Below w.heap.size w wr) (fun _ i _ => 64 - (intOf i).toNat)
  case atStart =>
    have h0 := HBD.out 0
    rw [H00.out] at h0
    exact ⟨0, c.size, by omega, rfl, rfl, h0.1, h0.2, H00.out.symm, Below.refl _ _⟩
  case round =>
    obtain ⟨j, z, hj, rfl, rfl, hz0, hz1, HZ, hb⟩ := hrel
    by_cases hlt : j < 64
    · have hjl : j < c.now.length := by rw [HL.out]; exact hlt
      have hx := HX.out j hjl
      have hp := HP.out j hjl
      have hbd := HBD.out (j + 1)
      generalize (c.now[j]'hjl).1 = nm at hx
      generalize ptr c.rows (c.now[j]'hjl).2 = pp at hx hp
      have hbw : w.heap.size ≤ wr.heap.size := hb.size
      rcases hp _ (hb.alloc hb.size (.cells #[.string nm, .pointer pp] 68)) with ⟨rfl, hn⟩ | ⟨r, A, n, cap, rfl, hr, hc, hn1, hn⟩
      · rw [hn] at hbd
        have HN := Lib.hid hn
        clear hp hn
        go_wp2
        go_roundw
        case rel => exact ⟨j + 1, z, by omega, by go_num, rfl, hz0, hz1, by rw [HN.out]; exact HZ, hb.alloc hb.size _⟩
        case measure => simp [intOf]; omega
      · rw [hn, ← HZ.out] at hbd
        obtain ⟨hbd0, hbd1⟩ := hbd
        have HN := Lib.hid hn
        have hrw : r < wr.heap.size := by omega
        clear hp hn
        go_wp2
        go_roundw
        case rel => exact ⟨j + 1, z - n, by omega, by go_num, by go_num, hbd0, hbd1, by rw [HN.out, ← HZ.out]; rfl, hb.alloc hb.size _⟩
        case measure => simp [intOf]; omega
    · obtain rfl : j = 64 := by omega
      have hzr : z = res := by rw [HZ.out]; exact HFIN.out
      subst hzr
      go_wp2
      go_ret
      exact ⟨rfl, hb⟩
end Go.Proofs.YtgibdecgmageeaaDoor
