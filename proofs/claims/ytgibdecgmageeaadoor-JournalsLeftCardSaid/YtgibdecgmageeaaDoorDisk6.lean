/- Size, Sync, Remove walked. -/
import Derived.Test.YtgibdecgmageeaaDoorDisk5
namespace Go.Proofs.YtgibdecgmageeaaDoor
open Go.RowKit

theorem Dm.finds_ne {m : Dm} {ok : Bool} {s : ByteArray} (h : ¬ m.finds ok s = 0) : m.finds ok s = 1 ∨ m.finds ok s = 2 ∨ m.finds ok s = 7 := by
  unfold Dm.finds at h ⊢
  have := m.goes_cases ok s
  by_cases hg : m.goes ok s = 0
  · rw [if_neg (by simp [hg])] at h ⊢
    by_cases hi : idx m.now s < m.now.length
    · rw [if_pos hi] at h; exact absurd rfl h
    · rw [if_neg hi]; omega
  · rw [if_pos hg] at h ⊢; omega

set_option maxHeartbeats 1000000 in
theorem Size_any (c : Cd) (b0 : Nat) (s : ByteArray) (w : World) (hS : Sep w (c.asn b0)) (hk : c.m.ok) (hs : s.size ≤ 9223372036854775807) :
    Calls Tryd.prog 37 #[.pointer (some ⟨c.g, 0, none⟩), .string s] w (fun e w' => e = .returned (.tuple #[.int .i64 (c.m.sizeOf s).1, .int .i64 (c.m.sizeOf s).2]) ∧ Below w.heap.size w w') := by
  unfold Dm.sizeOf
  by_cases h : c.m.finds true s = 0
  · rw [if_neg (by simp [h])]
    obtain ⟨x, A, n, cap, hx, hat, hn, hn1, hm, hu, hk64, hw⟩ := Cd.found hk h
    have hf := finds_ok c true s w (Cd.blk hS) hk.now.len hs h
    have key : ∀ w', Below w.heap.size w w' → w'.cell? ⟨c.g, 1 + idx c.now s * 2 + 1, none⟩ = some (.pointer (some ⟨x.r, 0, none⟩)) ∧ w'.cell? ⟨x.r, 0, none⟩ = some (.slice A n cap) := by
      intro w' hb
      obtain ⟨_, _, h1, h2, _⟩ := hw w' b0 (hS.below hb (fun _ hk => hS.lt hk))
      exact ⟨h1, h2⟩
    rw [hat]
    have HF := Lib.hid hf; have HK := Lib.hid key; have HN := Lib.hid hn
    clear hf key hw hn hx hat h hS hk
    go_enter Tryd.func37, Tryd.ntmps37
    go_wp2_with fail
    refine HF.out.mono ?_
    rintro e w1 ⟨rfl, hb⟩
    obtain ⟨k1, k2⟩ := HK.out w1 hb
    go_wp2
    go_ret2
    exact ⟨by rw [← HN.out]; rfl, hb⟩
  · rw [if_pos h]
    have hf := finds_err c true s _ w (Cd.blk hS) hk.now.len hs rfl h
    have h3 := Dm.finds_ne h
    generalize c.m.finds true s = E at hf h h3
    have HF := Lib.hid hf
    clear hf hk hS
    have hE1 : (E != 0) = true := by simpa using h
    clear h h3
    go_enter Tryd.func37, Tryd.ntmps37
    go_wp2_with fail
    refine HF.out.mono ?_
    rintro e w1 ⟨rfl, hb⟩
    go_wp2
    go_ret2
    exact ⟨rfl, hb⟩

theorem RowC.turn {w : World} {b0 : Nat} {x : RowC} (h : (x.asn b0).holds w) (m : Nat) : Step w (w.setCell ⟨x.r, 1, none⟩ (.int .i64 m)) [x.asn b0] [({ x with mark := m } : RowC).asn b0] := by
  refine ⟨Sep.one.2 ⟨?_, ?_, h.2.2⟩, ?_, fun k hk => .inl ((foots_cons.1 hk).elim (fun h => foots_cons.2 (.inl h)) (fun h => absurd h foots_nil))⟩
  · have := h.1.set 1 (.int .i64 m); exact this
  · exact h.2.1.mods (Mods.setCell (S := (· = x.r)) w ⟨x.r, 1, none⟩ _ rfl) (fun g hg e => h.2.2.1 (by rw [hg, e]))
  · exact Mods.setCell w _ _ (foots_cons.2 (.inl (.inl rfl)))
theorem Step.drw {w w' : World} {A A' : List Asn} (h : Step w w' A A') : Step w w'.drew A A' := h.trans ⟨h.sep.stable (Mods.drew (S := fun _ => False) _) (fun _ _ h => h), Mods.drew _, fun _ hk => .inl hk⟩

set_option maxHeartbeats 1000000 in
theorem Sync_any (c : Cd) (b0 : Nat) (s : ByteArray) (w : World) (hS : Sep w (c.asn b0)) (hk : c.m.ok) (hs : s.size ≤ 9223372036854775807) :
    Calls Tryd.prog 27 #[.pointer (some ⟨c.g, 0, none⟩), .string s] w (fun e w' => e = .returned (.int .i64 (c.m.sync s).1) ∧ ∃ c' : Cd, c'.g = c.g ∧ c'.m = (c.m.sync s).2 ∧ Step w w' (c.asn b0) (c'.asn b0)) := by
  unfold Dm.sync
  by_cases h : c.m.finds true s = 0
  · rw [if_neg (by simp [h])]
    obtain ⟨x, A, n, cap, hx, hat, hn, hn1, hm, hu, hk64, hw⟩ := Cd.found hk h
    have hf := finds_ok c true s w (Cd.blk hS) hk.now.len hs h
    have key : ∀ w', Below w.heap.size w w' → (w'.cell? ⟨c.g, 1 + idx c.now s * 2 + 1, none⟩ = some (.pointer (some ⟨x.r, 0, none⟩)) ∧ w'.cell? ⟨x.r, 0, none⟩ = some (.slice A n cap) ∧ w'.cell? ⟨x.r, 1, none⟩ = some (.int .i64 x.mark) ∧ w'.frozen? ⟨x.r, 1, none⟩ = false) ∧ (x.asn b0).holds w' := by
      intro w' hb
      have hS' := hS.below hb (fun _ hk => hS.lt hk)
      obtain ⟨_, _, h1, h2, h3, _, _, _, h4, _⟩ := hw w' b0 hS'
      exact ⟨⟨h1, h2, h3, h4 1⟩, hS'.1 _ (by unfold Cd.asn; exact List.mem_cons_of_mem _ (List.mem_map.2 ⟨x, List.mem_of_getElem? hx, rfl⟩))⟩
    have fin : ∀ w1 w2, Below w.heap.size w w1 → Step w1 w2 [x.asn b0] [({ x with mark := x.bs.length } : RowC).asn b0] → ∃ c' : Cd, c'.g = c.g ∧ c'.m = { c.m with rows := c.m.rows.set (c.m.file (idx c.m.now s)) ((c.m.at s).1, (c.m.at s).1.length) } ∧ Step w w2 (c.asn b0) (c'.asn b0) := by
      intro w1 w2 hb hst
      refine ⟨{ c with rows := c.rows.set (c.m.file (idx c.now s)) { x with mark := x.bs.length } }, rfl, ?_, Step.after hS hb (Cd.step_row hx rfl hst (hS.below hb (fun _ hk => hS.lt hk)))⟩
      rw [Cd.m_set, hat]; rfl
    have HF := Lib.hid hf; have HK := Lib.hid key; have HN := Lib.hid hn; have HFIN := Lib.hid fin
    clear hf key hw hn hx hat h hS hk fin
    go_enter Tryd.func27, Tryd.ntmps27
    go_wp2_with fail
    refine HF.out.mono ?_
    rintro e w1 ⟨rfl, hb⟩
    obtain ⟨⟨k1, k2, k3, k4⟩, k5⟩ := HK.out w1 hb
    have hst := RowC.turn k5 x.bs.length
    rw [← HN.out] at hst
    have HST := Lib.hid hst
    have HK5 := Lib.hid k5
    clear hst k5
    go_wp2
    go_region
    all_goals
      go_wp2
      go_ret
      refine ⟨rfl, ?_⟩
      have h9 := HST.out.drw
      rw [HN.out] at h9
      rw [HN.out]
      exact HFIN.out w1 _ hb h9
  · rw [if_pos h]
    have hf := finds_err c true s _ w (Cd.blk hS) hk.now.len hs rfl h
    generalize c.m.finds true s = E at hf h
    have HF := Lib.hid hf; have HS := Lib.hid hS
    clear hf hk hS
    have hE1 : (E == 0) = false := by simpa using h
    clear h
    go_enter Tryd.func27, Tryd.ntmps27
    go_wp2_with fail
    refine HF.out.mono ?_
    rintro e w1 ⟨rfl, hb⟩
    go_wp2
    go_ret
    exact ⟨rfl, c, rfl, rfl, HS.out.below hb (fun _ hk => HS.out.lt hk), Mods.of_below hb _, fun _ hk => .inl hk⟩
end Go.Proofs.YtgibdecgmageeaaDoor
