/- Append walked. -/
import Derived.Test.YtgibdecgmageeaaDoorDisk9
namespace Go.Proofs.YtgibdecgmageeaaDoor
open Go.RowKit

theorem RowC.app {w w' : World} {b0 : Nat} {x : RowC} (h : (x.asn b0).holds w) {v' : Value} {bs : List Int} (hm : Mods (fun k => x.v.ownBlock = some k) w w') (ho : Own w' b0 5 1 v' (x.bs ++ bs).length (U8 (x.bs ++ bs)))
    (hv : ∀ k, v'.ownBlock = some k → x.v.ownBlock = some k ∨ w.heap.size ≤ k) : Step w (w'.setCell ⟨x.r, 0, none⟩ v') [x.asn b0] [({ x with v := v', bs := x.bs ++ bs } : RowC).asn b0] := by
  have hne : v'.ownBlock ≠ some x.r := fun e => by
    rcases hv _ e with h1 | h1
    · exact h.2.2.1 h1
    · have := h.1.lt; omega
  have hB : Blk w' x.r 101 x.cells := h.1.mods hm h.2.2.1
  refine ⟨Sep.one.2 ⟨?_, ?_, hne, h.2.2.2⟩, ?_, fun k hk => ?_⟩
  · have := hB.set 0 v'; exact this
  · exact ho.mods (Mods.setCell (S := (· = x.r)) w' ⟨x.r, 0, none⟩ _ rfl) (fun g hg e => hne (by rw [hg, e]))
  · have m1 : Mods (foots [x.asn b0]) w w' := hm.mono (fun k _ hk => foots_cons.2 (Or.inl (Or.inr hk)))
    exact m1.putc (p := ⟨x.r, 0, none⟩) (Or.inl (foots_cons.2 (Or.inl (Or.inl rfl)))) _
  · rcases foots_cons.1 hk with h1 | h1
    · rcases h1 with h1 | h1
      · exact .inl (foots_cons.2 (.inl (.inl h1)))
      · exact (hv k h1).imp (fun h2 => foots_cons.2 (.inl (.inr h2))) id
    · exact absurd h1 foots_nil

set_option maxRecDepth 100000 in
set_option maxHeartbeats 2000000 in
theorem Append_any (c : Cd) (b0 : Nat) (s : ByteArray) (bs : List Int) (B : Option Addr) (m cb : Nat) (w : World) (hS : Sep w (c.asn b0)) (hk : c.m.ok) (hs : s.size ≤ 9223372036854775807) (hm : m = bs.length) (hml : m ≤ 140737488351232)
    (hr : Rd w w.heap.size B (U8 bs)) (hb0 : b0 ≤ w.heap.size) :
    Calls Tryd.prog 33 #[.pointer (some ⟨c.g, 0, none⟩), .string s, .slice B m cb] w (fun e w' => e = .returned (.int .i64 (c.m.append s bs).1) ∧ ∃ c' : Cd, c'.g = c.g ∧ c'.m = (c.m.append s bs).2 ∧ Step w w' (c.asn b0) (c'.asn b0)) := by
  have hS' : ∀ w', Below w.heap.size w w' → Sep w' (c.asn b0) := fun w' hb => hS.below hb (fun _ hk => hS.lt hk)
  have HSTAY : Hid (∀ w', Below w.heap.size w w' → ∃ c' : Cd, c'.g = c.g ∧ c'.m = c.m ∧ Step w w' (c.asn b0) (c'.asn b0)) := fun w' hb => ⟨c, rfl, rfl, hS' w' hb, Mods.of_below hb _, fun _ hk => .inl hk⟩
  unfold Dm.append
  by_cases h : c.m.finds true s = 0
  · rw [if_neg (by simp [h])]
    obtain ⟨x, A, n, cap, hx, hat, hn, hn1, hmk, hu, hk64, hw⟩ := Cd.found hk h
    have hf := finds_ok c true s w (Cd.blk hS) hk.now.len hs h
    have hv := (hw w b0 hS).1
    have hmem : x.asn b0 ∈ c.asn b0 := by unfold Cd.asn; exact List.mem_cons_of_mem _ (List.mem_map.2 ⟨x, List.mem_of_getElem? hx, rfl⟩)
    have key : ∀ w', Below w.heap.size w w' → w'.cell? ⟨c.g, 1 + idx c.now s * 2 + 1, none⟩ = some (.pointer (some ⟨x.r, 0, none⟩)) ∧ w'.cell? ⟨x.r, 0, none⟩ = some (.slice A n cap) := by
      intro w' hb
      obtain ⟨_, _, h1, h2, _⟩ := hw w' b0 (hS' w' hb)
      exact ⟨h1, h2⟩
    have hleft : ∀ w', Below w.heap.size w w' → Calls Tryd.prog 20 #[.pointer (some ⟨c.g, 0, none⟩)] w' (fun e w'' => e = .returned (.int .i64 c.m.left) ∧ Below w'.heap.size w' w'') := fun w' hb => Left_any c b0 w' (hS' w' hb) hk
    have hlb : c.m.left ≤ 8388608 ∧ 0 ≤ c.m.left := by
      have := Dm.leftUp_bounds hk c.m.now (by rw [hk.now.len]; omega)
      rw [Dm.left_eq]; omega
    obtain ⟨hlb1, hlb0⟩ := hlb
    rw [hat]
    by_cases h1 : (bs.length : Int) ≤ c.m.left
    · by_cases h2 : x.bs.length + bs.length ≤ 1048576
      · rw [if_pos ⟨h1, h2⟩]
        obtain ⟨i0, hi, hz0, hz1, hz2⟩ := info_parts Tryd.infoByte
        have own : ∀ w', Below w.heap.size w w' → Own w' b0 5 1 (.slice A n cap) n (U8 x.bs) := fun w' hb => by
          have ha : (x.asn b0).holds w' := (hS' w' hb).1 _ hmem
          have := ha.2.1
          rw [hv, ← hn] at this; exact this
        have after : ∀ w1 v' w2, Below w.heap.size w w1 → Own w2 b0 5 1 v' (n + m) (U8 x.bs ++ U8 bs) → Mods (fun k => (Value.slice A n cap).ownBlock = some k) w1 w2 → (∀ k, v'.ownBlock = some k → (Value.slice A n cap).ownBlock = some k ∨ w1.heap.size ≤ k) →
            (w2.cell? ⟨x.r, 0, none⟩ = some (.slice A n cap) ∧ w2.frozen? ⟨x.r, 0, none⟩ = false) ∧ ∃ c' : Cd, c'.g = c.g ∧ c'.m = { c.m with rows := c.m.rows.set (c.m.file (idx c.m.now s)) (x.bs ++ bs, x.mark) } ∧ Step w (w2.setCell ⟨x.r, 0, none⟩ v') (c.asn b0) (c'.asn b0) := by
          intro w1 v' w2 hb ho hmo hg
          have ha : (x.asn b0).holds w1 := (hS' w1 hb).1 _ hmem
          rw [← hv] at hmo hg
          have hB : Blk w2 x.r 101 x.cells := ha.1.mods hmo ha.2.2.1
          have ho' : Own w2 b0 5 1 v' (x.bs ++ bs).length (U8 (x.bs ++ bs)) := by rw [U8_append, List.length_append, ← hn, ← hm]; exact ho
          refine ⟨⟨by rw [hB.cell, ← hv]; rfl, hB.free 0⟩, { c with rows := c.rows.set (c.m.file (idx c.now s)) { x with v := v', bs := x.bs ++ bs } }, rfl, ?_, Step.after hS hb (Cd.step_row hx rfl (RowC.app ha hmo ho' hg) (hS' w1 hb))⟩
          rw [Cd.m_set]; rfl
        have HF := Lib.hid hf; have HK := Lib.hid key; have HL := Lib.hid hleft; have HO := Lib.hid own; have HA := Lib.hid after
        have hrr : ∀ w', Below w.heap.size w w' → Rd w' w.heap.size B (U8 bs) := fun w' hb => hr.below hb (Nat.le_refl _)
        have HR := Lib.hid hrr
        have HM := Lib.hid hm
        have hmI : (m : Int) ≤ c.m.left := by rw [hm]; exact h1
        have hnm : (n : Int) + m ≤ 1048576 := by omega
        have hnmN : n + m ≤ 1048576 := by omega
        clear hf key hw hx hat h hS hS' hk hleft own after hrr hr hm hv hmem hn hu h1 h2 HSTAY
        go_enter Tryd.func33, Tryd.ntmps33
        go_wp2_with fail
        (with_reducible refine HF.out.mono ?_)
        rintro e w1 ⟨rfl, hb⟩
        obtain ⟨k1, k2⟩ := HK.out w1 hb
        go_wp2_with fail
        (with_reducible refine (HL.out w1 hb).mono ?_)
        rintro e w2 ⟨rfl, hb2⟩
        have hb2' := hb.trans (hb2.mono hb.size)
        clear k1 k2 hb hb2
        obtain ⟨k1, k2⟩ := HK.out w2 hb2'
        have hbb : b0 ≤ w2.heap.size := Nat.le_trans hb0 hb2'.size
        go_wp2_with (at_builtin; refine wpList_append_Own rfl (.tmp 43) (.tmp 44) 37 rfl i0 (.int .u8 0) 1 Tryd.underlying37 hi hz0 hz1 hz2 rfl (by decide) rfl (HO.out w2 hb2') w.heap.size B m cb rfl (U8 bs) (by rw [HM.out]; simp) (HR.out w2 hb2') (oneCell_U8 _) (by omega) (by omega) hbb ?_; intro v' w3 ho _ hmo hg _; obtain ⟨⟨k3, k4⟩, k5⟩ := HA.out w2 v' w3 hb2' ho hmo hg; have K5 := Lib.hid k5; clear k5 k1 k2 hmo hg; obtain ⟨V, vc, rfl, _⟩ := ho.shape; clear ho)
        go_ret
        exact ⟨rfl, K5.out⟩
      · rw [if_neg (fun hh => h2 hh.2)]
        have HF := Lib.hid hf; have HK := Lib.hid key; have HL := Lib.hid hleft
        have hmI : (m : Int) ≤ c.m.left := by rw [hm]; exact h1
        have hnm : 1048576 < (n : Int) + m := by omega
        clear hf key hw hx hat h hS hS' hk hleft hr hm hv hmem hn hu h1 h2
        go_enter Tryd.func33, Tryd.ntmps33
        go_wp2_with fail
        (with_reducible refine HF.out.mono ?_)
        rintro e w1 ⟨rfl, hb⟩
        obtain ⟨k1, k2⟩ := HK.out w1 hb
        go_wp2_with fail
        (with_reducible refine (HL.out w1 hb).mono ?_)
        rintro e w2 ⟨rfl, hb2⟩
        have hb2' := hb.trans (hb2.mono hb.size)
        clear k1 k2 hb hb2
        obtain ⟨k1, k2⟩ := HK.out w2 hb2'
        go_wp2
        go_ret
        exact ⟨rfl, HSTAY.out w2 hb2'⟩
    · rw [if_neg (fun hh => h1 hh.1)]
      have HF := Lib.hid hf; have HK := Lib.hid key; have HL := Lib.hid hleft
      have hmI : c.m.left < (m : Int) := by rw [hm]; omega
      clear hf key hw hx hat h hS hS' hk hleft hr hm hv hmem hn hu h1
      go_enter Tryd.func33, Tryd.ntmps33
      go_wp2_with fail
      (with_reducible refine HF.out.mono ?_)
      rintro e w1 ⟨rfl, hb⟩
      obtain ⟨k1, k2⟩ := HK.out w1 hb
      go_wp2_with fail
      (with_reducible refine (HL.out w1 hb).mono ?_)
      rintro e w2 ⟨rfl, hb2⟩
      have hb2' := hb.trans (hb2.mono hb.size)
      clear k1 k2 hb hb2
      go_wp2
      go_ret
      exact ⟨rfl, HSTAY.out w2 hb2'⟩
  · rw [if_pos h]
    have hf := finds_err c true s _ w (Cd.blk hS) hk.now.len hs rfl h
    generalize c.m.finds true s = E at hf h
    have HF := Lib.hid hf
    clear hf hk hS hS'
    have hE1 : (E != 0) = true := by simpa using h
    clear h
    go_enter Tryd.func33, Tryd.ntmps33
    go_wp2_with fail
    (with_reducible refine HF.out.mono ?_)
    rintro e w1 ⟨rfl, hb⟩
    go_wp2
    go_ret
    exact ⟨rfl, HSTAY.out w1 hb⟩
end Go.Proofs.YtgibdecgmageeaaDoor
