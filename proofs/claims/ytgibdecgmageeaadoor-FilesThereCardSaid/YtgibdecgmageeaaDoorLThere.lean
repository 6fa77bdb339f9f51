/- FilesThere walked. -/
import Derived.Test.YtgibdecgmageeaaDoorThere
import Derived.Deep.RegionHeld3
namespace Go.Proofs.YtgibdecgmageeaaDoor
open Go.RowKit

set_option maxRecDepth 100000 in
set_option maxHeartbeats 4000000 in
theorem FilesThere_all (l : List Ac) (A : Option Addr) (n cap : Nat) (a b : ByteArray) (k : Int) (w : World) (hn : n = l.length) (hl : n ≤ 140737488351232) (ha : a.size ≤ 140737488351232) (hb : b.size ≤ 140737488351232) (hk0 : 0 ≤ k) (hk1 : k < 256) (h : Acts w w.heap.size A l) :
    Calls Tryd.prog 11 #[.slice A n cap, .agg #[.string a, .string b], .int .u8 k] w (fun e w' => e = .returned (.bool true) ∧ Below w.heap.size w w') := by
  obtain ⟨m, hm⟩ : ∃ m, m = doneDm l := ⟨_, rfl⟩
  have hz : m.size = 2000000 := by rw [hm]; exact doneDm_size l
  have Z := Lib.hid hz
  have HM := Lib.hid hm
  have HN := Lib.hid hn
  have hbA := (Below.refl w.heap.size w).alloc (Nat.le_refl _) (.cells #[.string a, .string b] 83)
  have hB := Blk.lit w 83 _ rfl #[.string a, .string b] _ rfl
  have HA0 := h.below (B1 := w.heap.size + 1) hbA (Nat.le_succ _)
  have hcf : ∀ W, Below (w.heap.size + 1) (w.alloc (.cells #[.string a, .string b] 83)) W → W.cell? ⟨w.heap.size, 0, none⟩ = some (.string a) ∧ W.cell? ⟨w.heap.size, 1, none⟩ = some (.string b) := fun W hW => by
    have h := hB.below hW (by simp)
    exact ⟨by rw [h.cell]; rfl, by rw [h.cell]; rfl⟩
  have HC := Lib.hid hcf
  have d0 : Disks (w.heap.size + 1) (w.alloc (.cells #[.string a, .string b] 83)) [] [] := Disks.none_ (Sep.nil _) (by simp)
  have HG1 : w.heap.size ≤ w.heap.size + 1 := Nat.le_succ _
  have hg0 : w.heap.size + 1 ≤ (w.alloc (.cells #[.string a, .string b] 83)).heap.size := by simp
  clear hcf hB hm hz hn h
  go_enter Tryd.func11, Tryd.ntmps11
  go_upto_region 1 with fail
  generalize hg1 : w.heap.size + 1 = g1 at *
  generalize hgx : w.heap.size = gx at HC ⊢
  generalize w.alloc (.cells #[.string a, .string b] 83) = w0 at *
  clear hg1
  have HA := Lib.hid HA0
  have H := Lib.hid (done_at l A n cap g1 [] [] w0 HN.out hl HA0 d0)
  clear d0 HA0
  go_wp2_with fail
  (with_reducible refine H.out.mono ?_)
  rintro e w1 ⟨he, b1⟩
  clear H
  have s1 := Nat.le_trans hg0 b1.size
  rcases he with rfl | ⟨gc, rfl, d1⟩
  · have H := Lib.hid (done_at l A n cap g1 [] [] w1 HN.out hl (HA.out.below b1 (Nat.le_refl _)) (Disks.none_ (Sep.nil w1) s1))
    go_wp2_with fail
    (with_reducible refine H.out.mono ?_)
    rintro e w2 ⟨he, b2⟩
    have B2 := hbA.trans ((b1.trans b2).mono (hgx ▸ HG1))
    clear H b1 b2
    rcases he with rfl | ⟨gd, rfl, _⟩
    all_goals
      go_wp2_with fail
      (with_reducible refine (alive17 _).mono ?_)
      rintro e w3 ⟨rfl, b3⟩
      go_wp2
      go_ret
      exact ⟨rfl, B2.trans (b3.mono B2.size)⟩
  · have H := Lib.hid (done_at l A n cap g1 [(gc, doneDm l)] [] w1 HN.out hl (HA.out.below b1 (Nat.le_refl _)) d1)
    clear d1
    go_wp2_with fail
    (with_reducible refine H.out.mono ?_)
    rintro e w2 ⟨he, b2⟩
    have B2 := b1.trans b2
    clear H b1 b2
    rcases he with rfl | ⟨gd, rfl, d2⟩
    · go_wp2_with fail
      (with_reducible refine (alive17 _).mono ?_)
      rintro e w3 ⟨rfl, b3⟩
      have B3 := hbA.trans ((B2.trans (b3.mono (Nat.le_trans hg0 B2.size))).mono (hgx ▸ HG1))
      go_wp2
      go_ret
      exact ⟨rfl, B3⟩
    · rw [← HM.out] at d2
      have hok := d2.ok
      have D2 := Lib.hid d2
      clear d2 HA HM HN
      go_wp2_with fail
      (with_reducible refine (alive17 _).mono ?_)
      rintro e w3 ⟨rfl, b3⟩
      have D3 := Lib.hid (D2.out.below b3).swap
      have B3 := B2.trans (b3.mono (Disks.size D2.out))
      clear D2 B2 b3
      obtain ⟨z, f, hzf⟩ : ∃ z f, m.sizeOf b = (z, f) := ⟨_, _, rfl⟩
      have hwas : m.finds true b = f := by rw [← Dm.sizeOf_err, hzf]
      obtain ⟨er, m1, e1⟩ : ∃ er m1, m.rename a b = (er, m1) := ⟨_, _, rfl⟩
      have H := Lib.hid (Size_at (s := b) D3.out (by omega))
      rw [hzf] at H
      have WAS := Lib.hid hwas
      have E1 := Lib.hid e1
      have OK := Lib.hid hok
      obtain ⟨c0, c1⟩ := HC.out w3 B3
      clear hzf hwas e1 hok
      go_wp2_with fail
      (with_reducible refine H.out.mono ?_)
      rintro e w4 ⟨rfl, b4⟩
      have D4 := Lib.hid (D3.out.below b4).swap
      have B4 := B3.trans (b4.mono (Disks.size D3.out))
      clear H D3 B3 b4 c0 c1
      obtain ⟨c0, c1⟩ := HC.out w4 B4
      have H := Lib.hid (Rename_at D4.out (by omega) (by omega) E1.out)
      go_wp2_with fail
      (with_reducible refine H.out.mono ?_)
      rintro e w5 ⟨rfl, d5, b5⟩
      have D5 := Lib.hid d5
      have B5 := B4.trans b5
      clear H d5 b5 B4 D4 c0 c1
      by_cases her : er = 0
      · subst her
        obtain ⟨c0, c1⟩ := HC.out w5 B5
        by_cases hw : a = b ∨ f ≠ 0
        · have H := Lib.hid (Rename_at D5.out (by omega) (by omega) (Dm.back_free OK.out E1.out (by rw [WAS.out]; exact hw)))
          have HW := Lib.hid hw
          clear hw
          go_wp2_with fail
          (with_reducible refine H.out.mono ?_)
          rintro e w6 ⟨rfl, d6, b6⟩
          have D6 := Lib.hid d6
          have B6 := B5.trans b6
          clear H d6 b6 B5 D5 c0 c1
          obtain ⟨c0, c1⟩ := HC.out w6 B6
          by_cases hff : f = 0
          · have hab : a = b := by rcases HW.out with h | h; exact h; exact absurd hff h
            subst hff
            subst hab
            go_wp2_with fail
            have H := Lib.hid (alike_yes D6.out.swap (Alike.refl _))
            (with_reducible refine H.out.mono ?_)
            rintro e w20 ⟨rfl, b20⟩
            have D20 := Lib.hid (D6.out.below b20)
            have B20 := B6.trans (b20.mono (Disks.size D6.out))
            clear H b20 D6 B6
            have H := Lib.hid (fail_yes (keep := k) D20.out.swap (by have := Z.out; omega) (by have := Z.out; omega) hk0 (by omega) (fun _ => Alike.refl _))
            go_wp2_with fail
            (with_reducible refine H.out.mono ?_)
            rintro e w21 ⟨rfl, b21⟩
            have B21 := hbA.trans ((B20.trans (b21.mono (Disks.size D20.out))).mono (hgx ▸ HG1))
            clear H b21 B20 D20
            go_wp2
            go_ret
            exact ⟨rfl, B21⟩
          · have hfb : (f == 0) = false := by simpa using hff
            go_wp2_with fail
            have H := Lib.hid (alike_yes D6.out.swap (Alike.refl _))
            (with_reducible refine H.out.mono ?_)
            rintro e w20 ⟨rfl, b20⟩
            have D20 := Lib.hid (D6.out.below b20)
            have B20 := B6.trans (b20.mono (Disks.size D6.out))
            clear H b20 D6 B6
            have H := Lib.hid (fail_yes (keep := k) D20.out.swap (by have := Z.out; omega) (by have := Z.out; omega) hk0 (by omega) (fun _ => Alike.refl _))
            go_wp2_with fail
            (with_reducible refine H.out.mono ?_)
            rintro e w21 ⟨rfl, b21⟩
            have B21 := hbA.trans ((B20.trans (b21.mono (Disks.size D20.out))).mono (hgx ▸ HG1))
            clear H b21 B20 D20
            go_wp2
            go_ret
            exact ⟨rfl, B21⟩
        · have hab : a ≠ b := fun h => hw (.inl h)
          have hf0 : f = 0 := Classical.byContradiction fun h => hw (.inr h)
          subst hf0
          obtain ⟨m2, N1, e2, f2, n1, n2, al⟩ := Dm.back_took OK.out E1.out hab WAS.out
          have hbe : (a.toList == b.toList) = false := by rw [string_eq_dec]; exact decide_eq_false hab
          have H := Lib.hid (Rename_at D5.out (by omega) (by omega) e2)
          have F2 := Lib.hid ((Dm.sizeOf_err m2 b).trans f2)
          have N1' := Lib.hid n1
          have N2' := Lib.hid n2
          have AL := Lib.hid al
          have HAB := Lib.hid hab
          clear hw hab e2 f2 n1 n2 al
          go_wp2_with fail
          (with_reducible refine H.out.mono ?_)
          rintro e w6 ⟨rfl, d6, b6⟩
          have D6 := Lib.hid d6
          have B6 := B5.trans b6
          clear H d6 b6 B5 D5 c0 c1
          obtain ⟨c0, c1⟩ := HC.out w6 B6
          obtain ⟨z2, hz2⟩ : ∃ z2, m2.sizeOf b = (z2, 7) := ⟨_, Prod.ext rfl F2.out⟩
          have H := Lib.hid (Size_at (s := b) D6.out (by omega))
          rw [hz2] at H
          clear hz2
          go_wp2_with fail
          (with_reducible refine H.out.mono ?_)
          rintro e w7 ⟨rfl, b7⟩
          have D7 := Lib.hid (D6.out.below b7)
          have B7 := B6.trans (b7.mono (Disks.size D6.out))
          clear H D6 B6 b7 c0 c1
          obtain ⟨M1, hM1⟩ : ∃ M1, M1 = N1 + 1 := ⟨_, rfl⟩
          obtain ⟨S1, hS1⟩ : ∃ S1, S1 = strOfNums (m.all a) := ⟨_, rfl⟩
          have hlen := Dm.list_len D7.out.ok
          rw [N2'.out] at hlen
          have HLd : Hid (∀ W, Below w7.heap.size w7 W → Calls Tryd.prog 38 #[.pointer (some ⟨gd, 0, none⟩)] W (fun e w' => ∃ X, e = .returned (.slice X N1 N1) ∧ Below w7.heap.size w7 w')) := fun W h7 => by
            refine (List_at (D7.out.below h7)).mono ?_
            rintro e w' ⟨X, rfl, _, hb'⟩
            exact ⟨X, by rw [N2'.out], h7.trans (hb'.mono h7.size)⟩
          have HLc : Hid (∀ W, Below w7.heap.size w7 W → Calls Tryd.prog 38 #[.pointer (some ⟨gc, 0, none⟩)] W (fun e w' => ∃ X, e = .returned (.slice X M1 M1) ∧ Below w7.heap.size w7 w')) := fun W h7 => by
            refine (List_at (D7.out.below h7).swap).mono ?_
            rintro e w' ⟨X, rfl, _, hb'⟩
            exact ⟨X, by rw [N1'.out, hM1], h7.trans (hb'.mono h7.size)⟩
          have HAd : Hid (∀ W, Below w7.heap.size w7 W → Calls Tryd.prog 42 #[.pointer (some ⟨gd, 0, none⟩), .string a] W (fun e w' => e = .returned (.string S1) ∧ Below w7.heap.size w7 w')) := fun W h7 => by
            refine (All_at (s := a) (D7.out.below h7) (by omega)).mono ?_
            rintro e w' ⟨rfl, hb'⟩
            exact ⟨by rw [AL.out, hS1], h7.trans (hb'.mono h7.size)⟩
          have HAc : Hid (∀ W, Below w7.heap.size w7 W → Calls Tryd.prog 42 #[.pointer (some ⟨gc, 0, none⟩), .string a] W (fun e w' => e = .returned (.string S1) ∧ Below w7.heap.size w7 w')) := fun W h7 => by
            refine (All_at (s := a) (D7.out.below h7).swap (by omega)).mono ?_
            rintro e w' ⟨rfl, hb'⟩
            exact ⟨by rw [hS1], h7.trans (hb'.mono h7.size)⟩
          have HCW : Hid (∀ W, Below w7.heap.size w7 W → W.cell? ⟨gx, 0, none⟩ = some (.string a)) := fun W h7 => (HC.out W (B7.trans (h7.mono (Disks.size D7.out)))).1
          have hsub : IntKind.i64.wrap ((M1 : Int) - 1) = N1 := by rw [IntKind.wrap_i64]; omega
          have hsz7 := Disks.size D7.out
          have hM1b : M1 ≤ 65 := by omega
          clear hM1 hS1 D7 N1' N2' AL F2
          go_wp2_with fail
          have Bd := (Below.refl w7.heap.size w7).drew
          go_region_held (fun W => W.cell? ⟨gx, 0, none⟩ = some (.string a)) (first | exact HCW.out _ (by assumption)) (first
            | (go_at_call 38; (first | (with_reducible refine (HLd.out _ (by assumption)).mono ?_) | (with_reducible refine (HLc.out _ (by assumption)).mono ?_)); rintro e wL ⟨XL, rfl, bL⟩)
            | (go_at_call 42; (first | (with_reducible refine (HAd.out _ (by assumption)).mono ?_) | (with_reducible refine (HAc.out _ (by assumption)).mono ?_)); rintro e wL ⟨rfl, bL⟩))
          go_wp2
          go_ret
          refine ⟨rfl, hbA.trans ((B7.trans (Below.mono (B := w7.heap.size) ?_ hsz7)).mono (hgx ▸ HG1))⟩
          assumption
      · have heb : (er == 0) = false := by simpa using her
        have hm1 := Dm.rename_err E1.out her
        rw [hm1] at D5
        clear hm1
        go_wp2_with fail
        have H := Lib.hid (alike_yes D5.out.swap (Alike.refl _))
        (with_reducible refine H.out.mono ?_)
        rintro e w20 ⟨rfl, b20⟩
        have D20 := Lib.hid (D5.out.below b20)
        have B20 := B5.trans (b20.mono (Disks.size D5.out))
        clear H b20 D5 B5
        have H := Lib.hid (fail_yes (keep := k) D20.out.swap (by have := Z.out; omega) (by have := Z.out; omega) hk0 (by omega) (fun _ => Alike.refl _))
        go_wp2_with fail
        (with_reducible refine H.out.mono ?_)
        rintro e w21 ⟨rfl, b21⟩
        have B21 := hbA.trans ((B20.trans (b21.mono (Disks.size D20.out))).mono (hgx ▸ HG1))
        clear H b21 B20 D20
        go_wp2
        go_ret
        exact ⟨rfl, B21⟩
end Go.Proofs.YtgibdecgmageeaaDoor
