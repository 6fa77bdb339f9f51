/- FilesIdle walked. -/
import Derived.Test.YtgibdecgmageeaaDoorActs
namespace Go.Proofs.YtgibdecgmageeaaDoor
open Go.RowKit

theorem Dm.create_size (m : Dm) (s : ByteArray) : (m.create s).2.size = m.size := by unfold Dm.create; repeat (first | split | rfl)
theorem Dm.remove_size (m : Dm) (s : ByteArray) : (m.remove s).2.size = m.size := by unfold Dm.remove; repeat (first | split | rfl)
theorem Dm.rename_size (m : Dm) (a b : ByteArray) : (m.rename a b).2.size = m.size := by unfold Dm.rename; repeat (first | split | rfl)
theorem Dm.append_size (m : Dm) (s : ByteArray) (b : List Int) : (m.append s b).2.size = m.size := by unfold Dm.append; repeat (first | split | rfl)
theorem Dm.sync_size (m : Dm) (s : ByteArray) : (m.sync s).2.size = m.size := by unfold Dm.sync; repeat (first | split | rfl)
theorem Dm.names_size (m : Dm) : (m.names).2.size = m.size := by unfold Dm.names; repeat (first | split | rfl)
theorem Dm.act_size (m : Dm) (x : Ac) : (m.act x).size = m.size := by
  unfold Dm.act
  split
  · exact Dm.create_size _ _
  · split
    · exact Dm.remove_size _ _
    · split
      · exact Dm.rename_size _ _ _
      · split
        · exact Dm.append_size _ _ _
        · split
          · exact Dm.sync_size _ _
          · exact Dm.names_size _
theorem doneDm_size (l : List Ac) : (doneDm l).size = 2000000 := by
  have : ∀ (l : List Ac) (m : Dm), (l.foldl Dm.act m).size = m.size := by
    intro l
    induction l with
    | nil => intro m; rfl
    | cons x r ih => intro m; rw [List.foldl_cons, ih, Dm.act_size]
  exact this l _
theorem Dm.sync_now (m : Dm) (s : ByteArray) : (m.sync s).2.now = m.now ∧ (m.sync s).2.safe = m.safe := by unfold Dm.sync; split <;> exact ⟨rfl, rfl⟩
theorem Dm.finds_now {m k : Dm} (h1 : m.now = k.now) (h2 : m.size = k.size) (b : Bool) (s : ByteArray) : m.finds b s = k.finds b s := by
  unfold Dm.finds Dm.goes
  rw [h1, h2]
/-- Made sure twice is made sure once. -/
theorem Dm.sync_again (m : Dm) (s : ByteArray) : (m.sync s).2.sync s = ((m.sync s).1, (m.sync s).2) := by
  have hf : (m.sync s).2.finds true s = m.finds true s := Dm.finds_now (Dm.sync_now m s).1 (Dm.sync_size m s) _ _
  by_cases h : m.finds true s ≠ 0
  · have e : m.sync s = (m.finds true s, m) := by unfold Dm.sync; rw [if_pos h]
    rw [e]
    exact e
  · have e : m.sync s = (0, { m with rows := m.rows.set (m.file (idx m.now s)) ((m.at s).1, (m.at s).1.length) }) := by unfold Dm.sync; rw [if_neg h]
    have e2 : ∀ k : Dm, k.finds true s = 0 → k.sync s = (0, { k with rows := k.rows.set (k.file (idx k.now s)) ((k.at s).1, (k.at s).1.length) }) := fun k hk => by unfold Dm.sync; rw [if_neg (by simp [hk])]
    rw [e2 _ (by rw [hf]; simpa using h), e]
    have hrow : ({ m with rows := m.rows.set (m.file (idx m.now s)) ((m.at s).1, (m.at s).1.length) } : Dm).at s = ((m.at s).1, (m.at s).1.length) ∨ m.rows.length ≤ m.file (idx m.now s) := by
      by_cases hl : m.file (idx m.now s) < m.rows.length
      · refine .inl ?_
        show (m.rows.set (m.file (idx m.now s)) ((m.at s).1, (m.at s).1.length)).getD (m.file (idx m.now s)) ([], 0) = _
        simp [List.getD, hl]
      · exact .inr (by omega)
    rcases hrow with hr | hr
    · show ((0 : Int), ({ m with rows := (m.rows.set (m.file (idx m.now s)) ((m.at s).1, (m.at s).1.length)).set (m.file (idx m.now s)) ((({ m with rows := m.rows.set (m.file (idx m.now s)) ((m.at s).1, (m.at s).1.length) } : Dm).at s).1, (({ m with rows := m.rows.set (m.file (idx m.now s)) ((m.at s).1, (m.at s).1.length) } : Dm).at s).1.length) } : Dm)) = _
      rw [hr, List.set_set]
    · have hs : ∀ (f : List Int × Nat), m.rows.set (m.file (idx m.now s)) f = m.rows := fun f => List.set_eq_of_length_le hr
      show ((0 : Int), ({ m with rows := (m.rows.set (m.file (idx m.now s)) ((m.at s).1, (m.at s).1.length)).set (m.file (idx m.now s)) _ } : Dm)) = _
      rw [hs, hs]
theorem Dm.names_again {m : Dm} (h1 : 1 ≤ m.size) (h : m.safe = m.now) : m.names = (0, m) := by
  rw [Dm.names_of h1]
  cases m
  simp only at h
  rw [h]
theorem Dm.sizeOf_err (m : Dm) (s : ByteArray) : (m.sizeOf s).2 = m.finds true s := by
  unfold Dm.sizeOf
  split
  · rfl
  · rename_i h; simp only [ne_eq, Decidable.not_not] at h; exact h.symm
theorem Dm.create_there {m : Dm} {s : ByteArray} (h : m.finds true s = 0) : m.create s = (8, m) := by
  unfold Dm.finds at h
  by_cases hg : m.goes true s ≠ 0
  · rw [if_pos hg] at h; exact absurd h hg
  · rw [if_neg hg] at h
    by_cases hi : idx m.now s < m.now.length
    · unfold Dm.create; rw [if_neg hg, if_pos hi]
    · rw [if_neg hi] at h; cases h
theorem Dm.remove_not {m : Dm} {s : ByteArray} (h : m.finds true s ≠ 0) : m.remove s = (m.finds true s, m) := by unfold Dm.remove; rw [if_pos h]
theorem Dm.append_not {m : Dm} {s : ByteArray} {b : List Int} (h : m.finds true s ≠ 0) : m.append s b = (m.finds true s, m) := by unfold Dm.append; rw [if_pos h]

set_option maxRecDepth 100000 in
set_option maxHeartbeats 4000000 in
theorem FilesIdle_all (l : List Ac) (A : Option Addr) (n cap : Nat) (s : ByteArray) (k : Int) (w : World) (hn : n = l.length) (hl : n ≤ 140737488351232) (hs : s.size ≤ 140737488351232) (hk0 : 0 ≤ k) (hk1 : k < 256) (h : Acts w w.heap.size A l) :
    Calls Tryd.prog 10 #[.slice A n cap, .string s, .int .u8 k] w (fun e w' => e = .returned (.bool true) ∧ Below w.heap.size w w') := by
  have hcv := conv_const
  obtain ⟨m, hm⟩ : ∃ m, m = doneDm l := ⟨_, rfl⟩
  have hz : m.size = 2000000 := by rw [hm]; exact doneDm_size l
  obtain ⟨m1, e1⟩ : ∃ m1, m.names = (0, m1) := ⟨_, Dm.names_of (by omega)⟩
  have hm1 : m1 = { m with safe := m.now } := by
    have := Dm.names_of (m := m) (by omega)
    rw [e1] at this
    exact (Prod.mk.inj this).2
  obtain ⟨r, m2, e2⟩ : ∃ r m2, m1.sync s = (r, m2) := ⟨_, _, rfl⟩
  have hz1 : m1.size = 2000000 := by rw [hm1]; exact hz
  have hz2 : m2.size = 2000000 := by have := Dm.sync_size m1 s; rw [e2] at this; exact this.trans hz1
  have e3 : m2.names = (0, m2) := by
    refine Dm.names_again (by omega) ?_
    have := Dm.sync_now m1 s
    rw [e2] at this
    rw [this.1, this.2, hm1]
  have e4 : m2.sync s = (r, m2) := by
    have := Dm.sync_again m1 s
    rw [e2] at this
    exact this
  have e5 := Dm.sizeOf_err m2 s
  obtain ⟨z, hzz⟩ : ∃ z, (m2.sizeOf s).1 = z := ⟨_, rfl⟩
  obtain ⟨f, hf⟩ : ∃ f, m2.finds true s = f := ⟨_, rfl⟩
  rw [hf] at e5
  have c8 : f = 0 → m2.create s = (8, m2) := fun h0 => Dm.create_there (hf.trans h0)
  have c9 : f ≠ 0 → m2.remove s = (f, m2) := fun h0 => by rw [Dm.remove_not (by rw [hf]; exact h0), hf]
  have c10 : f ≠ 0 → m2.append s [120] = (f, m2) := fun h0 => by rw [Dm.append_not (by rw [hf]; exact h0), hf]
  have HM := Lib.hid hm; have E1 := Lib.hid e1; have E2 := Lib.hid e2; have E3 := Lib.hid e3; have E4 := Lib.hid e4; have E5 := Lib.hid e5; have ZZ := Lib.hid hzz; have C8 := Lib.hid c8; have C9 := Lib.hid c9; have C10 := Lib.hid c10; have Z2 := Lib.hid hz2
  have HA := Lib.hid h
  have HN := Lib.hid hn
  clear hm hz e1 hm1 e2 hz1 hz2 e3 e4 e5 hzz hf c8 c9 c10 h hn
  have d0 : Disks w.heap.size w [] [] := Disks.none_ (Sep.nil w) (Nat.le_refl _)
  have H := Lib.hid (done_at l A n cap w.heap.size [] [] w HN.out hl HA.out d0)
  clear d0
  go_enter Tryd.func10, Tryd.ntmps10
  go_wp2_with fail
  (with_reducible refine H.out.mono ?_)
  rintro e w1 ⟨he, b1⟩
  clear H
  rcases he with rfl | ⟨gc, rfl, d1⟩
  · have H := Lib.hid (done_at l A n cap w.heap.size [] [] w1 HN.out hl (HA.out.below b1 (Nat.le_refl _)) (Disks.none_ (Sep.nil w1) b1.size))
    go_wp2_with fail
    (with_reducible refine H.out.mono ?_)
    rintro e w2 ⟨he, b2⟩
    have B2 := b1.trans b2
    clear H b1 b2
    rcases he with rfl | ⟨gd, rfl, _⟩
    all_goals
      go_wp2_with fail
      (with_reducible refine (alive17 _).mono ?_)
      rintro e w3 ⟨rfl, b3⟩
      go_wp2
      go_ret
      exact ⟨rfl, B2.trans (b3.mono B2.size)⟩
  · have H := Lib.hid (done_at l A n cap w.heap.size [(gc, doneDm l)] [] w1 HN.out hl (HA.out.below b1 (Nat.le_refl _)) d1)
    clear d1
    go_wp2_with fail
    (with_reducible refine H.out.mono ?_)
    rintro e w2 ⟨he, b2⟩
    have B2 := b1.trans b2
    clear H b1 b2
    rcases he with rfl | ⟨gd, rfl, d2⟩
    · go_wp2_with fail
      (with_reducible refine (alive17 _).mono ?_)
      rintro e w3 ⟨rfl, b3⟩
      go_wp2
      go_ret
      exact ⟨rfl, B2.trans (b3.mono B2.size)⟩
    · rw [← HM.out] at d2
      have D2 := Lib.hid d2
      clear d2 HA HM HN
      go_wp2_with fail
      (with_reducible refine (alive17 _).mono ?_)
      rintro e w3 ⟨rfl, b3⟩
      have D3 := Lib.hid (D2.out.below b3).swap
      have B3 := B2.trans (b3.mono B2.size)
      clear D2 B2 b3
      have H := Lib.hid (Names_at D3.out E1.out)
      go_wp2_with fail
      (with_reducible refine H.out.mono ?_)
      rintro e w4 ⟨rfl, d4, b4⟩
      have D4 := Lib.hid d4.swap
      have B4 := B3.trans b4
      clear H d4 b4 B3 D3
      have H := Lib.hid (Names_at D4.out E1.out)
      go_wp2_with fail
      (with_reducible refine H.out.mono ?_)
      rintro e w5 ⟨rfl, d5, b5⟩
      have D5 := Lib.hid d5.swap
      have B5 := B4.trans b5
      clear H d5 b5 B4 D4
      have H := Lib.hid (Sync_at D5.out (by omega) E2.out)
      go_wp2_with fail
      (with_reducible refine H.out.mono ?_)
      rintro e w6 ⟨rfl, d6, b6⟩
      have D6 := Lib.hid d6.swap
      have B6 := B5.trans b6
      clear H d6 b6 B5 D5
      have H := Lib.hid (Sync_at D6.out (by omega) E2.out)
      go_wp2_with fail
      (with_reducible refine H.out.mono ?_)
      rintro e w7 ⟨rfl, d7, b7⟩
      have D7 := Lib.hid d7
      have B7 := B6.trans b7
      clear H d7 b7 B6 D6
      have H := Lib.hid (Names_at D7.out E3.out)
      go_wp2_with fail
      (with_reducible refine H.out.mono ?_)
      rintro e w8 ⟨rfl, d8, b8⟩
      have D8 := Lib.hid d8
      have B8 := B7.trans b8
      clear H d8 b8 B7 D7
      have H := Lib.hid (Sync_at D8.out (by omega) E4.out)
      go_wp2_with fail
      (with_reducible refine H.out.mono ?_)
      rintro e w9 ⟨rfl, d9, b9⟩
      have D9 := Lib.hid d9
      have B9 := B8.trans b9
      clear H d9 b9 B8 D8
      have H := Lib.hid (List_at D9.out)
      go_wp2_with fail
      (with_reducible refine H.out.mono ?_)
      rintro e w10 ⟨A10, rfl, _, b10⟩
      have D10 := Lib.hid (D9.out.below b10)
      have B10 := B9.trans (b10.mono B9.size)
      clear H b10 B9 D9
      have H := Lib.hid (Left_at D10.out)
      go_wp2_with fail
      (with_reducible refine H.out.mono ?_)
      rintro e w11 ⟨rfl, b11⟩
      have D11 := Lib.hid (D10.out.below b11)
      have B11 := B10.trans (b11.mono B10.size)
      clear H b11 B10 D10
      have H := Lib.hid (Size_at (s := s) D11.out (by omega))
      go_wp2_with fail
      (with_reducible refine H.out.mono ?_)
      rintro e w12 ⟨rfl, b12⟩
      have D12 := Lib.hid (D11.out.below b12)
      have B12 := B11.trans (b12.mono B11.size)
      clear H b12 B11 D11
      have H := Lib.hid (Read_at (s := s) (a := 0) (n := 1) D12.out (by omega) (by omega) (by omega) (by omega) (by omega))
      go_wp2_with fail
      (with_reducible refine H.out.mono ?_)
      rintro e w13 ⟨A13, rfl, _, b13⟩
      have D13 := Lib.hid (D12.out.below b13)
      have B13 := B12.trans (b13.mono B12.size)
      clear H b13 B12 D12
      have H := Lib.hid (Fail_at (keep := k) (names := true) D13.out (by have := Z2.out; omega) hk0 (by omega))
      go_wp2_with fail
      (with_reducible refine H.out.mono ?_)
      rintro e w14 ⟨gx, rfl, d14, b14⟩
      have D14 := Lib.hid d14.drop
      have B14 := B13.trans (b14.mono B13.size)
      clear H d14 b14 B13 D13
      have H := Lib.hid (Size_at (s := s) D14.out (by omega))
      rw [E5.out, ZZ.out] at H
      go_wp2_with fail
      (with_reducible refine H.out.mono ?_)
      rintro e w15 ⟨rfl, b15⟩
      have D15 := Lib.hid (D14.out.below b15)
      have B15 := B14.trans (b15.mono B14.size)
      clear H b15 B14 D14
      by_cases hf0 : f = 0
      · subst hf0
        have H := Lib.hid (Create_at D15.out (by omega) (C8.out rfl))
        go_wp2_with fail
        (with_reducible refine H.out.mono ?_)
        rintro e w16 ⟨rfl, d16, b16⟩
        have D16 := Lib.hid d16
        have B16 := B15.trans b16
        clear H d16 b16 B15 D15
        go_wp2_with fail
        have H := Lib.hid (alike_yes D16.out.swap (Alike.refl _))
        (with_reducible refine H.out.mono ?_)
        rintro e w20 ⟨rfl, b20⟩
        have D20 := Lib.hid (D16.out.below b20)
        have B20 := B16.trans (b20.mono B16.size)
        clear H b20 D16 B16
        have H := Lib.hid (fail_yes (keep := k) D20.out.swap (by have := Z2.out; omega) (by have := Z2.out; omega) hk0 (by omega) (fun _ => Alike.refl _))
        go_wp2_with fail
        (with_reducible refine H.out.mono ?_)
        rintro e w21 ⟨rfl, b21⟩
        have B21 := B20.trans (b21.mono B20.size)
        clear H b21 B20 D20
        go_wp2
        go_ret
        exact ⟨rfl, B21⟩
      · have hfb : (f == 0) = false := by simpa using hf0
        have H := Lib.hid (Remove_at D15.out (by omega) (C9.out hf0))
        go_wp2_with fail
        (with_reducible refine H.out.mono ?_)
        rintro e w16 ⟨rfl, d16, b16⟩
        have D16 := Lib.hid d16
        have B16 := B15.trans b16
        clear H d16 b16 B15 D15
        have H := Lib.hid (Append_at (bs := [120]) (n := 1) (cb := 1) (B := some ⟨w16.heap.size, 0, none⟩) (D16.out.alloc (.cells #[.int .u8 120] 5 (1, 2))) (by omega) rfl (by decide) (by intro x hx; simp at hx; omega) (rd_const w16 5 _ _ rfl _) (C10.out hf0))
        have B16' := B16.alloc B16.size (.cells #[.int .u8 120] 5 (1, 2))
        clear D16 B16
        go_wp2_with fail
        (with_reducible refine H.out.mono ?_)
        rintro e w17 ⟨rfl, d17, b17⟩
        have D17 := Lib.hid d17
        have B17 := B16'.trans b17
        clear H d17 b17 B16'
        go_wp2_with fail
        have H := Lib.hid (alike_yes D17.out.swap (Alike.refl _))
        (with_reducible refine H.out.mono ?_)
        rintro e w20 ⟨rfl, b20⟩
        have D20 := Lib.hid (D17.out.below b20)
        have B20 := B17.trans (b20.mono B17.size)
        clear H b20 D17 B17
        have H := Lib.hid (fail_yes (keep := k) D20.out.swap (by have := Z2.out; omega) (by have := Z2.out; omega) hk0 (by omega) (fun _ => Alike.refl _))
        go_wp2_with fail
        (with_reducible refine H.out.mono ?_)
        rintro e w21 ⟨rfl, b21⟩
        have B21 := B20.trans (b21.mono B20.size)
        clear H b21 B20 D20
        go_wp2
        go_ret
        exact ⟨rfl, B21⟩
end Go.Proofs.YtgibdecgmageeaaDoor
