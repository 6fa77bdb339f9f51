/- Disks in memory, told by their models: what each call makes of them. -/
import Derived.Test.YtgibdecgmageeaaDoorVoid
import Derived.Test.YtgibdecgmageeaaDoorDisk20
namespace Go.Proofs.YtgibdecgmageeaaDoor
open Go.RowKit

/-- Disks that lie apart, and apart from R; all of it from b0 on. -/
def Disks (b0 : Nat) (w : World) (L : List (Nat × Dm)) (R : List Asn) : Prop :=
  ∃ cs : List Cd, cs.map (fun c => (c.g, c.m)) = L ∧ (∀ c ∈ cs, c.m.ok ∧ b0 ≤ c.g) ∧ Sep w (cs.flatMap (Cd.asn b0) ++ R) ∧ b0 ≤ w.heap.size

theorem Disks.none_ {b0 : Nat} {w : World} {R : List Asn} (hR : Sep w R) (hb : b0 ≤ w.heap.size) : Disks b0 w [] R := ⟨[], rfl, by simp, hR, hb⟩
theorem Disks.size {b0 : Nat} {w : World} {L : List (Nat × Dm)} {R : List Asn} (h : Disks b0 w L R) : b0 ≤ w.heap.size := by
  obtain ⟨_, _, _, _, h⟩ := h; exact h
theorem Disks.rest {b0 : Nat} {w : World} {L : List (Nat × Dm)} {R : List Asn} (h : Disks b0 w L R) : Sep w R := by
  obtain ⟨_, _, _, h, _⟩ := h; exact (Sep.append.1 h).2.1
theorem Disks.below {b0 : Nat} {w w' : World} {L : List (Nat × Dm)} {R : List Asn} (h : Disks b0 w L R) (hb : Below w.heap.size w w') : Disks b0 w' L R := by
  obtain ⟨cs, h1, h2, h3, h4⟩ := h
  exact ⟨cs, h1, h2, h3.below hb (fun _ hk => h3.lt hk), Nat.le_trans h4 hb.size⟩
theorem Disks.head {b0 g : Nat} {w : World} {m : Dm} {L : List (Nat × Dm)} {R : List Asn} (h : Disks b0 w ((g, m) :: L) R) :
    ∃ (c : Cd) (cs : List Cd), c.g = g ∧ c.m = m ∧ m.ok ∧ b0 ≤ g ∧ b0 ≤ w.heap.size ∧ Sep w (c.asn b0 ++ (cs.flatMap (Cd.asn b0) ++ R)) ∧ Sep w (c.asn b0) ∧ cs.map (fun c => (c.g, c.m)) = L ∧ (∀ c ∈ cs, c.m.ok ∧ b0 ≤ c.g) := by
  obtain ⟨cs, h1, h2, h3, h4⟩ := h
  cases cs with
  | nil => cases h1
  | cons c cs =>
    simp only [List.map_cons, List.cons.injEq, Prod.mk.injEq] at h1
    obtain ⟨⟨hg, hm⟩, hL⟩ := h1
    rw [List.flatMap_cons, List.append_assoc] at h3
    obtain ⟨k1, k2⟩ := h2 c (by simp)
    exact ⟨c, cs, hg, hm, by rw [← hm]; exact k1, by rw [← hg]; exact k2, h4, h3, (Sep.append.1 h3).1, hL, fun c hc => h2 c (by simp [hc])⟩
theorem Disks.ok {b0 g : Nat} {w : World} {m : Dm} {L : List (Nat × Dm)} {R : List Asn} (h : Disks b0 w ((g, m) :: L) R) : m.ok := by
  obtain ⟨_, _, _, _, h, _⟩ := h.head; exact h
theorem Disks.perm {b0 : Nat} {w : World} {L L' : List (Nat × Dm)} {R : List Asn} (h : Disks b0 w L R) (hp : L.Perm L') : Disks b0 w L' R := by
  obtain ⟨cs, h1, h2, h3, h4⟩ := h
  subst h1
  have : ∀ {L L' : List (Nat × Dm)}, L.Perm L' → ∀ cs : List Cd, cs.map (fun c => (c.g, c.m)) = L → ∃ cs' : List Cd, cs.Perm cs' ∧ cs'.map (fun c => (c.g, c.m)) = L' := by
    intro L L' hp
    induction hp with
    | nil => intro cs h; exact ⟨cs, List.Perm.refl _, h⟩
    | cons x _ ih =>
      intro cs h
      cases cs with
      | nil => cases h
      | cons c cs =>
        simp only [List.map_cons, List.cons.injEq] at h
        obtain ⟨cs', k1, k2⟩ := ih cs h.2
        exact ⟨c :: cs', k1.cons c, by simp [h.1, k2]⟩
    | swap x y l =>
      intro cs h
      match cs, h with
      | c :: d :: cs, h =>
        simp only [List.map_cons, List.cons.injEq] at h
        exact ⟨d :: c :: cs, List.Perm.swap _ _ _, by simp [h.1, h.2.1, h.2.2]⟩
    | trans _ _ ih1 ih2 =>
      intro cs h
      obtain ⟨c1, p1, e1⟩ := ih1 cs h
      obtain ⟨c2, p2, e2⟩ := ih2 c1 e1
      exact ⟨c2, p1.trans p2, e2⟩
  obtain ⟨cs', p, e⟩ := this hp cs rfl
  exact ⟨cs', e, fun c hc => h2 c (p.mem_iff.2 hc), h3.perm (List.Perm.append_right _ (p.flatMap_right _)), h4⟩
theorem Disks.swap {b0 : Nat} {w : World} {a b : Nat × Dm} {L : List (Nat × Dm)} {R : List Asn} (h : Disks b0 w (a :: b :: L) R) : Disks b0 w (b :: a :: L) R := h.perm (List.Perm.swap _ _ _)
theorem Disks.drop {b0 : Nat} {w : World} {a : Nat × Dm} {L : List (Nat × Dm)} {R : List Asn} (h : Disks b0 w (a :: L) R) : Disks b0 w L R := by
  obtain ⟨c, cs, _, _, _, _, h4, h3, _, hL, h2⟩ := h.head
  exact ⟨cs, hL, h2, (Sep.append.1 h3).2.1, h4⟩
/-- A call on the first disk. -/
theorem Disks.step {b0 g : Nat} {w w' : World} {m' : Dm} {L : List (Nat × Dm)} {R : List Asn} {c c' : Cd} {cs : List Cd} (hg : c.g = g) (hbg : b0 ≤ g) (hb : b0 ≤ w.heap.size) (hS : Sep w (c.asn b0 ++ (cs.flatMap (Cd.asn b0) ++ R)))
    (hL : cs.map (fun c => (c.g, c.m)) = L) (h2 : ∀ c ∈ cs, c.m.ok ∧ b0 ≤ c.g) (hg' : c'.g = c.g) (hm' : c'.m = m') (hok : m'.ok) (hst : Step w w' (c.asn b0) (c'.asn b0)) : Disks b0 w' ((g, m') :: L) R ∧ Below b0 w w' := by
  refine ⟨⟨c' :: cs, by simp [hg', hg, hm', hL], ?_, ?_, Nat.le_trans hb hst.mods.size⟩, hst.below hb (Cd.base (Sep.append.1 hS).1 (by rw [hg]; exact hbg))⟩
  · intro d hd
    rcases List.mem_cons.1 hd with rfl | hd
    · exact ⟨by rw [hm']; exact hok, by rw [hg', hg]; exact hbg⟩
    · exact h2 d hd
  · rw [List.flatMap_cons, List.append_assoc]
    exact hst.rest hS

section
variable {b0 g : Nat} {w : World} {m m' : Dm} {L : List (Nat × Dm)} {R : List Asn} {r : Int} {s : ByteArray}

theorem Create_at (h : Disks b0 w ((g, m) :: L) R) (hs : s.size ≤ 9223372036854775807) (hr : m.create s = (r, m')) :
    Calls Tryd.prog 32 #[.pointer (some ⟨g, 0, none⟩), .string s] w (fun e w' => e = .returned (.int .i64 r) ∧ Disks b0 w' ((g, m') :: L) R ∧ Below b0 w w') := by
  obtain ⟨c, cs, rfl, rfl, hk, hbg, hb, hS, hS1, hL, h2⟩ := h.head
  refine (Create_any c b0 s w hS1 hk hs hb).mono ?_
  rintro e w' ⟨rfl, c', hg', hm', hst⟩
  have hok := Dm.create_ok hk s
  rw [hr] at hm' hok ⊢
  exact ⟨rfl, Disks.step rfl hbg hb hS hL h2 hg' hm' hok hst⟩
theorem Remove_at (h : Disks b0 w ((g, m) :: L) R) (hs : s.size ≤ 9223372036854775807) (hr : m.remove s = (r, m')) :
    Calls Tryd.prog 39 #[.pointer (some ⟨g, 0, none⟩), .string s] w (fun e w' => e = .returned (.int .i64 r) ∧ Disks b0 w' ((g, m') :: L) R ∧ Below b0 w w') := by
  obtain ⟨c, cs, rfl, rfl, hk, hbg, hb, hS, hS1, hL, h2⟩ := h.head
  refine (Remove_any c b0 s w hS1 hk hs).mono ?_
  rintro e w' ⟨rfl, c', hg', hm', hst⟩
  have hok := Dm.remove_ok hk s
  rw [hr] at hm' hok ⊢
  exact ⟨rfl, Disks.step rfl hbg hb hS hL h2 hg' hm' hok hst⟩
theorem Rename_at {a b : ByteArray} (h : Disks b0 w ((g, m) :: L) R) (ha : a.size ≤ 9223372036854775807) (hb' : b.size ≤ 9223372036854775807) (hr : m.rename a b = (r, m')) :
    Calls Tryd.prog 40 #[.pointer (some ⟨g, 0, none⟩), .string a, .string b] w (fun e w' => e = .returned (.int .i64 r) ∧ Disks b0 w' ((g, m') :: L) R ∧ Below b0 w w') := by
  obtain ⟨c, cs, rfl, rfl, hk, hbg, hb, hS, hS1, hL, h2⟩ := h.head
  refine (Rename_any c b0 a b w hS1 hk ha hb').mono ?_
  rintro e w' ⟨rfl, c', hg', hm', hst⟩
  have hok := Dm.rename_ok hk a b
  rw [hr] at hm' hok ⊢
  exact ⟨rfl, Disks.step rfl hbg hb hS hL h2 hg' hm' hok hst⟩
theorem Sync_at (h : Disks b0 w ((g, m) :: L) R) (hs : s.size ≤ 9223372036854775807) (hr : m.sync s = (r, m')) :
    Calls Tryd.prog 27 #[.pointer (some ⟨g, 0, none⟩), .string s] w (fun e w' => e = .returned (.int .i64 r) ∧ Disks b0 w' ((g, m') :: L) R ∧ Below b0 w w') := by
  obtain ⟨c, cs, rfl, rfl, hk, hbg, hb, hS, hS1, hL, h2⟩ := h.head
  refine (Sync_any c b0 s w hS1 hk hs).mono ?_
  rintro e w' ⟨rfl, c', hg', hm', hst⟩
  have hok := Dm.sync_ok hk s
  rw [hr] at hm' hok ⊢
  exact ⟨rfl, Disks.step rfl hbg hb hS hL h2 hg' hm' hok hst⟩
theorem Names_at (h : Disks b0 w ((g, m) :: L) R) (hr : m.names = (r, m')) :
    Calls Tryd.prog 28 #[.pointer (some ⟨g, 0, none⟩)] w (fun e w' => e = .returned (.int .i64 r) ∧ Disks b0 w' ((g, m') :: L) R ∧ Below b0 w w') := by
  obtain ⟨c, cs, rfl, rfl, hk, hbg, hb, hS, hS1, hL, h2⟩ := h.head
  refine (Names_any c b0 w hS1 hk).mono ?_
  rintro e w' ⟨rfl, c', hg', hm', hst⟩
  have hok := Dm.names_ok hk
  rw [hr] at hm' hok ⊢
  exact ⟨rfl, Disks.step rfl hbg hb hS hL h2 hg' hm' hok hst⟩
theorem Append_at {bs : List Int} {B : Option Addr} {n cb : Nat} (h : Disks b0 w ((g, m) :: L) R) (hs : s.size ≤ 9223372036854775807) (hn : n = bs.length) (hnl : n ≤ 140737488351232) (hu : IsU8 bs) (hB : Rd w w.heap.size B (U8 bs)) (hr : m.append s bs = (r, m')) :
    Calls Tryd.prog 33 #[.pointer (some ⟨g, 0, none⟩), .string s, .slice B n cb] w (fun e w' => e = .returned (.int .i64 r) ∧ Disks b0 w' ((g, m') :: L) R ∧ Below b0 w w') := by
  obtain ⟨c, cs, rfl, rfl, hk, hbg, hb, hS, hS1, hL, h2⟩ := h.head
  refine (Append_any c b0 s bs B n cb w hS1 hk hs hn hnl hB hb).mono ?_
  rintro e w' ⟨rfl, c', hg', hm', hst⟩
  have hok := Dm.append_ok hk s bs hu
  rw [hr] at hm' hok ⊢
  exact ⟨rfl, Disks.step rfl hbg hb hS hL h2 hg' hm' hok hst⟩

theorem Size_at (h : Disks b0 w ((g, m) :: L) R) (hs : s.size ≤ 9223372036854775807) :
    Calls Tryd.prog 37 #[.pointer (some ⟨g, 0, none⟩), .string s] w (fun e w' => e = .returned (.tuple #[.int .i64 (m.sizeOf s).1, .int .i64 (m.sizeOf s).2]) ∧ Below w.heap.size w w') := by
  obtain ⟨c, cs, rfl, rfl, hk, _, _, _, hS1, _⟩ := h.head
  exact Size_any c b0 s w hS1 hk hs
theorem Read_at {a n : Int} (h : Disks b0 w ((g, m) :: L) R) (hs : s.size ≤ 9223372036854775807) (ha0 : -9223372036854775808 ≤ a) (ha1 : a ≤ 9223372036854775807) (hn0 : -9223372036854775808 ≤ n) (hn1 : n ≤ 9223372036854775807) :
    Calls Tryd.prog 36 #[.pointer (some ⟨g, 0, none⟩), .string s, .int .i64 a, .int .i64 n] w (RetRead w (m.read s a n)) := by
  obtain ⟨c, cs, rfl, rfl, hk, _, _, _, hS1, _⟩ := h.head
  exact Read_any c b0 s a n w hS1 hk hs ha0 ha1 hn0 hn1
theorem List_at (h : Disks b0 w ((g, m) :: L) R) :
    Calls Tryd.prog 38 #[.pointer (some ⟨g, 0, none⟩)] w (RetS w m.list) := by
  obtain ⟨c, cs, rfl, rfl, hk, _, _, _, hS1, _⟩ := h.head
  exact List_any c b0 w hS1 hk
theorem Left_at (h : Disks b0 w ((g, m) :: L) R) :
    Calls Tryd.prog 20 #[.pointer (some ⟨g, 0, none⟩)] w (fun e w' => e = .returned (.int .i64 m.left) ∧ Below w.heap.size w w') := by
  obtain ⟨c, cs, rfl, rfl, hk, _, _, _, hS1, _⟩ := h.head
  exact Left_any c b0 w hS1 hk

theorem foots_map {α : Type} {f f' : α → Asn} (hf : ∀ x, (f' x).foot = (f x).foot) (l : List α) (k : Nat) (h : foots (l.map f') k) : foots (l.map f) k := by
  obtain ⟨a, ha, hk⟩ := h
  obtain ⟨x, hx, rfl⟩ := List.mem_map.1 ha
  exact ⟨f x, List.mem_map.2 ⟨x, hx, rfl⟩, by rw [← hf]; exact hk⟩
theorem Sep.map_mono {α : Type} {w : World} {f f' : α → Asn} (hh : ∀ x, (f x).holds w → (f' x).holds w) (hf : ∀ x, (f' x).foot = (f x).foot) : ∀ l : List α, Sep w (l.map f) → Sep w (l.map f')
  | [], h => h
  | x :: l, h => by
    rw [List.map_cons] at h ⊢
    obtain ⟨h1, h2, h3⟩ := Sep.cons.1 h
    refine Sep.cons.2 ⟨hh x h1, fun k hk hk2 => h2 k ?_ (foots_map hf l k hk2), Sep.map_mono hh hf l h3⟩
    rw [← hf]; exact hk
/-- A disk that lies from base on lies from b0 on, too. -/
theorem Cd.rebase {c : Cd} {base : Nat} (h : Sep w (c.asn base)) (hb : b0 ≤ base) : Sep w (c.asn b0) := by
  obtain ⟨h1, h2, h3⟩ := Sep.cons.1 h
  exact Sep.cons.2 ⟨h1, fun k hk hk2 => h2 k hk (foots_map (f := RowC.asn base) (f' := RowC.asn b0) (fun _ => rfl) c.rows k hk2),
    Sep.map_mono (f := RowC.asn base) (f' := RowC.asn b0) (fun x hh => ⟨hh.1, hh.2.1.rebase (fun g hg => Nat.le_trans hb (hh.2.1.lt g hg).1), hh.2.2.1, Nat.le_trans hb hh.2.2.2⟩) (fun _ => rfl) c.rows h3⟩
/-- A new disk beside what stood. -/
theorem Disks.add {w' : World} {c : Cd} (h : Disks b0 w L R) (hb : Below w.heap.size w w') (hS : Sep w' (c.asn w.heap.size)) (hg : w.heap.size ≤ c.g) (hok : c.m.ok) : Disks b0 w' ((c.g, c.m) :: L) R := by
  have hb0 := h.size
  obtain ⟨cs, h1, h2, h3, h4⟩ := h
  refine ⟨c :: cs, by simp [h1], ?_, ?_, Nat.le_trans h4 hb.size⟩
  · intro d hd
    rcases List.mem_cons.1 hd with rfl | hd
    · exact ⟨hok, Nat.le_trans hb0 hg⟩
    · exact h2 d hd
  · rw [List.flatMap_cons, List.append_assoc]
    exact (Step.fresh h3 hb (Cd.rebase hS hb0) (fun k hk => by
      refine Cd.base hS hg k ?_
      obtain ⟨a, ha, hka⟩ := hk
      unfold Cd.asn at ha ⊢
      rcases List.mem_cons.1 ha with rfl | ha
      · exact ⟨_, List.mem_cons_self, hka⟩
      · obtain ⟨x, hx, rfl⟩ := List.mem_map.1 ha
        exact ⟨x.asn w.heap.size, List.mem_cons_of_mem _ (List.mem_map.2 ⟨x, hx, rfl⟩), hka⟩)).sep
theorem Fail_at {keep : Int} {names : Bool} (h : Disks b0 w ((g, m) :: L) R) (h1 : 1 ≤ m.size) (hk0 : 0 ≤ keep) (hk1 : keep ≤ 9223372036854775807) :
    Calls Tryd.prog 29 #[.pointer (some ⟨g, 0, none⟩), .int .i64 keep, .bool names] w (fun e w' => ∃ g', e = .returned (.tuple #[.pointer (some ⟨g', 0, none⟩), .int .i64 0]) ∧ Disks b0 w' ((g', m.fail keep names) :: (g, m) :: L) R ∧ Below w.heap.size w w') := by
  obtain ⟨c, cs, rfl, rfl, hk, hbg, hb, hS, hS1, hL, h2⟩ := h.head
  refine (Fail_any c b0 keep names w hS1 hk h1 hk0 hk1).mono ?_
  rintro e w' ⟨c', rfl, hm', hs', hg', hbl⟩
  refine ⟨c'.g, rfl, ?_, hbl⟩
  rw [← hm']
  exact h.add hbl hs' hg' (by rw [hm']; exact Dm.fail_ok hk keep names)
theorem New_at {z : Int} (h : Disks b0 w L R) (h0 : 1 ≤ z) (h1 : z ≤ 8388608) :
    Calls Tryd.prog 15 #[.int .i64 z] w (fun e w' => ∃ g', e = .returned (.tuple #[.pointer (some ⟨g', 0, none⟩), .int .i64 0]) ∧ Disks b0 w' ((g', newDm z) :: L) R ∧ Below w.heap.size w w') := by
  refine (New_ok z w h0 h1).mono ?_
  rintro e w' ⟨rfl, rfl⟩
  have hbl : Below w.heap.size w (w.alloc (.cells (newCells z).toArray 72)) := (Below.refl _ _).alloc (Nat.le_refl _) _
  refine ⟨w.heap.size, rfl, ?_, hbl⟩
  have := Disks.add (c := newCd w.heap.size z) h hbl (newCd_sep w z _) (Nat.le_refl _) (by rw [newCd_m]; exact newDm_ok (by omega) h1)
  exact this
end
end Go.Proofs.YtgibdecgmageeaaDoor
