/- balefirelaw01.alive walked: the chapter's examples come out as the chapter says. -/
import Derived.Test.YtckcgdekgnjpiaaBytes
import Derived.Test.YtckcgdekgnjpiaaPut3
import Derived.Test.YtckcgdekgnjpiaaGetL
namespace Go.Proofs.Ytckcgdekgnjpiaa
open Go.RowKit

theorem Rd.lit (w : World) (e : TypeId) (cs : List Value) {B : Nat} (hB : w.heap.size < B) : Rd (w.alloc (.cells cs.toArray e)) B (some ⟨w.heap.size, 0, none⟩) cs :=
  Rd.of_blk (Blk.new w e cs) 0 (fun j u hu => by simpa using hu) hB

/-- Get, of a literal. -/
theorem Get_lit (bs : List Int) (b r q : Int) (n : Nat) (hn : n = bs.length) (hu : IsU8 bs) (hl : bs.length ≤ 1000) (hg : getF bs b = (r, q)) (w : World) :
    Calls Try.prog 11 #[.slice (some ⟨w.heap.size, 0, none⟩) n n, .int .i64 b] (w.alloc (.cells (U8 bs).toArray 5)) (fun e w' => e = .returned (.tuple #[.int .u64 r, .int .i64 q]) ∧ w.alloc (.cells (U8 bs).toArray 5) = w') := by
  refine (Get_any bs _ n n b _ (w.heap.size + 1) hn (by omega) (by omega) hu (Rd.lit w 5 (U8 bs) (Nat.lt_succ_self _))).mono ?_
  rintro e w' ⟨rfl, rfl⟩
  rw [hg]
  exact ⟨rfl, rfl⟩

theorem GetBytes_lit (bs l : List Int) (g : Nat) (n : Nat) (hn : n = bs.length) (hu : IsU8 bs) (hl : bs.length ≤ 1000) (hg : getBytesF bs = some l) (w : World) (hB : Blk w g 5 (U8 bs)) :
    Calls Try.prog 14 #[.slice (some ⟨g, 0, none⟩) n n] w (fun e w' => ∃ X, e = .returned (.tuple #[.slice X l.length l.length, .int .i64 (4 + l.length), .int .i64 0]) ∧ Own w' w.heap.size 5 1 (.slice X l.length l.length) l.length (U8 l) ∧ Below w.heap.size w w') := by
  subst hn
  exact GetBytes_good bs l _ _ w hg (Nat.le_refl _) (by omega) (by omega) hu (Rd.of_blk hB 0 (fun j u hu => by simpa using hu) hB.lt)
theorem GetBytes_litS (bs : List Int) (g : Nat) (n : Nat) (hn : n = bs.length) (hu : IsU8 bs) (hl : bs.length ≤ 1000) (hg : getBytesF bs = none) (w : World) (hB : Blk w g 5 (U8 bs)) :
    Calls Try.prog 14 #[.slice (some ⟨g, 0, none⟩) n n] w (fun e w' => e = .returned (.tuple #[.slice none 0 0, .int .i64 0, .int .i64 5]) ∧ w = w') := by
  subst hn
  exact GetBytes_short bs _ _ w hg (Nat.le_refl _) (by omega) hu (Rd.of_blk hB 0 (fun j u hu => by simpa using hu) hB.lt)
/-- Put behind a literal. -/
theorem Put_lit (bs r : List Int) (g : Nat) (n : Nat) (hn : n = bs.length) (x b : Int) (hl : bs.length ≤ 1000) (h0 : 0 ≤ x) (h1 : x < 1000) (h2 : 0 ≤ b) (h3 : b ≤ 8) (hr : bs ++ be x.toNat (many b) = r) (w : World) (hB : Blk w g 5 (U8 bs)) :
    Calls Try.prog 8 #[.slice (some ⟨g, 0, none⟩) n n, .int .u64 x, .int .i64 b] w (NewB w r) := by
  subst hn hr
  exact Put_any bs _ _ x b w h0 (by omega) (by omega) (by omega) (by omega) (Rd.of_blk hB 0 (fun j u hu => by simpa using hu) hB.lt)

set_option maxHeartbeats 4000000 in
theorem alive_true (w : World) : Calls Try.prog 6 #[] w (fun e w' => e = .returned (.bool true) ∧ Below w.heap.size w w') := by
  go_enter Try.func6, Try.ntmps6
  go_wp2_with fail
  refine (Get_lit [1, 2, 7] 2 258 0 3 rfl (by simp [IsU8]) (by decide) (by decide) w).mono ?_
  rintro e w1 ⟨rfl, h1⟩
  have b1 : Below w.heap.size w w1 := by rw [← h1]; exact (Below.refl _ _).alloc (Nat.le_refl _) _
  clear h1
  go_wp2_with fail
  refine (Get_lit [1] 2 0 5 1 rfl (by simp [IsU8]) (by decide) (by decide) w1).mono ?_
  rintro e w2 ⟨rfl, h1⟩
  have b2 : Below w.heap.size w w2 := by rw [← h1]; exact b1.alloc b1.size _
  clear h1 b1
  go_wp2_with fail
  refine (Get_lit [1] 9 0 1 1 rfl (by simp [IsU8]) (by decide) (by decide) w2).mono ?_
  rintro e w3 ⟨rfl, h1⟩
  have b3 : Below w.heap.size w w3 := by rw [← h1]; exact b2.alloc b2.size _
  clear h1 b2
  go_wp2_with fail
  refine (PutLong_any [] none 0 5 0 0 0 w3 (by decide) (by simp) (Rd.nil _ _ _)).mono ?_
  rintro e w4 h
  rw [show ([] ++ long 5 0 0 0) = [0, 0, 0, 0, 0, 0, 0, 0, 0, 0, 0, 0, 0, 0, 0, 0, 0, 0, 0, 0, 0, 0, 0, 0, 0, 0, 0, 0, 0, 0, 0, 5] from by decide] at h
  obtain ⟨g, rfl, hg, hB, hb⟩ := h
  have b4 : Below w.heap.size w w4 := b3.trans (hb.mono b3.size)
  have hgw : w.heap.size ≤ g := Nat.le_trans b3.size hg
  have c31 : w4.cell? ⟨g, 31, none⟩ = some (.int .u8 5) := by rw [hB.cell]; rfl
  have hr1 : Rd w4 w4.heap.size (some ⟨g, 1, none⟩) (U8 [0, 0, 0, 0, 0, 0, 0, 0, 0, 0, 0, 0, 0, 0, 0, 0, 0, 0, 0, 0, 0, 0, 0, 0, 0, 0, 0, 0, 0, 0, 5]) := Rd.of_blk hB 1 (fun j u hu => by rw [Nat.add_comm]; exact hu) hB.lt
  clear hb b3
  go_wp2_with fail
  refine (GetLong_short [0, 0, 0, 0, 0, 0, 0, 0, 0, 0, 0, 0, 0, 0, 0, 0, 0, 0, 0, 0, 0, 0, 0, 0, 0, 0, 0, 0, 0, 0, 5] _ 31 w4 (by decide)).mono ?_
  rintro e w5 ⟨rfl, hb⟩
  have b5 : Below w.heap.size w w5 := b4.trans (hb.mono b4.size)
  have hgl := hB.lt
  have c31' : w5.cell? ⟨g, 31, none⟩ = some (.int .u8 5) := (hb.cell (p := ⟨g, 31, none⟩) hgl).trans c31
  have hg5 : g < w5.heap.size := Nat.lt_of_lt_of_le hgl hb.size
  clear hb hr1 hB c31 b4
  simp only [Num4]
  go_wp2_with fail
  refine (GetBytes_lit [0, 0, 0, 2, 7, 8, 9] [7, 8] _ 7 rfl (by simp [IsU8]) (by decide) (by decide) _ ?_).mono ?_
  · exact Blk.lit _ _ _ (by simp) _ _ rfl
  rintro e w6 ⟨X, rfl, ho, hb⟩
  have b6 : Below w.heap.size w w6 := ((b5.alloc b5.size _).alloc (by have := b5.size; simp; omega) _).trans (hb.mono (by have := b5.size; simp; omega))
  have c31'' : w6.cell? ⟨g, 31, none⟩ = some (.int .u8 5) := by
    rw [hb.cell (p := ⟨g, 31, none⟩) (by simp; omega), World.cell?_alloc_lt _ _ _ (by simp; omega), World.cell?_alloc_lt _ _ _ hg5]; exact c31'
  have hg6 : g < w6.heap.size := by have := hb.size; simp at this; omega
  have hX := ho.rd rfl (Nat.le_refl _)
  clear c31' hb b5 ho
  go_wp2_with fail
  refine (GetBytes_litS [0, 0, 0, 2, 7] _ 5 rfl (by simp [IsU8]) (by decide) (by decide) _ ?_).mono ?_
  · exact Blk.lit _ _ _ rfl _ _ rfl
  rintro e w7 ⟨rfl, h7⟩
  have b7 : Below w.heap.size w w7 := by rw [← h7]; exact b6.alloc b6.size _
  have c7 : w7.cell? ⟨g, 31, none⟩ = some (.int .u8 5) := by rw [← h7, World.cell?_alloc_lt _ _ _ hg6]; exact c31''
  have X7 : Rd w7 w7.heap.size X (U8 [7, 8]) := by rw [← h7]; exact hX.below ((Below.refl _ _).alloc (Nat.le_refl _) _) (by simp)
  have g7 : g < w7.heap.size := by rw [← h7]; simp; omega
  clear c31'' b6 hX h7 hg6
  go_wp2_with fail
  refine (Put_lit [9] [9, 1, 2] _ 1 rfl 258 2 (by decide) (by decide) (by decide) (by decide) (by decide) (by decide) _ ?_).mono ?_
  · exact Blk.lit _ _ _ rfl _ _ rfl
  rintro e w8 ⟨g1, rfl, hg1, hB1, hb⟩
  have hbb : Below w7.heap.size w7 w8 := ((Below.refl _ _).alloc (Nat.le_refl _) _).trans (hb.mono (by simp))
  have b8 : Below w.heap.size w w8 := b7.trans (hbb.mono b7.size)
  have c8 : w8.cell? ⟨g, 31, none⟩ = some (.int .u8 5) := (hbb.cell (p := ⟨g, 31, none⟩) g7).trans c7
  have X8 := X7.below hbb hbb.size
  have g8 : g < w8.heap.size := Nat.lt_of_lt_of_le g7 hbb.size
  have hr8 : Rd w8 w8.heap.size (some ⟨g1, 0, none⟩) (U8 [9, 1, 2]) := Rd.of_blk hB1 0 (fun j u hu => by simpa using hu) hB1.lt
  clear c7 X7 g7 hb hbb b7 hB1 hg1
  have v8 := (run_str (P := Try.prog) w8 27 5 9 Try.underlying27 Try.underlying5 Try.underlying9 _ 3 3 [9, 1, 2] rfl _ hr8).trans (show _ = Result.ok (Value.string ⟨#[9, 1, 2]⟩) w8 from rfl)
  go_wp2_with fail
  clear v8 hr8
  refine (Put_any [] none 0 258 1 w8 (by decide) (by decide) (by decide) (by decide) (by decide) (Rd.nil _ _ _)).mono ?_
  rintro e w9 h
  rw [show ([] ++ be (258 : Int).toNat (many 1)) = [2] from by decide] at h
  obtain ⟨g2, rfl, hg2, hB2, hbb⟩ := h
  have b9 : Below w.heap.size w w9 := b8.trans (hbb.mono b8.size)
  have c9 : w9.cell? ⟨g, 31, none⟩ = some (.int .u8 5) := (hbb.cell (p := ⟨g, 31, none⟩) g8).trans c8
  have X9 := X8.below hbb hbb.size
  have g9 : g < w9.heap.size := Nat.lt_of_lt_of_le g8 hbb.size
  have hr9 : Rd w9 w9.heap.size (some ⟨g2, 0, none⟩) (U8 [2]) := Rd.of_blk hB2 0 (fun j u hu => by simpa using hu) hB2.lt
  clear c8 X8 g8 hbb b8 hB2 hg2
  have v9 := (run_str (P := Try.prog) w9 27 5 9 Try.underlying27 Try.underlying5 Try.underlying9 _ 1 1 [2] rfl _ hr9).trans (show _ = Result.ok (Value.string ⟨#[2]⟩) w9 from rfl)
  go_wp2_with fail
  clear v9 hr9
  have hbb9 : Below w9.heap.size w9 ((w9.alloc (.cells #[.int .u8 1] 5)).alloc (.cells #[.int .u8 7, .int .u8 7] 5)) := ((Below.refl _ _).alloc (Nat.le_refl _) _).alloc (by simp) _
  refine (PutBytes_any [1] [7, 7] _ _ 1 2 _ (by decide) (Rd.of_blk (Blk.alloc (Blk.lit w9 5 _ rfl #[.int .u8 1] (U8 [1]) rfl) _) 0 (fun j u hu => by simpa using hu) (by simp; omega)) (Rd.of_blk (Blk.lit (w9.alloc (.cells #[.int .u8 1] 5)) 5 _ (by simp) #[.int .u8 7, .int .u8 7] (U8 [7, 7]) rfl) 0 (fun j u hu => by simpa using hu) (by simp))).mono ?_
  rintro e w10 h
  rw [show ([1] ++ lenB [7, 7]) = [1, 0, 0, 0, 2, 7, 7] from by decide] at h
  obtain ⟨v, rfl, ho, hbb⟩ := h.later hbb9
  obtain ⟨X1, k1, rfl, _, _, _⟩ := ho.shape
  have b10 : Below w.heap.size w w10 := b9.trans (hbb.mono b9.size)
  have X10 := X9.below hbb hbb.size
  have hr10 := ho.rd rfl (Nat.le_refl _)
  clear c9 X9 g9 hbb b9 h hbb9 ho
  have va := (run_str (P := Try.prog) w10 27 5 9 Try.underlying27 Try.underlying5 Try.underlying9 X1 7 k1 [1, 0, 0, 0, 2, 7, 7] rfl _ hr10).trans (show _ = Result.ok (Value.string ⟨#[1, 0, 0, 0, 2, 7, 7]⟩) w10 from rfl)
  have vb := (run_str (P := Try.prog) w10 27 5 9 Try.underlying27 Try.underlying5 Try.underlying9 X 2 2 [7, 8] rfl _ X10).trans (show _ = Result.ok (Value.string ⟨#[7, 8]⟩) w10 from rfl)
  go_wp2
  go_ret
  exact ⟨rfl, b10⟩
end Go.Proofs.Ytckcgdekgnjpiaa
