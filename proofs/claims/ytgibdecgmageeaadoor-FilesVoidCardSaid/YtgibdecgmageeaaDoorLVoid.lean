/- FilesVoid walked. -/
import Derived.Test.YtgibdecgmageeaaDoorVoid
namespace Go.Proofs.YtgibdecgmageeaaDoor
open Go.RowKit

theorem zero_disk : Tryd.zeroCells72 = (newCells 0).toArray := by kernel_rfl
theorem newDm0_list : (newDm 0).list = [] := by
  rw [Dm.list_eq]
  have : namesOf (newDm 0).now = [] := by decide
  rw [this, sorted_nil]
theorem newDm0_ok : (newDm 0).ok := newDm_ok (by omega) (by omega)
theorem newDm0_left : (newDm 0).left = 0 := by decide

set_option maxRecDepth 100000 in
set_option maxHeartbeats 4000000 in
theorem FilesVoid_all (K a n : Int) (nm too : ByteArray) (B : Option Addr) (bl bc : Nat) (nb : Bool) (w : World) :
    Calls Tryd.prog 9 #[.agg #[.int .u8 K, .string nm, .string too, .slice B bl bc, .int .i64 a, .int .i64 n, .bool nb]] w (fun e w' => e = .returned (.bool true) ∧ Below w.heap.size w w') := by
  have hzd := zero_disk
  have hX : ∀ W, Below (w.heap.size + 1) (w.alloc (.cells #[.int .u8 K, .string nm, .string too, .slice B bl bc, .int .i64 a, .int .i64 n, .bool nb] 65)) W →
      W.cell? ⟨w.heap.size, 1, none⟩ = some (.string nm) ∧ W.cell? ⟨w.heap.size, 2, none⟩ = some (.string too) ∧ W.cell? ⟨w.heap.size, 3, none⟩ = some (.slice B bl bc) ∧ W.cell? ⟨w.heap.size, 4, none⟩ = some (.int .i64 a) ∧ W.cell? ⟨w.heap.size, 5, none⟩ = some (.int .i64 n) ∧ W.cell? ⟨w.heap.size, 6, none⟩ = some (.bool nb) := by
    intro W hb
    have hB := (Blk.lit w 65 _ rfl #[.int .u8 K, .string nm, .string too, .slice B bl bc, .int .i64 a, .int .i64 n, .bool nb] _ rfl).below hb (Nat.lt_succ_self _)
    refine ⟨?_, ?_, ?_, ?_, ?_, ?_⟩ <;> (rw [hB.cell]; rfl)
  have HX := Lib.hid hX; clear hX
  have HZ := Lib.hid hzd; clear hzd
  go_enter Tryd.func9, Tryd.ntmps9
  go_wp2_with fail
  refine wp_loop_rounds 3 ?_
  rw [rounds_succ]
  have hbA : Below w.heap.size w (w.alloc (.cells #[.int .u8 K, .string nm, .string too, .slice B bl bc, .int .i64 a, .int .i64 n, .bool nb] 65)) := (Below.refl _ _).alloc (Nat.le_refl _) _
  have hsz : (w.alloc (.cells #[.int .u8 K, .string nm, .string too, .slice B bl bc, .int .i64 a, .int .i64 n, .bool nb] 65)).heap.size = w.heap.size + 1 := by simp
  generalize w.alloc (.cells #[.int .u8 K, .string nm, .string too, .slice B bl bc, .int .i64 a, .int .i64 n, .bool nb] 65) = w1 at HX hbA hsz ⊢
  have HSZ := Lib.hid hsz; clear hsz
  obtain ⟨x1, x2, x3, x4, x5, x6⟩ := HX.out w1 (Below.refl _ _)
  go_wp2_with (first
    | (go_at_call 36; refine (Read_nil _ _ _ _).mono ?_; rintro e w' ⟨rfl, rfl⟩)
    | (go_at_call 37; refine (Size_nil _ _).mono ?_; rintro e w' ⟨rfl, rfl⟩)
    | (go_at_call 29; refine (Fail_nil _ _ _).mono ?_; rintro e w' ⟨rfl, rfl⟩)
    | (go_at_call 38; refine (List_nil _).mono ?_; rintro e w' ⟨rfl, rfl⟩)
    | (go_at_call 20; refine (Left_nil _).mono ?_; rintro e w' ⟨rfl, rfl⟩)
    | (go_at_call 32; refine (Create_nil _ _).mono ?_; rintro e w' ⟨rfl, rfl⟩)
    | (go_at_call 39; refine (Remove_nil _ _).mono ?_; rintro e w' ⟨rfl, rfl⟩)
    | (go_at_call 40; refine (Rename_nil _ _ _).mono ?_; rintro e w' ⟨rfl, rfl⟩)
    | (go_at_call 33; refine (Append_nil _ _ _ _ _).mono ?_; rintro e w' ⟨rfl, rfl⟩)
    | (go_at_call 27; refine (Sync_nil _ _).mono ?_; rintro e w' ⟨rfl, rfl⟩)
    | (go_at_call 28; refine (Names_nil _).mono ?_; rintro e w' ⟨rfl, rfl⟩))
  clear x1 x2 x3 x4 x5 x6
  rw [rounds_succ]
  go_upto_region 7 with fail
  have hD : Sep (w1.alloc (.cells Tryd.zeroCells72 72)) ((newCd w1.heap.size 0).asn w.heap.size) := by rw [HZ.out]; exact newCd_sep w1 0 _
  have hbB : Below w.heap.size w (w1.alloc (.cells Tryd.zeroCells72 72)) := hbA.alloc hbA.size _
  have hbC : Below w1.heap.size w1 (w1.alloc (.cells Tryd.zeroCells72 72)) := (Below.refl _ _).alloc (Nat.le_refl _) _
  generalize hgx : w1.heap.size = gx at hD hbC ⊢
  generalize w1.alloc (.cells Tryd.zeroCells72 72) = w2 at hD hbB hbC ⊢
  have HGX := Lib.hid hgx; clear hgx HZ
  have hF : ∀ W, Below w2.heap.size w2 W → (W.cell? ⟨w.heap.size, 1, none⟩ = some (.string nm) ∧ W.cell? ⟨w.heap.size, 2, none⟩ = some (.string too) ∧ W.cell? ⟨w.heap.size, 3, none⟩ = some (.slice B bl bc) ∧ W.cell? ⟨w.heap.size, 4, none⟩ = some (.int .i64 a) ∧ W.cell? ⟨w.heap.size, 5, none⟩ = some (.int .i64 n) ∧ W.cell? ⟨w.heap.size, 6, none⟩ = some (.bool nb)) ∧
      W.cell? ⟨gx, 0, none⟩ = some (.int .i64 0) ∧ Sep W ((newCd gx 0).asn w.heap.size) := by
    intro W hW
    have h1 := hD.below hW (fun _ hk => hD.lt hk)
    have h2 : Below (w.heap.size + 1) w1 W := by
      have e : w.heap.size + 1 = gx := by rw [← HSZ.out, HGX.out]
      rw [e]
      exact hbC.trans (hW.mono (by rw [← HGX.out]; exact hbC.size))
    exact ⟨HX.out W h2, Cd.size_cell (Cd.blk h1), h1⟩
  have HF := Lib.hid hF
  clear hF hD HX HGX HSZ hbC hbA
  obtain ⟨⟨x1, x2, x3, x4, x5, x6⟩, x0, hs⟩ := HF.out w2 (Below.refl _ _)
  have hz : (0 : Int) < 1 := by omega
  have HLI : Hid (∀ W, Sep W ((newCd gx 0).asn w.heap.size) → Calls Tryd.prog 38 #[.pointer (some ⟨gx, 0, none⟩)] W (fun e w' => (∃ A, e = .returned (.slice A 0 0)) ∧ Below W.heap.size W w')) := by
    intro W hW
    refine (List_any (newCd gx 0) w.heap.size W hW newDm0_ok).mono ?_
    rintro e w' ⟨A, rfl, _, hb⟩
    rw [newCd_m, newDm0_list]
    exact ⟨⟨A, rfl⟩, hb⟩
  have HLE : Hid (∀ W, Sep W ((newCd gx 0).asn w.heap.size) → Calls Tryd.prog 20 #[.pointer (some ⟨gx, 0, none⟩)] W (fun e w' => e = .returned (.int .i64 0) ∧ Below W.heap.size W w')) := by
    intro W hW
    refine (Left_any (newCd gx 0) w.heap.size W hW newDm0_ok).mono ?_
    rintro e w' ⟨rfl, hb⟩
    rw [newCd_m, newDm0_left]
    exact ⟨rfl, hb⟩
  have HS := Lib.hid hs; clear hs
  go_wp2_with (first
    | (go_at_call 36; refine (Read_void gx 0 _ _ _ _ x0 hz).mono ?_; rintro e w' ⟨rfl, rfl⟩)
    | (go_at_call 37; refine (Size_void gx 0 _ _ x0 hz).mono ?_; rintro e w' ⟨rfl, rfl⟩)
    | (go_at_call 29; refine (Fail_void gx 0 _ _ _ x0 hz).mono ?_; rintro e w' ⟨rfl, rfl⟩))
  (with_reducible refine (HLI.out w2 HS.out).mono ?_)
  rintro e w3 ⟨⟨A, rfl⟩, hb3⟩
  clear x1 x2 x3 x4 x5 x6 x0 HS HLI
  obtain ⟨⟨x1, x2, x3, x4, x5, x6⟩, x0, hs⟩ := HF.out w3 hb3
  have HS := Lib.hid hs; clear hs
  go_wp2_with fail
  (with_reducible refine (HLE.out w3 HS.out).mono ?_)
  rintro e w4 ⟨rfl, hb4⟩
  clear x1 x2 x3 x4 x5 x6 x0 HS HLE
  have hb4' := hb3.trans (hb4.mono hb3.size)
  obtain ⟨⟨x1, x2, x3, x4, x5, x6⟩, x0, _⟩ := HF.out w4 hb4'
  clear HF hb3 hb4
  have hbE := hbB.trans (hb4'.mono hbB.size)
  clear hb4' hbB
  go_wp2_with (first
    | (go_at_call 32; refine (Create_void gx 0 _ _ x0 hz).mono ?_; rintro e w' ⟨rfl, rfl⟩)
    | (go_at_call 39; refine (Remove_void gx 0 _ _ x0 hz).mono ?_; rintro e w' ⟨rfl, rfl⟩)
    | (go_at_call 40; refine (Rename_void gx 0 _ _ _ x0 hz).mono ?_; rintro e w' ⟨rfl, rfl⟩)
    | (go_at_call 33; refine (Append_void gx 0 _ _ _ _ _ x0 hz).mono ?_; rintro e w' ⟨rfl, rfl⟩)
    | (go_at_call 27; refine (Sync_void gx 0 _ _ x0 hz).mono ?_; rintro e w' ⟨rfl, rfl⟩)
    | (go_at_call 28; refine (Names_void gx 0 _ x0 hz).mono ?_; rintro e w' ⟨rfl, rfl⟩))
  rw [rounds_succ]
  go_wp2
  go_ret
  exact ⟨rfl, hbE⟩
end Go.Proofs.YtgibdecgmageeaaDoor
