/- The book: each list of bytes, and what was put behind it, has its marks. -/
import Derived.Test.YtgibdecgmageeaaGreatDoorBook3
import Derived.BigQuiet
namespace Go.Proofs.YtgibdecgmageeaaGreatDoor
open Go.RowKit

theorem isByte_q (x n : Int) (w : World) (h : x = n % 256) : Calls Tryz.prog 150 #[.int .u8 x, .int .i64 n] w (fun e w' => e = .returned (.bool true) ∧ w' = w) :=
  (isByte_any x n w h).mono (fun _ _ ⟨h1, h2⟩ => ⟨h1, h2.symm⟩)

def Ent.marked (e : Ent) : Prop := e.llen = e.len + 40 ∧ e.xs = List.replicate e.len (mark e) ∧ e.ys = List.replicate (e.len + 40) (mark e)

theorem own_cell {w : World} {base : Nat} {t : TypeId} {A : Option Addr} {m c : Nat} {v : Value} (h : Own w base t 1 (.slice A m c) m (List.replicate m v)) (j : Nat) (hj : j < m) : ∃ gv, A = some ⟨gv, 0, none⟩ ∧ w.cell? ⟨gv, j, none⟩ = some v := by
  rcases h.2 with ⟨_, h0⟩ | ⟨g, cap, rest, h', _, hB, _⟩
  · omega
  · simp only [Value.slice.injEq, true_and] at h'
    refine ⟨g, h'.1, ?_⟩
    rw [hB.cell, List.getElem?_append_left (by simpa using hj), List.getElem?_replicate, if_pos hj]

set_option maxRecDepth 100000 in
set_option maxHeartbeats 2000000 in
theorem lookByte_any (b0 g : Nat) (n : Int) (E R : Value) (es : List Ent) (w : World) (hs : Sep w (allA b0 g n E es es R)) (hmk : ∀ e ∈ es, e.marked) (hes : es.length < 1000000000) (hln : ∀ e ∈ es, e.len ≤ 140737488353000) :
    Calls Tryz.prog 95 #[.pointer (some ⟨g, 0, none⟩)] w (fun e w' => e = .returned (.bool true) ∧ Below w.heap.size w w') := by
  have hB : Blk w g 54 (bookCells n E R) := hs.head
  have hE : Own w b0 151 3 E es.length (flat es) := hs.tail.head
  obtain ⟨EA, Ec, hEs, hE1, hE2, _⟩ := hE.shape
  have hBlt := hB.lt
  have facts : ∀ wx, Below w.heap.size w wx → wx.cell? ⟨g, 1, none⟩ = some (.slice EA es.length Ec) ∧ ∀ i (h : i < es.length), ∃ ge, EA = some ⟨ge, 0, none⟩ ∧ (wx.cell? ⟨ge, i * 3, none⟩ = some (es[i]'h).v ∧ wx.cell? ⟨ge, i * 3 + 1, none⟩ = some (es[i]'h).long ∧ wx.cell? ⟨ge, i * 3 + 2, none⟩ = some (.int .i64 (es[i]'h).n)) ∧ Own wx b0 5 1 (es[i]'h).v (es[i]'h).len (es[i]'h).xs ∧ Own wx b0 5 1 (es[i]'h).long (es[i]'h).llen (es[i]'h).ys := by
    intro wx hx
    have hsx := hs.below hx (fun k hk => hs.lt hk)
    have hBx : Blk wx g 54 (bookCells n E R) := hsx.head
    refine ⟨by rw [hBx.cell, hEs]; rfl, fun i h => ?_⟩
    have hEx : Own wx b0 151 3 E es.length (flat es) := hsx.tail.head
    obtain ⟨ge, cE, hEq, _, q0, q1, q2⟩ := entry_cells hEx i h
    rw [hEs] at hEq
    simp only [Value.slice.injEq] at hEq
    refine ⟨ge, hEq.1, ⟨q0, q1, q2⟩, ?_⟩
    have hm : Asn.ent b0 5 1 (es[i]'h) ∈ es.map (Asn.ent b0 5 1) := List.mem_map.2 ⟨_, List.getElem_mem h, rfl⟩
    exact (Sep.append.1 hsx).2.1.1 _ hm
  have HF := Lib.hid facts
  have HMK := Lib.hid hmk; have HLN := Lib.hid hln
  clear facts hmk hs hB hE hEs hln
  go_enter Tryz.func95, Tryz.ntmps95
  go_wp2
  go_loopw [3] (fun x wr => ∃ i : Nat, i ≤ es.length ∧ x = .int .i64 i ∧ Below w.heap.size w wr) (fun x _ => es.length - (intOf x).toNat)
  case atStart => exact ⟨0, by omega, rfl, Below.refl _ _⟩
  case round =>
    obtain ⟨i, hi', rfl, hb⟩ := hrel
    obtain ⟨c1, hall⟩ := HF.out _ hb
    have HALL := Lib.hid hall; clear hall
    by_cases hlt : i < es.length
    · obtain ⟨ge, rfl, ⟨q0, q1, q2⟩, _, _⟩ := HALL.out i hlt
      have hlen := HLN.out _ (List.getElem_mem hlt)
      have hmkd := HMK.out _ (List.getElem_mem hlt)
      have hents : ∀ wx, Below w.heap.size w wx → Own wx b0 5 1 (es[i]'hlt).v (es[i]'hlt).len (es[i]'hlt).xs ∧ Own wx b0 5 1 (es[i]'hlt).long (es[i]'hlt).llen (es[i]'hlt).ys := fun wx hx => by
        obtain ⟨_, _, _, h⟩ := (HF.out wx hx).2 i hlt; exact h
      obtain ⟨e, he⟩ : ∃ e, e = es[i]'hlt := ⟨_, rfl⟩
      rw [← he] at q0 q1 q2 hmkd hlen hents
      clear he
      obtain ⟨A, len, cap, L, llen, lcap, nn, xs, ys⟩ := e
      obtain ⟨h1, h2, h3⟩ := hmkd
      simp only [Ent.v, Ent.long, mark] at h1 h2 h3 hents q0 q1 q2 hlen
      subst h1; subst h2; subst h3
      have HENT := Lib.hid hents; clear hents
      have hiI : (i : Int) < es.length := by omega
      have hws : w.heap.size ≤ wr.heap.size := hb.size
      go_wp2_with fail
      have hBh := Blk.lit wr 151 _ rfl #[.slice A len cap, .slice L (len + 40) lcap, .int .i64 nn] _ rfl
      have hbh := hb.alloc hws (.cells #[.slice A len cap, .slice L (len + 40) lcap, .int .i64 nn] 151)
      have hszh : wr.heap.size < (wr.alloc (.cells #[.slice A len cap, .slice L (len + 40) lcap, .int .i64 nn] 151)).heap.size := by simp
      generalize wr.alloc (.cells #[.slice A len cap, .slice L (len + 40) lcap, .int .i64 nn] 151) = wh at hBh hbh hszh
      have d0 : wh.cell? ⟨wr.heap.size, 0, none⟩ = some (.slice A len cap) := by rw [hBh.cell]; rfl
      have d1 : wh.cell? ⟨wr.heap.size, 1, none⟩ = some (.slice L (len + 40) lcap) := by rw [hBh.cell]; rfl
      have d2 : wh.cell? ⟨wr.heap.size, 2, none⟩ = some (.int .i64 nn) := by rw [hBh.cell]; rfl
      obtain ⟨ho1, ho2⟩ := HENT.out wh hbh
      have HO1 := Lib.hid ho1; have HO2 := Lib.hid ho2
      clear hBh ho1 ho2 q0 q1 q2 c1
      obtain ⟨wo, rfl⟩ : ∃ wo : World, wo = wr := ⟨_, rfl⟩
      go_loopw [5] (fun y wk => ∃ j : Nat, j ≤ len + 40 ∧ y = .int .i64 j ∧ Drawn wh wk) (fun y _ => len + 40 - (intOf y).toNat)
      case atStart => exact ⟨0, by omega, rfl, Drawn.refl _⟩
      case round =>
        obtain ⟨j, hj, rfl, hdr⟩ := hrel
        have d0' : wr.cell? ⟨wo.heap.size, 0, none⟩ = some (.slice A len cap) := by obtain ⟨_, rfl⟩ := hdr; exact d0
        have d1' : wr.cell? ⟨wo.heap.size, 1, none⟩ = some (.slice L (len + 40) lcap) := by obtain ⟨_, rfl⟩ := hdr; exact d1
        have d2' : wr.cell? ⟨wo.heap.size, 2, none⟩ = some (.int .i64 nn) := by obtain ⟨_, rfl⟩ := hdr; exact d2
        have ho2 : Own wr b0 5 1 (.slice L (len + 40) lcap) (len + 40) (List.replicate (len + 40) (.int .u8 (nn % 256))) := by obtain ⟨_, rfl⟩ := hdr; exact HO2.out.dr _
        have ho1 : Own wr b0 5 1 (.slice A len cap) len (List.replicate len (.int .u8 (nn % 256))) := by obtain ⟨_, rfl⟩ := hdr; exact HO1.out.dr _
        have hbr : Below w.heap.size w wr := by obtain ⟨_, rfl⟩ := hdr; exact Below.dr hbh _
        have HR2 := Lib.hid ho2; have HR1 := Lib.hid ho1
        clear ho1 ho2 d0 d1 d2
        by_cases hjl : j < len + 40
        · obtain ⟨gl, rfl, k1⟩ := own_cell HR2.out j hjl
          by_cases hjs : j < len
          · obtain ⟨gv, rfl, k0⟩ := own_cell HR1.out j hjs
            have hjI : (j : Int) < len := by omega
            have hjI2 : (j : Int) < len + 40 := by omega
            go_wp2_with fail
            go_quiet ((go_at_call 150; refine Calls.quiet_of_same (isByte_q _ _ _ rfl)))
            go_wp2
            go_roundw
            case rel => exact ⟨j + 1, by omega, by go_num, hdr.trans ⟨_, rfl⟩⟩
            case measure => simp [intOf]; omega
          · have hjI : ¬ (j : Int) < len := by omega
            have hjI2 : (j : Int) < len + 40 := by omega
            go_wp2_with fail
            go_quiet ((go_at_call 150; refine Calls.quiet_of_same (isByte_q _ _ _ rfl)))
            go_wp2
            go_roundw
            case rel => exact ⟨j + 1, by omega, by go_num, hdr.trans ⟨_, rfl⟩⟩
            case measure => simp [intOf]; omega
        · obtain rfl : j = len + 40 := by omega
          go_wp2
          go_roundw
          case rel => exact ⟨i + 1, by omega, by go_num, hbr⟩
          case measure => simp [intOf]; omega
    · obtain rfl : i = es.length := by omega
      go_wp2
      go_ret
      exact ⟨rfl, hb⟩
end Go.Proofs.YtgibdecgmageeaaGreatDoor
