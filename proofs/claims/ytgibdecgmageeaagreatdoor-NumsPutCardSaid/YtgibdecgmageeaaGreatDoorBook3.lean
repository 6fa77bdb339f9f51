/- The book: so many marks are put behind each list of bytes. -/
import Derived.Test.YtgibdecgmageeaaGreatDoorBook2
import Derived.Test.YtgibdecgmageeaaGreatDoorPut2
namespace Go.Proofs.YtgibdecgmageeaaGreatDoor
open Go.RowKit

/-- The list that grows: where it was, or in a new block. -/
def InOrNew (wh : World) (A : Option Addr) (m cap : Nat) (long : Value) : Prop := long = .slice A m cap ∨ ∀ k, long.ownBlock = some k → wh.heap.size ≤ k
theorem ownBlock_slice (A : Option Addr) (m c m' c' : Nat) : (Value.slice A m c).ownBlock = (Value.slice A m' c').ownBlock := by cases A <;> rfl

theorem grow_one {wh wr w2 : World} {b0 : Nat} {t : TypeId} {A : Option Addr} {len cap m : Nat} {long long' mk : Value} {o : Obj} (hml : len ≤ m)
    (HV : Own wr b0 t 1 (.slice A len cap) len (List.replicate len mk)) (HI : InOrNew wh A m cap long) (HM : Mods (fun k => (Value.slice A len cap).ownBlock = some k) wh wr)
    (hvlt : ∀ k, (Value.slice A len cap).ownBlock = some k → k < wh.heap.size) (h : Went (wr.alloc o) w2 long long' m 1) (ho2 : Own w2 b0 t 1 long' (m + 1) (List.replicate m mk ++ [mk])) :
    Own w2 b0 t 1 (.slice A len cap) len (List.replicate len mk) ∧ InOrNew wh A (m + 1) cap long' ∧ Mods (fun k => (Value.slice A len cap).ownBlock = some k) wh w2 := by
  have hM1 := HM.alc o
  rcases h with ⟨A', cap', hl, hl', hm⟩ | ⟨hm, hn⟩
  · rcases HI with hI | hI
    · rw [hl] at hI
      simp only [Value.slice.injEq, true_and] at hI
      obtain ⟨rfl, rfl⟩ := hI
      rw [hl'] at ho2
      refine ⟨?_, .inl hl', hM1.trans (hm.mono (fun k _ hk => by rw [hl] at hk; rwa [ownBlock_slice A' len cap' m cap']))⟩
      have hp := ho2.pre (m := len) (by omega)
      rw [Nat.mul_one, ← List.replicate_succ', List.take_replicate, Nat.min_eq_left (by omega)] at hp
      exact hp
    · refine ⟨(HV.alloc o).mods hm (fun g hg hk => by have := hvlt g hg; have := hI g hk; omega), .inr (fun k hk => hI k (by rw [hl, ownBlock_slice A' m cap' (m + 1) cap', ← hl']; exact hk)),
        hM1.trans' hm (fun i hi hk => by have := hI i hk; omega)⟩
  · refine ⟨(HV.alloc o).mods hm (fun g _ hk => hk), .inr (fun k hk => ?_), hM1.trans' hm (fun i _ hk => hk.elim)⟩
    have h1 := hn k hk
    have h2 := HM.size
    simp at h1; omega

/-- The list grown: so many marks behind it. -/
def GrownE (e f : Ent) : Prop := f.A = e.A ∧ f.len = e.len ∧ f.cap = e.cap ∧ f.n = e.n ∧ f.xs = e.xs ∧ f.llen = e.len + 40 ∧ f.ys = List.replicate (e.len + 40) (mark e)

theorem flat_set (D : List Ent) (e f : Ent) (B : List Ent) (hA : f.A = e.A) (hl : f.len = e.len) (hc : f.cap = e.cap) (hn : f.n = e.n) : (flat (D ++ e :: B)).set (D.length * 3 + 1) f.long = flat (D ++ f :: B) := by
  rw [flat_append, flat_append, List.set_append_right _ _ (by rw [length_flat]; omega), length_flat, show D.length * 3 + 1 - D.length * 3 = 1 by omega]
  congr 1
  simp [flat, Ent.cells, Ent.v, hA, hl, hc, hn]

theorem Own.set3 {w : World} {base n g cap size : Nat} {e : TypeId} {xs : List Value} (h : Own w base e size (.slice (some ⟨g, 0, none⟩) n cap) n xs) (i : Nat) (u : Value) (hi : i < xs.length) : Own (w.setCell ⟨g, i, none⟩ u) base e size (.slice (some ⟨g, 0, none⟩) n cap) n (xs.set i u) := by
  refine ⟨by rw [List.length_set]; exact h.1, ?_⟩
  rcases h.2 with ⟨h', _⟩ | ⟨g', cap', rest, h', hg, hB, h1, h2, h3⟩
  · simp at h'
  · simp only [Value.slice.injEq, Option.some.injEq, Addr.mk.injEq, and_true, true_and] at h'
    obtain ⟨rfl, rfl⟩ := h'
    have hB' := hB.set i u
    rw [List.set_append_left _ _ hi] at hB'
    exact .inr ⟨g, cap, rest, rfl, hg, hB', h1, by rw [List.length_append, List.length_set, ← List.length_append]; exact h2, h3⟩
theorem row_step {b0 g n cap size : Nat} {t : TypeId} {xs : List Value} {w : World} (h : Own w b0 t size (.slice (some ⟨g, 0, none⟩) n cap) n xs) (i : Nat) (u : Value) (hi : i < xs.length) :
    Step w (w.setCell ⟨g, i, none⟩ u) [Asn.own b0 t size (.slice (some ⟨g, 0, none⟩) n cap) n xs] [Asn.own b0 t size (.slice (some ⟨g, 0, none⟩) n cap) n (xs.set i u)] :=
  ⟨Sep.one.2 (h.set3 i u hi), Mods.setCell _ _ _ (foots_cons.2 (.inl rfl)), fun _ hk => .inl (by
    rcases foots_cons.1 hk with h | h
    · exact foots_cons.2 (.inl h)
    · exact absurd h foots_nil)⟩

theorem row_done {b0 g ge N cE : Nat} {n : Int} {D B fs : List Ent} {e e' : Ent} {R : Value} {w : World} (hN : (D ++ e :: B).length = N) (hA : e'.A = e.A) (hl : e'.len = e.len) (hc : e'.cap = e.cap) (hn : e'.n = e.n)
    (hs : Sep w (allA b0 g n (.slice (some ⟨ge, 0, none⟩) N cE) (D ++ e :: B) fs R)) :
    Step w (w.setCell ⟨ge, D.length * 3 + 1, none⟩ e'.long) (allA b0 g n (.slice (some ⟨ge, 0, none⟩) N cE) (D ++ e :: B) fs R) (allA b0 g n (.slice (some ⟨ge, 0, none⟩) N cE) (D ++ e' :: B) fs R) := by
  have hN' : (D ++ e' :: B).length = N := by rw [← hN]; simp
  unfold allA bookA at hs ⊢
  rw [hN] at hs ⊢
  rw [hN', ← flat_set D e e' B hA hl hc hn]
  have hrow := row_step (hs.tail.head) (D.length * 3 + 1) e'.long (by rw [length_flat]; simp; omega)
  exact hrow.at (X := [_]) (A := []) hs

theorem grow_step {b0 : Nat} {e : Ent} {L : Option Addr} {m c : Nat} {ys : List Value} {w w' : World} (ho : Own w' b0 5 1 e.v e.len e.xs) (hl : Own w' b0 5 1 (.slice L m c) m ys)
    (hin : InOrNew w e.A m e.cap (.slice L m c)) (hm : Mods (fun k => e.v.ownBlock = some k) w w') :
    Step w w' [Asn.ent b0 5 1 e] [Asn.ent b0 5 1 { e with L := L, llen := m, lcap := c, ys := ys }] := by
  refine ⟨Sep.one.2 ⟨ho, hl⟩, hm.mono (fun k _ hk => foots_cons.2 (.inl (.inl hk))), fun k hk => ?_⟩
  rcases foots_cons.1 hk with hk | hk
  · rcases hk with hk | hk
    · exact .inl (foots_cons.2 (.inl (.inl hk)))
    · have hk' : (Value.slice L m c).ownBlock = some k := hk
      rcases hin with h1 | h1
      · rw [h1] at hk'
        exact .inl (foots_cons.2 (.inl (.inl (by unfold Ent.v; rw [ownBlock_slice e.A e.len e.cap m e.cap]; exact hk'))))
      · exact .inr (h1 k hk')
  · exact absurd hk foots_nil

set_option maxRecDepth 100000 in
set_option maxHeartbeats 2000000 in
theorem growByte_any (b0 g : Nat) (n : Int) (E R : Value) (es : List Ent) (w : World) (hs : Sep w (allA b0 g n E es es R)) (hbare : ∀ e ∈ es, e.xs = List.replicate e.len (mark e)) (hes : es.length < 1000000000) (hln : ∀ e ∈ es, e.len ≤ 140737488353000) (hb0 : b0 ≤ w.heap.size) :
    Calls Tryz.prog 78 #[.pointer (some ⟨g, 0, none⟩)] w (fun e w' => e = .returned (.tuple #[]) ∧ ∃ fs : List Ent, ∃ hfl : fs.length = es.length, (∀ i (h : i < es.length), GrownE es[i] (fs[i]'(by omega))) ∧ Step w w' (allA b0 g n E es es R) (allA b0 g n E fs fs R)) := by
  obtain ⟨i0, hi, hz0, hz1, hz2⟩ := info_parts Tryz.infoByte
  have HS := Lib.hid hs; clear hs
  have HBR := Lib.hid hbare; clear hbare
  have HLN := Lib.hid hln; clear hln
  go_enter Tryz.func78, Tryz.ntmps78
  go_wp2
  go_loopw [2] (fun x wr => ∃ i : Nat, i ≤ es.length ∧ x = .int .i64 i ∧ Hid (∃ D : List Ent, D.length = i ∧ (∀ k (h : k < es.length) (h' : k < D.length), GrownE es[k] D[k]) ∧ Step w wr (allA b0 g n E es es R) (allA b0 g n E (D ++ es.drop i) (D ++ es.drop i) R))) (fun x _ => es.length - (intOf x).toNat)
  case atStart => exact ⟨0, by omega, rfl, [], rfl, fun k _ h => absurd h (by simp), Step.refl (by simpa using HS.out)⟩
  case round =>
    obtain ⟨i, hi', rfl, HT⟩ := hrel
    obtain ⟨D, hD, hG, hT⟩ := HT.out
    clear HT
    have hB : Blk wr g 54 (bookCells n E R) := hT.sep.head
    have hcnt : (D ++ es.drop i).length = es.length := by rw [List.length_append, List.length_drop]; omega
    have hE : Own wr b0 151 3 E (D ++ es.drop i).length (flat (D ++ es.drop i)) := hT.sep.tail.head
    have c1 : wr.cell? ⟨g, 1, none⟩ = some E := by rw [hB.cell]; rfl
    have fr0 := hB.free
    by_cases hlt : i < es.length
    · obtain ⟨ge, cE, hEq, hge, q0, q1, q2⟩ := entry_cells hE i (by omega)
      rw [hcnt] at hEq
      subst hEq
      have hei : (D ++ es.drop i)[i]'(by omega) = es[i]'hlt := by
        rw [List.getElem_append_right (by omega)]; simp [hD]
      rw [hei] at q0 q1 q2
      have hsplit : D ++ es.drop i = D ++ (es[i]'hlt) :: es.drop (i + 1) := by rw [List.getElem_cons_drop]
      have hold := (Sep.append.1 hT.sep).2.1
      rw [hsplit, List.map_append, List.map_cons] at hold
      have hent := (Sep.append.1 hold).2.1.head
      have hlen := HLN.out _ (List.getElem_mem hlt)
      have hbe := HBR.out _ (List.getElem_mem hlt)
      have hbw : b0 ≤ wr.heap.size := Nat.le_trans hb0 hT.mods.size
      obtain ⟨e, he⟩ : ∃ e, e = es[i]'hlt := ⟨_, rfl⟩
      rw [← he] at q0 q1 q2 hent hlen hbe
      have HEQ := Lib.hid he
      have HT := Lib.hid hT; have HG := Lib.hid hG; have HSP := Lib.hid hsplit; have HENT := Lib.hid hent; have HB := Lib.hid hB; have HE := Lib.hid hE
      clear he hold hT hG hsplit hent hB hE hei
      have hiI : (i : Int) < es.length := by omega
      obtain ⟨A, len, cap, L, llen, lcap, nn, xs, ys⟩ := e
      simp only [Ent.v, Ent.long] at q0 q1 q2 hlen hbe
      have hxs : xs = List.replicate len (.int .u8 (nn % 256)) := hbe
      subst hxs
      clear hbe
      have hent0 : Own wr b0 5 1 (.slice A len cap) len (List.replicate len (.int .u8 (nn % 256))) := HENT.out.1
      have hvlt0 : ∀ k, (Value.slice A len cap).ownBlock = some k → k < wr.heap.size := fun k hk => (hent0.lt k hk).2
      have HE0 := Lib.hid hent0; have HV0 := Lib.hid hvlt0
      clear hent0 hvlt0
      go_wp2_with fail
      have hBh := Blk.lit wr 151 _ rfl #[.slice A len cap, .slice L llen lcap, .int .i64 nn] _ rfl
      have hmh : Mods (fun k => (Value.slice A len cap).ownBlock = some k) wr (wr.alloc (.cells #[.slice A len cap, .slice L llen lcap, .int .i64 nn] 151)) := Mods.alloc _ _
      have hEh := HE0.out.alloc (.cells #[.slice A len cap, .slice L llen lcap, .int .i64 nn] 151)
      have hszh : wr.heap.size ≤ (wr.alloc (.cells #[.slice A len cap, .slice L llen lcap, .int .i64 nn] 151)).heap.size := by simp
      generalize wr.alloc (.cells #[.slice A len cap, .slice L llen lcap, .int .i64 nn] 151) = wh at hBh hmh hEh hszh
      have hnb : (Value.slice A len cap).ownBlock ≠ some wr.heap.size := fun h => by have := HV0.out _ h; omega
      have HBH := Lib.hid hBh; have HMH := Lib.hid hmh; have HEH := Lib.hid hEh; have HNB := Lib.hid hnb
      have hbh : b0 ≤ wh.heap.size := Nat.le_trans hbw hszh
      clear hBh hmh hEh hnb q0 q1 q2 c1
      obtain ⟨wo, rfl⟩ : ∃ wo : World, wo = wr := ⟨_, rfl⟩
      go_loopw [4, 5] (fun long y wk => ∃ j : Nat, j ≤ 40 ∧ y = .int .i64 j ∧ Hid (Own wk b0 5 1 long (len + j) (List.replicate (len + j) (.int .u8 (nn % 256)))) ∧ Hid (Own wk b0 5 1 (.slice A len cap) len (List.replicate len (.int .u8 (nn % 256)))) ∧ Hid (InOrNew wh A (len + j) cap long) ∧ Hid (Mods (fun k => (Value.slice A len cap).ownBlock = some k) wh wk)) (fun _ y _ => 40 - (intOf y).toNat)
      case atStart => exact ⟨0, by omega, rfl, HEH.out, HEH.out, .inl rfl, Mods.refl _ _⟩
      case round =>
        obtain ⟨j, hj, rfl, HL, HV, HI, HM⟩ := hrel
        have hBk := HBH.out.mods HM.out HNB.out
        have d2 : wr.cell? ⟨wo.heap.size, 2, none⟩ = some (.int .i64 nn) := by rw [hBk.cell]; rfl
        have HBK := Lib.hid hBk; clear hBk
        have hbr : b0 ≤ wr.heap.size := Nat.le_trans hbh HM.out.size
        by_cases hjl : j < 40
        · have hjI : (j : Int) < 40 := by omega
          go_wp2_with (first | (go_at_call 133; refine (markByte_any nn _).mono ?_; rintro e w' ⟨rfl, rfl⟩) | (at_builtin; refine wpList_append_two rfl (.tmp 28) (.tmp 32) 22 rfl i0 (.int .u8 0) 1 Tryz.underlying22 hi hz0 hz1 hz2 rfl (by decide) rfl (HL.out.alloc _) (wr.heap.size + 1) (some ⟨wr.heap.size, 0, none⟩) 1 1 rfl [.int .u8 (nn % 256)] rfl (Rd.one wr 5 _ (Nat.lt_succ_self _)) (oneCell_U8 [nn % 256]) (by omega) (by omega) (by simp; omega) ?_; intro long' w2 ho2 _ hw; have hgo := grow_one (by omega) HV.out HI.out HM.out (fun k hk => Nat.lt_of_lt_of_le (HV0.out k hk) hszh) hw ho2; have HG2 := Lib.hid hgo; have HO2 := Lib.hid ho2; clear hgo ho2 hw))
          obtain ⟨Y, cy, rfl, _, _, _⟩ := HO2.out.shape
          go_wp2
          go_roundw
          case rel =>
            obtain ⟨h1, h2, h3⟩ := HG2.out
            refine ⟨j + 1, by omega, by go_num, ?_, h1, h2, h3⟩
            have := HO2.out
            rw [← List.replicate_succ'] at this
            exact this
          case measure => simp [intOf]; omega
        · obtain rfl : j = 40 := by omega
          obtain ⟨Y, cy, rfl, _, _, _⟩ := HL.out.shape
          obtain ⟨e', he'⟩ : ∃ e' : Ent, e' = ⟨A, len, cap, Y, len + 40, cy, nn, List.replicate len (.int .u8 (nn % 256)), List.replicate (len + 40) (.int .u8 (nn % 256))⟩ := ⟨_, rfl⟩
          have hin : InOrNew wo A (len + 40) cap (.slice Y (len + 40) cy) := by
            rcases HI.out with h | h
            · exact .inl h
            · exact .inr (fun k hk => Nat.le_trans hszh (h k hk))
          have hst1 : Step wo wr [Asn.ent b0 5 1 (es[i]'hlt)] [Asn.ent b0 5 1 e'] := by
            rw [← HEQ.out, he']
            exact grow_step HV.out HL.out hin (HMH.out.trans HM.out)
          have hT := HT.out
          rw [HSP.out] at hT
          have hcnt' : (D ++ (es[i]'hlt) :: es.drop (i + 1)).length = es.length := by rw [← HSP.out]; exact hcnt
          have hT1 : Step w wr (allA b0 g n (.slice (some ⟨ge, 0, none⟩) es.length cE) es es R) (allA b0 g n (.slice (some ⟨ge, 0, none⟩) es.length cE) (D ++ (es[i]'hlt) :: es.drop (i + 1)) (D ++ e' :: es.drop (i + 1)) R) := by
            have hT2 := hT
            unfold allA at hT2 ⊢
            rw [List.map_append, List.map_cons] at hT2 ⊢
            exact hT2.trans (hst1.at hT2.sep)
          have hB2 : Blk wr g 54 (bookCells n (.slice (some ⟨ge, 0, none⟩) es.length cE) R) := hT1.sep.head
          have c1 : wr.cell? ⟨g, 1, none⟩ = some (.slice (some ⟨ge, 0, none⟩) es.length cE) := by rw [hB2.cell]; rfl
          have hE2 : Own wr b0 151 3 (.slice (some ⟨ge, 0, none⟩) es.length cE) (D ++ (es[i]'hlt) :: es.drop (i + 1)).length (flat (D ++ (es[i]'hlt) :: es.drop (i + 1))) := hT1.sep.tail.head
          obtain ⟨old, q1⟩ : ∃ old, wr.cell? ⟨ge, i * 3 + 1, none⟩ = some old := by
            obtain ⟨ge', cE', hEq, _, _, q1, _⟩ := entry_cells hE2 i (by omega)
            simp only [Value.slice.injEq, Option.some.injEq, Addr.mk.injEq, and_true] at hEq
            obtain ⟨rfl, _, _⟩ := hEq
            exact ⟨_, q1⟩
          have fq : ∀ k, wr.frozen? ⟨ge, k, none⟩ = false := by
            rcases hE2.2 with ⟨h, _⟩ | ⟨g', _, _, h, _, hBB, _⟩
            · simp at h
            · simp only [Value.slice.injEq, Option.some.injEq, Addr.mk.injEq, and_true] at h
              obtain ⟨rfl, _, _⟩ := h
              exact hBB.free
          have hT2 := hT1.trans (row_done (e' := e') hcnt' (by rw [he', ← HEQ.out]) (by rw [he', ← HEQ.out]) (by rw [he', ← HEQ.out]) (by rw [he', ← HEQ.out]) hT1.sep)
          rw [hD, show e'.long = .slice Y (len + 40) cy by rw [he']; rfl] at hT2
          have hge' : GrownE (es[i]'hlt) e' := by
            rw [← HEQ.out, he']
            exact ⟨rfl, rfl, rfl, rfl, rfl, rfl, rfl⟩
          have HT2 := Lib.hid hT2; have HGE := Lib.hid hge'
          have hcE : es.length ≤ cE := by obtain ⟨_, _, h, h1, _⟩ := hE2.shape; simp only [Value.slice.injEq] at h; omega
          clear hT hT1 hT2 hst1 hE2 hB2 hin he' hge' hcnt'
          go_wp2
          go_roundw
          case rel =>
            refine ⟨i + 1, by omega, by go_num, D ++ [e'], by simp [hD], fun k h h' => ?_, ?_⟩
            · by_cases hk : k < D.length
              · rw [List.getElem_append_left hk]; exact HG.out k h hk
              · have : k = i := by simp at h'; omega
                subst this
                rw [List.getElem_append_right (by omega)]
                simp only [hD, Nat.sub_self, List.getElem_cons_zero]
                exact HGE.out
            · have := HT2.out
              rw [List.append_assoc]
              exact this
          case measure => simp [intOf]; omega
    · obtain rfl : i = es.length := by omega
      rw [hcnt] at hE
      obtain ⟨X, cx, rfl, _, _, _⟩ := hE.shape
      have HT := Lib.hid hT; have HG := Lib.hid hG
      clear hT hG hB hE fr0
      go_wp2
      go_end0
      refine ⟨rfl, D, hD, fun k h => HG.out k h (by omega), ?_⟩
      have := HT.out
      rw [List.drop_length, List.append_nil] at this
      exact this
end Go.Proofs.YtgibdecgmageeaaGreatDoor
