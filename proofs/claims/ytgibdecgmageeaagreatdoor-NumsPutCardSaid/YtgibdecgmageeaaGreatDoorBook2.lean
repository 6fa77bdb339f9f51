/- The book: each list of bytes is filled with its mark. -/
import Derived.Test.YtgibdecgmageeaaGreatDoorBook1
namespace Go.Proofs.YtgibdecgmageeaaGreatDoor
open Go.RowKit

set_option maxHeartbeats 400000 in
theorem markByte_any (n : Int) (w : World) : Calls Tryz.prog 133 #[.int .i64 n] w (fun e w' => e = .returned (.int .u8 (n % 256)) ∧ w = w') := by
  go_enter Tryz.func133, Tryz.ntmps133
  go_wp2
  go_ret
  exact ⟨rfl, rfl⟩
set_option maxHeartbeats 400000 in
theorem isByte_any (x n : Int) (w : World) (h : x = n % 256) : Calls Tryz.prog 150 #[.int .u8 x, .int .i64 n] w (fun e w' => e = .returned (.bool true) ∧ w = w') := by
  go_enter Tryz.func150, Tryz.ntmps150
  go_wp2
  go_ret
  exact ⟨rfl, rfl⟩

theorem Step.at {w w' : World} {X A B : List Asn} {a a' : Asn} (h : Step w w' [a] [a']) (hs : Sep w (X ++ (A ++ a :: B))) : Step w w' (X ++ (A ++ a :: B)) (X ++ (A ++ a' :: B)) := by
  have p : ∀ b : Asn, (X ++ (A ++ b :: B)).Perm ([b] ++ (X ++ (A ++ B))) := by
    intro b
    have e : X ++ (A ++ b :: B) = (X ++ A) ++ b :: B := by simp
    have e2 : [b] ++ (X ++ (A ++ B)) = b :: ((X ++ A) ++ B) := by simp
    rw [e, e2]
    exact List.perm_middle
  exact (h.frame (hs.perm (p a))).perm (p a).symm (p a').symm

def mark (e : Ent) : Value := .int .u8 (e.n % 256)
def Ent.filled (e : Ent) : Ent := { e with xs := List.replicate e.len (mark e) }
def fillTo (i : Nat) (es : List Ent) : List Ent := (es.take i).map Ent.filled ++ es.drop i
theorem flat_filled (es : List Ent) : flat (es.map Ent.filled) = flat es := by
  induction es with
  | nil => rfl
  | cons a r ih => simp only [flat, List.map_cons, List.flatMap_cons] at ih ⊢; rw [ih]; rfl
theorem flat_fillTo (i : Nat) (es : List Ent) : flat (fillTo i es) = flat es := by
  unfold fillTo
  rw [flat_append, flat_filled, ← flat_append, List.take_append_drop]
theorem fillTo_split (i : Nat) (es : List Ent) (h : i < es.length) : fillTo i es = (es.take i).map Ent.filled ++ (es[i]'h) :: es.drop (i + 1) := by
  unfold fillTo; rw [List.getElem_cons_drop]
theorem fillTo_succ (i : Nat) (es : List Ent) (h : i < es.length) : fillTo (i + 1) es = (es.take i).map Ent.filled ++ (es[i]'h).filled :: es.drop (i + 1) := by
  unfold fillTo; rw [List.take_succ_eq_append_getElem h, List.map_append, List.append_assoc]; rfl
/-- Nothing stands behind the list yet. -/
def Ent.bare (e : Ent) : Prop := e.L = none ∧ e.llen = 0 ∧ e.lcap = 0 ∧ e.ys = []

/-- The book, and what it holds. -/
def allA (b0 g : Nat) (n : Int) (E : Value) (es fs : List Ent) (R : Value) : List Asn := bookA b0 g n E es R ++ fs.map (Asn.ent b0 5 1)

theorem entry_cells {w : World} {b0 : Nat} {E : Value} {t : TypeId} {es : List Ent} (h : Own w b0 t 3 E es.length (flat es)) (i : Nat) (hi : i < es.length) :
    ∃ ge cE, E = .slice (some ⟨ge, 0, none⟩) es.length cE ∧ ge < w.heap.size ∧ w.cell? ⟨ge, i * 3, none⟩ = some (es[i]'hi).v ∧ w.cell? ⟨ge, i * 3 + 1, none⟩ = some (es[i]'hi).long ∧ w.cell? ⟨ge, i * 3 + 2, none⟩ = some (.int .i64 (es[i]'hi).n) := by
  rcases h.2 with ⟨_, h0⟩ | ⟨g, cap, rest, rfl, _, hB, _⟩
  · omega
  · obtain ⟨h1, h2, h3⟩ := flat_cells es i hi
    have hl := length_flat es
    refine ⟨g, cap, rfl, hB.lt, ?_, ?_, ?_⟩
    · rw [hB.cell, List.getElem?_append_left (by omega)]; exact h1
    · rw [hB.cell, List.getElem?_append_left (by omega)]; exact h2
    · rw [hB.cell, List.getElem?_append_left (by omega)]; exact h3

theorem Own.set {w : World} {base n g cap : Nat} {e : TypeId} {xs : List Value} (h : Own w base e 1 (.slice (some ⟨g, 0, none⟩) n cap) n xs) (i : Nat) (u : Value) (hi : i < n) : Own (w.setCell ⟨g, i, none⟩ u) base e 1 (.slice (some ⟨g, 0, none⟩) n cap) n (xs.set i u) := by
  refine ⟨by rw [List.length_set]; exact h.1, ?_⟩
  rcases h.2 with ⟨h', _⟩ | ⟨g', cap', rest, h', hg, hB, h1, h2, h3⟩
  · simp at h'
  · simp only [Value.slice.injEq, Option.some.injEq, Addr.mk.injEq, and_true, true_and] at h'
    obtain ⟨rfl, rfl⟩ := h'
    have hl := h.1
    have hB' := hB.set i u
    rw [List.set_append_left _ _ (by omega)] at hB'
    exact .inr ⟨g, cap, rest, rfl, hg, hB', h1, by rw [List.length_append, List.length_set, ← List.length_append]; exact h2, h3⟩
theorem set_run {α : Type} (j : Nat) (a : α) (xs : List α) (h : j < xs.length) : (List.replicate j a ++ xs.drop j).set j a = List.replicate (j + 1) a ++ xs.drop (j + 1) := by
  rw [List.set_append_right _ _ (by simp), List.length_replicate, Nat.sub_self, List.drop_eq_getElem_cons h, List.set_cons_zero, List.replicate_succ', List.append_assoc]
  rfl

theorem fill_step {b0 : Nat} {e : Ent} {w w' : World} (hb : e.bare) (ho : Own w' b0 5 1 e.v e.len (List.replicate e.len (mark e))) (hm : Mods (fun k => e.v.ownBlock = some k) w w') :
    Step w w' [Asn.ent b0 5 1 e] [Asn.ent b0 5 1 e.filled] := by
  obtain ⟨h1, h2, h3, h4⟩ := hb
  have hl : e.long = .slice none 0 0 := by unfold Ent.long; rw [h1, h2, h3]
  refine ⟨Sep.one.2 ⟨ho, ?_⟩, hm.mono (fun k _ hk => foots_cons.2 (.inl (.inl hk))), fun k hk => .inl ?_⟩
  · show Own w' b0 5 1 e.long e.llen e.ys
    rw [hl, h2, h4]; exact Own.nil _ _ _ _
  · rcases foots_cons.1 hk with h | h
    · exact foots_cons.2 (.inl h)
    · exact absurd h foots_nil

set_option maxRecDepth 100000 in
set_option maxHeartbeats 2000000 in
theorem fillByte_any (b0 g : Nat) (n : Int) (E R : Value) (es : List Ent) (w : World) (hs : Sep w (allA b0 g n E es es R)) (hbare : ∀ e ∈ es, e.bare) (hes : es.length < 1000000000) (hln : ∀ e ∈ es, e.len ≤ 140737488351232 + 1000) :
    Calls Tryz.prog 61 #[.pointer (some ⟨g, 0, none⟩)] w (fun e w' => e = .returned (.tuple #[]) ∧ Step w w' (allA b0 g n E es es R) (allA b0 g n E es (es.map Ent.filled) R)) := by
  have HS := Lib.hid hs; clear hs
  have HBR := Lib.hid hbare; clear hbare
  have HLN := Lib.hid hln; clear hln
  go_enter Tryz.func61, Tryz.ntmps61
  go_wp2
  go_loopw [2] (fun x wr => ∃ i : Nat, i ≤ es.length ∧ x = .int .i64 i ∧ Hid (Step w wr (allA b0 g n E es es R) (allA b0 g n E es (fillTo i es) R))) (fun x _ => es.length - (intOf x).toNat)
  case atStart => exact ⟨0, by omega, rfl, Step.refl (by simpa [fillTo] using HS.out)⟩
  case round =>
    obtain ⟨i, hi, rfl, HT⟩ := hrel
    have hB : Blk wr g 54 (bookCells n E R) := HT.out.sep.head
    have hE : Own wr b0 151 3 E es.length (flat es) := HT.out.sep.tail.head
    have c1 : wr.cell? ⟨g, 1, none⟩ = some E := by rw [hB.cell]; rfl
    by_cases hlt : i < es.length
    · obtain ⟨ge, cE, rfl, hge, q0, q1, q2⟩ := entry_cells hE i hlt
      have hold := (Sep.append.1 HT.out.sep).2.1
      rw [fillTo_split i es hlt, List.map_append, List.map_cons] at hold
      have hent : Own wr b0 5 1 (es[i]'hlt).v (es[i]'hlt).len (es[i]'hlt).xs := ((Sep.append.1 hold).2.1.head).1
      have hlen := HLN.out _ (List.getElem_mem hlt)
      obtain ⟨e, he⟩ : ∃ e, e = es[i]'hlt := ⟨_, rfl⟩
      rw [← he] at q0 q1 q2 hent hlen
      have HEQ := Lib.hid he
      clear he hold
      obtain ⟨A, len, cap, L, llen, lcap, nn, xs, ys⟩ := e
      simp only [Ent.v, Ent.long] at q0 q1 q2 hent hlen
      have HENT := Lib.hid hent; have HB := Lib.hid hB
      clear hE hent hB
      have hiI : (i : Int) < es.length := by omega
      go_wp2_with fail
      have hBh := Blk.lit wr 151 _ rfl #[.slice A len cap, .slice L llen lcap, .int .i64 nn] _ rfl
      have hmh : Mods (fun k => (Value.slice A len cap).ownBlock = some k) wr (wr.alloc (.cells #[.slice A len cap, .slice L llen lcap, .int .i64 nn] 151)) := Mods.alloc _ _
      have hEh := HENT.out.alloc (.cells #[.slice A len cap, .slice L llen lcap, .int .i64 nn] 151)
      generalize wr.alloc (.cells #[.slice A len cap, .slice L llen lcap, .int .i64 nn] 151) = wh at hBh hmh hEh
      have hnb : (Value.slice A len cap).ownBlock ≠ some wr.heap.size := fun h => by have := (HENT.out.lt _ h).2; omega
      have HBH := Lib.hid hBh; have HMH := Lib.hid hmh
      have hE0 : Hid (Own wh b0 5 1 (.slice A len cap) len (List.replicate 0 (.int .u8 (nn % 256)) ++ xs.drop 0)) := by unfold Hid; simpa using hEh
      clear hBh hmh hEh q0 q1 q2 c1
      obtain ⟨wo, rfl⟩ : ∃ wo : World, wo = wr := ⟨_, rfl⟩
      go_loopw [4] (fun y wk => ∃ j : Nat, j ≤ len ∧ y = .int .i64 j ∧ Hid (Own wk b0 5 1 (.slice A len cap) len (List.replicate j (.int .u8 (nn % 256)) ++ xs.drop j)) ∧ Hid (Mods (fun k => (Value.slice A len cap).ownBlock = some k) wh wk)) (fun y _ => len - (intOf y).toNat)
      case atStart => exact ⟨0, by omega, rfl, hE0, Mods.refl _ _⟩
      case round =>
        obtain ⟨j, hj, rfl, HO, HM⟩ := hrel
        have hBk := HBH.out.mods HM.out hnb
        have d0 : wr.cell? ⟨wo.heap.size, 0, none⟩ = some (.slice A len cap) := by rw [hBk.cell]; rfl
        have d2 : wr.cell? ⟨wo.heap.size, 2, none⟩ = some (.int .i64 nn) := by rw [hBk.cell]; rfl
        have HBK := Lib.hid hBk; clear hBk
        by_cases hjl : j < len
        · obtain ⟨gv, rfl, rest, hBv, hcl⟩ : ∃ gv, A = some ⟨gv, 0, none⟩ ∧ ∃ rest, Blk wr gv 5 (List.replicate j (.int .u8 (nn % 256)) ++ xs.drop j ++ rest) ∧ len ≤ (List.replicate j (Value.int .u8 (nn % 256)) ++ xs.drop j).length := by
            rcases HO.out.2 with ⟨_, h0⟩ | ⟨g', cap', rest, h', _, hBv, _⟩
            · omega
            · simp only [Value.slice.injEq, true_and] at h'
              exact ⟨g', h'.1, rest, hBv, by have := HO.out.1; omega⟩
          have fv := hBv.free
          obtain ⟨old, hold⟩ : ∃ old, wr.cell? ⟨gv, j, none⟩ = some old := by
            rw [hBv.cell]
            exact ⟨_, List.getElem?_eq_getElem (by rw [List.length_append]; omega)⟩
          have HBV := Lib.hid hBv; clear hBv hcl
          have hjI : (j : Int) < len := by omega
          go_wp2_with fail
          go_region_law (go_simp; go_at_call 133; refine (markByte_any nn _).mono ?_; rintro e w' ⟨rfl, rfl⟩)
          all_goals
            have hxl : xs.length = len := by have := HENT.out.1; omega
            have hset := HO.out.set j (.int .u8 (nn % 256)) hjl
            rw [set_run j _ xs (by omega)] at hset
            have hms := HM.out.putc (p := ⟨gv, j, none⟩) (.inl rfl) (.int .u8 (nn % 256))
            have HSET := Lib.hid hset; have HMS := Lib.hid hms
            clear hset hms
            go_wp2
            go_roundw
            case rel => exact ⟨j + 1, by omega, by go_num, HSET.out, HMS.out.drw⟩
            case measure => simp [intOf]; omega
        · obtain rfl : j = len := by omega
          go_wp2
          go_roundw
          case rel =>
            refine ⟨i + 1, by omega, by go_num, ?_⟩
            have hbe := HBR.out _ (List.getElem_mem hlt)
            have ho := HO.out
            rw [show xs.drop j = [] from List.drop_eq_nil_of_le (by have := HENT.out.1; omega), List.append_nil] at ho
            have hst : Step wo wr [Asn.ent b0 5 1 (es[i]'hlt)] [Asn.ent b0 5 1 (es[i]'hlt).filled] := by
              rw [← HEQ.out] at hbe ⊢
              exact fill_step hbe ho (HMH.out.trans HM.out)
            have hT := HT.out
            unfold allA at hT ⊢
            rw [fillTo_split i es hlt, List.map_append, List.map_cons] at hT
            rw [fillTo_succ i es hlt, List.map_append, List.map_cons]
            exact hT.trans (hst.at hT.sep)
          case measure => simp [intOf]; omega
    · obtain rfl : i = es.length := by omega
      obtain ⟨X, cx, rfl, _, _, _⟩ := hE.shape
      have HB := Lib.hid hB; have HE := Lib.hid hE; clear hB hE
      go_wp2
      go_end0
      refine ⟨rfl, ?_⟩
      have := HT.out
      unfold fillTo at this
      simpa using this
end Go.Proofs.YtgibdecgmageeaaGreatDoor
