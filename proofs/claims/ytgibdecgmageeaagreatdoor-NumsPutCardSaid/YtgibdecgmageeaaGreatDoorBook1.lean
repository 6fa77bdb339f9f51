/- The book: its state; a list is told to it. -/
import Derived.Test.YtgibdecgmageeaaGreatDoorBas
import Derived.Test.YtgibdecgmageeaaGreatDoorOwn2
import Derived.Deep.RegionLaw
import Derived.Deep.DeepCutAuto
namespace Go.Proofs.YtgibdecgmageeaaGreatDoor
open Go.RowKit

/-- A list that the book holds, what was put behind it, its number. -/
structure Ent where
  A : Option Addr
  len : Nat
  cap : Nat
  L : Option Addr
  llen : Nat
  lcap : Nat
  n : Int
  xs : List Value
  ys : List Value
def Ent.v (e : Ent) : Value := .slice e.A e.len e.cap
def Ent.long (e : Ent) : Value := .slice e.L e.llen e.lcap
def Ent.cells (e : Ent) : List Value := [e.v, e.long, .int .i64 e.n]
def flat (es : List Ent) : List Value := es.flatMap Ent.cells
theorem length_flat (es : List Ent) : (flat es).length = es.length * 3 := by
  induction es with
  | nil => rfl
  | cons a r ih => simp only [flat, List.flatMap_cons, List.length_append] at ih ⊢; rw [ih]; simp [Ent.cells]; omega
theorem flat_append (a b : List Ent) : flat (a ++ b) = flat a ++ flat b := by simp [flat]
theorem flat_cells (es : List Ent) (i : Nat) (h : i < es.length) : (flat es)[i * 3]? = some (es[i]'h).v ∧ (flat es)[i * 3 + 1]? = some (es[i]'h).long ∧ (flat es)[i * 3 + 2]? = some (.int .i64 (es[i]'h).n) := by
  have e : es = es.take i ++ (es[i]'h) :: es.drop (i + 1) := by rw [List.getElem_cons_drop, List.take_append_drop]
  have hl : (flat (es.take i)).length = i * 3 := by rw [length_flat, List.length_take, Nat.min_eq_left (by omega)]
  have e2 : flat es = flat (es.take i) ++ ((es[i]'h).cells ++ flat (es.drop (i + 1))) := by
    conv => lhs; rw [e]
    rw [flat_append]; rfl
  rw [e2]
  refine ⟨?_, ?_, ?_⟩ <;> (rw [List.getElem?_append_right (by omega), hl]; simp [Ent.cells])
def Asn.ent (base : Nat) (t : TypeId) (size : Nat) (e : Ent) : Asn where
  foot k := e.v.ownBlock = some k ∨ e.long.ownBlock = some k
  holds w := Own w base t size e.v e.len e.xs ∧ Own w base t size e.long e.llen e.ys
  lt h hk := hk.elim (fun h1 => (h.1.lt _ h1).2) (fun h1 => (h.2.lt _ h1).2)
  stable h hm hd := ⟨h.1.mods hm (fun g hg => hd g (.inl hg)), h.2.mods hm (fun g hg => hd g (.inr hg))⟩

/-- The book's cells: how many lists it was told of, those of bytes, those of records; no others. -/
def bookCells (n : Int) (E R : Value) : List Value := .int .i64 n :: E :: (List.replicate 15 (.slice none 0 0) ++ [R])
/-- The book in block g. -/
def bookA (b0 g : Nat) (n : Int) (E : Value) (es : List Ent) (R : Value) : List Asn := [Asn.blk g 54 (bookCells n E R), Asn.own b0 151 3 E es.length (flat es)]

theorem keep_step {g b0 : Nat} {E E' u : Value} {T t : TypeId} {size m : Nat} {xs xs' cs cs2 : List Value} {w w1 wa w2 : World}
    (hB : Blk w g T cs) (hd : E.ownBlock ≠ some g) (hm1 : Mods (· = g) w w1) (hb : Below w1.heap.size w1 wa) (hw : Went wa w2 E E' m 1) (ho2 : Own w2 b0 t size E' (m + 1) xs') (hB2 : Blk w2 g T cs2) (i : Nat) :
    Step w (w2.setCell ⟨g, i, none⟩ u) [Asn.blk g T cs, Asn.own b0 t size E m xs] [Asn.blk g T (cs2.set i u), Asn.own b0 t size E' (m + 1) xs'] := by
  have hsz : w.heap.size ≤ wa.heap.size := Nat.le_trans hm1.size hb.size
  have hE' : ∀ k, E'.ownBlock = some k → E.ownBlock = some k ∨ w.heap.size ≤ k := fun k hk => (hw.grow k hk).imp id (fun h => Nat.le_trans hsz h)
  have hne : E'.ownBlock ≠ some g := fun h => by
    rcases hE' g h with h1 | h1
    · exact hd h1
    · have := hB.lt; omega
  have m1 : Mods (foots [Asn.blk g T cs, Asn.own b0 t size E m xs]) w w1 := hm1.mono (fun k _ hk => foots_cons.2 (.inl hk))
  have m2 := m1.trans' (Mods.of_below hb (fun _ => False)) (fun _ _ h => h.elim)
  have m3 := m2.trans' hw.mods (fun k _ hk => foots_cons.2 (.inr (foots_cons.2 (.inl hk))))
  refine ⟨Sep.cons.2 ⟨hB2.set i u, fun k hk hf => ?_, Sep.one.2 ?_⟩, m3.putc (p := ⟨g, i, none⟩) (.inl (foots_cons.2 (.inl (show g = g from rfl)))) u, fun k hk => ?_⟩
  · have hk' : k = g := hk
    subst hk'
    rcases foots_cons.1 hf with h | h
    · exact hne h
    · exact foots_nil h
  · exact ho2.mods (Mods.setCell (S := (· = g)) w2 ⟨g, i, none⟩ u rfl) (fun k hk h => hne (by rw [← h]; exact hk))
  · rcases foots_cons.1 hk with h | h
    · exact .inl (foots_cons.2 (.inl h))
    · rcases foots_cons.1 h with h | h
      · exact (hE' k h).imp (fun h => foots_cons.2 (.inr (foots_cons.2 (.inl h)))) id
      · exact absurd h foots_nil

theorem Tryz.infoHeld : (Tryz.prog.info? 151).map (fun i => (i.zero, i.size, i.bytes)) = some (some (.agg #[.slice none 0 0, .slice none 0 0, .int .i64 0]), 3, 56) := by kernel_rfl
theorem held_parts {P : Program} {t : TypeId} {z : Value} {s b : Nat} (h : (P.info? t).map (fun i => (i.zero, i.size, i.bytes)) = some (some z, s, b)) : ∃ i, P.info? t = some i ∧ i.zero = some z ∧ i.size = s ∧ i.bytes = b := by
  cases hp : P.info? t with
  | none => rw [hp] at h; cases h
  | some i =>
    rw [hp] at h
    simp only [Option.map_some, Option.some.injEq, Prod.mk.injEq] at h
    exact ⟨i, rfl, h.1, h.2.1, h.2.2⟩

set_option maxRecDepth 100000 in
set_option maxHeartbeats 1000000 in
theorem keepByte_any (b0 g : Nat) (n : Int) (E R : Value) (es : List Ent) (A : Option Addr) (len cap : Nat) (w : World) (hs : Sep w (bookA b0 g n E es R)) (hn0 : 0 ≤ n) (hn1 : n < 1000000000) (hes : es.length < 1000000000) (hb0 : b0 ≤ w.heap.size) :
    Calls Tryz.prog 60 #[.pointer (some ⟨g, 0, none⟩), .slice A len cap] w (fun e w' => e = .returned (.tuple #[]) ∧ ∃ E', Step w w' (bookA b0 g n E es R) (bookA b0 g (n + 1) E' (es ++ [⟨A, len, cap, none, 0, 0, n + 1, [], []⟩]) R)) := by
  obtain ⟨i0, hi, hz0, hz1, hz2⟩ := held_parts Tryz.infoHeld
  obtain ⟨hB, hd, hs2⟩ := Sep.cons.1 hs
  have hown : Own w b0 151 3 E es.length (flat es) := hs2.head
  have hB : Blk w g 54 (bookCells n E R) := hB
  have hdg : E.ownBlock ≠ some g := fun h => hd g rfl (foots_cons.2 (.inl h))
  have c0 : w.cell? ⟨g, 0, none⟩ = some (.int .i64 n) := by rw [hB.cell]; rfl
  have f0 := hB.free
  go_enter Tryz.func60, Tryz.ntmps60
  go_upto_region 1 with fail
  have hB1 : Blk (w.setCell ⟨g, 0, none⟩ (.int .i64 (n + 1))) g 54 (bookCells (n + 1) E R) := by have := hB.set 0 (.int .i64 (n + 1)); exact this
  have hm1 : Mods (· = g) w (w.setCell ⟨g, 0, none⟩ (.int .i64 (n + 1))) := (Mods.refl _ _).putg 0 _
  have hown1 := hown.mods hm1 (fun k hk h => hdg (by rw [← h]; exact hk))
  generalize w.setCell ⟨g, 0, none⟩ (.int .i64 (n + 1)) = w1 at hB1 hm1 hown1
  clear c0 f0
  have c0 : w1.cell? ⟨g, 0, none⟩ = some (.int .i64 (n + 1)) := by rw [hB1.cell]; rfl
  have c1 : w1.cell? ⟨g, 1, none⟩ = some E := by rw [hB1.cell]; rfl
  have f0 := hB1.free
  have key : ∀ W, Below w1.heap.size w1 W → Own W b0 151 3 E es.length (flat es) ∧ Blk W g 54 (bookCells (n + 1) E R) := fun W h => ⟨hown1.below h (fun k hk => (hown1.lt k hk).2), hB1.below h hB1.lt⟩
  have HK := Lib.hid key
  have HO := Lib.hid hown1; have HB := Lib.hid hB1; have HM := Lib.hid hm1
  have HB0 := Lib.hid hB
  clear hown1 hB1 hm1 key hs hd hs2 hown hB
  have ca1 : ∀ o, (w1.alloc o).cell? ⟨g, 1, none⟩ = some E := fun o => by rw [(HB.out.alloc o).cell]; rfl
  have ca0 : ∀ o, (w1.alloc o).cell? ⟨g, 0, none⟩ = some (.int .i64 (n + 1)) := fun o => by rw [(HB.out.alloc o).cell]; rfl
  have hbb : b0 ≤ w1.heap.size := Nat.le_trans hb0 HM.out.size
  go_region_law ((refine step_append_two rfl (.tmp 15) (.tmp 22) 36 rfl i0 (.agg #[.slice none 0 0, .slice none 0 0, .int .i64 0]) 56 Tryz.underlying36 hi hz0 hz1 hz2 rfl (by decide) rfl (HK.out _ (by repeat (first | exact Below.refl _ _ | refine Below.drew ?_ | refine Below.alloc ?_ (by simp) _))).1 (w1.heap.size + 1) (some ⟨w1.heap.size, 0, none⟩) 1 1 rfl [.slice A len cap, .slice none 0 0, .int .i64 (n + 1)] rfl (Rd.of_blk (e := 151) (by first | exact Blk.lit w1.drew _ _ rfl _ _ rfl | exact (Blk.lit w1 _ _ rfl _ _ rfl).drew) 0 (fun j u hu => by rw [Nat.zero_add]; exact hu) (Nat.lt_succ_self _)) (by intro u hu; simp at hu; rcases hu with rfl | rfl | rfl <;> rfl) (by omega) (by omega) (by simp; omega) ?_); intro E' w2 ho2 _ hw0; have hw : Went _ w2 E E' es.length 1 := hw0; clear hw0; obtain ⟨X, cx, rfl, hx1, hx2, hx3⟩ := ho2.shape; have hB2 : Blk w2 g 54 (bookCells (n + 1) E R) := ((HK.out _ (by repeat (first | exact Below.refl _ _ | refine Below.drew ?_ | refine Below.alloc ?_ (by simp) _))).2.mods hw.mods (fun h => hdg h)); have c2 : w2.cell? ⟨g, 1, none⟩ = some E := (by rw [hB2.cell]; rfl); have f2 := hB2.free; clear hx3)
  all_goals
    go_wp2
    go_end0
    refine ⟨rfl, .slice X (es.length + 1) cx, ?_⟩
    have hst := keep_step (u := .slice X (es.length + 1) cx) (xs := flat es) HB0.out hdg HM.out (by repeat (first | exact Below.refl _ _ | refine Below.drew ?_ | refine Below.alloc ?_ (by simp) _)) hw ho2 hB2 1
    unfold bookA
    rw [flat_append, List.length_append]
    exact hst

set_option maxHeartbeats 400000 in
theorem BookBytes_any (b0 g : Nat) (n : Int) (E R : Value) (es : List Ent) (A : Option Addr) (len cap : Nat) (w : World) (hs : Sep w (bookA b0 g n E es R)) (hn0 : 0 ≤ n) (hn1 : n < 1000000000) (hes : es.length < 1000000000) (hb0 : b0 ≤ w.heap.size) :
    Calls Tryz.prog 17 #[.pointer (some ⟨g, 0, none⟩), .slice A len cap] w (fun e w' => e = .returned (.tuple #[]) ∧ ∃ E', Step w w' (bookA b0 g n E es R) (bookA b0 g (n + 1) E' (es ++ [⟨A, len, cap, none, 0, 0, n + 1, [], []⟩]) R)) := by
  have hk := keepByte_any b0 g n E R es A len cap w hs hn0 hn1 hes hb0
  have HK := Lib.hid hk
  clear hk hs
  go_enter Tryz.func17, Tryz.ntmps17
  go_wp2_with fail
  refine HK.out.mono ?_
  rintro e w' ⟨rfl, hst⟩
  go_wp2
  go_end0
  exact ⟨rfl, hst⟩
end Go.Proofs.YtgibdecgmageeaaGreatDoor
