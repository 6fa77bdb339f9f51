/- Fail walked. -/
import Derived.Test.YtgibdecgmageeaaDoorDisk13
import Derived.Test.YtgibdecgmageeaaDoorDisk16
import Derived.Deep.DeepCutAuto
import Derived.Deep.CutRange
import Derived.Deep.RegionWith
import Derived.Deep.RegionHeld3
namespace Go.Proofs.YtgibdecgmageeaaDoor
open Go.RowKit

theorem foldl_put : ∀ (vs old l r : List Value) (k off : Nat), old.length = vs.length → off + k = l.length →
    (vs.zipIdx k).foldl (fun cs (p : Value × Nat) => cs.setIfInBounds (off + p.2) p.1) (l ++ (old ++ r)).toArray = (l ++ (vs ++ r)).toArray
  | [], old, l, r, k, off, h, _ => by
    have : old = [] := List.eq_nil_of_length_eq_zero h
    subst this; rfl
  | v :: vs, [], l, r, k, off, h, _ => by simp at h
  | v :: vs, u :: old, l, r, k, off, h, ho => by
    rw [List.zipIdx_cons, List.foldl_cons]
    have e : ((l ++ (u :: old ++ r)).toArray).setIfInBounds (off + k) v = ((l ++ [v]) ++ (old ++ r)).toArray := by
      rw [List.setIfInBounds_toArray, ho, List.set_append_right _ _ (Nat.le_refl _), Nat.sub_self, List.cons_append, List.set_cons_zero]
      simp
    show List.foldl _ (((l ++ (u :: old ++ r)).toArray).setIfInBounds (off + k) v) (vs.zipIdx (k + 1)) = _
    rw [e, foldl_put vs old (l ++ [v]) r (k + 1) off (by simpa using h) (by simp; omega)]
    simp
theorem fill_two (place : Nat → Option (Nat × Nat)) (z : Value) (C : List Value) (a b : List Value) (z0 : Value) (n : Nat) (h0 : place 0 = some (0, 1)) (h1 : place 1 = some (1, n)) (hz : z.cells = #[z]) (hC : C.length = n) (ha : a.length = n) :
    Instr.fill place (z0 :: (a ++ b)).toArray [(0, z), (1, .agg C.toArray)] = some (z :: (C ++ b)).toArray := by
  unfold Instr.fill
  rw [h0]
  simp only [hz]
  have h1' : ¬ ((#[z] : Array Value).size ≠ 1 || 0 + (#[z] : Array Value).size > (z0 :: (a ++ b)).toArray.size) = true := by simp
  rw [if_neg h1']
  unfold Instr.fill
  rw [h1]
  simp only []
  have e1 : (Array.foldl (fun cs x => match x with | (c, j) => Array.setIfInBounds cs (0 + j) c) (z0 :: (a ++ b)).toArray (#[z] : Array Value).zipIdx) = (z :: (a ++ b)).toArray := by
    simp
  rw [e1]
  have e2 : (Value.agg C.toArray).cells = C.toArray := rfl
  rw [e2]
  have h2' : ¬ (C.toArray.size ≠ n || 1 + C.toArray.size > (z :: (a ++ b)).toArray.size) = true := by simp [hC, ha]; omega
  rw [if_neg h2']
  unfold Instr.fill
  congr 1
  have h3 := foldl_put C a [z] b 0 1 (by rw [ha, hC]) rfl
  rw [List.singleton_append, List.singleton_append] at h3
  rw [← h3]
  simp
theorem may_one : ({ data := #[97, 98, 99, 100, 101, 102, 103, 104, 105, 106, 107, 108, 109, 110, 111, 112, 113, 114, 115, 116, 117, 118, 119, 120, 121, 122, 48, 49, 50, 51, 52, 53, 54, 55, 56, 57, 45, 46] } : ByteArray).extract 0 1 = ⟨#[97]⟩ := by kernel_rfl

theorem Fail_err (c : Cd) (b0 : Nat) (keep : Int) (names : Bool) (E : Int) (w : World) (hS : Sep w (c.asn b0)) (hE : c.m.goes (decide (0 ≤ keep)) ⟨#[97]⟩ = E) (h0 : E ≠ 0) :
    Calls Tryd.prog 29 #[.pointer (some ⟨c.g, 0, none⟩), .int .i64 keep, .bool names] w (fun e w' => e = .returned (.tuple #[.pointer none, .int .i64 E]) ∧ Below w.heap.size w w') := by
  have HG := Lib.hid (goes_all c (decide (0 ≤ keep)) ⟨#[97]⟩ w (Cd.blk hS) (by decide))
  rw [hE] at HG
  have hE1 : (E != 0) = true := by simpa using h0
  clear hS hE h0
  go_enter Tryd.func29, Tryd.ntmps29
  go_wp2_with fail
  rw [may_one]
  (with_reducible refine HG.out.mono ?_)
  rintro e w1 ⟨rfl, hb⟩
  go_wp2
  go_ret2
  exact ⟨rfl, hb⟩

theorem built_tab (z : Int) (C : List Value) (hC : C.length = 128) : Tryd.prog.built 72 [(0, .int .i64 z), (1, .agg C.toArray)] = some (.int .i64 z :: (C ++ tabCells [] (List.replicate 64 free))).toArray := by
  have hi : ∃ it, Tryd.prog.info? 72 = some it ∧ it.zero.map Value.cells = some (.int .i64 0 :: (tabCells [] (List.replicate 64 free) ++ tabCells [] (List.replicate 64 free))).toArray := by
    have h1 : (Tryd.prog.info? 72).bind (fun it => it.zero.map Value.cells) = some (.int .i64 0 :: (tabCells [] (List.replicate 64 free) ++ tabCells [] (List.replicate 64 free))).toArray := by kernel_rfl
    cases h : Tryd.prog.info? 72 with
    | none => rw [h] at h1; cases h1
    | some it => rw [h] at h1; exact ⟨it, rfl, h1⟩
  obtain ⟨it, h1, h2⟩ := hi
  cases hz : it.zero with
  | none => rw [hz] at h2; cases h2
  | some z0 =>
    rw [hz] at h2
    have h3 : z0.cells = (.int .i64 0 :: (tabCells [] (List.replicate 64 free) ++ tabCells [] (List.replicate 64 free))).toArray := by simpa using h2
    obtain ⟨fs, hfs, hpl⟩ : ∃ fs, Tryd.prog.underlying 72 = some (.struct fs) ∧ fs.toList.mapM (fun f => (Tryd.prog.info? f.type).map fun i => (f.offset, i.size)) = some [(0, 1), (1, 128), (129, 128)] := ⟨_, Tryd.underlying72, by kernel_rfl⟩
    unfold Program.built
    rw [h1, hfs]
    simp only [hz, hpl, h3]
    exact fill_two _ _ C _ _ _ 128 rfl rfl rfl hC (by simp [length_tabCells])
theorem run_build_tab (z : Int) (C : List Value) (hC : C.length = 128) (w : World) : (Instr.build 72 #[(0, .int .i64 z), (1, .agg C.toArray)]).run Tryd.prog w = .ok (.agg (.int .i64 z :: (C ++ tabCells [] (List.replicate 64 free))).toArray) w := run_build w _ _ _ (built_tab z C hC)

theorem built_fold (z : Int) (C : List Value) (hC : C.length = 128) : List.foldl (fun cs x => cs.setIfInBounds (1 + x.snd) x.fst) (Tryd.zeroCells72.setIfInBounds 0 (.int .i64 z)) C.zipIdx = (.int .i64 z :: (C ++ tabCells [] (List.replicate 64 free))).toArray := by
  rw [zero_new]
  exact foldl_put C (tabCells [] (List.replicate 64 free)) [.int .i64 z] (tabCells [] (List.replicate 64 free)) 0 1 (by rw [hC, length_tabCells]; rfl) rfl

theorem Cd.safe_range {w : World} {c : Cd} (h : Blk w c.g 72 c.cells) (hl : c.now.length = 64) : w.rangeAt c.g 129 (tabCells c.rows c.safe) := fun j v hv => by
  rw [h.cell]
  unfold Cd.cells
  rw [show 129 + j = (128 + j) + 1 by omega, List.getElem?_cons_succ, List.getElem?_append_right (by rw [length_tabCells]; omega), length_tabCells, hl, show 128 + j - 64 * 2 = j by omega]
  exact hv

theorem tabCells_free (rows : List RowC) (n : Nat) : tabCells rows (List.replicate n free) = tabCells [] (List.replicate n free) := by
  unfold tabCells
  rw [List.flatMap_def, List.flatMap_def]
  congr 1
  apply List.map_congr_left
  intro p hp
  rw [List.eq_of_mem_replicate hp]; rfl
/-- The new disk's cells, behind so many places. -/
def failCells (size : Int) (rows nr : List RowC) (t : List Pl) (j : Nat) : List Value :=
  .int .i64 size :: ((tabCells nr (anewT 0 (t.take j)) ++ tabCells rows (t.drop j)) ++ tabCells [] (List.replicate 64 free))
theorem failCells_zero (size : Int) (rows : List RowC) (t : List Pl) : failCells size rows [] t 0 = .int .i64 size :: (tabCells rows t ++ tabCells [] (List.replicate 64 free)) := by
  unfold failCells; simp [anewT, tabCells]
theorem drop_at {t : List Pl} {j : Nat} (h : j < t.length) : t.drop j = (t[j]'h) :: t.drop (j + 1) := (List.getElem_cons_drop (h := h)).symm
theorem take_at {t : List Pl} {j : Nat} (h : j < t.length) : t.take (j + 1) = t.take j ++ [t[j]'h] := List.take_succ_eq_append_getElem h
theorem failCells_none {size : Int} {rows nr : List RowC} {t : List Pl} {j : Nat} (h : j < t.length) (hp : (t[j]'h).2 = none) : failCells size rows nr t (j + 1) = failCells size rows nr t j := by
  unfold failCells
  rw [take_at h, anewT_append, tabCells_append, drop_at h]
  cases hq : t[j]'h with
  | mk s o =>
    rw [hq] at hp
    have : o = none := hp
    subst this
    simp [anewT, tabCells, plCells]
theorem failCells_some {size : Int} {rows nr : List RowC} {t : List Pl} {j i : Nat} (h : j < t.length) (hp : (t[j]'h).2 = some i) (hn : nr.length = nFiles (t.take j)) (x : RowC) :
    (failCells size rows nr t j).set (1 + j * 2 + 1) (.pointer (some ⟨x.r, 0, none⟩)) = failCells size rows (nr ++ [x]) t (j + 1) := by
  have hl : (tabCells nr (anewT 0 (t.take j))).length = j * 2 := by rw [length_tabCells, length_anewT, List.length_take, Nat.min_eq_left (by omega)]
  have hmore : tabCells (nr ++ [x]) (anewT 0 (t.take j)) = tabCells nr (anewT 0 (t.take j)) := tabCells_more _ _ _ (fun p hp i hi => by
    have := (anewT_lt (t.take j) 0 p hp i hi).2
    omega)
  unfold failCells
  rw [take_at h, anewT_append, tabCells_append, drop_at h, hmore]
  cases hq : t[j]'h with
  | mk s o =>
    rw [hq] at hp
    have : o = some i := hp
    subst this
    have e1 : tabCells rows ((s, some i) :: t.drop (j + 1)) = .string s :: .pointer (ptr rows (some i)) :: tabCells rows (t.drop (j + 1)) := by
      unfold tabCells; rw [List.flatMap_cons]; rfl
    have e2 : tabCells (nr ++ [x]) (anewT (0 + nFiles (t.take j)) [(s, some i)]) = [.string s, .pointer (some ⟨x.r, 0, none⟩)] := by
      simp only [anewT, Nat.zero_add, ← hn]
      unfold tabCells
      rw [List.flatMap_cons]
      simp [plCells]
    rw [e1, e2]
    generalize tabCells rows (t.drop (j + 1)) = R
    generalize tabCells [] (List.replicate 64 free) = Z
    generalize hL : tabCells nr (anewT 0 (t.take j)) = L at hl
    have e3 : Value.int .i64 size :: (L ++ .string s :: .pointer (ptr rows (some i)) :: R ++ Z) = ((.int .i64 size :: L) ++ [.string s]) ++ (.pointer (ptr rows (some i)) :: (R ++ Z)) := by simp
    rw [e3, List.set_append_right _ _ (by simp; omega), show 1 + j * 2 + 1 - ((Value.int .i64 size :: L) ++ [Value.string s]).length = 0 by simp; omega, List.set_cons_zero]
    simp
theorem failCells_at {size : Int} {rows nr : List RowC} {t : List Pl} {j : Nat} (h : j < t.length) : ∃ v, (failCells size rows nr t j)[1 + j * 2 + 1]? = some v := by
  have hl : (tabCells nr (anewT 0 (t.take j))).length = j * 2 := by rw [length_tabCells, length_anewT, List.length_take, Nat.min_eq_left (by omega)]
  have : 1 + j * 2 + 1 < (failCells size rows nr t j).length := by
    unfold failCells
    simp [hl, length_tabCells]
    omega
  exact ⟨_, List.getElem?_eq_getElem this⟩
/-- One file more in the new disk. -/
theorem fail_step {w0 : Nat} {gx : Nat} {wr w3 : World} {size : Int} {rows nr : List RowC} {t : List Pl} {j i : Nat} (h : j < t.length) (hp : (t[j]'h).2 = some i) (hn : nr.length = nFiles (t.take j))
    (hS : Sep wr (Asn.blk gx 72 (failCells size rows nr t j) :: nr.map (RowC.asn w0))) (hb : Below wr.heap.size wr w3) (hw0 : w0 ≤ wr.heap.size) (v : Value) (bs : List Int) (mark : Nat) (ho : Own w3 wr.heap.size 5 1 v bs.length (U8 bs)) :
    Sep ((w3.alloc (.cells #[v, .int .i64 mark] 101)).setCell ⟨gx, 1 + j * 2 + 1, none⟩ (.pointer (some ⟨w3.heap.size, 0, none⟩))) (Asn.blk gx 72 (failCells size rows (nr ++ [⟨w3.heap.size, v, bs, mark⟩]) t (j + 1)) :: (nr ++ [(⟨w3.heap.size, v, bs, mark⟩ : RowC)]).map (RowC.asn w0)) := by
  have hN : Sep (w3.alloc (.cells #[v, .int .i64 mark] 101)) [RowC.asn w0 ⟨w3.heap.size, v, bs, mark⟩] :=
    Sep.one.2 (show (RowC.asn w0 ⟨w3.heap.size, v, bs, mark⟩).holds _ from ⟨Blk.lit w3 _ _ rfl _ _ rfl, (ho.alloc _).rebase (fun g hg => Nat.le_trans hw0 (ho.lt g hg).1), fun e => Nat.lt_irrefl _ (ho.lt _ e).2, Nat.le_trans hw0 hb.size⟩)
  have h1 := (Step.fresh hS (hb.alloc hb.size _) hN (fun k hk => by
    rcases foots_cons.1 hk with h | h
    · rcases h with h | h
      · have h' : k = w3.heap.size := h
        have := hb.size; omega
      · exact (ho.lt k h).1
    · exact absurd h foots_nil)).sep
  have hgx : gx < wr.heap.size := (show Blk wr gx 72 _ from hS.head).lt
  have h2 : Step (w3.alloc (.cells #[v, .int .i64 mark] 101)) ((w3.alloc (.cells #[v, .int .i64 mark] 101)).setCell ⟨gx, 1 + j * 2 + 1, none⟩ (.pointer (some ⟨w3.heap.size, 0, none⟩))) [Asn.blk gx 72 (failCells size rows nr t j)] [Asn.blk gx 72 (failCells size rows (nr ++ [⟨w3.heap.size, v, bs, mark⟩]) t (j + 1))] := by
    have hB : Blk (w3.alloc (.cells #[v, .int .i64 mark] 101)) gx 72 (failCells size rows nr t j) := h1.1 (Asn.blk gx 72 (failCells size rows nr t j)) (List.mem_append_right _ (List.mem_cons_self))
    refine ⟨Sep.one.2 ?_, (Mods.refl _ _).putc (p := ⟨gx, _, none⟩) (Or.inl (foots_cons.2 (Or.inl rfl))) _, fun k hk => .inl ?_⟩
    · have := hB.set (1 + j * 2 + 1) (.pointer (some ⟨w3.heap.size, 0, none⟩))
      rw [failCells_some h hp hn ⟨w3.heap.size, v, bs, mark⟩] at this
      exact this
    · rcases foots_cons.1 hk with h | h
      · exact foots_cons.2 (Or.inl h)
      · exact absurd h foots_nil
  have h3 := h1.perm (B := [Asn.blk gx 72 (failCells size rows nr t j)] ++ (nr.map (RowC.asn w0) ++ [RowC.asn w0 ⟨w3.heap.size, v, bs, mark⟩])) (by
    simp only [List.singleton_append]
    exact (List.Perm.swap _ _ _).trans (List.Perm.cons _ (List.perm_append_comm (l₁ := [_]))))
  have h4 := h2.rest h3
  rw [List.map_append]
  exact h4
theorem failCells_end (gx : Nat) (size : Int) (rows nr : List RowC) (t : List Pl) (h : t.length = 64) : failCells size rows nr t 64 = (⟨gx, size, anewT 0 t, List.replicate 64 free, nr⟩ : Cd).cells := by
  unfold failCells Cd.cells
  rw [List.take_of_length_le (by omega), List.drop_of_length_le (by omega), tabCells_free nr]
  simp [tabCells]

end Go.Proofs.YtgibdecgmageeaaDoor
