/- List walked. -/
import Derived.Test.YtgibdecgmageeaaDoorDisk9
import Derived.Sort.OwnSorted
namespace Go.Proofs.YtgibdecgmageeaaDoor
open Go.RowKit

def Strs (l : List ByteArray) : List Value := l.map Value.string
@[simp] theorem length_Strs (l : List ByteArray) : (Strs l).length = l.length := by simp [Strs]
theorem oneCell_Strs (l : List ByteArray) : ∀ u ∈ Strs l, u.oneCell' = true := by
  intro u hu
  obtain ⟨s, _, rfl⟩ := List.mem_map.1 hu
  rfl
theorem length_sorted (l : List ByteArray) : (sorted l).length = l.length := by simp [sorted]
theorem sorted_nil : sorted [] = [] := by simp [sorted]

/-- slices.Sort of texts of the call's own. -/
theorem SortS_any (base : Nat) (l : List ByteArray) (A : Option Addr) (n cap : Nat) (w : World) (hn : n = l.length) (hl : n ≤ 1000) (ho : Own w base 9 1 (.slice A n cap) n (Strs l)) :
    Calls Tryd.prog 56 #[.slice A n cap] w (fun e w' => e = .returned (.tuple #[]) ∧ Own w' base 9 1 (.slice A n cap) n (Strs (sorted l)) ∧ Mods (fun k => (Value.slice A n cap).ownBlock = some k) w w') := by
  subst hn
  rcases ho.2 with ⟨h1, h2⟩ | ⟨g, cp, rest, h1, hb, hB, h3, h4, h5⟩
  · have hl0 : l = [] := List.eq_nil_of_length_eq_zero h2
    subst hl0
    refine (Tryd.slices_Sort_string_none A cap w).mono ?_
    rintro e w' ⟨rfl, rfl⟩
    exact ⟨rfl, by rw [sorted_nil]; exact ho, Mods.refl _ _⟩
  · obtain ⟨rfl, _, rfl⟩ := Value.slice.inj h1
    let ss : List (List UInt8) := l.map fun s => s.data.toList
    have hss : ss.map encStr = Strs l := by
      simp only [ss, List.map_map, Strs]
      apply List.map_congr_left
      intro s _
      rfl
    have hsl : ss.length = l.length := by simp [ss]
    have hH : Go.Sort.Holds encStr w g 0 ss.toArray := holds_of_block hB (by
      rw [hsl, hss]
      simp only [List.take_left' (show (Strs l).length = l.length by simp)])
    have h := Tryd.slices_Sort_string g 0 cap ss w hH hB.lt (by rw [hsl]; omega)
    rw [hsl] at h
    refine h.mono ?_
    rintro e w' ⟨rfl, n, os, rfl⟩
    have hts : ((ss.mergeSort fun x y => decide (x ≤ y)).map encStr) = Strs (sorted l) := by
      unfold sorted Strs
      rw [List.map_map]
      rfl
    have htl : (ss.mergeSort fun x y => decide (x ≤ y)).length = l.length := by simp [hsl]
    have hheap := heap_sorted (n := n) (os := os) (ss.mergeSort fun x y => decide (x ≤ y)).toArray hB
    refine ⟨rfl, ?_, Mods.grown (grownBy_sorted _) (fun k hk => by obtain rfl := Option.some.inj hk; rfl)⟩
    have hput : Go.Sort.putCells encStr 0 (ss.mergeSort fun x y => decide (x ≤ y)).toArray (Strs l ++ rest).toArray = (Strs (sorted l) ++ rest).toArray := by
      apply Array.ext_getElem?
      intro j
      have ht := take_putCells (Strs l ++ rest).toArray (ss.mergeSort fun x y => decide (x ≤ y)) (by rw [htl]; simp)
      rw [htl, hts] at ht
      by_cases hj : j < l.length
      · have h1 : ((Go.Sort.putCells encStr 0 (ss.mergeSort fun x y => decide (x ≤ y)).toArray (Strs l ++ rest).toArray).toList.take l.length)[j]? = (Strs (sorted l))[j]? := by rw [ht]
        rw [List.getElem?_take_of_lt hj, Array.getElem?_toList] at h1
        rw [h1]
        simp only [List.getElem?_toArray]
        rw [List.getElem?_append_left (by simp [length_sorted]; exact hj)]
      · unfold Go.Sort.putCells
        rw [Array.getElem?_mapIdx]
        simp only [List.getElem?_toArray]
        rw [List.getElem?_append_right (by simp; omega), List.getElem?_append_right (by simp [length_sorted]; omega)]
        simp only [length_Strs, length_sorted]
        have : ¬ (0 ≤ j ∧ j < 0 + (ss.mergeSort fun x y => decide (x ≤ y)).toArray.size) := by simp [hsl]; omega
        cases rest[j - l.length]? with
        | none => rfl
        | some y => rw [Option.map_some, if_neg this]
    rw [hput] at hheap
    refine Own.of_blk (rest := rest) hheap (by simp [length_sorted]) hb h3 ?_ h5
    simpa [length_sorted] using h4

theorem ClipS_any (A : Option Addr) (n c : Nat) (w : World) (h : n ≤ c) (_hm : c ≤ 9223372036854775807) :
    Calls Tryd.prog 57 #[.slice A n c] w fun e w' => e = .returned (.slice A n n) ∧ w = w' := by
  go_enter Tryd.func57, Tryd.ntmps57
  go_wp2
  go_ret
  exact ⟨rfl, rfl⟩
theorem Tryd.infoString : (Tryd.prog.info? 9).map (fun i => (i.zero, i.size, i.bytes)) = some (some (.string ⟨#[]⟩), 1, 16) := by kernel_rfl

def namesOf (t : List Pl) : List ByteArray := (t.filter fun p => p.2.isSome).map (·.1)
theorem namesOf_snoc (t : List Pl) (p : Pl) : namesOf (t ++ [p]) = namesOf t ++ (if p.2.isSome then [p.1] else []) := by
  unfold namesOf
  rw [List.filter_append, List.map_append]
  cases h : p.2.isSome <;> simp [h]
theorem namesOf_le (t : List Pl) : (namesOf t).length ≤ t.length := by
  unfold namesOf
  rw [List.length_map]
  exact List.length_filter_le _ _
theorem Dm.list_eq (m : Dm) : m.list = sorted (namesOf m.now) := rfl

/-- Texts handed back, of the call's own. -/
def RetS (w : World) (l : List ByteArray) (e : Ending) (w' : World) : Prop :=
  ∃ A, e = .returned (.slice A l.length l.length) ∧ Own w' w.heap.size 9 1 (.slice A l.length l.length) l.length (Strs l) ∧ Below w.heap.size w w'

theorem List_nil (w : World) : Calls Tryd.prog 38 #[.pointer none] w (fun e w' => e = .returned (.slice none 0 0) ∧ w = w') := by
  go_enter Tryd.func38, Tryd.ntmps38
  go_wp2
  go_ret
  exact ⟨rfl, rfl⟩

set_option maxRecDepth 100000 in
set_option maxHeartbeats 2000000 in
theorem List_any (c : Cd) (b0 : Nat) (w : World) (hS : Sep w (c.asn b0)) (hk : c.m.ok) :
    Calls Tryd.prog 38 #[.pointer (some ⟨c.g, 0, none⟩)] w (RetS w c.m.list) := by
  obtain ⟨i0, hi, hz0, hz1, hz2⟩ := info_parts Tryd.infoString
  have hB := Cd.blk hS
  have hrange := Cd.tab_range hB
  have hl : c.now.length = 64 := hk.now.len
  have hidx := run_index_tab c.rows c.now hl
  have hlen : (Tryd.prog.info? 70).map (·.size) = some (tabCells c.rows c.now).length := by rw [Tryd.sizeTable, length_tabCells, hl]
  obtain ⟨C, hC⟩ : ∃ C, C = tabCells c.rows c.now := ⟨_, rfl⟩
  rw [← hC] at hrange hidx hlen
  have place : ∀ j (h : j < c.now.length), (ptr c.rows (c.now[j]'h).2 = none ∧ namesOf (c.now.take (j + 1)) = namesOf (c.now.take j)) ∨ ∃ r : Nat, ptr c.rows (c.now[j]'h).2 = some ⟨r, 0, none⟩ ∧ namesOf (c.now.take (j + 1)) = namesOf (c.now.take j) ++ [(c.now[j]'h).1] := by
    intro j h
    have ht : c.now.take (j + 1) = c.now.take j ++ [c.now[j]'h] := List.take_succ_eq_append_getElem h
    rw [ht, namesOf_snoc]
    cases hp : (c.now[j]'h).2 with
    | none => left; exact ⟨rfl, by simp⟩
    | some i =>
      right
      have hi : i < c.rows.length := by have := (hk.now.some_ _ (List.getElem_mem h) i hp).2; simpa [Cd.m] using this
      exact ⟨(c.rows[i]'hi).r, by unfold ptr; simp [hi], by simp⟩
  have hfin : namesOf (c.now.take 64) = namesOf c.m.now := by rw [List.take_of_length_le (by omega)]; rfl
  have hsml : (namesOf c.m.now).length ≤ 64 := by have := namesOf_le c.m.now; rw [hk.now.len] at this; exact this
  have hup : ∀ j, (namesOf (c.now.take j)).length ≤ j := fun j => Nat.le_trans (namesOf_le _) (by simp; omega)
  rw [Dm.list_eq]
  generalize namesOf c.m.now = res at hfin hsml
  have HR := Lib.hid hrange; have HX := Lib.hid hidx; have HP := Lib.hid place; have HFIN := Lib.hid hfin; have HLEN := Lib.hid hlen; have HL := Lib.hid hl; have HUP := Lib.hid hup
  clear hB hrange hidx place hfin hlen hC hS hk hl hup
  go_enter Tryd.func38, Tryd.ntmps38
  go_wp2_with (first | (refine wpList_load_mid rfl 70 (.tmp 9) rfl c.g 1 rfl C _ HR.out Tryd.underlying70 rfl HLEN.out ?_))
  go_loopw [2, 11] (fun v i wr => ∃ (j n : Nat), j ≤ 64 ∧ i = .int .i64 j ∧ n ≤ j ∧ Hid (n = (namesOf (c.now.take j)).length) ∧ (∃ A cap, v = .slice A n cap) ∧ Hid (Own wr w.heap.size 9 1 v n (Strs (namesOf (c.now.take j)))) ∧ Below w.heap.size w wr) (fun _ i _ => 64 - (intOf i).toNat)
  case atStart => exact ⟨0, 0, by omega, rfl, by omega, rfl, ⟨_, _, rfl⟩, Own.nil _ _ _ _, Below.refl _ _⟩
  case round =>
    obtain ⟨j, n, hj, rfl, hnj, HN, ⟨A, cap, rfl⟩, HO, hb⟩ := hrel
    by_cases hlt : j < 64
    · have hjl : j < c.now.length := by rw [HL.out]; exact hlt
      have hx := HX.out j hjl
      have hp := HP.out j hjl
      generalize (c.now[j]'hjl).1 = nm at hx hp
      generalize ptr c.rows (c.now[j]'hjl).2 = pp at hx hp
      have hbw : w.heap.size ≤ wr.heap.size := hb.size
      rcases hp with ⟨rfl, hn⟩ | ⟨r, rfl, hn⟩
      · have HNN := Lib.hid hn
        clear hn
        go_wp2
        go_roundw
        case rel => exact ⟨j + 1, n, by omega, by go_num, by omega, by rw [HNN.out]; exact HN, ⟨_, _, rfl⟩, by rw [HNN.out]; exact HO.out.alloc _, hb.alloc hb.size _⟩
        case measure => simp [intOf]; omega
      · have HNN := Lib.hid hn
        clear hn
        go_wp2_with (at_builtin; refine wpList_append_Own rfl (.tmp 17) (.tmp 20) 52 rfl i0 (.string ⟨#[]⟩) 16 Tryd.underlying52 hi hz0 hz1 hz2 rfl (by decide) rfl ((HO.out.alloc _).alloc _) (wr.heap.size + 2) (some ⟨wr.heap.size + 1, 0, none⟩) 1 1 rfl [.string nm] rfl (Rd.of_blk (Blk.lit _ 9 _ (by simp) _ _ rfl) 0 (fun j u hu => by rw [Nat.zero_add]; exact hu) (by omega)) (oneCell_Strs [nm]) (by omega) (by omega) (by simp; omega) ?_; intro v' w2 ho2 _ hm _ _)
        have hb2 : Below w.heap.size w w2 := ((hb.alloc hb.size _).alloc (by simp; omega) _).trans (hm.below_own (by simp; omega) (fun g hg => (HO.out.lt g hg).1))
        obtain ⟨A2, cap2, rfl, _⟩ := ho2.shape
        have HO2 := Lib.hid ho2
        clear hm ho2
        go_roundw
        case rel =>
          refine ⟨j + 1, n + 1, by omega, by go_num, by omega, ?_, ⟨_, _, rfl⟩, ?_, hb2⟩
          · rw [HNN.out, List.length_append, ← HN.out]; rfl
          · rw [HNN.out, Strs, List.map_append]; exact HO2.out
        case measure => simp [intOf]; omega
    · obtain rfl : j = 64 := by omega
      have hon := HO.out
      rw [HFIN.out] at hon
      have hnr := HN.out
      rw [HFIN.out] at hnr
      clear HN HO HUP HL HLEN HFIN HP HX HR
      obtain ⟨_, _, ee, q1, q2, q3⟩ := hon.shape
      have ee' := (Value.slice.inj ee).2.2
      subst ee'
      have HS := Lib.hid (SortS_any w.heap.size res A n _ wr hnr (by omega) hon)
      have HN := Lib.hid hnr
      have hbase : ∀ g, (Value.slice A n cap).ownBlock = some g → w.heap.size ≤ g := fun g hg => (hon.lt g hg).1
      have HBASE := Lib.hid hbase
      clear hnr hon ee q3 hbase
      go_wp2_with fail
      (with_reducible refine HS.out.mono ?_)
      rintro e w2 ⟨rfl, ho2, hm2⟩
      have hb2 := hb.trans (hm2.below_own hb.size HBASE.out)
      have HO2 := Lib.hid ho2.clip
      clear ho2 hm2
      go_wp2_with fail
      (with_reducible refine (ClipS_any A n _ w2 q1 q2).mono ?_)
      rintro e w3 ⟨rfl, rfl⟩
      go_wp2
      go_ret
      refine ⟨A, ?_, ?_, hb2⟩
      · rw [length_sorted, ← HN.out]; rfl
      · rw [length_sorted, ← HN.out]; exact HO2.out
end Go.Proofs.YtgibdecgmageeaaDoor
