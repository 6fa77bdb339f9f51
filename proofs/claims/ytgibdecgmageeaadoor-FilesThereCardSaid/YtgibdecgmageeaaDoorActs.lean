/- Acts in memory; Great walked. -/
import Derived.Test.YtgibdecgmageeaaDoorAlive17
import Derived.Test.YtgibdecgmageeaaDoorOne
import Derived.Deep.DeepCutAuto
import Derived.Deep.CutRange
import Derived.Deep.RegionHeld3
namespace Go.Proofs.YtgibdecgmageeaaDoor
open Go.RowKit

/-- An act, as it lies in memory. -/
structure Ac where
  kind : Int
  name : ByteArray
  too : ByteArray
  b : List Int
  B : Option Addr
  bc : Nat
  at_ : Int
  n : Int
  nb : Bool
def Ac.cells (x : Ac) : List Value := [.int .u8 x.kind, .string x.name, .string x.too, .slice x.B x.b.length x.bc, .int .i64 x.at_, .int .i64 x.n, .bool x.nb]
structure Ac.ok (w : World) (B0 : Nat) (x : Ac) : Prop where
  k0 : 0 ≤ x.kind
  k1 : x.kind < 256
  name : x.name.size ≤ 140737488351232
  too : x.too.size ≤ 140737488351232
  len : x.b.length ≤ 140737488351232
  u8 : IsU8 x.b
  rd : Rd w B0 x.B (U8 x.b)
  a0 : -9223372036854775808 ≤ x.at_
  a1 : x.at_ ≤ 9223372036854775807
  n0 : -9223372036854775808 ≤ x.n
  n1 : x.n ≤ 9223372036854775807
/-- Acts among the arguments. -/
structure Acts (w : World) (B0 : Nat) (A : Option Addr) (l : List Ac) : Prop where
  cells : Rd w B0 A (l.flatMap Ac.cells)
  each : ∀ x ∈ l, x.ok w B0
theorem Acts.below {w w' : World} {B0 B1 : Nat} {A : Option Addr} {l : List Ac} (h : Acts w B0 A l) (hb : Below B0 w w') (hB : B0 ≤ B1) : Acts w' B1 A l :=
  ⟨h.cells.below hb hB, fun x hx => { h.each x hx with rd := (h.each x hx).rd.below hb hB }⟩
theorem Ac.cells_at (l : List Ac) (i : Nat) (hi : i < l.length) (j : Nat) (hj : j < 7) : (l.flatMap Ac.cells)[i * 7 + j]? = ((l[i]'hi).cells)[j]? := by
  induction l generalizing i with
  | nil => exact absurd hi (by simp)
  | cons x r ih =>
    rw [List.flatMap_cons]
    cases i with
    | zero => rw [Nat.zero_mul, Nat.zero_add, List.getElem?_append_left (by show j < 7; exact hj)]; rfl
    | succ i =>
      rw [List.getElem?_append_right (by show 7 ≤ (i + 1) * 7 + j; omega), show (i + 1) * 7 + j - x.cells.length = i * 7 + j from by show (i + 1) * 7 + j - 7 = _; omega, ih i (by simpa using hi)]
      rfl
theorem Ac.cells_len (l : List Ac) : (l.flatMap Ac.cells).length = l.length * 7 := by
  induction l with
  | nil => rfl
  | cons x r ih => rw [List.flatMap_cons, List.length_append, ih, List.length_cons]; show 7 + _ = _; omega
theorem Acts.at {w : World} {B0 : Nat} {A : Option Addr} {l : List Ac} (h : Acts w B0 A l) (i : Nat) (hi : i < l.length) : ∃ ad : Addr, A = some ad ∧ ad.block < B0 ∧ ∀ (j : Nat) (v : Value), (l[i]'hi).cells[j]? = some v → w.cell? (ad.add (i * 7 + j)) = some v := by
  obtain ⟨ad, h1, h2, h3⟩ := h.cells (by rw [Ac.cells_len]; omega)
  refine ⟨ad, h1, h2, fun j v hj => ?_⟩
  have hj7 : j < 7 := (List.getElem?_eq_some_iff.1 hj).1
  exact h3 _ _ (by rw [Ac.cells_at l i hi j hj7]; exact hj)

theorem add_field (ad : Addr) (k f : Nat) (hf : 0 < f) : (⟨(ad.add k).block, (ad.add k).off + f, none⟩ : Addr) = ad.add (k + f) := by
  unfold Addr.add
  rw [if_neg (show k + f ≠ 0 by omega)]
  by_cases h : k = 0
  · rw [if_pos h, h, Nat.zero_add]
  · rw [if_neg h]; simp [Nat.add_assoc]

set_option maxRecDepth 100000 in
set_option maxHeartbeats 1000000 in
theorem Great_at (l : List Ac) (A : Option Addr) (n cap : Nat) (w : World) (hn : n = l.length) (hl : n ≤ 140737488351232) (h : Acts w w.heap.size A l) :
    Calls Tryd.prog 58 #[.slice A n cap] w (fun e w' => ∃ v : Bool, e = .returned (.bool v) ∧ (v = false → n ≤ 200) ∧ Drawn w w') := by
  have HA := Lib.hid h
  have HN := Lib.hid hn
  clear h hn
  go_enter Tryd.func58, Tryd.ntmps58
  go_wp2_with fail
  go_loopw [3, 4] (fun s i wr => ∃ (k j : Nat), s = .int .i64 k ∧ i = .int .i64 j ∧ k ≤ 40000 ∧ j ≤ n ∧ Drawn w wr) (fun _ i _ => n - (intOf i).toNat)
  case atStart => exact ⟨0, 0, rfl, rfl, by omega, by omega, Drawn.refl _⟩
  case round =>
    obtain ⟨k, j, rfl, rfl, hk, hj, hd⟩ := hrel
    by_cases hlt : j < n
    · have hlt' : j < l.length := by have := HN.out; omega
      obtain ⟨ad, rfl, hab, hc⟩ := HA.out.at j hlt'
      have hx := HA.out.each _ (List.getElem_mem hlt')
      generalize (l[j]'hlt') = x at hc hx
      obtain ⟨nq, rfl⟩ := hd
      have c1 : w.cell? ⟨(ad.add (j * 7)).block, (ad.add (j * 7)).off + 1, none⟩ = some (.string x.name) := by rw [add_field _ _ _ (by omega)]; exact hc 1 _ rfl
      have c2 : w.cell? ⟨(ad.add (j * 7)).block, (ad.add (j * 7)).off + 2, none⟩ = some (.string x.too) := by rw [add_field _ _ _ (by omega)]; exact hc 2 _ rfl
      have c3 : w.cell? ⟨(ad.add (j * 7)).block, (ad.add (j * 7)).off + 3, none⟩ = some (.slice x.B x.b.length x.bc) := by rw [add_field _ _ _ (by omega)]; exact hc 3 _ rfl
      have l1 := hx.name
      have l2 := hx.too
      have l3 := hx.len
      have w1 : IntKind.i64.wrap ((k : Int) + 1) = k + 1 := by rw [IntKind.wrap_i64]; omega
      clear hc hx
      go_wp2_with fail
      go_quiet (fail)
      by_cases hbig : (40000 : Int) < k + 1 + x.b.length + x.name.size + x.too.size
      · go_wp2_with fail
        go_ret
        exact ⟨true, rfl, (fun h => Bool.noConfusion h), _, rfl⟩
      · go_wp2_with fail
        go_roundw
        case rel => exact ⟨k + 1 + x.b.length + x.name.size + x.too.size, j + 1, by push_cast; rfl, by go_num, by omega, by omega, _, rfl⟩
        case measure => simp [intOf] <;> omega
    · go_wp2_with fail
      go_ret
      exact ⟨_, rfl, fun h => by simp at h; omega, hd⟩

/-- What an act makes of a disk (FilesIdle, FilesThere). -/
def Dm.act (m : Dm) (x : Ac) : Dm :=
  if x.kind % 10 = 0 ∨ x.kind % 10 = 8 ∨ x.kind % 10 = 9 then (m.create x.name).2 else
  if x.kind % 10 = 1 then (m.remove x.name).2 else
  if x.kind % 10 = 2 then (m.rename x.name x.too).2 else
  if x.kind % 10 = 3 ∨ x.kind % 10 = 4 ∨ x.kind % 10 = 5 then (m.append x.name x.b).2 else
  if x.kind % 10 = 6 then (m.sync x.name).2 else (m.names).2
def doneDm (l : List Ac) : Dm := l.foldl Dm.act (newDm 2000000)

set_option maxRecDepth 100000 in
set_option maxHeartbeats 4000000 in
theorem done_at (l : List Ac) (A : Option Addr) (n cap b0 : Nat) (L : List (Nat × Dm)) (R : List Asn) (w : World) (hn : n = l.length) (hl : n ≤ 140737488351232) (h : Acts w b0 A l) (hd : Disks b0 w L R) :
    Calls Tryd.prog 41 #[.slice A n cap] w (fun e w' => (e = .returned (.pointer none) ∨ ∃ g, e = .returned (.pointer (some ⟨g, 0, none⟩)) ∧ Disks b0 w' ((g, doneDm l) :: L) R) ∧ Below b0 w w') := by
  have hb0 := hd.size
  have HA := Lib.hid h
  have HN := Lib.hid hn
  have H := Lib.hid (New_at (z := 2000000) hd (by omega) (by omega))
  clear h hn hd
  go_enter Tryd.func41, Tryd.ntmps41
  go_wp2_with fail
  (with_reducible refine H.out.mono ?_)
  rintro e w1 ⟨g, rfl, d1, b1⟩
  have D1 := Lib.hid d1
  have B1 := b1.mono hb0
  have HG := Lib.hid (Great_at l A n cap w1 HN.out hl (HA.out.below B1 (Nat.le_trans hb0 b1.size)))
  clear H d1 b1
  go_wp2_with fail
  (with_reducible refine HG.out.mono ?_)
  rintro e w2 ⟨v, rfl, _, dr⟩
  have D2 := Lib.hid (D1.out.below (dr.below _))
  have B2 := B1.trans (dr.below b0)
  clear dr D1 B1 HG
  cases v with
  | true =>
    go_wp2
    go_ret
    exact ⟨.inl rfl, B2⟩
  | false =>
    go_wp2_with fail
    go_loopw [5] (fun i wr => ∃ (j : Nat), i = .int .i64 j ∧ j ≤ n ∧ Disks b0 wr ((g, (l.take j).foldl Dm.act (newDm 2000000)) :: L) R ∧ Below b0 w wr) (fun i _ => n - (intOf i).toNat)
    case atStart => exact ⟨0, rfl, by omega, D2.out, B2⟩
    case round =>
      obtain ⟨j, rfl, hj, dr, br⟩ := hrel
      have DR := Lib.hid dr
      clear dr D2 B2
      by_cases hlt : j < n
      · have hlt' : j < l.length := by have := HN.out; omega
        have htk : ∀ m0, (l.take (j + 1)).foldl Dm.act m0 = ((l.take j).foldl Dm.act m0).act (l[j]'hlt') := fun m0 => by
          rw [List.take_succ_eq_append_getElem hlt', List.foldl_append]; rfl
        have HT0 := htk (newDm 2000000)
        obtain ⟨ad, rfl, hab, hc⟩ := (HA.out.below br (Nat.le_refl _)).at j hlt'
        have hx := (HA.out.below br (Nat.le_refl _)).each _ (List.getElem_mem hlt')
        generalize (l[j]'hlt') = x at hc hx HT0
        have c0 : wr.cell? (ad.add (j * 7)) = some (.int .u8 x.kind) := hc 0 _ rfl
        have c1 : wr.cell? ⟨(ad.add (j * 7)).block, (ad.add (j * 7)).off + 1, none⟩ = some (.string x.name) := by rw [add_field _ _ _ (by omega)]; exact hc 1 _ rfl
        have c2 : wr.cell? ⟨(ad.add (j * 7)).block, (ad.add (j * 7)).off + 2, none⟩ = some (.string x.too) := by rw [add_field _ _ _ (by omega)]; exact hc 2 _ rfl
        have c3 : wr.cell? ⟨(ad.add (j * 7)).block, (ad.add (j * 7)).off + 3, none⟩ = some (.slice x.B x.b.length x.bc) := by rw [add_field _ _ _ (by omega)]; exact hc 3 _ rfl
        have c4 : wr.cell? ⟨(ad.add (j * 7)).block, (ad.add (j * 7)).off + 4, none⟩ = some (.int .i64 x.at_) := by rw [add_field _ _ _ (by omega)]; exact hc 4 _ rfl
        have c5 : wr.cell? ⟨(ad.add (j * 7)).block, (ad.add (j * 7)).off + 5, none⟩ = some (.int .i64 x.n) := by rw [add_field _ _ _ (by omega)]; exact hc 5 _ rfl
        have c6 : wr.cell? ⟨(ad.add (j * 7)).block, (ad.add (j * 7)).off + 6, none⟩ = some (.bool x.nb) := by rw [add_field _ _ _ (by omega)]; exact hc 6 _ rfl
        clear htk hc
        go_upto_region 9 with fail
        have DW := Lib.hid (DR.out.alloc (.cells #[.int .u8 x.kind, .string x.name, .string x.too, .slice x.B x.b.length x.bc, .int .i64 x.at_, .int .i64 x.n, .bool x.nb] 65))
        have BW := br.alloc DR.out.size (.cells #[.int .u8 x.kind, .string x.name, .string x.too, .slice x.B x.b.length x.bc, .int .i64 x.at_, .int .i64 x.n, .bool x.nb] 65)
        have hbw := (Below.refl wr.heap.size wr).alloc (Nat.le_refl _) (.cells #[.int .u8 x.kind, .string x.name, .string x.too, .slice x.B x.b.length x.bc, .int .i64 x.at_, .int .i64 x.n, .bool x.nb] 65)
        have hB := Blk.lit wr 65 _ rfl #[.int .u8 x.kind, .string x.name, .string x.too, .slice x.B x.b.length x.bc, .int .i64 x.at_, .int .i64 x.n, .bool x.nb] _ rfl
        have hxr := (hx.rd.mono DR.out.size).below hbw hbw.size
        have kk0 := hx.k0
        have hnm := hx.name
        have hto := hx.too
        have hln := hx.len
        have hu8 := hx.u8
        generalize hgx : wr.heap.size = gx at hB ⊢
        clear c0 c1 c2 c3 c4 c5 c6 hx hbw DR br hgx
        generalize wr.alloc (.cells #[.int .u8 x.kind, .string x.name, .string x.too, .slice x.B x.b.length x.bc, .int .i64 x.at_, .int .i64 x.n, .bool x.nb] 65) = W1 at DW BW hB hxr ⊢
        have c0 : W1.cell? ⟨gx, 0, none⟩ = some (.int .u8 x.kind) := by rw [hB.cell]; rfl
        have c1 : W1.cell? ⟨gx, 1, none⟩ = some (.string x.name) := by rw [hB.cell]; rfl
        have c2 : W1.cell? ⟨gx, 2, none⟩ = some (.string x.too) := by rw [hB.cell]; rfl
        have c3 : W1.cell? ⟨gx, 3, none⟩ = some (.slice x.B x.b.length x.bc) := by rw [hB.cell]; rfl
        clear hB
        generalize hmm : (l.take j).foldl Dm.act (newDm 2000000) = m at DW HT0
        have HT := Lib.hid HT0
        clear hmm HT0 HA
        have hk : x.kind % 10 = 0 ∨ x.kind % 10 = 1 ∨ x.kind % 10 = 2 ∨ x.kind % 10 = 3 ∨ x.kind % 10 = 4 ∨ x.kind % 10 = 5 ∨ x.kind % 10 = 6 ∨ x.kind % 10 = 7 ∨ x.kind % 10 = 8 ∨ x.kind % 10 = 9 := by omega
        rcases hk with hk | hk | hk | hk | hk | hk | hk | hk | hk | hk
        · have hact : m.act x = (m.create x.name).2 := by unfold Dm.act; rw [if_pos (by omega)]
          have HA1 := Lib.hid (HT.out.trans hact)
          have ht : x.kind.tmod 10 = 0 := by rw [Int.tmod_eq_emod_of_nonneg kk0]; exact hk
          have H := Lib.hid (Create_at DW.out (by omega) (show m.create x.name = ((m.create x.name).1, (m.create x.name).2) from rfl))
          clear hact hk DW HT
          go_wp2_with fail
          (with_reducible refine H.out.mono ?_)
          rintro e w3 ⟨rfl, d3, b3⟩
          have D3 := Lib.hid d3
          have B3 := BW.trans b3
          clear H BW d3 b3 c0 c1 c2 c3 hxr
          go_wp2_with fail
          go_roundw
          case rel => exact ⟨j + 1, by go_num, by omega, by rw [HA1.out]; exact D3.out, B3⟩
          case measure => simp [intOf] <;> omega
        · have hact : m.act x = (m.remove x.name).2 := by unfold Dm.act; rw [if_neg (by omega), if_pos (by omega)]
          have HA1 := Lib.hid (HT.out.trans hact)
          have ht : x.kind.tmod 10 = 1 := by rw [Int.tmod_eq_emod_of_nonneg kk0]; exact hk
          have H := Lib.hid (Remove_at DW.out (by omega) (show m.remove x.name = ((m.remove x.name).1, (m.remove x.name).2) from rfl))
          clear hact hk DW HT
          go_wp2_with fail
          (with_reducible refine H.out.mono ?_)
          rintro e w3 ⟨rfl, d3, b3⟩
          have D3 := Lib.hid d3
          have B3 := BW.trans b3
          clear H BW d3 b3 c0 c1 c2 c3 hxr
          go_wp2_with fail
          go_roundw
          case rel => exact ⟨j + 1, by go_num, by omega, by rw [HA1.out]; exact D3.out, B3⟩
          case measure => simp [intOf] <;> omega
        · have hact : m.act x = (m.rename x.name x.too).2 := by unfold Dm.act; rw [if_neg (by omega), if_neg (by omega), if_pos (by omega)]
          have HA1 := Lib.hid (HT.out.trans hact)
          have ht : x.kind.tmod 10 = 2 := by rw [Int.tmod_eq_emod_of_nonneg kk0]; exact hk
          have H := Lib.hid (Rename_at DW.out (by omega) (by omega) (show m.rename x.name x.too = ((m.rename x.name x.too).1, (m.rename x.name x.too).2) from rfl))
          clear hact hk DW HT
          go_wp2_with fail
          (with_reducible refine H.out.mono ?_)
          rintro e w3 ⟨rfl, d3, b3⟩
          have D3 := Lib.hid d3
          have B3 := BW.trans b3
          clear H BW d3 b3 c0 c1 c2 c3 hxr
          go_wp2_with fail
          go_roundw
          case rel => exact ⟨j + 1, by go_num, by omega, by rw [HA1.out]; exact D3.out, B3⟩
          case measure => simp [intOf] <;> omega
        · have hact : m.act x = (m.append x.name x.b).2 := by unfold Dm.act; rw [if_neg (by omega), if_neg (by omega), if_neg (by omega), if_pos (by omega)]
          have HA1 := Lib.hid (HT.out.trans hact)
          have ht : x.kind.tmod 10 = 3 := by rw [Int.tmod_eq_emod_of_nonneg kk0]; exact hk
          have H := Lib.hid (Append_at (bs := x.b) (n := x.b.length) (cb := x.bc) (B := x.B) DW.out (by omega) rfl (by omega) hu8 hxr (show m.append x.name x.b = ((m.append x.name x.b).1, (m.append x.name x.b).2) from rfl))
          clear hact hk DW HT
          go_wp2_with fail
          (with_reducible refine H.out.mono ?_)
          rintro e w3 ⟨rfl, d3, b3⟩
          have D3 := Lib.hid d3
          have B3 := BW.trans b3
          clear H BW d3 b3 c0 c1 c2 c3 hxr
          go_wp2_with fail
          go_roundw
          case rel => exact ⟨j + 1, by go_num, by omega, by rw [HA1.out]; exact D3.out, B3⟩
          case measure => simp [intOf] <;> omega
        · have hact : m.act x = (m.append x.name x.b).2 := by unfold Dm.act; rw [if_neg (by omega), if_neg (by omega), if_neg (by omega), if_pos (by omega)]
          have HA1 := Lib.hid (HT.out.trans hact)
          have ht : x.kind.tmod 10 = 4 := by rw [Int.tmod_eq_emod_of_nonneg kk0]; exact hk
          have H := Lib.hid (Append_at (bs := x.b) (n := x.b.length) (cb := x.bc) (B := x.B) DW.out (by omega) rfl (by omega) hu8 hxr (show m.append x.name x.b = ((m.append x.name x.b).1, (m.append x.name x.b).2) from rfl))
          clear hact hk DW HT
          go_wp2_with fail
          (with_reducible refine H.out.mono ?_)
          rintro e w3 ⟨rfl, d3, b3⟩
          have D3 := Lib.hid d3
          have B3 := BW.trans b3
          clear H BW d3 b3 c0 c1 c2 c3 hxr
          go_wp2_with fail
          go_roundw
          case rel => exact ⟨j + 1, by go_num, by omega, by rw [HA1.out]; exact D3.out, B3⟩
          case measure => simp [intOf] <;> omega
        · have hact : m.act x = (m.append x.name x.b).2 := by unfold Dm.act; rw [if_neg (by omega), if_neg (by omega), if_neg (by omega), if_pos (by omega)]
          have HA1 := Lib.hid (HT.out.trans hact)
          have ht : x.kind.tmod 10 = 5 := by rw [Int.tmod_eq_emod_of_nonneg kk0]; exact hk
          have H := Lib.hid (Append_at (bs := x.b) (n := x.b.length) (cb := x.bc) (B := x.B) DW.out (by omega) rfl (by omega) hu8 hxr (show m.append x.name x.b = ((m.append x.name x.b).1, (m.append x.name x.b).2) from rfl))
          clear hact hk DW HT
          go_wp2_with fail
          (with_reducible refine H.out.mono ?_)
          rintro e w3 ⟨rfl, d3, b3⟩
          have D3 := Lib.hid d3
          have B3 := BW.trans b3
          clear H BW d3 b3 c0 c1 c2 c3 hxr
          go_wp2_with fail
          go_roundw
          case rel => exact ⟨j + 1, by go_num, by omega, by rw [HA1.out]; exact D3.out, B3⟩
          case measure => simp [intOf] <;> omega
        · have hact : m.act x = (m.sync x.name).2 := by unfold Dm.act; rw [if_neg (by omega), if_neg (by omega), if_neg (by omega), if_neg (by omega), if_pos (by omega)]
          have HA1 := Lib.hid (HT.out.trans hact)
          have ht : x.kind.tmod 10 = 6 := by rw [Int.tmod_eq_emod_of_nonneg kk0]; exact hk
          have H := Lib.hid (Sync_at DW.out (by omega) (show m.sync x.name = ((m.sync x.name).1, (m.sync x.name).2) from rfl))
          clear hact hk DW HT
          go_wp2_with fail
          (with_reducible refine H.out.mono ?_)
          rintro e w3 ⟨rfl, d3, b3⟩
          have D3 := Lib.hid d3
          have B3 := BW.trans b3
          clear H BW d3 b3 c0 c1 c2 c3 hxr
          go_wp2_with fail
          go_roundw
          case rel => exact ⟨j + 1, by go_num, by omega, by rw [HA1.out]; exact D3.out, B3⟩
          case measure => simp [intOf] <;> omega
        · have hact : m.act x = m.names.2 := by unfold Dm.act; rw [if_neg (by omega), if_neg (by omega), if_neg (by omega), if_neg (by omega), if_neg (by omega)]
          have HA1 := Lib.hid (HT.out.trans hact)
          have ht : x.kind.tmod 10 = 7 := by rw [Int.tmod_eq_emod_of_nonneg kk0]; exact hk
          have H := Lib.hid (Names_at DW.out (show m.names = (m.names.1, m.names.2) from rfl))
          clear hact hk DW HT
          go_wp2_with fail
          (with_reducible refine H.out.mono ?_)
          rintro e w3 ⟨rfl, d3, b3⟩
          have D3 := Lib.hid d3
          have B3 := BW.trans b3
          clear H BW d3 b3 c0 c1 c2 c3 hxr
          go_wp2_with fail
          go_roundw
          case rel => exact ⟨j + 1, by go_num, by omega, by rw [HA1.out]; exact D3.out, B3⟩
          case measure => simp [intOf] <;> omega
        · have hact : m.act x = (m.create x.name).2 := by unfold Dm.act; rw [if_pos (by omega)]
          have HA1 := Lib.hid (HT.out.trans hact)
          have ht : x.kind.tmod 10 = 8 := by rw [Int.tmod_eq_emod_of_nonneg kk0]; exact hk
          have H := Lib.hid (Create_at DW.out (by omega) (show m.create x.name = ((m.create x.name).1, (m.create x.name).2) from rfl))
          clear hact hk DW HT
          go_wp2_with fail
          (with_reducible refine H.out.mono ?_)
          rintro e w3 ⟨rfl, d3, b3⟩
          have D3 := Lib.hid d3
          have B3 := BW.trans b3
          clear H BW d3 b3 c0 c1 c2 c3 hxr
          go_wp2_with fail
          go_roundw
          case rel => exact ⟨j + 1, by go_num, by omega, by rw [HA1.out]; exact D3.out, B3⟩
          case measure => simp [intOf] <;> omega
        · have hact : m.act x = (m.create x.name).2 := by unfold Dm.act; rw [if_pos (by omega)]
          have HA1 := Lib.hid (HT.out.trans hact)
          have ht : x.kind.tmod 10 = 9 := by rw [Int.tmod_eq_emod_of_nonneg kk0]; exact hk
          have H := Lib.hid (Create_at DW.out (by omega) (show m.create x.name = ((m.create x.name).1, (m.create x.name).2) from rfl))
          clear hact hk DW HT
          go_wp2_with fail
          (with_reducible refine H.out.mono ?_)
          rintro e w3 ⟨rfl, d3, b3⟩
          have D3 := Lib.hid d3
          have B3 := BW.trans b3
          clear H BW d3 b3 c0 c1 c2 c3 hxr
          go_wp2_with fail
          go_roundw
          case rel => exact ⟨j + 1, by go_num, by omega, by rw [HA1.out]; exact D3.out, B3⟩
          case measure => simp [intOf] <;> omega
      · have e1 : j = n := by omega
        have hfin : (l.take j).foldl Dm.act (newDm 2000000) = doneDm l := by rw [List.take_of_length_le (by have := HN.out; omega)]; rfl
        have D3 := DR.out
        rw [hfin] at D3
        have D4 := Lib.hid D3
        clear DR D3 hfin HA e1
        go_wp2_with fail
        go_ret
        exact ⟨.inr ⟨g, rfl, D4.out⟩, br⟩
end Go.Proofs.YtgibdecgmageeaaDoor
