/- NumsGet walked. -/
import Derived.Test.YtgibdecgmageeaaGreatDoorAny
import Derived.Test.YtgibdecgmageeaaGreatDoorEqlNum
import Derived.Deep.RegionHeld3
import Derived.Deep.RegionLaw
import Derived.Deep.DeepCutAuto
import Derived.Deep.MidRow
namespace Go.Proofs.YtgibdecgmageeaaGreatDoor
open Go.RowKit

theorem Rd.lit1 (w : World) (e : TypeId) (cs : List Value) {B : Nat} (hB : w.heap.size < B) : Rd (w.alloc (.cells cs.toArray e)) B (some ⟨w.heap.size, 0, none⟩) cs :=
  Rd.of_blk (Blk.new w e cs) 0 (fun j u hu => by simpa using hu) hB

theorem Blk.setCells_same {g : Nat} {e : TypeId} {cs : List Value} : ∀ (vs : List Value) (o : Nat) (w : World), Blk w g e cs → (∀ j v, vs[j]? = some v → cs[o + j]? = some v) → Blk (w.setCells g o vs) g e cs
  | [], _, _, h, _ => h
  | v :: r, o, w, h, hv => by
    rw [World.setCells]
    refine Blk.setCells_same r (o + 1) _ ?_ (fun j u hu => by rw [show o + 1 + j = o + (j + 1) by omega]; exact hv (j + 1) u (by simpa using hu))
    have h1 := h.set o v
    have h2 := hv 0 v rfl
    rw [Nat.add_zero] at h2
    obtain ⟨hlt, h3⟩ := List.getElem?_eq_some_iff.1 h2
    have e1 : cs.set o v = cs := by rw [← h3]; exact List.set_getElem_self hlt
    rw [e1] at h1; exact h1
theorem Mods.setCells {g : Nat} {a : World} : ∀ (vs : List Value) (o : Nat) (w : World), Mods (· = g) a w → Mods (· = g) a (w.setCells g o vs)
  | [], _, _, h => h
  | v :: r, o, w, h => by rw [World.setCells]; exact Mods.setCells r (o + 1) _ (h.putg o v)

theorem bookA_base {b0 g : Nat} {n : Int} {E R : Value} {es fs : List Ent} {w : World} (hs : Sep w (bookA b0 g n E es R ++ fs.map (Asn.ent b0 5 1))) (hg : b0 ≤ g) : ∀ k, foots (bookA b0 g n E es R ++ fs.map (Asn.ent b0 5 1)) k → b0 ≤ k := by
  rintro k ⟨a, ha, hk⟩
  have hh := hs.1 a ha
  rcases List.mem_append.1 ha with h | h
  · rcases List.mem_cons.1 h with rfl | h
    · have : k = g := hk
      omega
    · rcases List.mem_cons.1 h with rfl | h
      · exact (Own.lt hh k hk).1
      · simp at h
  · obtain ⟨e, _, rfl⟩ := List.mem_map.1 h
    rcases hk with hk | hk
    · exact (Own.lt hh.1 k hk).1
    · exact (Own.lt hh.2 k hk).1

theorem wpList_store_same {P : Program} {ops : Array Oper} {rest : List Oper} {op : Oper} {a : Act} {w : World} {Q : Exit → Act → World → Prop} (hgd : op.guard = none) (ty : TypeId) (x y : Operand) (ho : op.op = .store ty x y)
    (g : Nat) (e : TypeId) (cells : Array Value) (hx : a.eval x = .pointer (some ⟨g, 0, none⟩)) (hy : a.eval y = .agg cells) (hB : Blk w g e cells.toList) (hi : (P.info? ty).map (·.size) = some cells.size) (h1 : cells.all (·.oneCell') = true)
    (h : ∀ w', Blk w' g e cells.toList → Mods (· = g) w w' → wpList P ops Q rest (a.put op.dst undef) w') : wpList P ops Q (op :: rest) a w := by
  refine wpList_store_mid hgd ty x y ho g 0 cells hx hy (fun j hj => ⟨?_, hB.free _⟩) hi h1 (h _ (Blk.setCells_same _ 0 w hB (fun j v hv => by rw [Nat.zero_add]; exact hv)) (Mods.setCells _ 0 w (Mods.refl _ _)))
  rw [Nat.zero_add, hB.cell, List.getElem?_eq_getElem (by simpa using hj)]; rfl

theorem zeros_oneCell : (#[Value.int .i64 0, .slice none 0 0, .slice none 0 0, .slice none 0 0, .slice none 0 0, .slice none 0 0, .slice none 0 0, .slice none 0 0, .slice none 0 0, .slice none 0 0, .slice none 0 0, .slice none 0 0, .slice none 0 0, .slice none 0 0, .slice none 0 0, .slice none 0 0, .slice none 0 0, .slice none 0 0]).all (·.oneCell') = true := by kernel_rfl
theorem Tryz.sizeBook : (Tryz.prog.info? 54).map (·.size) = some 18 := by kernel_rfl

theorem NumsGet_beyond (b : Int) (p : List Int) (A : Option Addr) (c : Nat) (w : World) (hp : p.length ≤ 140737488351232) (hb : 1048576 < p.length) :
    Calls Tryz.prog 3 #[.slice A p.length c, .int .i64 b] w (fun e w' => e = .returned (.bool true) ∧ Below w.heap.size w w') := by
  go_enter Tryz.func3, Tryz.ntmps3
  go_wp2_with fail
  refine (Beyond_any [(p.length : Int)] _ 1 _ (w.heap.size + 1) true (by simp) (by intro x hx; simp at hx; omega) (Rd.lit1 w _ (I64 [(p.length : Int)]) (Nat.lt_succ_self _)) (by simp [total]; omega)).mono ?_
  rintro e w2 ⟨rfl, h2⟩
  have b2 : Below w.heap.size w w2 := by rw [← h2]; exact (Below.refl _ _).alloc (Nat.le_refl _) _
  clear h2
  go_wp2
  go_ret
  exact ⟨rfl, b2⟩

/-- A list as an entry of a book. -/
def entOf (A : Option Addr) (len cap : Nat) (n : Int) (xs : List Value) : Ent := ⟨A, len, cap, none, 0, 0, n, xs, []⟩
theorem ent_sep {w : World} {base b0 len cap : Nat} {A : Option Addr} {n : Int} {xs : List Value} (h : Own w base 5 1 (.slice A len cap) len xs) (hb : b0 ≤ base) : Sep w [Asn.ent b0 5 1 (entOf A len cap n xs)] :=
  Sep.one.2 ⟨h.rebase (fun g hg => Nat.le_trans hb (h.lt g hg).1), Own.nil _ _ _ _⟩
theorem ent_fresh {w w' : World} {base b0 len cap : Nat} {A : Option Addr} {n : Int} {xs : List Value} {R : List Asn} (hs : Sep w R) (h : Own w' base 5 1 (.slice A len cap) len xs) (hbase : base = w.heap.size) (hb : b0 ≤ base) (hbl : Below w.heap.size w w') :
    Sep w' (Asn.ent b0 5 1 (entOf A len cap n xs) :: R) := by
  refine (Step.fresh (N := [_]) hs hbl (ent_sep h hb) (fun k hk => ?_)).sep
  rcases foots_cons.1 hk with h1 | h1
  · rcases h1 with h1 | h1
    · have := (h.lt k h1).1; omega
    · simp [entOf, Ent.long, Value.ownBlock] at h1
  · exact absurd h1 foots_nil

set_option maxRecDepth 100000 in
set_option maxHeartbeats 4000000 in
theorem NumsGet_within (b : Int) (p : List Int) (A : Option Addr) (c : Nat) (w : World) (hp : p.length ≤ 1048576) (hc : p.length ≤ c) (hcm : c ≤ 9223372036854775807) (hu : IsU8 p) (hr : Rd w w.heap.size A (U8 p)) :
    Calls Tryz.prog 3 #[.slice A p.length c, .int .i64 b] w (fun e w' => e = .returned (.bool true) ∧ Below w.heap.size w w') := by
  obtain ⟨l, tk, er, hres⟩ : ∃ l tk er, resB p = (l, tk, er) := ⟨_, _, _, rfl⟩
  obtain ⟨a0, a1, a2, a3, el, hresL⟩ : ∃ a0 a1 a2 a3 el, resL p = ((a0, a1, a2, a3), el) := ⟨_, _, _, _, _, rfl⟩
  obtain ⟨gn, hgn⟩ : ∃ gn, gn = getF p b := ⟨_, rfl⟩
  have hll : l.length ≤ p.length := by have := resB_len p; rw [hres] at this; exact this
  have HRES := Lib.hid hres; have HRESL := Lib.hid hresL; have HGN := Lib.hid hgn; have HU := Lib.hid hu
  clear hres hresL hgn hu
  obtain ⟨n, en⟩ := gn
  go_enter Tryz.func3, Tryz.ntmps3
  go_wp2_with fail
  refine (Beyond_any [(p.length : Int)] _ 1 _ (w.heap.size + 1) false (by simp) (by intro x hx; simp at hx; omega) (Rd.lit1 w _ (I64 [(p.length : Int)]) (Nat.lt_succ_self _)) (by simp [total]; omega)).mono ?_
  rintro e w2 ⟨rfl, h2⟩
  have b2 : Below w.heap.size w w2 := by rw [← h2]; exact (Below.refl _ _).alloc (Nat.le_refl _) _
  have hs2 : w.heap.size ≤ w2.heap.size := b2.size
  have hr2 := hr.below b2 hs2
  clear h2
  go_wp2_with fail
  refine (TwinBytes_any p A c w2 (by omega) hr2).mono ?_
  rintro e w3 ⟨gt, rfl, hT, hb3⟩
  have b3 := b2.trans (hb3.mono hs2)
  have facts : ∀ wx, Below w3.heap.size w3 wx → Twin wx w2.heap.size gt p ∧ Rd wx wx.heap.size A (U8 p) ∧ Rd wx wx.heap.size (some ⟨gt, 0, none⟩) (U8 p) ∧ w3.heap.size ≤ wx.heap.size := by
    intro wx hx
    have hT' := hT.below hx hT.2.lt
    have b' := b3.trans (hx.mono (by have := b3.size; omega))
    exact ⟨hT', hr.below b' b'.size, hT'.rd hT'.2.lt, hx.size⟩
  have HF := Lib.hid facts
  have hsT := ent_fresh (n := 1) (Sep.nil w2) (hT.own (by omega)) rfl hs2 hb3
  have HST := Lib.hid hsT
  clear facts hr2 hT hb3 hsT
  have hpl : p.length ≤ p.length + 1 := by omega
  have hpm : p.length + 1 ≤ 9223372036854775807 := by omega
  have hp2 : p.length ≤ 140737488351232 := by omega
  obtain ⟨t3, r3, rt3, s3⟩ := HF.out w3 (Below.refl _ _)
  clear t3
  go_wp2_with fail
  refine (Get_any p _ _ _ b w3 w3.heap.size rfl hpl hpm HU.out rt3).mono ?_
  rw [← HGN.out]
  rintro e w4 ⟨rfl, rfl⟩
  go_wp2_with fail
  refine (RefGet_any p A _ c b w3 w3.heap.size rfl HU.out r3).mono ?_
  rw [← HGN.out]
  rintro e w4 ⟨rfl, rfl⟩
  go_wp2_with fail
  refine (GetLong_any p a0 a1 a2 a3 el HRESL.out _ rfl _ _ w3 hpl hpm HU.out rt3).mono ?_
  rintro e w5 ⟨rfl, hb5⟩
  clear r3 rt3
  go_wp2_with fail
  have hBp := Blk.lit w5 30 _ rfl #[.int .u64 a0, .int .u64 a1, .int .u64 a2, .int .u64 a3] _ rfl
  have f6 := hb5.alloc hb5.size (.cells #[.int .u64 a0, .int .u64 a1, .int .u64 a2, .int .u64 a3] 30)
  generalize w5.alloc (.cells #[.int .u64 a0, .int .u64 a1, .int .u64 a2, .int .u64 a3] 30) = w6 at hBp f6
  obtain ⟨t6, r6, rt6, s6⟩ := HF.out w6 f6
  refine (RefGetLong_any p a0 a1 a2 a3 el HRESL.out _ rfl A c w6 hc hcm HU.out r6).mono ?_
  rintro e w7 ⟨rfl, hb7⟩
  have hBp7 := hBp.below hb7 hBp.lt
  have f7 := f6.trans (hb7.mono s6)
  clear r6 rt6 t6 hBp f6 hb7 hb5
  go_wp2_with fail
  have hBp8 := hBp7.alloc (.cells #[.int .u64 a0, .int .u64 a1, .int .u64 a2, .int .u64 a3] 30)
  have hBq := Blk.lit w7 30 _ rfl #[.int .u64 a0, .int .u64 a1, .int .u64 a2, .int .u64 a3] _ rfl
  have f8 := f7.alloc f7.size (.cells #[.int .u64 a0, .int .u64 a1, .int .u64 a2, .int .u64 a3] 30)
  generalize w7.alloc (.cells #[.int .u64 a0, .int .u64 a1, .int .u64 a2, .int .u64 a3] 30) = w8 at hBp8 hBq f8
  obtain ⟨t8, r8, rt8, s8⟩ := HF.out w8 f8
  have hS8 := HST.out.below f8 (fun k hk => HST.out.lt hk)
  have hw8 : w.heap.size ≤ w8.heap.size := Nat.le_trans b3.size s8
  clear hBp7 f7 t8 r8
  refine (GetBytes_any p l tk er HRES.out _ rfl _ _ w8 hpl hpm hp2 HU.out rt8).mono ?_
  rintro e w9 ⟨X1, rfl, ho1, hb9⟩
  have f9 := f8.trans (hb9.mono s8)
  have hS9 := ent_fresh (n := 2) hS8 ho1 rfl hw8 hb9
  have hBp9 := hBp8.below hb9 hBp8.lt
  have hBq9 := hBq.below hb9 hBq.lt
  have rx1 := ho1.rd rfl (Nat.le_refl _)
  obtain ⟨t9, r9, rt9, s9⟩ := HF.out w9 f9
  have hw9 : w.heap.size ≤ w9.heap.size := Nat.le_trans b3.size s9
  clear hBp8 hBq f8 rt8 hS8 ho1 hb9 t9 r9
  go_wp2_with fail
  refine (GetBytes_any p l tk er HRES.out _ rfl _ _ w9 hpl hpm hp2 HU.out rt9).mono ?_
  rintro e w10 ⟨X2, rfl, ho2, hb10⟩
  have f10 := f9.trans (hb10.mono s9)
  have hS10 := ent_fresh (n := 3) hS9 ho2 rfl hw9 hb10
  have hBp10 := hBp9.below hb10 hBp9.lt
  have hBq10 := hBq9.below hb10 hBq9.lt
  have rx1' := rx1.below hb10 hb10.size
  have rx2 := ho2.rd rfl (Nat.le_refl _)
  obtain ⟨t10, r10, rt10, s10⟩ := HF.out w10 f10
  have hw10 : w.heap.size ≤ w10.heap.size := Nat.le_trans b3.size s10
  clear hBp9 hBq9 f9 rt9 hS9 ho2 hb10 t10 rx1
  go_wp2_with fail
  refine (RefGetBytes_any p l tk er HRES.out _ rfl A c w10 hc hcm hp2 HU.out r10).mono ?_
  rintro e w11 ⟨Xr, cr, rfl, hor, hb11⟩
  have f11 := f10.trans (hb11.mono s10)
  have hS11 := hS10.below hb11 (fun k hk => hS10.lt hk)
  have hBp11 := hBp10.below hb11 hBp10.lt
  have hBq11 := hBq10.below hb11 hBq10.lt
  have ry1 := rx1'.below hb11 hb11.size
  have ry2 := rx2.below hb11 hb11.size
  have ryr := hor.rd rfl (Nat.le_refl _)
  obtain ⟨t11, r11, rt11, s11⟩ := HF.out w11 f11
  have hw11 : w.heap.size ≤ w11.heap.size := Nat.le_trans b3.size s11
  clear hBp10 hBq10 f10 rt10 hS10 hor hb11 rx1' rx2 r10
  have p0 : w11.cell? ⟨w5.heap.size, 0, none⟩ = some (.int .u64 a0) := by rw [hBp11.cell]; rfl
  have p1 : w11.cell? ⟨w5.heap.size, 1, none⟩ = some (.int .u64 a1) := by rw [hBp11.cell]; rfl
  have p2 : w11.cell? ⟨w5.heap.size, 2, none⟩ = some (.int .u64 a2) := by rw [hBp11.cell]; rfl
  have p3 : w11.cell? ⟨w5.heap.size, 3, none⟩ = some (.int .u64 a3) := by rw [hBp11.cell]; rfl
  have q0 : w11.cell? ⟨w7.heap.size, 0, none⟩ = some (.int .u64 a0) := by rw [hBq11.cell]; rfl
  have q1 : w11.cell? ⟨w7.heap.size, 1, none⟩ = some (.int .u64 a1) := by rw [hBq11.cell]; rfl
  have q2 : w11.cell? ⟨w7.heap.size, 2, none⟩ = some (.int .u64 a2) := by rw [hBq11.cell]; rfl
  have q3 : w11.cell? ⟨w7.heap.size, 3, none⟩ = some (.int .u64 a3) := by rw [hBq11.cell]; rfl
  have hgd := Tryz.guardNum
  have heq := eql_num a0 a1 a2 a3 a0 a1 a2 a3
  have HS11 := Lib.hid hS11
  clear hS11 hBp11 hBq11
  go_wp2_with fail
  refine (SameBytes_yes l X1 Xr _ cr _ _ (by omega) ry1 ryr).mono ?_
  rintro e w12 ⟨rfl, n1, rfl⟩
  go_wp2_with fail
  refine (SameBytes_yes l X2 Xr _ cr _ _ (by omega) (ry2.dr n1) (ryr.dr n1)).mono ?_
  rintro e w13 ⟨rfl, n2, rfl⟩
  go_wp2_with fail
  refine (LeftBytes_yes p gt A c _ _ hp2 (t11.2.dr _) (r11.dr _)).mono ?_
  rintro e w14 ⟨rfl, n3, rfl⟩
  have HT11 := Lib.hid f11
  clear p0 p1 p2 p3 q0 q1 q2 q3 hgd heq ry1 ry2 ryr t11 r11 rt11 f11
  have hbk : ∀ W : World, Blk (W.alloc (.cells #[Value.int .i64 0, .slice none 0 0, .slice none 0 0, .slice none 0 0, .slice none 0 0, .slice none 0 0, .slice none 0 0, .slice none 0 0, .slice none 0 0, .slice none 0 0, .slice none 0 0, .slice none 0 0, .slice none 0 0, .slice none 0 0, .slice none 0 0, .slice none 0 0, .slice none 0 0, .slice none 0 0] 54)) W.heap.size 54 (#[Value.int .i64 0, .slice none 0 0, .slice none 0 0, .slice none 0 0, .slice none 0 0, .slice none 0 0, .slice none 0 0, .slice none 0 0, .slice none 0 0, .slice none 0 0, .slice none 0 0, .slice none 0 0, .slice none 0 0, .slice none 0 0, .slice none 0 0, .slice none 0 0, .slice none 0 0, .slice none 0 0]).toList := fun W => Blk.lit W _ _ rfl _ _ rfl
  have HBK := Lib.hid hbk; clear hbk
  go_upto_region 13 with fail
  go_wp2_with (refine wpList_store_same rfl 54 (.tmp 23) (.tmp 116) rfl w11.heap.size 54 (#[Value.int .i64 0, .slice none 0 0, .slice none 0 0, .slice none 0 0, .slice none 0 0, .slice none 0 0, .slice none 0 0, .slice none 0 0, .slice none 0 0, .slice none 0 0, .slice none 0 0, .slice none 0 0, .slice none 0 0, .slice none 0 0, .slice none 0 0, .slice none 0 0, .slice none 0 0, .slice none 0 0]) rfl rfl (HBK.out _) Tryz.sizeBook zeros_oneCell ?_; intro w15 hB15 hm15)
  have hb15 : Below w11.heap.size w11 w15 := ((Below.dr (Below.refl _ _) (n1 + n2 + n3)).alloc (Nat.le_refl _) _).trans (hm15.below_one (by simp) (Nat.le_refl _))
  have hN : Sep w15 (bookA w.heap.size w11.heap.size 0 (.slice none 0 0) [] (.slice none 0 0)) := by
    refine Sep.cons.2 ⟨hB15, fun k _ hf => ?_, Sep.one.2 (Own.nil _ _ _ _)⟩
    rcases foots_cons.1 hf with h | h
    · simp [Asn.own, Value.ownBlock] at h
    · exact foots_nil h
  have hS15 := (Step.fresh HS11.out hb15 hN (fun k hk => by
    rcases foots_cons.1 hk with h | h
    · have h' : k = w11.heap.size := h
      omega
    · rcases foots_cons.1 h with h | h
      · simp [Asn.own, Value.ownBlock] at h
      · exact absurd h foots_nil)).sep
  have hw15 : w.heap.size ≤ w15.heap.size := Nat.le_trans hw11 hb15.size
  have hall : Below w.heap.size w w15 := (b3.trans (HT11.out.mono b3.size)).trans (hb15.mono hw11)
  clear hB15 hm15 hN HBK
  refine (BookBytes_any w.heap.size w11.heap.size 0 (.slice none 0 0) (.slice none 0 0) [] (some ⟨gt, 0, none⟩) p.length (p.length + 1) w15 (Sep.append.1 hS15).1 (by omega) (by omega) (by simp) hw15).mono ?_
  rintro e w16 ⟨rfl, E1, hst1⟩
  have hS16 := hst1.rest hS15
  have HST1 := Lib.hid (hst1.frame hS15)
  have HBASE := Lib.hid (bookA_base (fs := [entOf X2 l.length l.length 3 (U8 l), entOf X1 l.length l.length 2 (U8 l), entOf (some ⟨gt, 0, none⟩) p.length (p.length + 1) 1 (U8 p)]) hS15 hw11)
  clear hst1 hS15
  go_wp2_with fail
  have hw16 : w.heap.size ≤ w16.heap.size := Nat.le_trans hw15 HST1.out.mods.size
  refine (BookBytes_any w.heap.size w11.heap.size _ E1 (.slice none 0 0) _ X1 l.length l.length w16 (Sep.append.1 hS16).1 (by omega) (by omega) (by simp) hw16).mono ?_
  rintro e w17 ⟨rfl, E2, hst2⟩
  have hS17 := hst2.rest hS16
  have HST2 := Lib.hid (hst2.frame hS16)
  clear hst2 hS16
  go_wp2_with fail
  have hw17 : w.heap.size ≤ w17.heap.size := Nat.le_trans hw16 HST2.out.mods.size
  refine (BookBytes_any w.heap.size w11.heap.size _ E2 (.slice none 0 0) _ X2 l.length l.length w17 (Sep.append.1 hS17).1 (by omega) (by omega) (by simp) hw17).mono ?_
  rintro e w18 ⟨rfl, E3, hst3⟩
  have hS18 := hst3.rest hS17
  have HST3 := Lib.hid (hst3.frame hS17)
  clear hst3 hS17
  go_wp2_with fail
  have hw18 : w.heap.size ≤ w18.heap.size := Nat.le_trans hw17 HST3.out.mods.size
  have hfin : Sep w18 (allA w.heap.size w11.heap.size 3 E3 [entOf (some ⟨gt, 0, none⟩) p.length (p.length + 1) 1 (U8 p), entOf X1 l.length l.length 2 (U8 l), entOf X2 l.length l.length 3 (U8 l)] [entOf (some ⟨gt, 0, none⟩) p.length (p.length + 1) 1 (U8 p), entOf X1 l.length l.length 2 (U8 l), entOf X2 l.length l.length 3 (U8 l)] (.slice none 0 0)) := by
    refine Sep.perm (A := bookA w.heap.size w11.heap.size 3 E3 [entOf (some ⟨gt, 0, none⟩) p.length (p.length + 1) 1 (U8 p), entOf X1 l.length l.length 2 (U8 l), entOf X2 l.length l.length 3 (U8 l)] (.slice none 0 0) ++ [Asn.ent w.heap.size 5 1 (entOf X2 l.length l.length 3 (U8 l)), Asn.ent w.heap.size 5 1 (entOf X1 l.length l.length 2 (U8 l)), Asn.ent w.heap.size 5 1 (entOf (some ⟨gt, 0, none⟩) p.length (p.length + 1) 1 (U8 p))]) hS18 (List.Perm.append_left _ ?_)
    exact (List.reverse_perm [_, _, _])
  have HB15 := HBASE.out
  clear hS18
  refine (Apart_any w.heap.size w11.heap.size 3 E3 _ w18 hfin ?_ (by simp) ?_ hw18).mono ?_
  · intro e he
    simp only [List.mem_cons, List.not_mem_nil, or_false] at he
    rcases he with rfl | rfl | rfl <;> exact ⟨rfl, rfl, rfl, rfl⟩
  · intro e he
    simp only [List.mem_cons, List.not_mem_nil, or_false] at he
    rcases he with rfl | rfl | rfl <;> simp only [entOf] <;> omega
  rintro e w19 ⟨rfl, A', hst4⟩
  go_wp2
  go_ret
  refine ⟨rfl, ?_⟩
  have k1 := HST1.out.base hw15 HB15
  have k2 := HST2.out.base hw16 k1
  have k4 : ∀ k, foots (allA w.heap.size w11.heap.size 3 E3 [entOf (some ⟨gt, 0, none⟩) p.length (p.length + 1) 1 (U8 p), entOf X1 l.length l.length 2 (U8 l), entOf X2 l.length l.length 3 (U8 l)] [entOf (some ⟨gt, 0, none⟩) p.length (p.length + 1) 1 (U8 p), entOf X1 l.length l.length 2 (U8 l), entOf X2 l.length l.length 3 (U8 l)] (.slice none 0 0)) k → w.heap.size ≤ k := bookA_base hfin hw11
  exact (((hall.trans (HST1.out.below hw15 HB15)).trans (HST2.out.below hw16 k1)).trans (HST3.out.below hw17 k2)).trans (hst4.below hw18 k4)
end Go.Proofs.YtgibdecgmageeaaGreatDoor
