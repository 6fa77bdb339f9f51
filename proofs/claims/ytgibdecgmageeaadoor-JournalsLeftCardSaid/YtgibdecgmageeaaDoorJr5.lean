/- Open walked. -/
import Derived.Test.YtgibdecgmageeaaDoorJr4
import Derived.OwnWalkIn
import Derived.TacticsInMore
import Derived.Outline
namespace Go.Proofs.YtgibdecgmageeaaDoor
open Go.RowKit Go.Shelf
attribute [local go_sem] Oper.semAt_some

theorem wpListIn_append_Own {F : Fence} {n0 : Nat} {P : Program} {w : World} {base : Nat} {e : TypeId} {size : Nat} {v : Value} {n : Nat} {xs : List Value} {ops : Array Oper} {rest : List Oper} {o : Oper} {a : Act} {Q : Exit → Act → World → Prop} (hgd : o.guard = none) (s x : Operand) (t : TypeId)
    (ho : o.op = .call { callee := .builtin .append, args := #[s, x], argTypes := #[t, t] })
    (i : TypeInfo) (z : Value) (bytes : Nat) (ht : P.underlying t = some (.slice e)) (hi : P.info? e = some i) (hz : i.zero = some z)
    (hsize : i.size = size) (hby : i.bytes = bytes) (hzs : z.cells.size = size) (hsz : 0 < size)
    (hs : a.eval s = v) (hown : Own w base e size v n xs) (B : Nat) (A : Option Addr) (m c : Nat) (hx : a.eval x = .slice A m c) (news : List Value) (hl : news.length = m * size) (hrd : Rd w B A news) (h1 : ∀ u ∈ news, u.oneCell' = true)
    (hbytes : (n + m) * bytes ≤ 140737488355328) (h63 : n + m ≤ 9223372036854775807) (hbase : base ≤ w.heap.size)
    (h : ∀ v' w', Own w' base e size v' (n + m) (xs ++ news) → Mods (fun k => v.ownBlock = some k) w w' → (∀ k, v'.ownBlock = some k → v.ownBlock = some k ∨ w.heap.size ≤ k) → wpListIn F n0 P ops Q rest (a.put o.dst v') w') : wpListIn F n0 P ops Q (o :: rest) a w := by
  obtain ⟨v', w', hrun, r1, _, r3, r4, _⟩ := run_append_Own (P := P) t o.type i z bytes ht hi hz hsize hby hzs hsz hown B A m c news hl hrd h1 hbytes h63 hbase
  refine wpListIn_plain hgd fun K hK => ?_
  unfold Oper.wpIn
  refine ⟨?_, ?_⟩
  · simp [Oper.about, ho, resolve, Target.leads, Sem.run_pure]
  · rw [Oper.semAt_plain F _ _ (by rw [ho]; intro c hc'; cases hc')]
    simp [execOp, ho, resolve, invoke, builtin, hs, hx, hrun, Result.andThen]
    exact hK _ _ (h v' w' r1 r3 r4)
theorem Own.step {w w' : World} {base : Nat} {e : TypeId} {size n n' : Nat} {v v' : Value} {xs xs' : List Value} (h : Own w' base e size v' n' xs') (hm : Mods (fun k => v.ownBlock = some k) w w') (hg : ∀ k, v'.ownBlock = some k → v.ownBlock = some k ∨ w.heap.size ≤ k) :
    Step w w' [Asn.own base e size v n xs] [Asn.own base e size v' n' xs'] :=
  ⟨Sep.one.2 h, hm.mono (fun _ _ hk => foots_cons.2 (.inl hk)), fun k hk => by
    rcases foots_cons.1 hk with h | h
    · exact (hg k h).imp (fun h => foots_cons.2 (.inl h)) id
    · exact absurd h foots_nil⟩

theorem Tryd.infoBytes : (Tryd.prog.info? 37).map (fun i => (i.zero, i.size, i.bytes)) = some (some (.slice none 0 0), 1, 24) := by kernel_rfl

set_option maxHeartbeats 400000 in
theorem records_any (A : Option Addr) (n c : Nat) (w : World) :
    Calls Tryd.prog 44 #[.slice A n c] w (fun e w' => e = .returned (.func (.func 59) #[] #[.pointer (some ⟨w.heap.size, 0, none⟩)]) ∧ w' = w.alloc (.cells #[.slice A n c] 37)) := by
  go_enter Tryd.func44, Tryd.ntmps44
  go_wp2_with fail
  go_ret
  exact ⟨rfl, rfl⟩

/-- A record as it lies in memory: of its own, full. -/
def recAsn (b0 : Nat) (s : Src) : Asn := Asn.own b0 5 1 (.slice s.1 s.2.1.length s.2.1.length) s.2.1.length (U8 s.2.1)
/-- The journal and the list, with the cells that name them, while records come. -/
def FrJ (b0 g gJ gj gL : Nat) (s : ByteArray) (D : List Asn) (pre : List (List Int)) (A : List Asn) : Prop :=
  ∃ (X : Option Addr) (n cx : Nat) (srcs : List Src), srcs.map (·.2.1) = pre ∧ (∀ s ∈ srcs, s.2.2 = s.2.1.length) ∧ n = srcs.length ∧
    A = Jn gj g s ⟨endR pre, chainC first32 pre⟩ :: Asn.blk gL 22 [.slice X n cx] :: Asn.own b0 37 1 (.slice X n cx) n (srcs.map SV) :: Asn.blk gJ 29 [.pointer (some ⟨gj, 0, none⟩)] :: (srcs.map (recAsn b0) ++ D)
theorem Disks.fresh {b0 : Nat} {w w' : World} {L : List (Nat × Dm)} {R : List Asn} {a : Asn} (h : Disks b0 w L R) (hb : Below w.heap.size w w') (ha : a.holds w') (hf : ∀ k, a.foot k → w.heap.size ≤ k) : Disks b0 w' L (a :: R) := by
  have hb0 := h.size
  obtain ⟨ds, h1, h2, h3, h4⟩ := h
  have hst := Step.fresh h3 hb (N := [a]) (Sep.one.2 ha) (fun k hk => by
    rcases foots_cons.1 hk with h | h
    · exact hf k h
    · exact absurd h foots_nil)
  exact ⟨ds, h1, h2, hst.sep.perm (List.perm_append_comm.trans (by rw [List.append_assoc]; exact List.Perm.append_left _ List.perm_append_comm)), Nat.le_trans hb0 hb.size⟩
theorem Disks.permR {b0 : Nat} {w : World} {L : List (Nat × Dm)} {R R' : List Asn} (h : Disks b0 w L R) (hp : R.Perm R') : Disks b0 w L R' := by
  obtain ⟨ds, h1, h2, h3, h4⟩ := h
  exact ⟨ds, h1, h2, h3.perm (hp.append_left _), h4⟩
theorem Disks.lessR {b0 : Nat} {w : World} {L : List (Nat × Dm)} {a : Asn} {R : List Asn} (h : Disks b0 w L (a :: R)) : Disks b0 w L R := by
  obtain ⟨ds, h1, h2, h3, h4⟩ := h
  exact ⟨ds, h1, h2, (Sep.cons.1 (h3.perm List.perm_middle)).2.2, h4⟩
theorem Sep.nilOwn {w : World} {A : List Asn} (h : Sep w A) (b0 : Nat) (e : TypeId) : Sep w (Asn.own b0 e 1 (.slice none 0 0) 0 [] :: A) :=
  Sep.cons.2 ⟨Own.nil _ _ _ _, fun k hk => by
    have hk' : (Value.slice none 0 0).ownBlock = some k := hk
    simp [Value.ownBlock] at hk', h⟩
/-- A post that lets no panic by. -/
def calmQ (Q : Exit → Act → World → Prop) : Exit → Act → World → Prop
  | .panic _, _, _ => False
  | .normal, a, w => Q .normal a w
  | .ret, a, w => Q .ret a w
  | .exit i, a, w => Q (.exit i) a w
  | .goto t, a, w => Q (.goto t) a w
  | .outgrown, a, w => Q .outgrown a w
theorem wp_calm {P : Program} {c : Code} {Q : Exit → Act → World → Prop} {a : Act} {w : World} (h : c.wp P (calmQ Q) a w) : c.wp P Q a w :=
  wp_mono h (fun e a w hq => by cases e <;> first | exact hq | exact hq.elim)
set_option maxHeartbeats 400000 in
theorem ClipR_any (A : Option Addr) (n c : Nat) (w : World) (h : n ≤ c) (_hm : c ≤ 9223372036854775807) :
    Calls Tryd.prog 45 #[.slice A n c] w fun e w' => e = .returned (.slice A n n) ∧ w = w' := by
  go_enter Tryd.func45, Tryd.ntmps45
  go_wp2
  go_ret
  exact ⟨rfl, rfl⟩
theorem perm6 {α : Type} (a b c d e f : α) : [a, b, c, d, e, f].Perm [b, e, d, f, a, c] := by
  classical
  exact List.perm_iff_count.2 fun x => by simp only [List.count_cons, List.count_nil]; omega
theorem Dm.read_all {m : Dm} {s : ByteArray} (h : m.finds true s = 0) : m.read s 0 ((m.at s).1.length : Nat) = ((m.at s).1, 0) := by
  unfold Dm.read
  have e : decide ((0 : Int) ≤ min (0 : Int) ((m.at s).1.length : Int)) = true := by
    rw [decide_eq_true_iff]; omega
  simp only [e]
  rw [if_neg (by simp [h]), if_pos ⟨by omega, by omega⟩]
  simp
/-- What Open hands back of a file with such bytes. -/
def RetOpen (b0 : Nat) (w : World) (g : Nat) (m' : Dm) (L : List (Nat × Dm)) (R : List Asn) (s : ByteArray) (bs : List Int) (e : Ending) (w' : World) : Prop :=
  ∃ (gj : Nat) (X : Option Addr) (n : Nat) (srcs : List Src), e = .returned (.tuple #[.pointer (some ⟨gj, 0, none⟩), .slice X n n, .int .i64 0]) ∧ srcs.map (·.2.1) = recs first32 bs ∧ (∀ s ∈ srcs, s.2.2 = s.2.1.length) ∧ n = srcs.length ∧ b0 ≤ gj ∧
    Disks b0 w' ((g, m') :: L) (Jn gj g s ⟨endR (recs first32 bs), chainC first32 (recs first32 bs)⟩ :: Asn.own b0 37 1 (.slice X n n) n (srcs.map SV) :: (srcs.map (recAsn b0) ++ R)) ∧ Below b0 w w'

set_option maxRecDepth 100000 in
set_option maxHeartbeats 4000000 in
theorem Open_there {b0 g : Nat} {w : World} {m : Dm} {L : List (Nat × Dm)} {R : List Asn} {s : ByteArray} (h : Disks b0 w ((g, m) :: L) R) (hs : s.size ≤ 9223372036854775807) (hf : m.finds true s = 0) :
    Calls Tryd.prog 16 #[.pointer (some ⟨g, 0, none⟩), .string s] w (RetOpen b0 w g m L R s (m.at s).1) := by
  have hsz := Dm.sizeOf_ok hf
  have hb0 := h.size
  obtain ⟨bs, hbs⟩ : ∃ bs, bs = (m.at s).1 := ⟨_, rfl⟩
  obtain ⟨n, hn⟩ : ∃ n, n = bs.length := ⟨_, rfl⟩
  have hread : m.read s 0 n = (bs, 0) := by rw [hn, hbs]; exact Dm.read_all hf
  have hok := Dm.row_ok h.ok (m.file (idx m.now s))
  have hlen : n ≤ 1048576 := by rw [hn, hbs]; exact hok.2.1
  have hu : IsU8 bs := by rw [hbs]; exact hok.2.2
  rw [← hbs, ← hn] at hsz
  rw [← hbs]
  have d0 := (h.with_ 29 #[.pointer none]).with_ 22 #[.slice none 0 0]
  have B0 := (((Below.refl b0 w).alloc hb0 (.cells #[.pointer none] 29)).alloc (by simp; omega) (.cells #[.slice none 0 0] 22))
  obtain ⟨gJ, hgJ⟩ : ∃ gJ, gJ = w.heap.size := ⟨_, rfl⟩
  have hgJ1 : b0 ≤ gJ := by omega
  rw [World.size_alloc, ← hgJ] at d0
  have D0 := Lib.hid d0
  have HS := Lib.hid (Size_at (s := s) D0.out hs)
  rw [hsz] at HS
  have HRD := Lib.hid hread
  have HN := Lib.hid hn
  have HU := Lib.hid hu
  clear d0 hsz hread hbs hf h hn hu hb0 hok
  refine (callsIn_wide (n := 3)).1 (callsIn_of_wp_marks Tryd.func16 rfl trivial ?_ rfl)
  simp only [Tryd.ntmps16, List.size_toArray, List.length_cons, List.length_nil, Nat.reduceAdd, Nat.reduceSub, Array.replicate_succ, Array.replicate_zero, List.push_toArray, List.append_toArray, List.nil_append, List.cons_append]
  refine wpIn_wide.2 ?_
  go_wp2_with fail
  rw [← hgJ]
  clear hgJ
  (with_reducible refine HS.out.mono ?_)
  rintro e w1 ⟨rfl, b1⟩
  have D1 := Lib.hid (D0.out.below b1)
  have B1 := B0.trans (b1.mono D0.out.size)
  clear HS D0 B0 b1
  have HS := Lib.hid (Read_at (s := s) (a := 0) (n := n) D1.out hs (by omega) (by omega) (by omega) (by omega))
  rw [HRD.out] at HS
  go_wp2_with fail
  (with_reducible refine HS.out.mono ?_)
  rintro e w2 ⟨X, rfl, ho, b2⟩
  rw [← HN.out] at ho ⊢
  have D2 := Lib.hid (D1.out.fresh (a := Asn.own b0 5 1 (.slice X n n) n (U8 bs)) b2 (ho.rebase (fun k hk => Nat.le_trans D1.out.size (ho.lt k hk).1)) (fun k hk => (ho.lt k hk).1))
  have B2 := B1.trans (b2.mono D1.out.size)
  clear HS D1 B1 ho
  have d3 := D2.out.with_ 94 #[.pointer (some ⟨g, 0, none⟩), .string s, .int .i64 0, .int .u32 4294967295]
  have B3 := B2.alloc D2.out.size (.cells #[.pointer (some ⟨g, 0, none⟩), .string s, .int .i64 0, .int .u32 4294967295] 94)
  obtain ⟨gj, hgj⟩ : ∃ gj, gj = w2.heap.size := ⟨_, rfl⟩
  have hgj1 : b0 ≤ gj := by rw [hgj]; exact D2.out.size
  rw [← hgj] at d3
  have c0 : (w2.alloc (.cells #[.pointer (some ⟨g, 0, none⟩), .string s, .int .i64 0, .int .u32 4294967295] 94)).cell? ⟨gJ, 0, none⟩ = some (.pointer none) := d3.lessR.lessR.lessR.cell 0
  have c1 : (w2.alloc (.cells #[.pointer (some ⟨g, 0, none⟩), .string s, .int .i64 0, .int .u32 4294967295] 94)).frozen? ⟨gJ, 0, none⟩ = false := Blk.free (show Blk _ gJ 29 _ from d3.lessR.lessR.lessR.rest.head) 0
  have D3 := Lib.hid d3
  clear d3
  go_wp2_with fail
  rw [← hgj]
  clear hgj
  have D4 := Lib.hid ((D3.out.permR ((List.perm_append_comm (l₁ := [_, _, _]) (l₂ := [_])).append_right R)).put 0 (.pointer (some ⟨gj, 0, none⟩)))
  have B4 := B3.setCell (p := ⟨gJ, 0, none⟩) hgJ1 (.pointer (some ⟨gj, 0, none⟩))
  clear D3 B3 c0 c1 D2 B2
  generalize (w2.alloc (.cells #[.pointer (some ⟨g, 0, none⟩), .string s, .int .i64 0, .int .u32 4294967295] 94)).setCell ⟨gJ, 0, none⟩ (.pointer (some ⟨gj, 0, none⟩)) = W4 at D4 B4 ⊢
  refine (records_any X n n W4).mono ?_
  rintro e W5 ⟨rfl, rfl⟩
  have d5 := D4.out.with_ 37 #[.slice X n n]
  have B5 := B4.alloc D4.out.size (.cells #[.slice X n n] 37)
  obtain ⟨gB, hgB⟩ : ∃ gB, gB = W4.heap.size := ⟨_, rfl⟩
  have hgB1 : b0 ≤ gB := by rw [hgB]; exact D4.out.size
  rw [← hgB] at d5 ⊢
  clear D4 B4 hgB
  generalize W4.alloc (.cells #[.slice X n n] 37) = W5 at d5 B5 ⊢
  obtain ⟨cs, hcs1, hcs2, hsep, hb5⟩ := d5
  obtain ⟨D, hD⟩ : ∃ D, D = cs.flatMap (Cd.asn b0) ++ R := ⟨_, rfl⟩
  have hS : Sep W5 (Asn.blk gB 37 [.slice X n n] :: Asn.own b0 5 1 (.slice X n n) bs.length (U8 bs) :: (Jn gj g s ⟨endR [], chainC first32 []⟩ :: Asn.blk (gJ + 1) 22 [.slice none 0 0] :: Asn.own b0 37 1 (.slice none 0 0) 0 [] :: Asn.blk gJ 29 [.pointer (some ⟨gj, 0, none⟩)] :: ([] ++ D))) := by
    rw [← HN.out, hD]
    exact ((hsep.perm (List.perm_append_comm_assoc _ [_, _, _, _, _] _)).nilOwn b0 37).perm ((perm6 _ _ _ _ _ _).append_right _)
  have HSS := Lib.hid hS
  clear hsep hS
  have HD := Lib.hid hD
  clear hD
  go_wp2_with fail
  refine (wpIn_wide (n := 3)).1 ?_
  refine wpIn_journal (gB := gB) (b0 := b0) (bs := bs) (v0 := .slice X n n) (Y0 := X) (c0 := n) (FrJ b0 g gJ gj (gJ + 1) s D) rfl rfl HU.out (by have := HN.out; omega) hgB1 hb5 ⟨none, 0, 0, [], rfl, by simp, rfl, rfl⟩ (by rw [← HN.out]) HSS.out ?round ?done
  case round =>
    rintro k l pre r A Y mm W hpre hm ⟨X1, n1, cx, srcs, hs1, hs2, hs3, rfl⟩
    have hlen1 : endR (pre ++ [r]) ≤ 1048576 := by
      obtain ⟨t, ht⟩ := hpre
      have h1 := recs_len bs.length first32 bs (Nat.le_refl _)
      rw [← ht, endR_append] at h1
      have := HN.out
      omega
    have hcnt := endR_count (pre ++ [r])
    have hne : endR (pre ++ [r]) = endR pre + (mm + 8) := by rw [endR_append, hm]; simp [endR]
    have hn1 : n1 = pre.length := by rw [hs3, ← hs1, List.length_map]
    have hnb : n1 + 1 ≤ 131072 := by rw [List.length_append] at hcnt; simp at hcnt; omega
    have hC1 : chainC first32 (pre ++ [r]) < 4294967296 := chainC_lt first32_lt _
    have hmb : mm ≤ 1048576 := by omega
    obtain ⟨lg, hlg⟩ : ∃ lg, lg = endR pre := ⟨_, rfl⟩
    rw [← hlg] at hne
    have hlgb : lg ≤ 1048576 := by omega
    have HM := Lib.hid hm
    have HNE := Lib.hid hne
    have HS1 := Lib.hid hs1
    have HS2 := Lib.hid hs2
    have HS3 := Lib.hid hs3
    obtain ⟨ca, hca⟩ : ∃ ca, ca = chainC first32 pre := ⟨_, rfl⟩
    obtain ⟨cb, hcb⟩ : ∃ cb, cb = chainC first32 (pre ++ [r]) := ⟨_, rfl⟩
    rw [← hcb] at hC1 ⊢
    have HCB := Lib.hid hcb
    clear hm hs1 hs2 hs3 hn1 hcnt hlen1 hne hpre hcb
    gi_wp2
    refine ⟨trivial, fun W2 P2 hb2 hS2 => ?_⟩
    rw [← hlg, ← hca] at hS2
    clear hlg hca
    obtain ⟨Z, hZ⟩ : ∃ Z, Z = P2 ++ (Asn.own b0 5 1 (.slice Y mm mm) mm (U8 r) :: (srcs.map (recAsn b0) ++ D)) := ⟨_, rfl⟩
    have hS3 : Sep W2 (Asn.blk (gJ + 1) 22 [.slice X1 n1 cx] :: Asn.own b0 37 1 (.slice X1 n1 cx) n1 (srcs.map SV) :: Jn gj g s ⟨lg, ca⟩ :: Asn.blk gJ 29 [.pointer (some ⟨gj, 0, none⟩)] :: Z) := by
      rw [hZ]
      refine hS2.perm ?_
      refine ((List.perm_append_comm_assoc [_] [_, _, _, _] _).append_left P2).trans ?_
      refine (List.perm_append_comm_assoc P2 [_, _, _, _] _).trans ?_
      exact (List.perm_append_comm (l₁ := [_]) (l₂ := [_, _])).append_right _
    have HZ := Lib.hid hZ
    have hS4 := hS3.below ((Below.refl W2.heap.size W2).alloc (Nat.le_refl _) (.cells #[.slice Y mm mm] 37)) (fun _ hk => hS3.lt hk)
    have hown : Own (W2.alloc (.cells #[.slice Y mm mm] 37)) b0 37 1 (.slice X1 n1 cx) n1 (srcs.map SV) := (Sep.cons.1 hS4).2.2.head
    have hrd : Rd (W2.alloc (.cells #[.slice Y mm mm] 37)) (W2.heap.size + 1) (some ⟨W2.heap.size, 0, none⟩) [.slice Y mm mm] := Rd.of_blk (Blk.lit W2 37 _ rfl _ _ rfl) 0 (fun j u hj => by rw [Nat.zero_add]; exact hj) (Nat.lt_succ_self _)
    have k0 : W2.cell? ⟨gJ + 1, 0, none⟩ = some (.slice X1 n1 cx) := Blk.cell (show Blk W2 (gJ + 1) 22 [.slice X1 n1 cx] from hS3.head) 0
    obtain ⟨i0, hi, hz0, hz1, hz2⟩ := info_parts Tryd.infoBytes
    have HB2 := Lib.hid hb2
    have H4 := Lib.hid hS4
    clear hS2 hS3 hZ hS4
    gi_wp2_with (gi_at_builtin; refine wpListIn_append_Own (v := .slice X1 n1 cx) rfl (.tmp 46) (.tmp 48) 22 rfl i0 (.slice none 0 0) 24 Tryd.underlying22 hi hz0 hz1 hz2 rfl (by decide) rfl hown (W2.heap.size + 1) (some ⟨W2.heap.size, 0, none⟩) 1 1 rfl [.slice Y mm mm] rfl hrd (by simp [Value.oneCell']) (by omega) (by omega) (by have := HB2.out; simp; omega) ?_; intro v' Wb ho hm hg; (obtain ⟨X2, cx2, rfl, _⟩ := ho.shape); (have hS5 := (Own.step (n := n1) (xs := srcs.map SV) ho hm hg).rest (R := Asn.blk (gJ + 1) 22 [.slice X1 n1 cx] :: Jn gj g s ⟨lg, ca⟩ :: Asn.blk gJ 29 [.pointer (some ⟨gj, 0, none⟩)] :: Z) (H4.out.perm (List.Perm.swap _ _ _))); (have hS6 : Sep Wb (Asn.blk (gJ + 1) 22 [.slice X1 n1 cx] :: Asn.own b0 37 1 (.slice X2 (n1 + 1) cx2) (n1 + 1) (srcs.map SV ++ [.slice Y mm mm]) :: Jn gj g s ⟨lg, ca⟩ :: Asn.blk gJ 29 [.pointer (some ⟨gj, 0, none⟩)] :: Z) := hS5.perm (List.Perm.swap _ _ _)); (have hbb : Below b0 W2 Wb := (((Below.refl b0 W2).alloc HB2.out (.cells #[.slice Y mm mm] 37)).trans (hm.below (by have := HB2.out; simp; omega) (fun k hk e => by have := (hown.lt k e).1; omega)))); (have k1 : Wb.cell? ⟨gJ + 1, 0, none⟩ = some (.slice X1 n1 cx) := Blk.cell (show Blk Wb (gJ + 1) 22 [.slice X1 n1 cx] from hS6.head) 0); (have k2 : Wb.frozen? ⟨gJ + 1, 0, none⟩ = false := Blk.free (show Blk Wb (gJ + 1) 22 [.slice X1 n1 cx] from hS6.head) 0); (have hS7 := hS6.put 0 (.slice X2 (n1 + 1) cx2)); (have hJ : Blk (Wb.setCell ⟨gJ + 1, 0, none⟩ (.slice X2 (n1 + 1) cx2)) gj 94 (jCells g s ⟨lg, ca⟩) := (Sep.cons.1 (Sep.cons.1 hS7).2.2).2.2.head); (have hP : Blk (Wb.setCell ⟨gJ + 1, 0, none⟩ (.slice X2 (n1 + 1) cx2)) gJ 29 [.pointer (some ⟨gj, 0, none⟩)] := (Sep.cons.1 (Sep.cons.1 (Sep.cons.1 hS7).2.2).2.2).2.2.head); (have j2 : (Wb.setCell ⟨gJ + 1, 0, none⟩ (.slice X2 (n1 + 1) cx2)).cell? ⟨gj, 2, none⟩ = some (.int .i64 lg) := hJ.cell 2); (have j3 : (Wb.setCell ⟨gJ + 1, 0, none⟩ (.slice X2 (n1 + 1) cx2)).cell? ⟨gj, 3, none⟩ = some (.int .u32 ca) := hJ.cell 3); (have f2 := hJ.free 2); (have f3 := hJ.free 3); (have p0 : (Wb.setCell ⟨gJ + 1, 0, none⟩ (.slice X2 (n1 + 1) cx2)).cell? ⟨gJ, 0, none⟩ = some (.pointer (some ⟨gj, 0, none⟩)) := hP.cell 0); (have hS8 := Lib.hid (((hS7.perm ((List.perm_append_comm (l₁ := [_, _]) (l₂ := [_])).append_right _)).put 2 (.int .i64 ((lg + (mm + 8) : Nat) : Int))).put 3 (.int .u32 (cb : Int)))); (have hbz := Lib.hid (((hbb.setCell (p := ⟨gJ + 1, 0, none⟩) (by show b0 ≤ gJ + 1; omega) (.slice X2 (n1 + 1) cx2)).setCell (p := ⟨gj, 2, none⟩) hgj1 (.int .i64 ((lg + (mm + 8) : Nat) : Int))).setCell (p := ⟨gj, 3, none⟩) hgj1 (.int .u32 (cb : Int)))); (have HO := Lib.hid ho); (clear hS5 hS6 hS7 hJ hP hbb ho hm hg hown hrd k0 H4))
    have hle : (lg : Int) + ((mm : Int) + 8) = ((lg + (mm + 8) : Nat) : Int) := by omega
    rw [hle]
    have hm2 := HM.out
    refine ⟨hbz.out, _, ⟨X2, n1 + 1, cx2, srcs ++ [(Y, r, mm)], by rw [List.map_append, HS1.out]; rfl, ?_, by rw [HS3.out, List.length_append]; rfl, rfl⟩, ?_⟩
    · intro t ht
      rcases List.mem_append.1 ht with h | h
      · exact HS2.out t h
      · obtain rfl := List.mem_singleton.1 h
        exact hm2
    · rw [HNE.out, ← HCB.out, List.map_append, List.map_append]
      have h8 := hS8.out
      rw [HZ.out] at h8
      have e1 : SV (Y, r, mm) = .slice Y mm mm := by unfold SV; rw [hm2]
      have e2 : recAsn b0 (Y, r, mm) = Asn.own b0 5 1 (.slice Y mm mm) mm (U8 r) := by unfold recAsn; rw [hm2]
      rw [List.map_singleton, List.map_singleton, e1, e2]
      refine h8.perm ?_
      refine (List.perm_append_comm_assoc [_, _, _, _] P2 _).trans (List.Perm.append_left P2 (List.Perm.append_left [_, _, _, _] ?_))
      show List.Perm _ ((srcs.map (recAsn b0) ++ [_]) ++ D)
      rw [List.append_assoc]
      exact List.perm_middle.symm
  case done =>
    rintro Dd A W ⟨X1, n1, cx, srcs, hs1, hs2, hs3, rfl⟩ hS hDd hbW
    have hP : Blk W gJ 29 [.pointer (some ⟨gj, 0, none⟩)] := (Sep.cons.1 (Sep.cons.1 (Sep.cons.1 (Sep.cons.1 hS).2.2).2.2).2.2).2.2.head
    have hL : Blk W (gJ + 1) 22 [.slice X1 n1 cx] := (Sep.cons.1 (Sep.cons.1 hS).2.2).2.2.head
    have k0 : W.cell? ⟨gJ, 0, none⟩ = some (.pointer (some ⟨gj, 0, none⟩)) := hP.cell 0
    have k1 : W.cell? ⟨gJ + 1, 0, none⟩ = some (.slice X1 n1 cx) := hL.cell 0
    have k2 := hP.free 0
    have k3 := hL.free 0
    have ho : Own W b0 37 1 (.slice X1 n1 cx) n1 (srcs.map SV) := (Sep.cons.1 (Sep.cons.1 (Sep.cons.1 hS).2.2).2.2).2.2.head
    have hcx : n1 ≤ cx ∧ cx ≤ 9223372036854775807 := by
      obtain ⟨_, _, e, h1, h2, _⟩ := ho.shape
      cases e
      exact ⟨h1, h2⟩
    obtain ⟨hcx1, hcx2⟩ := hcx
    have HS := Lib.hid hS
    have HS1 := Lib.hid hs1
    have HS2 := Lib.hid hs2
    have HS3 := Lib.hid hs3
    clear hP hL ho hS hs1 hs2 hs3
    have hd := HS.out.below ((Below.refl W.heap.size W).drew) (fun _ hk => HS.out.lt hk)
    have hd1 := (hd.perm ((List.perm_append_comm (l₁ := [_, _, _, _]) (l₂ := [_])).append_right _)).put 0 (.pointer (some ⟨gj, 0, none⟩))
    have hd2 := (hd1.perm ((List.perm_append_comm (l₁ := [_, _, _]) (l₂ := [_])).append_right _)).put 0 (.slice X1 n1 n1)
    have hd3 := hd2.perm ((List.perm_append_comm (l₁ := [_, _]) (l₂ := [_])).append_right _)
    have hK : (((W.setCell ⟨gJ, 0, none⟩ (.pointer (some ⟨gj, 0, none⟩))).setCell ⟨gJ + 1, 0, none⟩ (.slice X1 n1 n1)).drew).heap[Dd]? = some (.deferred (some [])) := hd3.head
    have hd4 := hd3.putObj (.deferred none)
    have hB9 := ((((B5.trans hbW).drew).setCell (p := ⟨gJ, 0, none⟩) hgJ1 (.pointer (some ⟨gj, 0, none⟩))).setCell (p := ⟨gJ + 1, 0, none⟩) (by show b0 ≤ gJ + 1; omega) (.slice X1 n1 n1)).trans (below_putObj _ Dd (.deferred none) hDd)
    have q1 : ((((W.setCell ⟨gJ, 0, none⟩ (.pointer (some ⟨gj, 0, none⟩))).setCell ⟨gJ + 1, 0, none⟩ (.slice X1 n1 n1)).drew).putObj Dd (.deferred none)).cell? ⟨gJ + 1, 0, none⟩ = some (.slice X1 n1 n1) := Blk.cell (show Blk _ (gJ + 1) 22 [.slice X1 n1 n1] from (Sep.cons.1 hd4).2.2.head) 0
    have q0 : ((((W.setCell ⟨gJ, 0, none⟩ (.pointer (some ⟨gj, 0, none⟩))).setCell ⟨gJ + 1, 0, none⟩ (.slice X1 n1 n1)).drew).putObj Dd (.deferred none)).cell? ⟨gJ, 0, none⟩ = some (.pointer (some ⟨gj, 0, none⟩)) := Blk.cell (show Blk _ gJ 29 [.pointer (some ⟨gj, 0, none⟩)] from (Sep.cons.1 (Sep.cons.1 hd4).2.2).2.2.head) 0
    have hd5 := (Sep.cons.1 (Sep.cons.1 (Sep.cons.1 hd4).2.2).2.2).2.2
    have hd6 := Sep.turn (a' := Asn.own b0 37 1 (.slice X1 n1 n1) n1 (srcs.map SV)) (hd5.perm (List.Perm.swap _ _ _)) (fun h => Own.clip h) (fun k hk => by cases X1 <;> exact hk)
    have hd7 := Lib.hid (hd6.perm (List.Perm.swap _ _ _))
    have HK := Lib.hid hK
    have Q0 := Lib.hid q0
    have Q1 := Lib.hid q1
    have HB9 := Lib.hid hB9
    clear hd hd1 hd2 hd3 hd4 hd5 hd6 hK hB9 q0 q1
    have FIN : Hid (RetOpen b0 w g m L R s bs (.returned (.tuple #[.pointer (some ⟨gj, 0, none⟩), .slice X1 n1 n1, .int .i64 0])) ((((W.setCell ⟨gJ, 0, none⟩ (.pointer (some ⟨gj, 0, none⟩))).setCell ⟨gJ + 1, 0, none⟩ (.slice X1 n1 n1)).drew).putObj Dd (.deferred none))) := by
      refine ⟨gj, X1, n1, srcs, rfl, HS1.out, HS2.out, HS3.out, hgj1, ⟨cs, hcs1, hcs2, ?_, ?_⟩, HB9.out⟩
      · have h7 := hd7.out
        rw [HD.out] at h7
        refine h7.perm ?_
        exact List.perm_append_comm_assoc (_ :: _ :: srcs.map (recAsn b0)) (cs.flatMap (Cd.asn b0)) R
      · exact Nat.le_trans hb5 (by have := HB9.out.size; have := B5.size; have := hbW.size; simp at *; omega)
    go_wp2_with fail
    refine wp_calm ?_
    go_region_with (go_at_call 45; refine (ClipR_any X1 n1 cx _ hcx1 hcx2).mono ?_; rintro e w' ⟨rfl, rfl⟩)
    all_goals
      unfold calmQ
      go_wp2_with fail
      refine ⟨by simp, .inl ⟨_, _, rfl, run_takeDeferred HK.out, ?_⟩⟩
      refine ⟨.tuple #[.pointer (some ⟨gj, 0, none⟩), .slice X1 n1 n1, .int .i64 0], ?_, FIN.out⟩
      simp [results, Tryd.results16, go_sem, Q0.out, Q1.out]
end Go.Proofs.YtgibdecgmageeaaDoor
