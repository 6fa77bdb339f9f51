/- Read walked. -/
import Derived.Test.YtgibdecgmageeaaDoorDisk12
namespace Go.Proofs.YtgibdecgmageeaaDoor
open Go.RowKit

theorem ClipB_any (A : Option Addr) (n c : Nat) (w : World) (h : n ≤ c) (_hm : c ≤ 9223372036854775807) :
    Calls Tryd.prog 55 #[.slice A n c] w fun e w' => e = .returned (.slice A n n) ∧ w = w' := by
  go_enter Tryd.func55, Tryd.ntmps55
  go_wp2
  go_ret
  exact ⟨rfl, rfl⟩
set_option maxRecDepth 100000 in
theorem CloneB_nil (n c : Nat) (w : World) : Calls Tryd.prog 52 #[.slice none n c] w (fun e w' => e = .returned (.slice none 0 0) ∧ w = w') := by
  have he : ∀ w : World, (binOp .eql 37 (.slice none n c) (.slice none 0 0)).run Tryd.prog w = .ok (.bool true) w := fun _ => rfl
  go_enter Tryd.func52, Tryd.ntmps52
  go_wp2
  go_ret
  exact ⟨rfl, rfl⟩
/-- What Read hands back: bytes of its own, and an error. -/
def RetRead (w : World) (r : List Int × Int) (e : Ending) (w' : World) : Prop :=
  ∃ X, e = .returned (.tuple #[.slice X r.1.length r.1.length, .int .i64 r.2]) ∧ Own w' w.heap.size 5 1 (.slice X r.1.length r.1.length) r.1.length (U8 r.1) ∧ Below w.heap.size w w'

set_option maxRecDepth 100000 in
set_option maxHeartbeats 2000000 in
theorem Read_any (c : Cd) (b0 : Nat) (s : ByteArray) (a n : Int) (w : World) (hS : Sep w (c.asn b0)) (hk : c.m.ok) (hs : s.size ≤ 9223372036854775807)
    (ha0 : -9223372036854775808 ≤ a) (ha1 : a ≤ 9223372036854775807) (hn0 : -9223372036854775808 ≤ n) (hn1 : n ≤ 9223372036854775807) :
    Calls Tryd.prog 36 #[.pointer (some ⟨c.g, 0, none⟩), .string s, .int .i64 a, .int .i64 n] w (RetRead w (c.m.read s a n)) := by
  have hmin : decide (0 ≤ min a n) = (decide (0 ≤ a) && decide (0 ≤ n)) := by
    by_cases h1 : 0 ≤ a <;> by_cases h2 : 0 ≤ n <;> simp [h1, h2] <;> omega
  unfold Dm.read
  generalize hq : decide (0 ≤ min a n) = ok at *
  by_cases h : c.m.finds ok s = 0
  · rw [if_neg (by simp [h])]
    have hok : ok = true := by
      unfold Dm.finds at h
      cases ok with
      | true => rfl
      | false =>
        have : c.m.goes false s ≠ 0 := by unfold Dm.goes; split <;> simp
        rw [if_pos this] at h; exact absurd h this
    subst hok
    have hpos : 0 ≤ a ∧ 0 ≤ n := by have := of_decide_eq_true hq; omega
    obtain ⟨k, rfl⟩ := Int.eq_ofNat_of_zero_le hpos.1
    obtain ⟨m, rfl⟩ := Int.eq_ofNat_of_zero_le hpos.2
    obtain ⟨x, A, l, cap, hx, hat, hl, hl1, hmk, hu, hk64, hw⟩ := Cd.found hk h
    have hf := finds_ok c true s w (Cd.blk hS) hk.now.len hs h
    rw [← hq] at hf
    obtain ⟨hv, _⟩ := hw w b0 hS
    have hA : (A = none → l = 0 ∧ cap = 0) ∧ ∀ ad, A = some ad → ∃ g, ad = ⟨g, 0, none⟩ := by
      have ha : (x.asn b0).holds w := hS.1 _ (by unfold Cd.asn; exact List.mem_cons_of_mem _ (List.mem_map.2 ⟨x, List.mem_of_getElem? hx, rfl⟩))
      rcases ha.2.1.2 with ⟨h1, h2⟩ | ⟨g, cp, rest, h1, _⟩
      · rw [hv] at h1
        obtain ⟨rfl, rfl, rfl⟩ := Value.slice.inj h1
        exact ⟨fun _ => ⟨rfl, rfl⟩, fun _ h => by cases h⟩
      · rw [hv] at h1
        obtain ⟨rfl, _, _⟩ := Value.slice.inj h1
        exact ⟨fun h => (by cases h), fun ad h => ⟨g, (Option.some.inj h).symm⟩⟩
    have key : ∀ w', Below w.heap.size w w' → (w'.cell? ⟨c.g, 1 + idx c.now s * 2 + 1, none⟩ = some (.pointer (some ⟨x.r, 0, none⟩)) ∧ w'.cell? ⟨x.r, 0, none⟩ = some (.slice A l cap)) ∧ Rd w' w'.heap.size A (U8 x.bs) := by
      intro w' hb
      obtain ⟨_, _, h1, h2, _, h3, _⟩ := hw w' b0 (hS.below hb (fun _ hk => hS.lt hk))
      exact ⟨⟨h1, h2⟩, h3⟩
    obtain ⟨_, _, _, _, _, _, hlc, hcm, _⟩ := hw w b0 hS
    rw [hat]
    by_cases hfit : (k : Int) ≤ (x.bs.length : Nat) ∧ (m : Int) ≤ (x.bs.length : Nat) - (k : Int)
    · rw [if_pos hfit]
      have hkl : k ≤ l := by omega
      have hml : m ≤ l - k := by omega
      have hmlI : (m : Int) ≤ (l : Int) - k := by omega
      have hlen : ((x.bs.drop k).take m).length = m := by simp; omega
      cases A with
      | none =>
        obtain ⟨rfl, rfl⟩ := hA.1 rfl
        obtain rfl : k = 0 := by omega
        obtain rfl : m = 0 := by omega
        rw [hq] at hf
        have HF := Lib.hid hf; have HK := Lib.hid key; have HLE := Lib.hid hlen
        clear hf key hw hx hat h hS hk hA hq hmin hv hl hfit hlen hu
        go_enter Tryd.func36, Tryd.ntmps36
        go_wp2_with fail
        (with_reducible refine HF.out.mono ?_)
        rintro e w1 ⟨rfl, hb⟩
        obtain ⟨⟨k1, k2⟩, _⟩ := HK.out w1 hb
        go_wp2_with fail
        refine (CloneB_nil 0 0 _).mono ?_
        rintro e w2 ⟨rfl, rfl⟩
        go_wp2_with fail
        refine (ClipB_any none 0 0 _ (by omega) (by omega)).mono ?_
        rintro e w2 ⟨rfl, rfl⟩
        go_wp2
        go_ret2
        exact ⟨none, rfl, Own.nil _ _ _ _, hb⟩
      | some ad0 =>
        obtain ⟨g, rfl⟩ := hA.2 _ rfl
        obtain ⟨ad, hAd⟩ : ∃ ad, (if cap = k then some ⟨g, 0, none⟩ else some (⟨g, k, none⟩ : Addr)) = some ad := by split <;> exact ⟨_, rfl⟩
        have hrd : ∀ w', Below w.heap.size w w' → Rd w' w'.heap.size (some ad) (U8 ((x.bs.drop k).take m)) := by
          intro w' hb
          have h1 := ((key w' hb).2).cut k cap m 1 (by intro e; simp; omega)
          rw [Nat.mul_one] at h1
          have e2 : (if cap = k then (some ⟨g, 0, none⟩ : Option Addr) else (some (⟨g, 0, none⟩ : Addr)).map (·.add k)) = some ad := by
            rw [← hAd]; split
            · rfl
            · simp [Addr.add_lit]
          rw [e2] at h1
          simpa [U8, List.map_drop, List.map_take] using h1
        have hcl : ∀ w', Below w.heap.size w w' → Calls Tryd.prog 52 #[.slice (some ad) m (cap - k)] w' (fun e w'' => ∃ A cap, e = .returned (.slice A m cap) ∧ Own w'' w'.heap.size 5 1 (.slice A m cap) m (U8 ((x.bs.drop k).take m)) ∧ Below w'.heap.size w' w'') :=
          fun w' hb => Clone_some _ ad m _ w' hlen.symm (by omega) (hrd w' hb)
        have HF := Lib.hid hf; have HK := Lib.hid key; have HLE := Lib.hid hlen; have HC := Lib.hid hcl
        have hck : k ≤ cap := by omega
        have hmc : m ≤ cap - k := by omega
        clear hf key hw hx hat h hS hk hA hq hmin hv hl hfit hlen hu hrd hcl
        go_enter Tryd.func36, Tryd.ntmps36
        go_wp2_with fail
        (with_reducible refine HF.out.mono ?_)
        rintro e w1 ⟨rfl, hb⟩
        obtain ⟨⟨k1, k2⟩, _⟩ := HK.out w1 hb
        clear HK
        go_wp2_with fail
        (with_reducible refine (HC.out w1 hb).mono ?_)
        rintro e w2 ⟨X, cp, rfl, ho, hb2⟩
        obtain ⟨_, _, ee, q1, q2, _⟩ := ho.shape
        have ee' := (Value.slice.inj ee).2.2
        subst ee'
        have HO := Lib.hid ho.clip
        clear ho ee
        go_wp2_with fail
        refine (ClipB_any X m _ _ q1 q2).mono ?_
        rintro e w3 ⟨rfl, rfl⟩
        go_wp2
        go_ret2
        refine ⟨X, ?_, ?_, hb.trans (hb2.mono hb.size)⟩
        · have e1 := HLE.out
          simp only [Int.toNat_natCast]
          rw [e1]; rfl
        · have e1 := HLE.out
          simp only [Int.toNat_natCast]
          rw [e1]
          exact HO.out.rebase (fun g hg => Nat.le_trans hb.size (HO.out.lt g hg).1)
    · rw [if_neg hfit]
      have hfit' : ¬ ((k : Int) ≤ l ∧ (m : Int) ≤ (l : Int) - k) := by rw [hl]; exact hfit
      have HF := Lib.hid hf; have HK := Lib.hid key
      clear hf key hw hx hat h hS hk hA hq hmin hv hl hfit hu
      by_cases hkl : (k : Int) ≤ l
      · have hml : ¬ ((m : Int) ≤ (l : Int) - k) := fun h => hfit' ⟨hkl, h⟩
        clear hfit'
        go_enter Tryd.func36, Tryd.ntmps36
        go_wp2_with fail
        (with_reducible refine HF.out.mono ?_)
        rintro e w1 ⟨rfl, hb⟩
        obtain ⟨⟨k1, k2⟩, _⟩ := HK.out w1 hb
        clear HK
        go_wp2
        go_ret2
        exact ⟨none, rfl, Own.nil _ _ _ _, hb⟩
      · clear hfit'
        go_enter Tryd.func36, Tryd.ntmps36
        go_wp2_with fail
        (with_reducible refine HF.out.mono ?_)
        rintro e w1 ⟨rfl, hb⟩
        obtain ⟨⟨k1, k2⟩, _⟩ := HK.out w1 hb
        clear HK
        go_wp2
        go_ret2
        exact ⟨none, rfl, Own.nil _ _ _ _, hb⟩
  · rw [if_pos h]
    have hf := finds_err c ok s _ w (Cd.blk hS) hk.now.len hs rfl h
    generalize c.m.finds ok s = E at hf h
    rw [← hq] at hf
    have HF := Lib.hid hf
    clear hf hk hS hmin hq
    have hE1 : (E != 0) = true := by simpa using h
    clear h
    go_enter Tryd.func36, Tryd.ntmps36
    go_wp2_with fail
    (with_reducible refine HF.out.mono ?_)
    rintro e w1 ⟨rfl, hb⟩
    go_wp2
    go_ret2
    exact ⟨none, rfl, Own.nil _ _ _ _, hb⟩
end Go.Proofs.YtgibdecgmageeaaDoor
