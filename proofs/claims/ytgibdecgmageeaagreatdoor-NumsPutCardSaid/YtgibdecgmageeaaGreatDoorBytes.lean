/- nums.PutBytes and nums.GetBytes walked. -/
import Derived.Test.YtgibdecgmageeaaGreatDoorConcat
import Derived.Test.YtgibdecgmageeaaGreatDoorPut2
import Derived.Test.YtgibdecgmageeaaGreatDoorGet
import Derived.Test.YtgibdecgmageeaaGreatDoorSmall
namespace Go.Proofs.YtgibdecgmageeaaGreatDoor
open Go.RowKit

/-- Bytes, with how many ahead of them. -/
def lenB (l : List Int) : List Int := be l.length 4 ++ l

set_option maxHeartbeats 1000000 in
theorem PutBytes_any (bs l : List Int) (A L : Option Addr) (cb cl : Nat) (w : World) (hbl : bs.length + l.length ≤ 140737488351232)
    (hrb : Rd w w.heap.size A (U8 bs)) (hrl : Rd w w.heap.size L (U8 l)) :
    Calls Tryz.prog 21 #[.slice A bs.length cb, .slice L l.length cl] w (RetB w (bs ++ lenB l)) := by
  go_enter Tryz.func21, Tryz.ntmps21
  go_wp2_with fail
  refine (Put_any bs A cb l.length 4 w (by omega) (by omega) (by omega) (by omega) (by omega) hrb).mono ?_
  rintro e w1 ⟨g, rfl, hg, hB, hb⟩
  go_wp2_with fail
  have hm4 : many 4 = 4 := rfl
  have hb2 : Below w.heap.size w (w1.alloc (.cells #[.slice (some ⟨g, 0, none⟩) (bs.length + many 4) (bs.length + many 4), .slice L l.length cl] 22)) := hb.alloc hb.size _
  refine (Concat_any [(some ⟨g, 0, none⟩, bs ++ be (l.length : Int).toNat (many 4), bs.length + many 4), (L, l, cl)] _ 2 2 _ rfl (by simp) ?_ ?_ ?_).mono ?_
  · have e : [((some ⟨g, 0, none⟩ : Option Addr), bs ++ be (l.length : Int).toNat (many 4), bs.length + many 4), (L, l, cl)].map SV = [.slice (some ⟨g, 0, none⟩) (bs.length + many 4) (bs.length + many 4), .slice L l.length cl] := by simp [SV]
    rw [e]
    exact Rd.of_blk (Blk.new w1 22 [.slice (some ⟨g, 0, none⟩) (bs.length + many 4) (bs.length + many 4), .slice L l.length cl]) 0 (fun j u hu => by simpa using hu) (by simp)
  · intro s hs
    simp only [List.mem_cons, List.not_mem_nil, or_false] at hs
    rcases hs with rfl | rfl
    · exact Rd.of_blk (hB.alloc _) 0 (fun j u hu => by simpa using hu) (by have := hB.lt; simp; omega)
    · exact hrl.below hb2 (by have := hb.size; simp; omega)
  · simp [cat, hm4]; omega
  · rintro e w' h
    obtain ⟨v, rfl, ho, hb3⟩ := h.later hb2
    go_wp2
    go_ret
    refine ⟨v, rfl, ?_, hb3⟩
    simpa [cat, lenB, hm4] using ho

/-- What GetBytes answers: the bytes, and how many it took; none: too short. -/
def getBytesF (bs : List Int) : Option (List Int) :=
  if bs.length < 4 then none else if bs.length - 4 < num (bs.take 4) then none else some ((bs.drop 4).take (num (bs.take 4)))

set_option maxHeartbeats 1000000 in
theorem GetBytes_short (bs : List Int) (A : Option Addr) (cb : Nat) (w : World) (hs : getBytesF bs = none) (hc : bs.length ≤ cb) (hcb : cb ≤ 9223372036854775807) (hu : IsU8 bs) (hr : Rd w w.heap.size A (U8 bs)) :
    Calls Tryz.prog 13 #[.slice A bs.length cb] w (fun e w' => e = .returned (.tuple #[.slice none 0 0, .int .i64 0, .int .i64 5]) ∧ w = w') := by
  unfold getBytesF at hs
  by_cases h4 : bs.length < 4
  · go_enter Tryz.func13, Tryz.ntmps13
    go_wp2_with (first | (go_at_call 9; refine (Get_short bs A cb 4 _ (by omega) (by omega) (by omega)).mono ?_; rintro e w' ⟨rfl, rfl⟩))
    go_ret3
    exact ⟨rfl, rfl⟩
  · rw [if_neg h4] at hs
    have hlt : bs.length - 4 < num (bs.take 4) := by
      by_cases h : bs.length - 4 < num (bs.take 4)
      · exact h
      · rw [if_neg h] at hs; cases hs
    have hnum : num (bs.take 4) < 4294967296 := by
      have := num_lt (bs.take 4) (fun x hx => hu x (List.mem_of_mem_take hx))
      rw [List.length_take, Nat.min_eq_left (by omega)] at this
      have e : 256 ^ 4 = 4294967296 := by decide
      omega
    go_enter Tryz.func13, Tryz.ntmps13
    go_wp2_with (first | (go_at_call 9; refine (Get_good bs A cb 4 _ w.heap.size (by omega) (by omega) hc hcb hu hr).mono ?_; rintro e w' ⟨rfl, rfl⟩))
    go_ret3
    exact ⟨rfl, rfl⟩

set_option maxHeartbeats 1000000 in
theorem GetBytes_good (bs l : List Int) (A : Option Addr) (cb : Nat) (w : World) (hs : getBytesF bs = some l) (hc : bs.length ≤ cb) (hcb : cb ≤ 9223372036854775807) (hbl : bs.length ≤ 140737488351232) (hu : IsU8 bs) (hr : Rd w w.heap.size A (U8 bs)) :
    Calls Tryz.prog 13 #[.slice A bs.length cb] w (fun e w' => ∃ X, e = .returned (.tuple #[.slice X l.length l.length, .int .i64 (4 + l.length), .int .i64 0]) ∧ Own w' w.heap.size 5 1 (.slice X l.length l.length) l.length (U8 l) ∧ Below w.heap.size w w') := by
  unfold getBytesF at hs
  by_cases h4 : bs.length < 4
  · rw [if_pos h4] at hs; cases hs
  rw [if_neg h4] at hs
  by_cases hlt : bs.length - 4 < num (bs.take 4)
  · rw [if_pos hlt] at hs; cases hs
  rw [if_neg hlt] at hs
  have hl := Option.some.inj hs
  obtain ⟨n, hn⟩ : ∃ n, n = num (bs.take 4) := ⟨_, rfl⟩
  rw [← hn] at hl hlt
  have hlen : l.length = n := by rw [← hl]; simp; omega
  have HN := Lib.hid hn
  have HL := Lib.hid hl
  clear hn hl hs
  obtain ⟨ad, rfl, hadb, hcells⟩ := hr (by simp; omega)
  have key : ∀ (a : Addr) (c : Nat), Rd w w.heap.size (some a) (U8 l) → Calls Tryz.prog 59 #[.slice (some a) n c] w (RetB w l) := by
    intro a c h
    have := Clone_any l (some a) c w (by omega) (fun e => by cases e) h
    rwa [hlen] at this
  have hrd : Rd w w.heap.size (some (ad.add 4)) (U8 l) := by
    refine fun _ => ⟨_, rfl, by rw [add_block]; exact hadb, fun j u hj => ?_⟩
    rw [add_add]
    refine hcells _ u ?_
    rw [← HL.out] at hj
    simp only [U8, List.map_take, List.map_drop, List.getElem?_take, List.getElem?_drop] at hj ⊢
    split at hj
    · exact hj
    · cases hj
  have hrd0 : n = 0 → Rd w w.heap.size (some ad) (U8 l) := by
    intro h
    have : l = [] := List.eq_nil_of_length_eq_zero (by omega)
    rw [this]; exact Rd.nil _ _ _
  have KEY := Lib.hid key; clear key
  have HLEN := Lib.hid hlen; clear hlen
  clear hcells
  have fin : ∀ v w', Own w' w.heap.size 5 1 v l.length (U8 l) → ∃ X c, v = .slice X n c ∧ n ≤ c ∧ c ≤ 9223372036854775807 ∧ Own w' w.heap.size 5 1 (.slice X l.length l.length) l.length (U8 l) := by
    intro v w' ho
    obtain ⟨X, c, rfl, h1, h2, _⟩ := ho.shape
    have h3 := HLEN.out
    exact ⟨X, c, by rw [h3], by omega, h2, ho.clip⟩
  have FIN := Lib.hid fin; clear fin
  go_enter Tryz.func13, Tryz.ntmps13
  go_wp2_with fail
  refine (Get_good bs (some ad) cb 4 _ w.heap.size (by omega) (by omega) hc hcb hu hr).mono ?_
  rintro e w' ⟨rfl, rfl⟩
  rw [← HN.out]
  go_wp2_with fail
  · have hn0 : n = 0 := by omega
    refine (KEY.out _ _ (hrd0 hn0)).mono ?_
    rintro e w' ⟨v, rfl, ho, hb⟩
    obtain ⟨X, c, rfl, h1, h2, ho2⟩ := FIN.out v w' ho
    clear hn0 hrd0 ho
    go_wp2_with (first | (go_at_call 58; refine (Clip_any X n c _ h1 h2).mono ?_; rintro e w2 ⟨rfl, rfl⟩))
    go_ret3
    refine ⟨X, ?_, ho2, hb⟩
    rw [HLEN.out]; rfl
  · refine (KEY.out _ _ hrd).mono ?_
    rintro e w' ⟨v, rfl, ho, hb⟩
    obtain ⟨X, c, rfl, h1, h2, ho2⟩ := FIN.out v w' ho
    clear ho
    go_wp2_with (first | (go_at_call 58; refine (Clip_any X n c _ h1 h2).mono ?_; rintro e w2 ⟨rfl, rfl⟩))
    go_ret3
    refine ⟨X, ?_, ho2, hb⟩
    rw [HLEN.out]; rfl
end Go.Proofs.YtgibdecgmageeaaGreatDoor
