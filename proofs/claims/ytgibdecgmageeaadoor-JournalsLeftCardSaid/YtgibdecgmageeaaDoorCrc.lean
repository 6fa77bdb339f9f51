/- The check of layer 18: the plain mathematics. Nothing of the program stands here. -/
import Derived.Test.YtgibdecgmageeaaDoorNum
namespace Go.Proofs.YtgibdecgmageeaaDoor
open Go.RowKit

theorem wrap_u32 (n : Int) : IntKind.u32.wrap n = n % 4294967296 := by simp [IntKind.wrap, IntKind.bits, IntKind.signed]
theorem xor_u32 (a b : Nat) (ha : a < 4294967296) (hb : b < 4294967296) : bits .xor .u32 (a : Int) (b : Int) = ((a ^^^ b : Nat) : Int) := by
  have hx : a ^^^ b < 2 ^ 32 := Nat.xor_lt_two_pow (by omega) (by omega)
  have h1 : (BitVec.ofInt 32 (a : Int)).toNat = a := by
    rw [BitVec.ofInt_natCast, BitVec.toNat_ofNat]; exact Nat.mod_eq_of_lt (by omega)
  have h2 : (BitVec.ofInt 32 (b : Int)).toNat = b := by
    rw [BitVec.ofInt_natCast, BitVec.toNat_ofNat]; exact Nat.mod_eq_of_lt (by omega)
  show IntKind.u32.wrap ((BitVec.ofInt 32 (a : Int) ^^^ BitVec.ofInt 32 (b : Int)).toNat : Int) = _
  rw [BitVec.toNat_xor, h1, h2, wrap_u32]
  omega

/-- A check goes on by one bit, eight bits, a byte, bytes. -/
def crcBit (c : Nat) : Nat := if c / 2147483648 = 1 then (c * 2 % 4294967296) ^^^ 79764919 else c * 2 % 4294967296
def crcBits (c : Nat) : Nat → Nat
  | 0 => c
  | n + 1 => crcBit (crcBits c n)
def crcByte (c x : Nat) : Nat := crcBits (c ^^^ x * 16777216) 8
def crc (c : Nat) (l : List Int) : Nat := l.foldl (fun c x => crcByte c x.toNat) c

theorem crc_append (c : Nat) (a b : List Int) : crc c (a ++ b) = crc (crc c a) b := by simp [crc]
theorem crc_snoc (c : Nat) (a : List Int) (x : Int) : crc c (a ++ [x]) = crcByte (crc c a) x.toNat := by simp [crc]
theorem crcBit_lt (c : Nat) : crcBit c < 4294967296 := by
  unfold crcBit
  split
  · have : c * 2 % 4294967296 ^^^ 79764919 < 2 ^ 32 := Nat.xor_lt_two_pow (by omega) (by omega)
    omega
  · omega
theorem crcBits_lt (c : Nat) (h : c < 4294967296) (n : Nat) : crcBits c n < 4294967296 := by
  cases n with
  | zero => exact h
  | succ n => exact crcBit_lt _
theorem crcIn_lt (c x : Nat) (h : c < 4294967296) (hx : x < 256) : c ^^^ x * 16777216 < 4294967296 := by
  have : c ^^^ x * 16777216 < 2 ^ 32 := Nat.xor_lt_two_pow (by omega) (by omega)
  omega
theorem crcByte_lt (c x : Nat) : crcByte c x < 4294967296 := crcBit_lt _
theorem crc_lt (c : Nat) (h : c < 4294967296) (l : List Int) : crc c l < 4294967296 := by
  induction l using snoc_ind with
  | h0 => exact h
  | hs l x _ => rw [crc_snoc]; exact crcByte_lt _ _

theorem crcBit_inj {a b : Nat} (ha : a < 4294967296) (hb : b < 4294967296) (h : crcBit a = crcBit b) : a = b := by
  have odd : ∀ n : Nat, (n * 2 % 4294967296 ^^^ 79764919).testBit 0 = true := fun n => by
    rw [Nat.testBit_xor]
    have h1 : (n * 2 % 4294967296).testBit 0 = false := by rw [Nat.testBit_zero]; exact decide_eq_false (by omega)
    rw [h1]; decide
  have even : ∀ n : Nat, (n * 2 % 4294967296).testBit 0 = false := fun n => by rw [Nat.testBit_zero]; exact decide_eq_false (by omega)
  unfold crcBit at h
  by_cases h1 : a / 2147483648 = 1 <;> by_cases h2 : b / 2147483648 = 1
  · rw [if_pos h1, if_pos h2] at h
    have h3 := congrArg (· ^^^ 79764919) h
    simp only [Nat.xor_assoc, Nat.xor_self, Nat.xor_zero] at h3
    omega
  · rw [if_pos h1, if_neg h2] at h
    have h3 := odd a
    rw [h, even b] at h3
    cases h3
  · rw [if_neg h1, if_pos h2] at h
    have h3 := odd b
    rw [← h, even a] at h3
    cases h3
  · rw [if_neg h1, if_neg h2] at h
    omega
theorem crcBits_inj {a b : Nat} (ha : a < 4294967296) (hb : b < 4294967296) : ∀ n, crcBits a n = crcBits b n → a = b
  | 0, h => h
  | n + 1, h => crcBits_inj ha hb n (crcBit_inj (crcBits_lt a ha n) (crcBits_lt b hb n) h)
theorem crcByte_inj {a b x : Nat} (ha : a < 4294967296) (hb : b < 4294967296) (hx : x < 256) (h : crcByte a x = crcByte b x) : a = b := by
  have h1 := crcBits_inj (crcIn_lt a x ha hx) (crcIn_lt b x hb hx) 8 h
  have h2 := congrArg (· ^^^ x * 16777216) h1
  simpa only [Nat.xor_assoc, Nat.xor_self, Nat.xor_zero] using h2
/-- Unlike checks stay unlike. -/
theorem crc_inj {a b : Nat} (ha : a < 4294967296) (hb : b < 4294967296) (l : List Int) (hl : IsU8 l) (h : crc a l = crc b l) : a = b := by
  induction l using snoc_ind with
  | h0 => exact h
  | hs l x ih =>
    rw [crc_snoc, crc_snoc] at h
    have hx := hl x (by simp)
    exact ih (fun y hy => hl y (by simp [hy])) (crcByte_inj (crc_lt a ha l) (crc_lt b hb l) (by omega) h)
theorem be4_inj {a b : Nat} (ha : a < 4294967296) (hb : b < 4294967296) (h : be a 4 = be b 4) : a = b := by
  have h1 := num_be a 4
  have h2 := num_be b 4
  have e : 256 ^ 4 = 4294967296 := by decide
  rw [h, h2, e] at h1
  omega

/-- First check. -/
def first32 : Nat := 4294967295
theorem first32_lt : first32 < 4294967296 := by decide
/-- A record as it is laid behind a check; the check behind it. -/
def nextC (c : Nat) (r : List Int) : Nat := crc c (be r.length 4 ++ r)
def laidB (c : Nat) (r : List Int) : List Int := be r.length 4 ++ r ++ be (nextC c r) 4
@[simp] theorem length_laidB (c : Nat) (r : List Int) : (laidB c r).length = r.length + 8 := by simp [laidB]; omega
theorem nextC_lt {c : Nat} (h : c < 4294967296) (r : List Int) : nextC c r < 4294967296 := crc_lt c h _
theorem isU8_laidB {c : Nat} {r : List Int} (h : IsU8 r) : IsU8 (laidB c r) := isU8_append (isU8_append (isU8_be _ _) h) (isU8_be _ _)
/-- Records laid one behind the other; the check behind them. -/
def chain (c : Nat) : List (List Int) → List Int
  | [] => []
  | r :: l => laidB c r ++ chain (nextC c r) l
def chainC (c : Nat) : List (List Int) → Nat
  | [] => c
  | r :: l => chainC (nextC c r) l
theorem chain_append (c : Nat) (a b : List (List Int)) : chain c (a ++ b) = chain c a ++ chain (chainC c a) b := by
  induction a generalizing c with
  | nil => rfl
  | cons r a ih => simp [chain, chainC, ih]
theorem chainC_append (c : Nat) (a b : List (List Int)) : chainC c (a ++ b) = chainC (chainC c a) b := by
  induction a generalizing c with
  | nil => rfl
  | cons r a ih => simp [chainC, ih]
theorem chainC_lt {c : Nat} (h : c < 4294967296) (l : List (List Int)) : chainC c l < 4294967296 := by
  induction l generalizing c with
  | nil => exact h
  | cons r l ih => exact ih (nextC_lt h r)
/-- How long records are. -/
def endR (l : List (List Int)) : Nat := (l.map fun r => r.length + 8).sum
theorem length_chain (c : Nat) (l : List (List Int)) : (chain c l).length = endR l := by
  induction l generalizing c with
  | nil => rfl
  | cons r l ih => simp [chain, ih, endR]
theorem endR_append (a b : List (List Int)) : endR (a ++ b) = endR a + endR b := by simp [endR]

/-- The first record of bytes behind a check: it, and what is behind it. -/
def oneR (c : Nat) (b : List Int) : Option (List Int × List Int) :=
  if b.length < 8 then none else
  if 65536 < num (b.take 4) ∨ b.length - 8 < num (b.take 4) then none else
  if be (crc c (b.take (4 + num (b.take 4)))) 4 = (b.drop (4 + num (b.take 4))).take 4 then some ((b.drop 4).take (num (b.take 4)), b.drop (8 + num (b.take 4))) else none
theorem oneR_lt {c : Nat} {b r q : List Int} (h : oneR c b = some (r, q)) : q.length + r.length + 8 = b.length := by
  unfold oneR at h
  split at h
  · cases h
  · split at h
    · cases h
    · split at h
      · rename_i h1 h2 _
        cases h
        simp only [not_or, Nat.not_lt] at h2
        simp only [List.length_drop, List.length_take]
        omega
      · cases h
/-- The records that bytes tell, behind a check. -/
def recs (c : Nat) (b : List Int) : List (List Int) :=
  match _h : oneR c b with
  | none => []
  | some (r, q) => r :: recs (nextC c r) q
  termination_by b.length
  decreasing_by have := oneR_lt _h; omega
theorem recs_none {c : Nat} {b : List Int} (h : oneR c b = none) : recs c b = [] := by
  rw [recs]; split
  · rfl
  · rename_i h2; rw [h] at h2; cases h2
theorem recs_some {c : Nat} {b r q : List Int} (h : oneR c b = some (r, q)) : recs c b = r :: recs (nextC c r) q := by
  rw [recs]; split
  · rename_i h2; rw [h] at h2; cases h2
  · rename_i h2; rw [h] at h2; cases h2; rfl
theorem recs_len (k : Nat) : ∀ (c : Nat) (b : List Int), b.length ≤ k → endR (recs c b) ≤ b.length := by
  induction k with
  | zero =>
    intro c b hb
    have h : oneR c b = none := by unfold oneR; rw [if_pos (by omega)]
    rw [recs_none h]
    exact Nat.zero_le _
  | succ k ih =>
    intro c b hb
    cases h : oneR c b with
    | none => rw [recs_none h]; exact Nat.zero_le _
    | some x =>
      obtain ⟨r, q⟩ := x
      have h1 := oneR_lt h
      have h2 := ih (nextC c r) q (by omega)
      rw [recs_some h]
      have e : endR (r :: recs (nextC c r) q) = (r.length + 8) + endR (recs (nextC c r) q) := by simp [endR]
      omega
theorem endR_count (l : List (List Int)) : l.length * 8 ≤ endR l := by
  induction l with
  | nil => exact Nat.zero_le _
  | cons r l ih =>
    have e : endR (r :: l) = (r.length + 8) + endR l := by simp [endR]
    simp only [List.length_cons]
    omega
/-- A record that is laid is told, with whatever stands behind it. -/
theorem oneR_laid (c : Nat) (r q : List Int) (hr : r.length ≤ 65536) : oneR c (laidB c r ++ q) = some (r, q) := by
  have e4 : (laidB c r ++ q).take 4 = be r.length 4 := by
    unfold laidB
    rw [List.append_assoc, List.append_assoc, List.take_left' (by simp)]
  have hn : num ((laidB c r ++ q).take 4) = r.length := by
    rw [e4, num_be]
    have e : 256 ^ 4 = 4294967296 := by decide
    omega
  have ht : (laidB c r ++ q).take (4 + r.length) = be r.length 4 ++ r := by
    unfold laidB
    rw [List.append_assoc, List.take_left' (by simp)]
  have hd : (laidB c r ++ q).drop (4 + r.length) = be (nextC c r) 4 ++ q := by
    unfold laidB
    rw [List.append_assoc, List.drop_left' (by simp)]
  have hd4 : (laidB c r ++ q).drop 4 = r ++ (be (nextC c r) 4 ++ q) := by
    unfold laidB
    rw [List.append_assoc, List.append_assoc, List.drop_left' (by simp)]
  have hd8 : (laidB c r ++ q).drop (8 + r.length) = q := List.drop_left' (by simp; omega)
  have hz : be (crc c (be r.length 4 ++ r)) 4 = be (nextC c r) 4 := rfl
  have h8 : ¬ (laidB c r ++ q).length < 8 := by rw [List.length_append, length_laidB]; omega
  have hm : ¬ (65536 < r.length ∨ (laidB c r ++ q).length - 8 < r.length) := by rw [List.length_append, length_laidB]; omega
  unfold oneR
  rw [hn, ht, hd, hd4, hd8, if_neg h8, if_neg hm, List.take_left' (by simp), if_pos hz, List.take_left' rfl]
/-- Behind another check it is not. -/
theorem oneR_other (c d : Nat) (r q : List Int) (hr : r.length ≤ 65536) (hu : IsU8 r) (hc : c < 4294967296) (hd : d < 4294967296) (h : c ≠ d) : oneR c (laidB d r ++ q) = none := by
  have e4 : (laidB d r ++ q).take 4 = be r.length 4 := by
    unfold laidB
    rw [List.append_assoc, List.append_assoc, List.take_left' (by simp)]
  have hn : num ((laidB d r ++ q).take 4) = r.length := by
    rw [e4, num_be]
    have e : 256 ^ 4 = 4294967296 := by decide
    omega
  have ht : (laidB d r ++ q).take (4 + r.length) = be r.length 4 ++ r := by
    unfold laidB
    rw [List.append_assoc, List.take_left' (by simp)]
  have hdd : (laidB d r ++ q).drop (4 + r.length) = be (nextC d r) 4 ++ q := by
    unfold laidB
    rw [List.append_assoc, List.drop_left' (by simp)]
  have h8 : ¬ (laidB d r ++ q).length < 8 := by rw [List.length_append, length_laidB]; omega
  have hm : ¬ (65536 < r.length ∨ (laidB d r ++ q).length - 8 < r.length) := by rw [List.length_append, length_laidB]; omega
  unfold oneR
  rw [hn, ht, hdd, if_neg h8, if_neg hm, List.take_left' (by simp), if_neg]
  intro e
  exact h (crc_inj hc hd _ (isU8_append (isU8_be _ _) hu) (be4_inj (crc_lt c hc _) (nextC_lt hd r) e))
theorem recs_chain (c : Nat) (l : List (List Int)) (q : List Int) (hl : ∀ r ∈ l, r.length ≤ 65536) : recs c (chain c l ++ q) = l ++ recs (chainC c l) q := by
  induction l generalizing c with
  | nil => rfl
  | cons r l ih =>
    have h1 := oneR_laid c r (chain (nextC c r) l ++ q) (hl r (by simp))
    have e : chain c (r :: l) ++ q = laidB c r ++ (chain (nextC c r) l ++ q) := by simp [chain]
    rw [e, recs_some h1, ih (nextC c r) (fun x hx => hl x (by simp [hx]))]
    rfl
theorem recs_short {c : Nat} {b : List Int} (h : b.length < 8) : recs c b = [] := recs_none (by unfold oneR; rw [if_pos h])
theorem recs_nil (c : Nat) : recs c [] = [] := recs_short (by simp)
theorem recs_all (c : Nat) (l : List (List Int)) (hl : ∀ r ∈ l, r.length ≤ 65536) : recs c (chain c l) = l := by
  have := recs_chain c l [] hl
  rw [List.append_nil] at this
  rw [this, recs_nil, List.append_nil]
/-- A record that is torn is not told. -/
theorem recs_torn (c d : Nat) (r : List Int) (n : Nat) (hr : r.length ≤ 65536) (hn : n < r.length + 8) : recs c ((laidB d r).take n) = [] := by
  by_cases h8 : n < 8
  · exact recs_short (by rw [List.length_take]; omega)
  · refine recs_none ?_
    have e4 : ((laidB d r).take n).take 4 = be r.length 4 := by
      rw [List.take_take, Nat.min_eq_left (by omega)]
      unfold laidB
      rw [List.append_assoc, List.take_left' (by simp)]
    have hnum : num (((laidB d r).take n).take 4) = r.length := by
      rw [e4, num_be]
      have e : 256 ^ 4 = 4294967296 := by decide
      omega
    have hlen : ((laidB d r).take n).length = n := by rw [List.length_take, length_laidB]; omega
    unfold oneR
    rw [hnum, hlen, if_neg h8, if_pos (.inr (by omega))]
/-- Records of another chain are told just if the checks ahead of them are the same. -/
theorem recs_graft (c d : Nat) (l : List (List Int)) (hl : ∀ r ∈ l, r.length ≤ 65536 ∧ IsU8 r) (hc : c < 4294967296) (hd : d < 4294967296) : recs c (chain d l) = if c = d then l else [] := by
  by_cases h : c = d
  · subst h; rw [if_pos rfl, recs_all c l (fun r hr => (hl r hr).1)]
  · rw [if_neg h]
    cases l with
    | nil => exact recs_nil c
    | cons r l => exact recs_none (oneR_other c d r _ (hl r (by simp)).1 (hl r (by simp)).2 hc hd h)
/-- Of records that are kept so far, the last one torn, those are told that end ahead. -/
theorem recs_take (c : Nat) (l : List (List Int)) (n : Nat) (hl : ∀ r ∈ l, r.length ≤ 65536) : ∃ k, k ≤ l.length ∧ endR (l.take k) ≤ n ∧ (k < l.length → n < endR (l.take (k + 1))) ∧ recs c ((chain c l).take n) = l.take k := by
  induction l generalizing c n with
  | nil => exact ⟨0, Nat.le_refl _, Nat.zero_le _, fun h => absurd h (by simp), by simp [chain, recs_nil]⟩
  | cons r l ih =>
    by_cases h : n < r.length + 8
    · refine ⟨0, Nat.zero_le _, Nat.zero_le _, fun _ => by simpa [endR] using h, ?_⟩
      have e : (chain c (r :: l)).take n = (laidB c r).take n := by
        show (laidB c r ++ chain (nextC c r) l).take n = _
        rw [List.take_append_of_le_length (by rw [length_laidB]; omega)]
      rw [e, recs_torn c c r n (hl r (by simp)) h]; rfl
    · obtain ⟨k, h1, h2, h3, h4⟩ := ih (nextC c r) (n - (r.length + 8)) (fun x hx => hl x (by simp [hx]))
      refine ⟨k + 1, by simpa using h1, ?_, fun hk => ?_, ?_⟩
      · simp only [List.take_succ_cons, endR, List.map_cons, List.sum_cons] at h2 ⊢
        omega
      · have := h3 (by simpa using hk)
        simp only [List.take_succ_cons, endR, List.map_cons, List.sum_cons] at this ⊢
        omega
      · have e : (chain c (r :: l)).take n = laidB c r ++ (chain (nextC c r) l).take (n - (r.length + 8)) := by
          show (laidB c r ++ chain (nextC c r) l).take n = _
          rw [List.take_append, length_laidB, List.take_of_length_le (by rw [length_laidB]; omega)]
        rw [e, recs_some (oneR_laid c r _ (hl r (by simp))), h4]
        rfl
/-- What is told was laid so: the bytes begin with it. -/
theorem oneR_eq {c : Nat} {b r q : List Int} (hu : IsU8 b) (h : oneR c b = some (r, q)) : b = laidB c r ++ q ∧ r.length ≤ 65536 := by
  have hlen := oneR_lt h
  unfold oneR at h
  split at h
  · cases h
  · split at h
    · cases h
    · split at h
      · rename_i h1 h2 h3
        cases h
        simp only [not_or, Nat.not_lt] at h1 h2
        generalize hn : num (b.take 4) = n at *
        have hl : ((b.drop 4).take n).length = n := by simp only [List.length_drop, List.length_take]; omega
        have e4 : be n 4 = b.take 4 := by
          obtain ⟨x0, x1, x2, x3, hb⟩ : ∃ x0 x1 x2 x3, b.take 4 = [x0, x1, x2, x3] := by
            match b, h1 with
            | x0 :: x1 :: x2 :: x3 :: _, _ => exact ⟨x0, x1, x2, x3, rfl⟩
          rw [hb] at hn
          rw [hb]
          have hx : ∀ x ∈ b.take 4, 0 ≤ x ∧ x < 256 := fun x hx => hu x (List.mem_of_mem_take hx)
          rw [hb] at hx
          have k0 := hx x0 (by simp)
          have k1 := hx x1 (by simp)
          have k2 := hx x2 (by simp)
          have k3 := hx x3 (by simp)
          simp only [num, List.foldl_cons, List.foldl_nil] at hn
          have d0 : dig n 4 0 = x0 := by unfold dig; simp only [Nat.reduceSub, Nat.reducePow]; omega
          have d1 : dig n 4 1 = x1 := by unfold dig; simp only [Nat.reduceSub, Nat.reducePow]; omega
          have d2 : dig n 4 2 = x2 := by unfold dig; simp only [Nat.reduceSub, Nat.reducePow]; omega
          have d3 : dig n 4 3 = x3 := by unfold dig; simp only [Nat.reduceSub, Nat.reducePow]; omega
          show [dig n 4 0, dig n 4 1, dig n 4 2, dig n 4 3] = _
          rw [d0, d1, d2, d3]
        have e5 : be n 4 ++ (b.drop 4).take n = b.take (4 + n) := by rw [e4, ← List.take_add]
        refine ⟨?_, by omega⟩
        unfold laidB nextC
        have e6 : b.drop (8 + n) = (b.drop (4 + n)).drop 4 := by rw [List.drop_drop, show 4 + n + 4 = 8 + n by omega]
        rw [hl, e5, h3, e6, List.append_assoc, List.take_append_drop, List.take_append_drop]
      · cases h
theorem recs_u8 {c : Nat} {b : List Int} (hu : IsU8 b) : ∀ r ∈ recs c b, IsU8 r := by
  have key : ∀ (k : Nat) (c : Nat) (b : List Int), b.length ≤ k → IsU8 b → ∀ r ∈ recs c b, IsU8 r := by
    intro k
    induction k with
    | zero =>
      intro c b hb _ r hr
      have h : oneR c b = none := by unfold oneR; rw [if_pos (by omega)]
      rw [recs_none h] at hr
      cases hr
    | succ k ih =>
      intro c b hb hu r hr
      cases h : oneR c b with
      | none => rw [recs_none h] at hr; cases hr
      | some x =>
        obtain ⟨r1, q⟩ := x
        have h1 := oneR_lt h
        have h2 := (oneR_eq hu h).1
        rw [recs_some h] at hr
        rcases List.mem_cons.1 hr with rfl | hr
        · intro y hy
          refine hu y ?_
          rw [h2]
          unfold laidB
          simp [hy]
        · refine ih _ q (by omega) (fun y hy => hu y ?_) r hr
          rw [h2]
          simp [hy]
  exact key b.length c b (Nat.le_refl _) hu
theorem oneR_of {c N : Nat} {b : List Int} (hu : IsU8 b) (h8 : 8 ≤ b.length) (hN : N = num (b.take 4)) (h1 : N ≤ 65536) (h2 : N ≤ b.length - 8) (he : be (crc c (b.take (4 + N))) 4 = (b.drop (4 + N)).take 4) :
    oneR c b = some ((b.drop 4).take N, b.drop (8 + N)) ∧ crc c (b.take (4 + N)) = nextC c ((b.drop 4).take N) := by
  have h : oneR c b = some ((b.drop 4).take N, b.drop (8 + N)) := by
    unfold oneR
    rw [← hN, if_neg (by omega), if_neg (by omega), if_pos he]
  refine ⟨h, ?_⟩
  obtain ⟨e, _⟩ := oneR_eq hu h
  have hr : ((b.drop 4).take N).length = N := by simp only [List.length_take, List.length_drop]; omega
  unfold nextC
  congr 1
  conv => lhs; rw [e]
  unfold laidB
  rw [List.append_assoc, List.take_left' (by rw [List.length_append, length_be, hr])]
theorem oneR_not {c N : Nat} {b : List Int} (h8 : 8 ≤ b.length) (hN : N = num (b.take 4)) (h1 : N ≤ 65536) (h2 : N ≤ b.length - 8) (he : ¬ be (crc c (b.take (4 + N))) 4 = (b.drop (4 + N)).take 4) : oneR c b = none := by
  unfold oneR
  rw [← hN, if_neg (by omega), if_neg (by omega), if_neg he]
end Go.Proofs.YtgibdecgmageeaaDoor
