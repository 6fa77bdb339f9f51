/- Numbers as bytes: the plain mathematics of layer 1. Nothing of the program stands here. -/
import Derived.Test.YtgibdecgmageeaaDoorLib
namespace Go.Proofs.YtgibdecgmageeaaDoor
open Go.RowKit

/-- Byte i of the k bytes of n, the highest first. -/
def dig (n k i : Nat) : Int := ((n / 256 ^ (k - 1 - i) % 256 : Nat) : Int)
/-- The first i bytes of the k of n. -/
def pre (n k i : Nat) : List Int := (List.range i).map (dig n k)
/-- The lowest k bytes of n, the highest first. -/
def be (n k : Nat) : List Int := pre n k k
/-- Numbers behind one another, each in k bytes. -/
def bes (k : Nat) : List Int → List Int
  | [] => []
  | x :: r => be x.toNat k ++ bes k r

theorem pre_succ (n k i : Nat) : pre n k (i + 1) = pre n k i ++ [dig n k i] := by simp [pre, List.range_succ]
@[simp] theorem length_pre (n k i : Nat) : (pre n k i).length = i := by simp [pre]
@[simp] theorem length_be (n k : Nat) : (be n k).length = k := by simp [be]
theorem length_bes (k : Nat) (l : List Int) : (bes k l).length = k * l.length := by
  induction l with
  | nil => simp [bes]
  | cons x r ih => simp [bes, ih, Nat.mul_add]; omega
theorem bes_append (k : Nat) (a b : List Int) : bes k (a ++ b) = bes k a ++ bes k b := by
  induction a with
  | nil => simp [bes]
  | cons x r ih => simp [bes, ih]
theorem bes_take_succ (k : Nat) (l : List Int) (j : Nat) (h : j < l.length) : bes k (l.take (j + 1)) = bes k (l.take j) ++ be (l[j]'h).toNat k := by
  rw [List.take_succ_eq_append_getElem h, bes_append]; simp [bes]
theorem dig_bounds (n k i : Nat) : 0 ≤ dig n k i ∧ dig n k i < 256 := by
  unfold dig; omega
theorem isU8_pre (n k i : Nat) : IsU8 (pre n k i) := by
  intro x hx
  simp only [pre, List.mem_map] at hx
  obtain ⟨j, _, rfl⟩ := hx
  exact dig_bounds n k j
theorem isU8_be (n k : Nat) : IsU8 (be n k) := isU8_pre n k k
theorem isU8_append {a b : List Int} (ha : IsU8 a) (hb : IsU8 b) : IsU8 (a ++ b) := by
  intro x hx
  rcases List.mem_append.1 hx with h | h
  · exact ha x h
  · exact hb x h
theorem isU8_bes (k : Nat) (l : List Int) : IsU8 (bes k l) := by
  induction l with
  | nil => intro x hx; simp [bes] at hx
  | cons x r ih => exact isU8_append (isU8_be _ _) ih

/-- A byte as the walk writes it. -/
theorem dig_eq (x : Int) (h : 0 ≤ x) (k i : Nat) : x / 2 ^ (8 * (k - 1 - i)) % 256 = dig x.toNat k i := by
  obtain ⟨n, rfl⟩ := Int.eq_ofNat_of_zero_le h
  have e : (2 : Int) ^ (8 * (k - 1 - i)) = ((256 ^ (k - 1 - i) : Nat) : Int) := by rw [Int.pow_mul]; simp
  rw [e]; unfold dig
  simp only [Int.toNat_natCast]
  omega
theorem splice_end {α : Type} (l r cs : List α) (n : Nat) (hn : l.length = n) : splice (l ++ r) n cs = l ++ cs ++ r.drop cs.length := by
  subst hn
  simp [splice, List.drop_append]
theorem or_byte (m : Nat) (x : Int) (h0 : 0 ≤ x) (h1 : x < 256) (hm : m < 72057594037927936) : bits .or .u64 ((m : Int) * 256) x = ((m * 256 + x.toNat : Nat) : Int) := by
  obtain ⟨n, rfl⟩ := Int.eq_ofNat_of_zero_le h0
  have e : ((m : Int) * 256) = ((m * 256 : Nat) : Int) := by simp
  have hb : n < 2 ^ 8 := by have : (2 : Nat) ^ 8 = 256 := by decide
                            omega
  have h := Nat.two_pow_add_eq_or_of_lt hb m
  have e8 : (2 : Nat) ^ 8 * m = m * 256 := by rw [Nat.mul_comm]
  rw [e8] at h
  rw [e, bits_or_u64_nat _ _ (by omega) (by omega), ← h]
  simp
theorem snoc_ind {α : Type} {p : List α → Prop} (h0 : p []) (hs : ∀ l c, p l → p (l ++ [c])) (l : List α) : p l := by
  have : ∀ r : List α, p r.reverse := by
    intro r
    induction r with
    | nil => exact h0
    | cons c r ih => rw [List.reverse_cons]; exact hs _ _ ih
  simpa using this l.reverse
/-- The number that bytes tell, the highest first. -/
def num : List Int → Nat := List.foldl (fun a c => a * 256 + c.toNat) 0
theorem num_snoc (l : List Int) (c : Int) : num (l ++ [c]) = num l * 256 + c.toNat := by simp [num]
theorem num_nil : num [] = 0 := rfl
theorem num_lt (l : List Int) (h : IsU8 l) : num l < 256 ^ l.length := by
  induction l using snoc_ind with
  | h0 => simp [num]
  | hs l c ih =>
    have h1 := ih (fun x hx => h x (by simp [hx]))
    have h2 := h c (by simp)
    rw [num_snoc]
    simp only [List.length_append, List.length_singleton, Nat.pow_succ]
    omega
theorem num_pre (n k i : Nat) (h : i ≤ k) : num (pre n k i) = n / 256 ^ (k - i) % 256 ^ i := by
  induction i with
  | zero => simp [pre, num, Nat.mod_one]
  | succ i ih =>
    rw [pre_succ, num_snoc, ih (by omega)]
    have e1 : k - i = (k - 1 - i) + 1 := by omega
    have e2 : k - (i + 1) = k - 1 - i := by omega
    have ed : (dig n k i).toNat = n / 256 ^ (k - 1 - i) % 256 := by unfold dig; omega
    rw [ed, e2, e1, Nat.pow_succ, ← Nat.div_div_eq_div_mul]
    generalize n / 256 ^ (k - 1 - i) = m
    rw [Nat.pow_succ, Nat.mul_comm (256 ^ i) 256, Nat.mod_mul]
    omega
/-- What is put is told. -/
theorem num_be (n k : Nat) : num (be n k) = n % 256 ^ k := by
  rw [be, num_pre n k k (Nat.le_refl _)]; simp

/-- The lowest k bytes of a number, as a number. -/
def low (n : Int) (k : Nat) : Int := ((n.toNat % 256 ^ k : Nat) : Int)
theorem low_8 (n : Int) (h0 : 0 ≤ n) (h1 : n < 18446744073709551616) : low n 8 = n := by
  unfold low
  have e : 256 ^ 8 = 18446744073709551616 := by decide
  rw [e]; omega
theorem low_bounds (n : Int) (k : Nat) (h1 : n < 18446744073709551616) : 0 ≤ low n k ∧ low n k < 18446744073709551616 := by
  unfold low
  have := Nat.mod_le n.toNat (256 ^ k)
  omega
theorem take_be (n k : Nat) (q : List Int) : (be n k ++ q).take k = be n k := by
  exact List.take_left' (by simp)

/-- 'n & (1<<(8*k) - 1)', as the walk writes it. -/
theorem mask_low (n : Int) (k : Nat) (hk : k < 8) (h0 : 0 ≤ n) (h1 : n < 18446744073709551616) :
    bits .and .u64 n (IntKind.u64.wrap (IntKind.u64.wrap (2 ^ (8 * k)) - 1)) = low n k := by
  have hp : (2 : Int) ^ (8 * k) ≤ 2 ^ 56 := by
    have : (2 : Nat) ^ (8 * k) ≤ 2 ^ 56 := Nat.pow_le_pow_right (by omega) (by omega)
    exact_mod_cast this
  have hpos : (0 : Int) < 2 ^ (8 * k) := by
    have : (0 : Nat) < 2 ^ (8 * k) := Nat.two_pow_pos _
    exact_mod_cast this
  have e56 : (2 : Int) ^ 56 = 72057594037927936 := by decide
  have w1 : IntKind.u64.wrap (2 ^ (8 * k)) = 2 ^ (8 * k) := by rw [IntKind.wrap_u64]; omega
  have w2 : IntKind.u64.wrap ((2 : Int) ^ (8 * k) - 1) = 2 ^ (8 * k) - 1 := by rw [IntKind.wrap_u64]; omega
  have e64 : (2 : Int) ^ 64 = 18446744073709551616 := by decide
  rw [w1, w2, bits_mask .u64 64 (by decide) (fun m h0 h1 => by rw [IntKind.wrap_u64]; omega) (8 * k) (by omega) n h0 (by omega)]
  unfold low
  obtain ⟨m, rfl⟩ := Int.eq_ofNat_of_zero_le h0
  have e : (2 : Int) ^ (8 * k) = ((256 ^ k : Nat) : Int) := by rw [Int.pow_mul]; simp
  rw [e]; simp
end Go.Proofs.YtgibdecgmageeaaDoor
