/- '==' between two long numbers. -/
import Derived.Test.YtgibdecgmageeaaGreatDoorBas
import Derived.ChangeKeysEq
namespace Go.Proofs.YtgibdecgmageeaaGreatDoor
open Go.RowKit

theorem Tryz.infoWord : (Tryz.prog.info? 25).isSome = true := by kernel_rfl
theorem Tryz.cellsWord : Tryz.prog.cellsOf 25 = 1 := by kernel_rfl
theorem Tryz.guardNum : Tryz.prog.eqGuardType Tryz.prog.depth 30 = false := by kernel_rfl

theorem run_part_word (w : World) (cs : Array Value) (i : Nat) (v : Value) (h : cs[i]? = some v) : (part 25 cs i).run Tryz.prog w = .ok v w := by
  simp [part, isAgg, run_underlying Tryz.underlying25, h]

theorem eql_num (a0 a1 a2 a3 b0 b1 b2 b3 : Int) (w : World) :
    Sem.run Tryz.prog (Op.equalIn 10000 30 (.agg #[.int .u64 a0, .int .u64 a1, .int .u64 a2, .int .u64 a3]) (.agg #[.int .u64 b0, .int .u64 b1, .int .u64 b2, .int .u64 b3])) w =
      .ok (a0 == b0 && (a1 == b1 && (a2 == b2 && a3 == b3))) w := by
  obtain ⟨i, hi⟩ := Option.isSome_iff_exists.1 Tryz.infoWord
  have heq : ∀ (d : Nat) (x y : Int) (w : World), (Op.equalIn (d + 1) 25 (.int .u64 x) (.int .u64 y)).run Tryz.prog w = .ok (x == y) w := fun d x y w => run_equalIn_int w d 25 .u64 .u64 x y Tryz.underlying25
  rw [run_equalIn_array (P := Tryz.prog) w 9999 _ _ Tryz.underlying30 hi]
  rw [Tryz.cellsWord, show List.range 4 = [0, 1, 2, 3] from rfl]
  simp only [Op.eqItems, Sem.run_bind, Nat.mul_one]
  simp only [run_part_word w #[.int .u64 a0, .int .u64 a1, .int .u64 a2, .int .u64 a3] 0 (.int .u64 a0) rfl, run_part_word w #[.int .u64 b0, .int .u64 b1, .int .u64 b2, .int .u64 b3] 0 (.int .u64 b0) rfl, Result.andThen_ok, heq]
  by_cases h0 : a0 = b0
  · subst h0
    simp only [beq_self_eq_true, Bool.not_true, Bool.false_eq_true, if_false, Sem.run_bind, run_part_word w #[.int .u64 a0, .int .u64 a1, .int .u64 a2, .int .u64 a3] 1 (.int .u64 a1) rfl, run_part_word w #[.int .u64 a0, .int .u64 b1, .int .u64 b2, .int .u64 b3] 1 (.int .u64 b1) rfl, Result.andThen_ok, heq]
    by_cases h1 : a1 = b1
    · subst h1
      simp only [beq_self_eq_true, Bool.not_true, Bool.false_eq_true, if_false, Sem.run_bind, run_part_word w #[.int .u64 a0, .int .u64 a1, .int .u64 a2, .int .u64 a3] 2 (.int .u64 a2) rfl, run_part_word w #[.int .u64 a0, .int .u64 a1, .int .u64 b2, .int .u64 b3] 2 (.int .u64 b2) rfl, Result.andThen_ok, heq]
      by_cases h2 : a2 = b2
      · subst h2
        simp only [beq_self_eq_true, Bool.not_true, Bool.false_eq_true, if_false, Sem.run_bind, run_part_word w #[.int .u64 a0, .int .u64 a1, .int .u64 a2, .int .u64 a3] 3 (.int .u64 a3) rfl, run_part_word w #[.int .u64 a0, .int .u64 a1, .int .u64 a2, .int .u64 b3] 3 (.int .u64 b3) rfl, Result.andThen_ok, heq]
        by_cases h3 : a3 = b3
        · subst h3; simp
        · have e3 : (a3 == b3) = false := by simpa using h3
          simp [e3]
      · have e2 : (a2 == b2) = false := by simpa using h2
        simp [e2]
    · have e1 : (a1 == b1) = false := by simpa using h1
      simp [e1]
  · have e0 : (a0 == b0) = false := by simpa using h0
    simp [e0]
end Go.Proofs.YtgibdecgmageeaaGreatDoor
