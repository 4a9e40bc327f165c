/- Two actions compared. -/
import Derived.Test.YtkdamcacmecnaaaBase
import Derived.Laws.StructEq
namespace Go.Proofs.Ytkdamcacmecnaaa
open Go.ChangeShapes Go.WideShapes Go.ChangeAt Go.RowKit
theorem act_eq (w : World) (x y a b : Int) : (binOp .eql 55 (.agg #[.int .i64 x, .int .i64 y]) (.agg #[.int .i64 a, .int .i64 b])).run Try.prog w = .ok (.bool (x == a && y == b)) w := by
  have u3 := Try.underlying3
  have a3 := Try.isAgg3
  have z3 := Try.sizeOf3
  have hS : Try.prog.underlying 55 = some (.struct (Try.prog.fieldsOf 55)) := by kernel_rfl
  have hp : Try.prog.stoodInHeld 55 = false := by kernel_rfl
  rw [run_eql_struct, show (10000 : Nat) = 9999 + 1 from rfl, run_equalIn_agg w 9999 55 _ _ hS hp]
  simp only [Program.fieldsOf, Try.underlying55]
  go_simp
  by_cases h1 : x = a <;> by_cases h2 : y = b <;> simp [h1, h2]
end Go.Proofs.Ytkdamcacmecnaaa
