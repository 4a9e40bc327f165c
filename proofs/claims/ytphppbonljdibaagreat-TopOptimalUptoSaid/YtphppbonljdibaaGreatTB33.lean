import Derived.Test.YtphppbonljdibaaGreatTB00
import Derived.Laws.StructEq
set_option maxRecDepth 100000
set_option maxHeartbeats 4000000
set_option linter.unusedVariables false
set_option linter.unusedSimpArgs false
namespace Go.Proofs.YtphppbonljdibaaGreat
open Go.ChangeShapes Go.WideShapes Go.ChangeAt Go.RowKit
theorem act_eq (w:World)(x y a b:Int):(binOp .eql 55 (.agg #[.int .i64 x,.int .i64 y]) (.agg #[.int .i64 a,.int .i64 b])).run Tryz.prog w=.ok (.bool (x==a&&y==b)) w:=by
 have u3:=Tryz.underlying3
 have a3:=Tryz.isAgg3
 have z3:=Tryz.sizeOf3
 have hS:Tryz.prog.underlying 55=some (.struct (Tryz.prog.fieldsOf 55)):=by kernel_rfl
 have hp:Tryz.prog.stoodInHeld 55=false:=by kernel_rfl
 rw[run_eql_struct,show(10000:Nat)=9999+1 from rfl,run_equalIn_agg w 9999 55 _ _ hS hp]
 simp only[Program.fieldsOf,Tryz.underlying55]
 go_simp
 by_cases h1:x=a<;>by_cases h2:y=b<;>simp[h1,h2]
theorem act_neq (w:World)(x y a b:Int):(binOp .neq 55 (.agg #[.int .i64 x,.int .i64 y]) (.agg #[.int .i64 a,.int .i64 b])).run Tryz.prog w=.ok (.bool (!(x==a&&y==b))) w:=by
 have u3:=Tryz.underlying3
 have a3:=Tryz.isAgg3
 have z3:=Tryz.sizeOf3
 have hS:Tryz.prog.underlying 55=some (.struct (Tryz.prog.fieldsOf 55)):=by kernel_rfl
 have hp:Tryz.prog.stoodInHeld 55=false:=by kernel_rfl
 rw[run_neq_struct,show(10000:Nat)=9999+1 from rfl,run_equalIn_agg w 9999 55 _ _ hS hp]
 simp only[Program.fieldsOf,Tryz.underlying55]
 go_simp
 by_cases h1:x=a<;>by_cases h2:y=b<;>simp[h1,h2]
end Go.Proofs.YtphppbonljdibaaGreat
