/-
  No cell of these rows narrows 'for every input' (looked for: loops, veiled, ifaces, maps, wideKeys, modest, calm, conditions, laid).
  DERIVED. THE GIVEN ROWS OF THIS SEAT. 4 by the template 'for every input the law returns true; each argument reads behind the call as it read before'; 0 by the template 'total and deterministic' (their statements: YtphppbonljdibaaGreatTotals.lean).
  GIVEN WITH THE SEED: the statements are not yours to turn. If you find one false, say at which input.
  Laid BY PROGRAM, IN A SANDBOX (cutbox-rows.mjs): the forced cells as the released guide's own fill.sh prints them over the translation 2857d6e4ae7b0515… (all of the seat's roots in one cut). By AI agents, Wed Nov 11 2026. No macro, syntax, notation, axiom, sorry.
-/
import Derived.Test.YtphppbonljdibaaGreatChecked
import GoSem.Claim
import GoSem.ClaimJoined
import GoSem.ClaimMapViews
import Derived.JoinedTies
import Derived.KernelRfl
namespace Go.Proofs.YtphppbonljdibaaGreat
/- THE CELL 'sum', in the pinned program and in every row, IS THE sha256 OF THE DUMP (.gsa) THAT YtphppbonljdibaaGreatProg.lean LOADS. Nothing in Lean hashes anything: it is a label: what it is worth is what the hold of that sum in a sandbox is worth. -/
noncomputable def Tryz.pinned : Pinned := { name := "ytphppbonljdibaagreat", sum := "2857d6e4ae7b051500e04a102a4588f038152349ae4937b232fd276aa826c869", checked := Tryz.checked }
namespace Rows
def none {H : Type} : Left H := { results := [], args := [] }

/-- 'backstitchtop.TopOptimal': WHATEVER THE INPUT: true; the input reads as it did. -/
def topOptimalSpec : ChangeSpec := { name := "topOptimal", fn := fun _ => fun
  | [d1, d2] => { results := [.lit (.bool true)], args := [d1, d2] }
  | _ => none }
def topOptimalRow : OpenClaim := { program := "ytphppbonljdibaagreat", sum := "2857d6e4ae7b051500e04a102a4588f038152349ae4937b232fd276aa826c869", func := "backstitch/backstitchtop.TopOptimal", spec := "topOptimal", unfollowed := true, recurses := true, named := ["math/bits.divideError", "math/bits.overflowError"], apart := false }
def TopOptimalSaid : Prop := topOptimalRow.holds Tryz.pinned (OpenSpec.ofChange topOptimalSpec)

/-- ITS FALSE NEIGHBOUR: 'it returns false'. Refute it at one input. -/
def topOptimalWrong : ChangeSpec := { name := "topOptimal", fn := fun _ => fun
  | [d1, d2] => { results := [.lit (.bool false)], args := [d1, d2] }
  | _ => none }
def TopOptimalWrongFalsely : Prop := topOptimalRow.holds Tryz.pinned (OpenSpec.ofChange topOptimalWrong)

/-- 'backstitchtop.TopOnline': WHATEVER THE INPUT: true; the input reads as it did. -/
def topOnlineSpec : ChangeSpec := { name := "topOnline", fn := fun _ => fun
  | [d1, d2, d3] => { results := [.lit (.bool true)], args := [d1, d2, d3] }
  | _ => none }
def topOnlineRow : OpenClaim := { program := "ytphppbonljdibaagreat", sum := "2857d6e4ae7b051500e04a102a4588f038152349ae4937b232fd276aa826c869", func := "backstitch/backstitchtop.TopOnline", spec := "topOnline", unfollowed := true, recurses := true, named := ["math/bits.divideError", "math/bits.overflowError"], apart := false }
def TopOnlineSaid : Prop := topOnlineRow.holds Tryz.pinned (OpenSpec.ofChange topOnlineSpec)

/-- ITS FALSE NEIGHBOUR: 'it returns false'. Refute it at one input. -/
def topOnlineWrong : ChangeSpec := { name := "topOnline", fn := fun _ => fun
  | [d1, d2, d3] => { results := [.lit (.bool false)], args := [d1, d2, d3] }
  | _ => none }
def TopOnlineWrongFalsely : Prop := topOnlineRow.holds Tryz.pinned (OpenSpec.ofChange topOnlineWrong)

/-- 'backstitchtop.TopBudget': WHATEVER THE INPUT: true; the input reads as it did. -/
def topBudgetSpec : ChangeSpec := { name := "topBudget", fn := fun _ => fun
  | [d1, d2] => { results := [.lit (.bool true)], args := [d1, d2] }
  | _ => none }
def topBudgetRow : OpenClaim := { program := "ytphppbonljdibaagreat", sum := "2857d6e4ae7b051500e04a102a4588f038152349ae4937b232fd276aa826c869", func := "backstitch/backstitchtop.TopBudget", spec := "topBudget", unfollowed := true, recurses := true, named := ["math/bits.divideError", "math/bits.overflowError"], apart := false }
def TopBudgetSaid : Prop := topBudgetRow.holds Tryz.pinned (OpenSpec.ofChange topBudgetSpec)

/-- ITS FALSE NEIGHBOUR: 'it returns false'. Refute it at one input. -/
def topBudgetWrong : ChangeSpec := { name := "topBudget", fn := fun _ => fun
  | [d1, d2] => { results := [.lit (.bool false)], args := [d1, d2] }
  | _ => none }
def TopBudgetWrongFalsely : Prop := topBudgetRow.holds Tryz.pinned (OpenSpec.ofChange topBudgetWrong)

/-- 'backstitchtop.TopOffline': WHATEVER THE INPUT: true; the input reads as it did. -/
def topOfflineSpec : ChangeSpec := { name := "topOffline", fn := fun _ => fun
  | [d] => { results := [.lit (.bool true)], args := [d] }
  | _ => none }
def topOfflineRow : OpenClaim := { program := "ytphppbonljdibaagreat", sum := "2857d6e4ae7b051500e04a102a4588f038152349ae4937b232fd276aa826c869", func := "backstitch/backstitchtop.TopOffline", spec := "topOffline", unfollowed := true, recurses := true, named := ["math/bits.divideError", "math/bits.overflowError"], apart := false }
def TopOfflineSaid : Prop := topOfflineRow.holds Tryz.pinned (OpenSpec.ofChange topOfflineSpec)

/-- ITS FALSE NEIGHBOUR: 'it returns false'. Refute it at one input. -/
def topOfflineWrong : ChangeSpec := { name := "topOffline", fn := fun _ => fun
  | [d] => { results := [.lit (.bool false)], args := [d] }
  | _ => none }
def TopOfflineWrongFalsely : Prop := topOfflineRow.holds Tryz.pinned (OpenSpec.ofChange topOfflineWrong)

/- THE SECOND FORM. 'bulk': how many values and letters a reading holds, each counted each time it is reached (what is shared counts as often as it is met; a slice's spare places count too). A statement '..UptoSaid' is the law's where the arguments, and the package variables that the reading takes, are together of bulk at most 1048576: NARROWER than '..Said'. Prove '..Said' where nothing that the law and all that it calls make is longer than what came in: it says more and counts as full. Else prove '..UptoSaid'. A law counts once. -/
mutual
def uptoBulk {H : Type} : DataW H → Nat
  | .lit (.string bytes) => bytes.length + 1
  | .lit _ => 1
  | .nil => 1
  | .ptr d => uptoBulk d + 1
  | .slice elems spare => uptoBulkAll elems + uptoBulkAll spare + 1
  | .agg parts => uptoBulkAll parts + 1
  | .iface _ d => uptoBulk d + 1
  | .map entries => uptoBulkEntries entries + 1
  | .held _ => 1
def uptoBulkAll {H : Type} : List (DataW H) → Nat
  | [] => 0
  | d :: r => uptoBulk d + uptoBulkAll r
def uptoBulkEntries {H : Type} : List (Lit × DataW H) → Nat
  | [] => 0
  | x :: r => uptoBulkEntry x + uptoBulkEntries r
def uptoBulkEntry {H : Type} : Lit × DataW H → Nat
  | (.string bytes, d) => bytes.length + uptoBulk d + 1
  | (_, d) => uptoBulk d + 1
 end
def uptoSmall : (H : Type) → List (DataW H) → Bool := fun _ ds => decide (uptoBulkAll ds ≤ 1048576)
def OpenSpec.upto (s : _root_.Go.ChangeSpec) : _root_.Go.OpenSpec := { _root_.Go.OpenSpec.ofChange s with cond := some uptoSmall }

/-- 'backstitchtop.TopOptimal', WHERE WHAT IT READS IS OF BULK AT MOST 1048576: true; the input reads as it did. -/
def topOptimalUptoRow : OpenClaim := { program := "ytphppbonljdibaagreat", sum := "2857d6e4ae7b051500e04a102a4588f038152349ae4937b232fd276aa826c869", func := "backstitch/backstitchtop.TopOptimal", spec := "topOptimal", unfollowed := true, recurses := true, named := ["math/bits.divideError", "math/bits.overflowError"], apart := false, narrowed := true }
def TopOptimalUptoSaid : Prop := topOptimalUptoRow.holds Tryz.pinned (OpenSpec.upto topOptimalSpec)

/-- 'backstitchtop.TopOnline', WHERE WHAT IT READS IS OF BULK AT MOST 1048576: true; the input reads as it did. -/
def topOnlineUptoRow : OpenClaim := { program := "ytphppbonljdibaagreat", sum := "2857d6e4ae7b051500e04a102a4588f038152349ae4937b232fd276aa826c869", func := "backstitch/backstitchtop.TopOnline", spec := "topOnline", unfollowed := true, recurses := true, named := ["math/bits.divideError", "math/bits.overflowError"], apart := false, narrowed := true }
def TopOnlineUptoSaid : Prop := topOnlineUptoRow.holds Tryz.pinned (OpenSpec.upto topOnlineSpec)

/-- 'backstitchtop.TopBudget', WHERE WHAT IT READS IS OF BULK AT MOST 1048576: true; the input reads as it did. -/
def topBudgetUptoRow : OpenClaim := { program := "ytphppbonljdibaagreat", sum := "2857d6e4ae7b051500e04a102a4588f038152349ae4937b232fd276aa826c869", func := "backstitch/backstitchtop.TopBudget", spec := "topBudget", unfollowed := true, recurses := true, named := ["math/bits.divideError", "math/bits.overflowError"], apart := false, narrowed := true }
def TopBudgetUptoSaid : Prop := topBudgetUptoRow.holds Tryz.pinned (OpenSpec.upto topBudgetSpec)

/-- 'backstitchtop.TopOffline', WHERE WHAT IT READS IS OF BULK AT MOST 1048576: true; the input reads as it did. -/
def topOfflineUptoRow : OpenClaim := { program := "ytphppbonljdibaagreat", sum := "2857d6e4ae7b051500e04a102a4588f038152349ae4937b232fd276aa826c869", func := "backstitch/backstitchtop.TopOffline", spec := "topOffline", unfollowed := true, recurses := true, named := ["math/bits.divideError", "math/bits.overflowError"], apart := false, narrowed := true }
def TopOfflineUptoSaid : Prop := topOfflineUptoRow.holds Tryz.pinned (OpenSpec.upto topOfflineSpec)

end Rows
end Go.Proofs.YtphppbonljdibaaGreat
