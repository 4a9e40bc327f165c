/-
  No cell of these rows narrows 'for every input' (looked for: loops, veiled, ifaces, maps, wideKeys, modest, calm, conditions, laid).
  DERIVED. THE GIVEN ROWS OF THIS SEAT. 10 by the template 'for every input the law returns true; each argument reads behind the call as it read before'; 0 by the template 'total and deterministic' (their statements: YtgadkelldbibgaaTotals.lean).
  GIVEN WITH THE SEED: the statements are not yours to turn. If you find one false, say at which input.
  Laid BY PROGRAM, IN A SANDBOX (cutbox-rows.mjs): the forced cells as the released guide's own fill.sh prints them over the translation 083c2031682f2e2d… (all of the seat's roots in one cut). By AI agents, Wed Nov 11 2026. No macro, syntax, notation, axiom, sorry.
-/
import Derived.Test.YtgadkelldbibgaaChecked
import GoSem.Claim
import GoSem.ClaimJoined
import GoSem.ClaimMapViews
import Derived.JoinedTies
import Derived.KernelRfl
namespace Go.Proofs.Ytgadkelldbibgaa
/- THE CELL 'sum', in the pinned program and in every row, IS THE sha256 OF THE DUMP (.gsa) THAT YtgadkelldbibgaaProg.lean LOADS. Nothing in Lean hashes anything: it is a label: what it is worth is what the hold of that sum in a sandbox is worth. -/
noncomputable def Try.pinned : Pinned := { name := "ytgadkelldbibgaa", sum := "083c2031682f2e2d8b92721afc32d4a549b0082475b954497ca487f7a9b4df0e", checked := Try.checked }
namespace Rows
def none {H : Type} : Left H := { results := [], args := [] }

/-- 'backstitchlaw30.RevolveNext': WHATEVER THE INPUT: true; the input reads as it did. -/
def revolveNextSpec : ChangeSpec := { name := "revolveNext", fn := fun _ => fun
  | [d1, d2] => { results := [.lit (.bool true)], args := [d1, d2] }
  | _ => none }
def revolveNextRow : OpenClaim := { program := "ytgadkelldbibgaa", sum := "083c2031682f2e2d8b92721afc32d4a549b0082475b954497ca487f7a9b4df0e", func := "backstitch/backstitchlaw30.RevolveNext", spec := "revolveNext", unfollowed := true, recurses := true, named := ["math/bits.divideError", "math/bits.overflowError"], plainKeys := false, apart := false }
def RevolveNextSaid : Prop := revolveNextRow.holds Try.pinned (OpenSpec.ofChange revolveNextSpec)

/-- ITS FALSE NEIGHBOUR: 'it returns false'. Refute it at one input. -/
def revolveNextWrong : ChangeSpec := { name := "revolveNext", fn := fun _ => fun
  | [d1, d2] => { results := [.lit (.bool false)], args := [d1, d2] }
  | _ => none }
def RevolveNextWrongFalsely : Prop := revolveNextRow.holds Try.pinned (OpenSpec.ofChange revolveNextWrong)

/-- 'backstitchlaw30.RevolveLists': WHATEVER THE INPUT: true; the input reads as it did. -/
def revolveListsSpec : ChangeSpec := { name := "revolveLists", fn := fun _ => fun
  | [d1, d2] => { results := [.lit (.bool true)], args := [d1, d2] }
  | _ => none }
def revolveListsRow : OpenClaim := { program := "ytgadkelldbibgaa", sum := "083c2031682f2e2d8b92721afc32d4a549b0082475b954497ca487f7a9b4df0e", func := "backstitch/backstitchlaw30.RevolveLists", spec := "revolveLists", unfollowed := true, recurses := true, named := ["math/bits.divideError", "math/bits.overflowError"], plainKeys := false, apart := false }
def RevolveListsSaid : Prop := revolveListsRow.holds Try.pinned (OpenSpec.ofChange revolveListsSpec)

/-- ITS FALSE NEIGHBOUR: 'it returns false'. Refute it at one input. -/
def revolveListsWrong : ChangeSpec := { name := "revolveLists", fn := fun _ => fun
  | [d1, d2] => { results := [.lit (.bool false)], args := [d1, d2] }
  | _ => none }
def RevolveListsWrongFalsely : Prop := revolveListsRow.holds Try.pinned (OpenSpec.ofChange revolveListsWrong)

/-- 'backstitchlaw30.RevolveReps': WHATEVER THE INPUT: true; the input reads as it did. -/
def revolveRepsSpec : ChangeSpec := { name := "revolveReps", fn := fun _ => fun
  | [d1, d2] => { results := [.lit (.bool true)], args := [d1, d2] }
  | _ => none }
def revolveRepsRow : OpenClaim := { program := "ytgadkelldbibgaa", sum := "083c2031682f2e2d8b92721afc32d4a549b0082475b954497ca487f7a9b4df0e", func := "backstitch/backstitchlaw30.RevolveReps", spec := "revolveReps", unfollowed := true, recurses := true, named := ["math/bits.divideError", "math/bits.overflowError"], plainKeys := false, apart := false }
def RevolveRepsSaid : Prop := revolveRepsRow.holds Try.pinned (OpenSpec.ofChange revolveRepsSpec)

/-- ITS FALSE NEIGHBOUR: 'it returns false'. Refute it at one input. -/
def revolveRepsWrong : ChangeSpec := { name := "revolveReps", fn := fun _ => fun
  | [d1, d2] => { results := [.lit (.bool false)], args := [d1, d2] }
  | _ => none }
def RevolveRepsWrongFalsely : Prop := revolveRepsRow.holds Try.pinned (OpenSpec.ofChange revolveRepsWrong)

/-- 'backstitchlaw30.RevolveFrom': WHATEVER THE INPUT: true; the input reads as it did. -/
def revolveFromSpec : ChangeSpec := { name := "revolveFrom", fn := fun _ => fun
  | [d1, d2, d3] => { results := [.lit (.bool true)], args := [d1, d2, d3] }
  | _ => none }
def revolveFromRow : OpenClaim := { program := "ytgadkelldbibgaa", sum := "083c2031682f2e2d8b92721afc32d4a549b0082475b954497ca487f7a9b4df0e", func := "backstitch/backstitchlaw30.RevolveFrom", spec := "revolveFrom", unfollowed := true, recurses := true, named := ["math/bits.divideError", "math/bits.overflowError"], plainKeys := false, apart := false }
def RevolveFromSaid : Prop := revolveFromRow.holds Try.pinned (OpenSpec.ofChange revolveFromSpec)

/-- ITS FALSE NEIGHBOUR: 'it returns false'. Refute it at one input. -/
def revolveFromWrong : ChangeSpec := { name := "revolveFrom", fn := fun _ => fun
  | [d1, d2, d3] => { results := [.lit (.bool false)], args := [d1, d2, d3] }
  | _ => none }
def RevolveFromWrongFalsely : Prop := revolveFromRow.holds Try.pinned (OpenSpec.ofChange revolveFromWrong)

/-- 'backstitchlaw30.RevolveOn': WHATEVER THE INPUT: true; the input reads as it did. -/
def revolveOnSpec : ChangeSpec := { name := "revolveOn", fn := fun _ => fun
  | [d1, d2, d3] => { results := [.lit (.bool true)], args := [d1, d2, d3] }
  | _ => none }
def revolveOnRow : OpenClaim := { program := "ytgadkelldbibgaa", sum := "083c2031682f2e2d8b92721afc32d4a549b0082475b954497ca487f7a9b4df0e", func := "backstitch/backstitchlaw30.RevolveOn", spec := "revolveOn", unfollowed := true, recurses := true, named := ["math/bits.divideError", "math/bits.overflowError"], plainKeys := false, apart := false }
def RevolveOnSaid : Prop := revolveOnRow.holds Try.pinned (OpenSpec.ofChange revolveOnSpec)

/-- ITS FALSE NEIGHBOUR: 'it returns false'. Refute it at one input. -/
def revolveOnWrong : ChangeSpec := { name := "revolveOn", fn := fun _ => fun
  | [d1, d2, d3] => { results := [.lit (.bool false)], args := [d1, d2, d3] }
  | _ => none }
def RevolveOnWrongFalsely : Prop := revolveOnRow.holds Try.pinned (OpenSpec.ofChange revolveOnWrong)

/-- 'backstitchlaw30.RevolveComplete': WHATEVER THE INPUT: true; the input reads as it did. -/
def revolveCompleteSpec : ChangeSpec := { name := "revolveComplete", fn := fun _ => fun
  | [d1, d2] => { results := [.lit (.bool true)], args := [d1, d2] }
  | _ => none }
def revolveCompleteRow : OpenClaim := { program := "ytgadkelldbibgaa", sum := "083c2031682f2e2d8b92721afc32d4a549b0082475b954497ca487f7a9b4df0e", func := "backstitch/backstitchlaw30.RevolveComplete", spec := "revolveComplete", unfollowed := true, recurses := true, named := ["math/bits.divideError", "math/bits.overflowError"], plainKeys := false, apart := false }
def RevolveCompleteSaid : Prop := revolveCompleteRow.holds Try.pinned (OpenSpec.ofChange revolveCompleteSpec)

/-- ITS FALSE NEIGHBOUR: 'it returns false'. Refute it at one input. -/
def revolveCompleteWrong : ChangeSpec := { name := "revolveComplete", fn := fun _ => fun
  | [d1, d2] => { results := [.lit (.bool false)], args := [d1, d2] }
  | _ => none }
def RevolveCompleteWrongFalsely : Prop := revolveCompleteRow.holds Try.pinned (OpenSpec.ofChange revolveCompleteWrong)

/-- 'backstitchlaw29.BestTables': WHATEVER THE INPUT: true; the input reads as it did. -/
def bestTablesSpec : ChangeSpec := { name := "bestTables", fn := fun _ => fun
  | [d1, d2] => { results := [.lit (.bool true)], args := [d1, d2] }
  | _ => none }
def bestTablesRow : OpenClaim := { program := "ytgadkelldbibgaa", sum := "083c2031682f2e2d8b92721afc32d4a549b0082475b954497ca487f7a9b4df0e", func := "backstitch/backstitchlaw29.BestTables", spec := "bestTables", unfollowed := true, recurses := true, plainKeys := false, apart := false }
def BestTablesSaid : Prop := bestTablesRow.holds Try.pinned (OpenSpec.ofChange bestTablesSpec)

/-- ITS FALSE NEIGHBOUR: 'it returns false'. Refute it at one input. -/
def bestTablesWrong : ChangeSpec := { name := "bestTables", fn := fun _ => fun
  | [d1, d2] => { results := [.lit (.bool false)], args := [d1, d2] }
  | _ => none }
def BestTablesWrongFalsely : Prop := bestTablesRow.holds Try.pinned (OpenSpec.ofChange bestTablesWrong)

/-- 'backstitchlaw29.BestSearches': WHATEVER THE INPUT: true; the input reads as it did. -/
def bestSearchesSpec : ChangeSpec := { name := "bestSearches", fn := fun _ => fun
  | [d1, d2] => { results := [.lit (.bool true)], args := [d1, d2] }
  | _ => none }
def bestSearchesRow : OpenClaim := { program := "ytgadkelldbibgaa", sum := "083c2031682f2e2d8b92721afc32d4a549b0082475b954497ca487f7a9b4df0e", func := "backstitch/backstitchlaw29.BestSearches", spec := "bestSearches", unfollowed := true, recurses := true, plainKeys := false, apart := false }
def BestSearchesSaid : Prop := bestSearchesRow.holds Try.pinned (OpenSpec.ofChange bestSearchesSpec)

/-- ITS FALSE NEIGHBOUR: 'it returns false'. Refute it at one input. -/
def bestSearchesWrong : ChangeSpec := { name := "bestSearches", fn := fun _ => fun
  | [d1, d2] => { results := [.lit (.bool false)], args := [d1, d2] }
  | _ => none }
def BestSearchesWrongFalsely : Prop := bestSearchesRow.holds Try.pinned (OpenSpec.ofChange bestSearchesWrong)

/-- 'backstitchlaw29.BestAll': WHATEVER THE INPUT: true; the input reads as it did. -/
def bestAllSpec : ChangeSpec := { name := "bestAll", fn := fun _ => fun
  | [d1, d2] => { results := [.lit (.bool true)], args := [d1, d2] }
  | _ => none }
def bestAllRow : OpenClaim := { program := "ytgadkelldbibgaa", sum := "083c2031682f2e2d8b92721afc32d4a549b0082475b954497ca487f7a9b4df0e", func := "backstitch/backstitchlaw29.BestAll", spec := "bestAll", unfollowed := true, recurses := true, named := ["math/bits.divideError", "math/bits.overflowError"], plainKeys := false, apart := false }
def BestAllSaid : Prop := bestAllRow.holds Try.pinned (OpenSpec.ofChange bestAllSpec)

/-- ITS FALSE NEIGHBOUR: 'it returns false'. Refute it at one input. -/
def bestAllWrong : ChangeSpec := { name := "bestAll", fn := fun _ => fun
  | [d1, d2] => { results := [.lit (.bool false)], args := [d1, d2] }
  | _ => none }
def BestAllWrongFalsely : Prop := bestAllRow.holds Try.pinned (OpenSpec.ofChange bestAllWrong)

/-- 'backstitchlaw29.BestAny': WHATEVER THE INPUT: true; the input reads as it did. -/
def bestAnySpec : ChangeSpec := { name := "bestAny", fn := fun _ => fun
  | [d1, d2, d3] => { results := [.lit (.bool true)], args := [d1, d2, d3] }
  | _ => none }
def bestAnyRow : OpenClaim := { program := "ytgadkelldbibgaa", sum := "083c2031682f2e2d8b92721afc32d4a549b0082475b954497ca487f7a9b4df0e", func := "backstitch/backstitchlaw29.BestAny", spec := "bestAny", unfollowed := true, recurses := true, named := ["math/bits.divideError", "math/bits.overflowError"], plainKeys := false, apart := false }
def BestAnySaid : Prop := bestAnyRow.holds Try.pinned (OpenSpec.ofChange bestAnySpec)

/-- ITS FALSE NEIGHBOUR: 'it returns false'. Refute it at one input. -/
def bestAnyWrong : ChangeSpec := { name := "bestAny", fn := fun _ => fun
  | [d1, d2, d3] => { results := [.lit (.bool false)], args := [d1, d2, d3] }
  | _ => none }
def BestAnyWrongFalsely : Prop := bestAnyRow.holds Try.pinned (OpenSpec.ofChange bestAnyWrong)

/- THE SECOND FORM. 'bulk': how many values and letters a reading holds, each counted each time it is reached (what is shared counts as often as it is met; a slice's spare places count too). A statement '..UptoSaid' is the law's where the arguments, and the package variables that the reading takes, are together of bulk at most 1048576: NARROWER than '..Said'. Prove '..Said' where nothing that the law and all that it calls make is longer than what came in: it says more and counts as full. Else prove '..UptoSaid'. A law counts once. -/
mutual
def uptoBulk {H : Type} : DataW H → Nat
  | .lit (.string bytes) => bytes.length + 1
  | .lit _ => 1
  | .nil => 1
  | .ptr d => uptoBulk d + 1
  | .slice elems spare => uptoBulkAll elems + uptoBulkAll spare + 1
  | .agg parts => uptoBulkAll parts + 1
  | .iface _ d => uptoBulk d + 1
  | .map entries => uptoBulkEntries entries + 1
  | .held _ => 1
def uptoBulkAll {H : Type} : List (DataW H) → Nat
  | [] => 0
  | d :: r => uptoBulk d + uptoBulkAll r
def uptoBulkEntries {H : Type} : List (Lit × DataW H) → Nat
  | [] => 0
  | x :: r => uptoBulkEntry x + uptoBulkEntries r
def uptoBulkEntry {H : Type} : Lit × DataW H → Nat
  | (.string bytes, d) => bytes.length + uptoBulk d + 1
  | (_, d) => uptoBulk d + 1
 end
def uptoSmall : (H : Type) → List (DataW H) → Bool := fun _ ds => decide (uptoBulkAll ds ≤ 1048576)
def OpenSpec.upto (s : _root_.Go.ChangeSpec) : _root_.Go.OpenSpec := { _root_.Go.OpenSpec.ofChange s with cond := some uptoSmall }

/-- 'backstitchlaw30.RevolveNext', WHERE WHAT IT READS IS OF BULK AT MOST 1048576: true; the input reads as it did. -/
def revolveNextUptoRow : OpenClaim := { program := "ytgadkelldbibgaa", sum := "083c2031682f2e2d8b92721afc32d4a549b0082475b954497ca487f7a9b4df0e", func := "backstitch/backstitchlaw30.RevolveNext", spec := "revolveNext", unfollowed := true, recurses := true, named := ["math/bits.divideError", "math/bits.overflowError"], plainKeys := false, apart := false, narrowed := true }
def RevolveNextUptoSaid : Prop := revolveNextUptoRow.holds Try.pinned (OpenSpec.upto revolveNextSpec)

/-- 'backstitchlaw30.RevolveLists', WHERE WHAT IT READS IS OF BULK AT MOST 1048576: true; the input reads as it did. -/
def revolveListsUptoRow : OpenClaim := { program := "ytgadkelldbibgaa", sum := "083c2031682f2e2d8b92721afc32d4a549b0082475b954497ca487f7a9b4df0e", func := "backstitch/backstitchlaw30.RevolveLists", spec := "revolveLists", unfollowed := true, recurses := true, named := ["math/bits.divideError", "math/bits.overflowError"], plainKeys := false, apart := false, narrowed := true }
def RevolveListsUptoSaid : Prop := revolveListsUptoRow.holds Try.pinned (OpenSpec.upto revolveListsSpec)

/-- 'backstitchlaw30.RevolveReps', WHERE WHAT IT READS IS OF BULK AT MOST 1048576: true; the input reads as it did. -/
def revolveRepsUptoRow : OpenClaim := { program := "ytgadkelldbibgaa", sum := "083c2031682f2e2d8b92721afc32d4a549b0082475b954497ca487f7a9b4df0e", func := "backstitch/backstitchlaw30.RevolveReps", spec := "revolveReps", unfollowed := true, recurses := true, named := ["math/bits.divideError", "math/bits.overflowError"], plainKeys := false, apart := false, narrowed := true }
def RevolveRepsUptoSaid : Prop := revolveRepsUptoRow.holds Try.pinned (OpenSpec.upto revolveRepsSpec)

/-- 'backstitchlaw30.RevolveFrom', WHERE WHAT IT READS IS OF BULK AT MOST 1048576: true; the input reads as it did. -/
def revolveFromUptoRow : OpenClaim := { program := "ytgadkelldbibgaa", sum := "083c2031682f2e2d8b92721afc32d4a549b0082475b954497ca487f7a9b4df0e", func := "backstitch/backstitchlaw30.RevolveFrom", spec := "revolveFrom", unfollowed := true, recurses := true, named := ["math/bits.divideError", "math/bits.overflowError"], plainKeys := false, apart := false, narrowed := true }
def RevolveFromUptoSaid : Prop := revolveFromUptoRow.holds Try.pinned (OpenSpec.upto revolveFromSpec)

/-- 'backstitchlaw30.RevolveOn', WHERE WHAT IT READS IS OF BULK AT MOST 1048576: true; the input reads as it did. -/
def revolveOnUptoRow : OpenClaim := { program := "ytgadkelldbibgaa", sum := "083c2031682f2e2d8b92721afc32d4a549b0082475b954497ca487f7a9b4df0e", func := "backstitch/backstitchlaw30.RevolveOn", spec := "revolveOn", unfollowed := true, recurses := true, named := ["math/bits.divideError", "math/bits.overflowError"], plainKeys := false, apart := false, narrowed := true }
def RevolveOnUptoSaid : Prop := revolveOnUptoRow.holds Try.pinned (OpenSpec.upto revolveOnSpec)

/-- 'backstitchlaw30.RevolveComplete', WHERE WHAT IT READS IS OF BULK AT MOST 1048576: true; the input reads as it did. -/
def revolveCompleteUptoRow : OpenClaim := { program := "ytgadkelldbibgaa", sum := "083c2031682f2e2d8b92721afc32d4a549b0082475b954497ca487f7a9b4df0e", func := "backstitch/backstitchlaw30.RevolveComplete", spec := "revolveComplete", unfollowed := true, recurses := true, named := ["math/bits.divideError", "math/bits.overflowError"], plainKeys := false, apart := false, narrowed := true }
def RevolveCompleteUptoSaid : Prop := revolveCompleteUptoRow.holds Try.pinned (OpenSpec.upto revolveCompleteSpec)

/-- 'backstitchlaw29.BestTables', WHERE WHAT IT READS IS OF BULK AT MOST 1048576: true; the input reads as it did. -/
def bestTablesUptoRow : OpenClaim := { program := "ytgadkelldbibgaa", sum := "083c2031682f2e2d8b92721afc32d4a549b0082475b954497ca487f7a9b4df0e", func := "backstitch/backstitchlaw29.BestTables", spec := "bestTables", unfollowed := true, recurses := true, plainKeys := false, apart := false, narrowed := true }
def BestTablesUptoSaid : Prop := bestTablesUptoRow.holds Try.pinned (OpenSpec.upto bestTablesSpec)

/-- 'backstitchlaw29.BestSearches', WHERE WHAT IT READS IS OF BULK AT MOST 1048576: true; the input reads as it did. -/
def bestSearchesUptoRow : OpenClaim := { program := "ytgadkelldbibgaa", sum := "083c2031682f2e2d8b92721afc32d4a549b0082475b954497ca487f7a9b4df0e", func := "backstitch/backstitchlaw29.BestSearches", spec := "bestSearches", unfollowed := true, recurses := true, plainKeys := false, apart := false, narrowed := true }
def BestSearchesUptoSaid : Prop := bestSearchesUptoRow.holds Try.pinned (OpenSpec.upto bestSearchesSpec)

/-- 'backstitchlaw29.BestAll', WHERE WHAT IT READS IS OF BULK AT MOST 1048576: true; the input reads as it did. -/
def bestAllUptoRow : OpenClaim := { program := "ytgadkelldbibgaa", sum := "083c2031682f2e2d8b92721afc32d4a549b0082475b954497ca487f7a9b4df0e", func := "backstitch/backstitchlaw29.BestAll", spec := "bestAll", unfollowed := true, recurses := true, named := ["math/bits.divideError", "math/bits.overflowError"], plainKeys := false, apart := false, narrowed := true }
def BestAllUptoSaid : Prop := bestAllUptoRow.holds Try.pinned (OpenSpec.upto bestAllSpec)

/-- 'backstitchlaw29.BestAny', WHERE WHAT IT READS IS OF BULK AT MOST 1048576: true; the input reads as it did. -/
def bestAnyUptoRow : OpenClaim := { program := "ytgadkelldbibgaa", sum := "083c2031682f2e2d8b92721afc32d4a549b0082475b954497ca487f7a9b4df0e", func := "backstitch/backstitchlaw29.BestAny", spec := "bestAny", unfollowed := true, recurses := true, named := ["math/bits.divideError", "math/bits.overflowError"], plainKeys := false, apart := false, narrowed := true }
def BestAnyUptoSaid : Prop := bestAnyUptoRow.holds Try.pinned (OpenSpec.upto bestAnySpec)

end Rows
end Go.Proofs.Ytgadkelldbibgaa
