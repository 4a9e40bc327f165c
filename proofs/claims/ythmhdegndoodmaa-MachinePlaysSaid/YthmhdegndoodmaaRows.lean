/-
  No cell of these rows narrows 'for every input' (looked for: loops, veiled, ifaces, maps, wideKeys, modest, calm, conditions, laid).
  DERIVED. THE GIVEN ROWS OF THIS SEAT. 8 by the template 'for every input the law returns true; each argument reads behind the call as it read before'; 0 by the template 'total and deterministic' (their statements: YthmhdegndoodmaaTotals.lean).
  GIVEN WITH THE SEED: the statements are not yours to turn. If you find one false, say at which input.
  Laid BY PROGRAM, IN A SANDBOX (cutbox-rows.mjs): the forced cells as the released guide's own fill.sh prints them over the translation 3ce4e6b5d370c492… (all of the seat's roots in one cut). By AI agents, Wed Nov 11 2026. No macro, syntax, notation, axiom, sorry.
-/
import Derived.Test.YthmhdegndoodmaaChecked
import GoSem.Claim
import GoSem.ClaimJoined
import GoSem.ClaimMapViews
import Derived.JoinedTies
import Derived.KernelRfl
namespace Go.Proofs.Ythmhdegndoodmaa
/- THE CELL 'sum', in the pinned program and in every row, IS THE sha256 OF THE DUMP (.gsa) THAT YthmhdegndoodmaaProg.lean LOADS. Nothing in Lean hashes anything: it is a label: what it is worth is what the hold of that sum in a sandbox is worth. -/
noncomputable def Try.pinned : Pinned := { name := "ythmhdegndoodmaa", sum := "3ce4e6b5d370c492e563a82ba89bd419c90e6c9551a8a529b7fc76f45cec9493", checked := Try.checked }
namespace Rows
def none {H : Type} : Left H := { results := [], args := [] }

/-- 'backstitchlaw28.RepsParts': WHATEVER THE INPUT: true; the input reads as it did. -/
def repsPartsSpec : ChangeSpec := { name := "repsParts", fn := fun _ => fun
  | [d1, d2, d3] => { results := [.lit (.bool true)], args := [d1, d2, d3] }
  | _ => none }
def repsPartsRow : OpenClaim := { program := "ythmhdegndoodmaa", sum := "3ce4e6b5d370c492e563a82ba89bd419c90e6c9551a8a529b7fc76f45cec9493", func := "backstitch/backstitchlaw28.RepsParts", spec := "repsParts", unfollowed := true, recurses := true, named := ["math/bits.divideError", "math/bits.overflowError"], apart := false }
def RepsPartsSaid : Prop := repsPartsRow.holds Try.pinned (OpenSpec.ofChange repsPartsSpec)

/-- ITS FALSE NEIGHBOUR: 'it returns false'. Refute it at one input. -/
def repsPartsWrong : ChangeSpec := { name := "repsParts", fn := fun _ => fun
  | [d1, d2, d3] => { results := [.lit (.bool false)], args := [d1, d2, d3] }
  | _ => none }
def RepsPartsWrongFalsely : Prop := repsPartsRow.holds Try.pinned (OpenSpec.ofChange repsPartsWrong)

/-- 'backstitchlaw28.RepsTells': WHATEVER THE INPUT: true; the input reads as it did. -/
def repsTellsSpec : ChangeSpec := { name := "repsTells", fn := fun _ => fun
  | [d1, d2] => { results := [.lit (.bool true)], args := [d1, d2] }
  | _ => none }
def repsTellsRow : OpenClaim := { program := "ythmhdegndoodmaa", sum := "3ce4e6b5d370c492e563a82ba89bd419c90e6c9551a8a529b7fc76f45cec9493", func := "backstitch/backstitchlaw28.RepsTells", spec := "repsTells", unfollowed := true, recurses := true, named := ["math/bits.divideError", "math/bits.overflowError"], apart := false }
def RepsTellsSaid : Prop := repsTellsRow.holds Try.pinned (OpenSpec.ofChange repsTellsSpec)

/-- ITS FALSE NEIGHBOUR: 'it returns false'. Refute it at one input. -/
def repsTellsWrong : ChangeSpec := { name := "repsTells", fn := fun _ => fun
  | [d1, d2] => { results := [.lit (.bool false)], args := [d1, d2] }
  | _ => none }
def RepsTellsWrongFalsely : Prop := repsTellsRow.holds Try.pinned (OpenSpec.ofChange repsTellsWrong)

/-- 'backstitchlaw28.RepsMore': WHATEVER THE INPUT: true; the input reads as it did. -/
def repsMoreSpec : ChangeSpec := { name := "repsMore", fn := fun _ => fun
  | [d1, d2] => { results := [.lit (.bool true)], args := [d1, d2] }
  | _ => none }
def repsMoreRow : OpenClaim := { program := "ythmhdegndoodmaa", sum := "3ce4e6b5d370c492e563a82ba89bd419c90e6c9551a8a529b7fc76f45cec9493", func := "backstitch/backstitchlaw28.RepsMore", spec := "repsMore", unfollowed := true, recurses := true, named := ["math/bits.divideError", "math/bits.overflowError"], apart := false }
def RepsMoreSaid : Prop := repsMoreRow.holds Try.pinned (OpenSpec.ofChange repsMoreSpec)

/-- ITS FALSE NEIGHBOUR: 'it returns false'. Refute it at one input. -/
def repsMoreWrong : ChangeSpec := { name := "repsMore", fn := fun _ => fun
  | [d1, d2] => { results := [.lit (.bool false)], args := [d1, d2] }
  | _ => none }
def RepsMoreWrongFalsely : Prop := repsMoreRow.holds Try.pinned (OpenSpec.ofChange repsMoreWrong)

/-- 'backstitchlaw27.MachineChecks': WHATEVER THE INPUT: true; the input reads as it did. -/
def machineChecksSpec : ChangeSpec := { name := "machineChecks", fn := fun _ => fun
  | [d1, d2, d3] => { results := [.lit (.bool true)], args := [d1, d2, d3] }
  | _ => none }
def machineChecksRow : OpenClaim := { program := "ythmhdegndoodmaa", sum := "3ce4e6b5d370c492e563a82ba89bd419c90e6c9551a8a529b7fc76f45cec9493", func := "backstitch/backstitchlaw27.MachineChecks", spec := "machineChecks", unfollowed := true, recurses := true, apart := false }
def MachineChecksSaid : Prop := machineChecksRow.holds Try.pinned (OpenSpec.ofChange machineChecksSpec)

/-- ITS FALSE NEIGHBOUR: 'it returns false'. Refute it at one input. -/
def machineChecksWrong : ChangeSpec := { name := "machineChecks", fn := fun _ => fun
  | [d1, d2, d3] => { results := [.lit (.bool false)], args := [d1, d2, d3] }
  | _ => none }
def MachineChecksWrongFalsely : Prop := machineChecksRow.holds Try.pinned (OpenSpec.ofChange machineChecksWrong)

/-- 'backstitchlaw28.RepsLongest': WHATEVER THE INPUT: true; the input reads as it did. -/
def repsLongestSpec : ChangeSpec := { name := "repsLongest", fn := fun _ => fun
  | [d1, d2] => { results := [.lit (.bool true)], args := [d1, d2] }
  | _ => none }
def repsLongestRow : OpenClaim := { program := "ythmhdegndoodmaa", sum := "3ce4e6b5d370c492e563a82ba89bd419c90e6c9551a8a529b7fc76f45cec9493", func := "backstitch/backstitchlaw28.RepsLongest", spec := "repsLongest", unfollowed := true, recurses := true, named := ["math/bits.divideError", "math/bits.overflowError"], apart := false }
def RepsLongestSaid : Prop := repsLongestRow.holds Try.pinned (OpenSpec.ofChange repsLongestSpec)

/-- ITS FALSE NEIGHBOUR: 'it returns false'. Refute it at one input. -/
def repsLongestWrong : ChangeSpec := { name := "repsLongest", fn := fun _ => fun
  | [d1, d2] => { results := [.lit (.bool false)], args := [d1, d2] }
  | _ => none }
def RepsLongestWrongFalsely : Prop := repsLongestRow.holds Try.pinned (OpenSpec.ofChange repsLongestWrong)

/-- 'backstitchlaw27.MachineBack': WHATEVER THE INPUT: true; the input reads as it did. -/
def machineBackSpec : ChangeSpec := { name := "machineBack", fn := fun _ => fun
  | [d1, d2, d3] => { results := [.lit (.bool true)], args := [d1, d2, d3] }
  | _ => none }
def machineBackRow : OpenClaim := { program := "ythmhdegndoodmaa", sum := "3ce4e6b5d370c492e563a82ba89bd419c90e6c9551a8a529b7fc76f45cec9493", func := "backstitch/backstitchlaw27.MachineBack", spec := "machineBack", unfollowed := true, recurses := true, apart := false }
def MachineBackSaid : Prop := machineBackRow.holds Try.pinned (OpenSpec.ofChange machineBackSpec)

/-- ITS FALSE NEIGHBOUR: 'it returns false'. Refute it at one input. -/
def machineBackWrong : ChangeSpec := { name := "machineBack", fn := fun _ => fun
  | [d1, d2, d3] => { results := [.lit (.bool false)], args := [d1, d2, d3] }
  | _ => none }
def MachineBackWrongFalsely : Prop := machineBackRow.holds Try.pinned (OpenSpec.ofChange machineBackWrong)

/-- 'backstitchlaw27.MachinePlays': WHATEVER THE INPUT: true; the input reads as it did. -/
def machinePlaysSpec : ChangeSpec := { name := "machinePlays", fn := fun _ => fun
  | [d1, d2, d3] => { results := [.lit (.bool true)], args := [d1, d2, d3] }
  | _ => none }
def machinePlaysRow : OpenClaim := { program := "ythmhdegndoodmaa", sum := "3ce4e6b5d370c492e563a82ba89bd419c90e6c9551a8a529b7fc76f45cec9493", func := "backstitch/backstitchlaw27.MachinePlays", spec := "machinePlays", unfollowed := true, recurses := true, apart := false }
def MachinePlaysSaid : Prop := machinePlaysRow.holds Try.pinned (OpenSpec.ofChange machinePlaysSpec)

/-- ITS FALSE NEIGHBOUR: 'it returns false'. Refute it at one input. -/
def machinePlaysWrong : ChangeSpec := { name := "machinePlays", fn := fun _ => fun
  | [d1, d2, d3] => { results := [.lit (.bool false)], args := [d1, d2, d3] }
  | _ => none }
def MachinePlaysWrongFalsely : Prop := machinePlaysRow.holds Try.pinned (OpenSpec.ofChange machinePlaysWrong)

/-- 'backstitchlaw27.MachineCopy': WHATEVER THE INPUT: true; the input reads as it did. -/
def machineCopySpec : ChangeSpec := { name := "machineCopy", fn := fun _ => fun
  | [d1, d2, d3, d4] => { results := [.lit (.bool true)], args := [d1, d2, d3, d4] }
  | _ => none }
def machineCopyRow : OpenClaim := { program := "ythmhdegndoodmaa", sum := "3ce4e6b5d370c492e563a82ba89bd419c90e6c9551a8a529b7fc76f45cec9493", func := "backstitch/backstitchlaw27.MachineCopy", spec := "machineCopy", unfollowed := true, recurses := true, apart := false }
def MachineCopySaid : Prop := machineCopyRow.holds Try.pinned (OpenSpec.ofChange machineCopySpec)

/-- ITS FALSE NEIGHBOUR: 'it returns false'. Refute it at one input. -/
def machineCopyWrong : ChangeSpec := { name := "machineCopy", fn := fun _ => fun
  | [d1, d2, d3, d4] => { results := [.lit (.bool false)], args := [d1, d2, d3, d4] }
  | _ => none }
def MachineCopyWrongFalsely : Prop := machineCopyRow.holds Try.pinned (OpenSpec.ofChange machineCopyWrong)

/- THE SECOND FORM. 'bulk': how many values and letters a reading holds, each counted each time it is reached (what is shared counts as often as it is met; a slice's spare places count too). A statement '..UptoSaid' is the law's where the arguments, and the package variables that the reading takes, are together of bulk at most 1048576: NARROWER than '..Said'. Prove '..Said' where nothing that the law and all that it calls make is longer than what came in: it says more and counts as full. Else prove '..UptoSaid'. A law counts once. -/
mutual
def uptoBulk {H : Type} : DataW H → Nat
  | .lit (.string bytes) => bytes.length + 1
  | .lit _ => 1
  | .nil => 1
  | .ptr d => uptoBulk d + 1
  | .slice elems spare => uptoBulkAll elems + uptoBulkAll spare + 1
  | .agg parts => uptoBulkAll parts + 1
  | .iface _ d => uptoBulk d + 1
  | .map entries => uptoBulkEntries entries + 1
  | .held _ => 1
def uptoBulkAll {H : Type} : List (DataW H) → Nat
  | [] => 0
  | d :: r => uptoBulk d + uptoBulkAll r
def uptoBulkEntries {H : Type} : List (Lit × DataW H) → Nat
  | [] => 0
  | x :: r => uptoBulkEntry x + uptoBulkEntries r
def uptoBulkEntry {H : Type} : Lit × DataW H → Nat
  | (.string bytes, d) => bytes.length + uptoBulk d + 1
  | (_, d) => uptoBulk d + 1
 end
def uptoSmall : (H : Type) → List (DataW H) → Bool := fun _ ds => decide (uptoBulkAll ds ≤ 1048576)
def OpenSpec.upto (s : _root_.Go.ChangeSpec) : _root_.Go.OpenSpec := { _root_.Go.OpenSpec.ofChange s with cond := some uptoSmall }

/-- 'backstitchlaw28.RepsParts', WHERE WHAT IT READS IS OF BULK AT MOST 1048576: true; the input reads as it did. -/
def repsPartsUptoRow : OpenClaim := { program := "ythmhdegndoodmaa", sum := "3ce4e6b5d370c492e563a82ba89bd419c90e6c9551a8a529b7fc76f45cec9493", func := "backstitch/backstitchlaw28.RepsParts", spec := "repsParts", unfollowed := true, recurses := true, named := ["math/bits.divideError", "math/bits.overflowError"], apart := false, narrowed := true }
def RepsPartsUptoSaid : Prop := repsPartsUptoRow.holds Try.pinned (OpenSpec.upto repsPartsSpec)

/-- 'backstitchlaw28.RepsTells', WHERE WHAT IT READS IS OF BULK AT MOST 1048576: true; the input reads as it did. -/
def repsTellsUptoRow : OpenClaim := { program := "ythmhdegndoodmaa", sum := "3ce4e6b5d370c492e563a82ba89bd419c90e6c9551a8a529b7fc76f45cec9493", func := "backstitch/backstitchlaw28.RepsTells", spec := "repsTells", unfollowed := true, recurses := true, named := ["math/bits.divideError", "math/bits.overflowError"], apart := false, narrowed := true }
def RepsTellsUptoSaid : Prop := repsTellsUptoRow.holds Try.pinned (OpenSpec.upto repsTellsSpec)

/-- 'backstitchlaw28.RepsMore', WHERE WHAT IT READS IS OF BULK AT MOST 1048576: true; the input reads as it did. -/
def repsMoreUptoRow : OpenClaim := { program := "ythmhdegndoodmaa", sum := "3ce4e6b5d370c492e563a82ba89bd419c90e6c9551a8a529b7fc76f45cec9493", func := "backstitch/backstitchlaw28.RepsMore", spec := "repsMore", unfollowed := true, recurses := true, named := ["math/bits.divideError", "math/bits.overflowError"], apart := false, narrowed := true }
def RepsMoreUptoSaid : Prop := repsMoreUptoRow.holds Try.pinned (OpenSpec.upto repsMoreSpec)

/-- 'backstitchlaw27.MachineChecks', WHERE WHAT IT READS IS OF BULK AT MOST 1048576: true; the input reads as it did. -/
def machineChecksUptoRow : OpenClaim := { program := "ythmhdegndoodmaa", sum := "3ce4e6b5d370c492e563a82ba89bd419c90e6c9551a8a529b7fc76f45cec9493", func := "backstitch/backstitchlaw27.MachineChecks", spec := "machineChecks", unfollowed := true, recurses := true, apart := false, narrowed := true }
def MachineChecksUptoSaid : Prop := machineChecksUptoRow.holds Try.pinned (OpenSpec.upto machineChecksSpec)

/-- 'backstitchlaw28.RepsLongest', WHERE WHAT IT READS IS OF BULK AT MOST 1048576: true; the input reads as it did. -/
def repsLongestUptoRow : OpenClaim := { program := "ythmhdegndoodmaa", sum := "3ce4e6b5d370c492e563a82ba89bd419c90e6c9551a8a529b7fc76f45cec9493", func := "backstitch/backstitchlaw28.RepsLongest", spec := "repsLongest", unfollowed := true, recurses := true, named := ["math/bits.divideError", "math/bits.overflowError"], apart := false, narrowed := true }
def RepsLongestUptoSaid : Prop := repsLongestUptoRow.holds Try.pinned (OpenSpec.upto repsLongestSpec)

/-- 'backstitchlaw27.MachineBack', WHERE WHAT IT READS IS OF BULK AT MOST 1048576: true; the input reads as it did. -/
def machineBackUptoRow : OpenClaim := { program := "ythmhdegndoodmaa", sum := "3ce4e6b5d370c492e563a82ba89bd419c90e6c9551a8a529b7fc76f45cec9493", func := "backstitch/backstitchlaw27.MachineBack", spec := "machineBack", unfollowed := true, recurses := true, apart := false, narrowed := true }
def MachineBackUptoSaid : Prop := machineBackUptoRow.holds Try.pinned (OpenSpec.upto machineBackSpec)

/-- 'backstitchlaw27.MachinePlays', WHERE WHAT IT READS IS OF BULK AT MOST 1048576: true; the input reads as it did. -/
def machinePlaysUptoRow : OpenClaim := { program := "ythmhdegndoodmaa", sum := "3ce4e6b5d370c492e563a82ba89bd419c90e6c9551a8a529b7fc76f45cec9493", func := "backstitch/backstitchlaw27.MachinePlays", spec := "machinePlays", unfollowed := true, recurses := true, apart := false, narrowed := true }
def MachinePlaysUptoSaid : Prop := machinePlaysUptoRow.holds Try.pinned (OpenSpec.upto machinePlaysSpec)

/-- 'backstitchlaw27.MachineCopy', WHERE WHAT IT READS IS OF BULK AT MOST 1048576: true; the input reads as it did. -/
def machineCopyUptoRow : OpenClaim := { program := "ythmhdegndoodmaa", sum := "3ce4e6b5d370c492e563a82ba89bd419c90e6c9551a8a529b7fc76f45cec9493", func := "backstitch/backstitchlaw27.MachineCopy", spec := "machineCopy", unfollowed := true, recurses := true, apart := false, narrowed := true }
def MachineCopyUptoSaid : Prop := machineCopyUptoRow.holds Try.pinned (OpenSpec.upto machineCopySpec)

end Rows
end Go.Proofs.Ythmhdegndoodmaa
