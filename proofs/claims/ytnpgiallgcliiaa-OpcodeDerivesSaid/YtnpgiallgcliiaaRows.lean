/-
  No cell of these rows narrows 'for every input' (looked for: loops, veiled, ifaces, maps, wideKeys, modest, calm, conditions, laid).
  DERIVED. THE GIVEN ROWS OF THIS SEAT. 10 by the template 'for every input the law returns true; each argument reads behind the call as it read before'; 0 by the template 'total and deterministic' (their statements: YtnpgiallgcliiaaTotals.lean).
  GIVEN WITH THE SEED: the statements are not yours to turn. If you find one false, say at which input.
  Laid BY PROGRAM, IN A SANDBOX (cutbox-rows.mjs): the forced cells as the released guide's own fill.sh prints them over the translation 01b155563daeaa23… (all of the seat's roots in one cut). By AI agents, Wed Nov 11 2026. No macro, syntax, notation, axiom, sorry.
-/
import Derived.Test.YtnpgiallgcliiaaChecked
import GoSem.Claim
import GoSem.ClaimJoined
import GoSem.ClaimMapViews
import Derived.JoinedTies
import Derived.KernelRfl
namespace Go.Proofs.Ytnpgiallgcliiaa
/- THE CELL 'sum', in the pinned program and in every row, IS THE sha256 OF THE DUMP (.gsa) THAT YtnpgiallgcliiaaProg.lean LOADS. Nothing in Lean hashes anything: it is a label: what it is worth is what the hold of that sum in a sandbox is worth. -/
noncomputable def Try.pinned : Pinned := { name := "ytnpgiallgcliiaa", sum := "01b155563daeaa23646290d7ccd9a073a99163fde68895fe879cbbc545746884", checked := Try.checked }
namespace Rows
def none {H : Type} : Left H := { results := [], args := [] }

/-- 'backstitchlaw07.OpcodeWords': WHATEVER THE INPUT: true; the input reads as it did. -/
def opcodeWordsSpec : ChangeSpec := { name := "opcodeWords", fn := fun _ => fun
  | [d1, d2] => { results := [.lit (.bool true)], args := [d1, d2] }
  | _ => none }
def opcodeWordsRow : OpenClaim := { program := "ytnpgiallgcliiaa", sum := "01b155563daeaa23646290d7ccd9a073a99163fde68895fe879cbbc545746884", func := "backstitch/backstitchlaw07.OpcodeWords", spec := "opcodeWords", unfollowed := true, recurses := true, apart := false }
def OpcodeWordsSaid : Prop := opcodeWordsRow.holds Try.pinned (OpenSpec.ofChange opcodeWordsSpec)

/-- ITS FALSE NEIGHBOUR: 'it returns false'. Refute it at one input. -/
def opcodeWordsWrong : ChangeSpec := { name := "opcodeWords", fn := fun _ => fun
  | [d1, d2] => { results := [.lit (.bool false)], args := [d1, d2] }
  | _ => none }
def OpcodeWordsWrongFalsely : Prop := opcodeWordsRow.holds Try.pinned (OpenSpec.ofChange opcodeWordsWrong)

/-- 'backstitchlaw07.OpcodeBack': WHATEVER THE INPUT: true; the input reads as it did. -/
def opcodeBackSpec : ChangeSpec := { name := "opcodeBack", fn := fun _ => fun
  | [d1, d2] => { results := [.lit (.bool true)], args := [d1, d2] }
  | _ => none }
def opcodeBackRow : OpenClaim := { program := "ytnpgiallgcliiaa", sum := "01b155563daeaa23646290d7ccd9a073a99163fde68895fe879cbbc545746884", func := "backstitch/backstitchlaw07.OpcodeBack", spec := "opcodeBack", unfollowed := true, recurses := true, apart := false }
def OpcodeBackSaid : Prop := opcodeBackRow.holds Try.pinned (OpenSpec.ofChange opcodeBackSpec)

/-- ITS FALSE NEIGHBOUR: 'it returns false'. Refute it at one input. -/
def opcodeBackWrong : ChangeSpec := { name := "opcodeBack", fn := fun _ => fun
  | [d1, d2] => { results := [.lit (.bool false)], args := [d1, d2] }
  | _ => none }
def OpcodeBackWrongFalsely : Prop := opcodeBackRow.holds Try.pinned (OpenSpec.ofChange opcodeBackWrong)

/-- 'backstitchlaw07.OpcodeNames': WHATEVER THE INPUT: true; the input reads as it did. -/
def opcodeNamesSpec : ChangeSpec := { name := "opcodeNames", fn := fun _ => fun
  | [d1, d2] => { results := [.lit (.bool true)], args := [d1, d2] }
  | _ => none }
def opcodeNamesRow : OpenClaim := { program := "ytnpgiallgcliiaa", sum := "01b155563daeaa23646290d7ccd9a073a99163fde68895fe879cbbc545746884", func := "backstitch/backstitchlaw07.OpcodeNames", spec := "opcodeNames", unfollowed := true, recurses := true, apart := false }
def OpcodeNamesSaid : Prop := opcodeNamesRow.holds Try.pinned (OpenSpec.ofChange opcodeNamesSpec)

/-- ITS FALSE NEIGHBOUR: 'it returns false'. Refute it at one input. -/
def opcodeNamesWrong : ChangeSpec := { name := "opcodeNames", fn := fun _ => fun
  | [d1, d2] => { results := [.lit (.bool false)], args := [d1, d2] }
  | _ => none }
def OpcodeNamesWrongFalsely : Prop := opcodeNamesRow.holds Try.pinned (OpenSpec.ofChange opcodeNamesWrong)

/-- 'backstitchlaw06.ChooseRows': WHATEVER THE INPUT: true; the input reads as it did. -/
def chooseRowsSpec : ChangeSpec := { name := "chooseRows", fn := fun _ => fun
  | [d] => { results := [.lit (.bool true)], args := [d] }
  | _ => none }
def chooseRowsRow : OpenClaim := { program := "ytnpgiallgcliiaa", sum := "01b155563daeaa23646290d7ccd9a073a99163fde68895fe879cbbc545746884", func := "backstitch/backstitchlaw06.ChooseRows", spec := "chooseRows", named := ["math/bits.divideError", "math/bits.overflowError"], apart := false }
def ChooseRowsSaid : Prop := chooseRowsRow.holds Try.pinned (OpenSpec.ofChange chooseRowsSpec)

/-- ITS FALSE NEIGHBOUR: 'it returns false'. Refute it at one input. -/
def chooseRowsWrong : ChangeSpec := { name := "chooseRows", fn := fun _ => fun
  | [d] => { results := [.lit (.bool false)], args := [d] }
  | _ => none }
def ChooseRowsWrongFalsely : Prop := chooseRowsRow.holds Try.pinned (OpenSpec.ofChange chooseRowsWrong)

/-- 'backstitchlaw06.ChooseReckons': WHATEVER THE INPUT: true; the input reads as it did. -/
def chooseReckonsSpec : ChangeSpec := { name := "chooseReckons", fn := fun _ => fun
  | [d] => { results := [.lit (.bool true)], args := [d] }
  | _ => none }
def chooseReckonsRow : OpenClaim := { program := "ytnpgiallgcliiaa", sum := "01b155563daeaa23646290d7ccd9a073a99163fde68895fe879cbbc545746884", func := "backstitch/backstitchlaw06.ChooseReckons", spec := "chooseReckons", named := ["math/bits.divideError", "math/bits.overflowError"], apart := false }
def ChooseReckonsSaid : Prop := chooseReckonsRow.holds Try.pinned (OpenSpec.ofChange chooseReckonsSpec)

/-- ITS FALSE NEIGHBOUR: 'it returns false'. Refute it at one input. -/
def chooseReckonsWrong : ChangeSpec := { name := "chooseReckons", fn := fun _ => fun
  | [d] => { results := [.lit (.bool false)], args := [d] }
  | _ => none }
def ChooseReckonsWrongFalsely : Prop := chooseReckonsRow.holds Try.pinned (OpenSpec.ofChange chooseReckonsWrong)

/-- 'backstitchlaw06.ChoosePascal': WHATEVER THE INPUT: true; the input reads as it did. -/
def choosePascalSpec : ChangeSpec := { name := "choosePascal", fn := fun _ => fun
  | [d1, d2] => { results := [.lit (.bool true)], args := [d1, d2] }
  | _ => none }
def choosePascalRow : OpenClaim := { program := "ytnpgiallgcliiaa", sum := "01b155563daeaa23646290d7ccd9a073a99163fde68895fe879cbbc545746884", func := "backstitch/backstitchlaw06.ChoosePascal", spec := "choosePascal", named := ["math/bits.divideError", "math/bits.overflowError"], apart := false }
def ChoosePascalSaid : Prop := choosePascalRow.holds Try.pinned (OpenSpec.ofChange choosePascalSpec)

/-- ITS FALSE NEIGHBOUR: 'it returns false'. Refute it at one input. -/
def choosePascalWrong : ChangeSpec := { name := "choosePascal", fn := fun _ => fun
  | [d1, d2] => { results := [.lit (.bool false)], args := [d1, d2] }
  | _ => none }
def ChoosePascalWrongFalsely : Prop := choosePascalRow.holds Try.pinned (OpenSpec.ofChange choosePascalWrong)

/-- 'backstitchlaw06.ChooseMore': WHATEVER THE INPUT: true; the input reads as it did. -/
def chooseMoreSpec : ChangeSpec := { name := "chooseMore", fn := fun _ => fun
  | [d1, d2, d3] => { results := [.lit (.bool true)], args := [d1, d2, d3] }
  | _ => none }
def chooseMoreRow : OpenClaim := { program := "ytnpgiallgcliiaa", sum := "01b155563daeaa23646290d7ccd9a073a99163fde68895fe879cbbc545746884", func := "backstitch/backstitchlaw06.ChooseMore", spec := "chooseMore", named := ["math/bits.divideError", "math/bits.overflowError"], apart := false }
def ChooseMoreSaid : Prop := chooseMoreRow.holds Try.pinned (OpenSpec.ofChange chooseMoreSpec)

/-- ITS FALSE NEIGHBOUR: 'it returns false'. Refute it at one input. -/
def chooseMoreWrong : ChangeSpec := { name := "chooseMore", fn := fun _ => fun
  | [d1, d2, d3] => { results := [.lit (.bool false)], args := [d1, d2, d3] }
  | _ => none }
def ChooseMoreWrongFalsely : Prop := chooseMoreRow.holds Try.pinned (OpenSpec.ofChange chooseMoreWrong)

/-- 'backstitchlaw07.OpcodeDoes': WHATEVER THE INPUT: true; the input reads as it did. -/
def opcodeDoesSpec : ChangeSpec := { name := "opcodeDoes", fn := fun _ => fun
  | [d1, d2, d3] => { results := [.lit (.bool true)], args := [d1, d2, d3] }
  | _ => none }
def opcodeDoesRow : OpenClaim := { program := "ytnpgiallgcliiaa", sum := "01b155563daeaa23646290d7ccd9a073a99163fde68895fe879cbbc545746884", func := "backstitch/backstitchlaw07.OpcodeDoes", spec := "opcodeDoes", unfollowed := true, recurses := true, apart := false }
def OpcodeDoesSaid : Prop := opcodeDoesRow.holds Try.pinned (OpenSpec.ofChange opcodeDoesSpec)

/-- ITS FALSE NEIGHBOUR: 'it returns false'. Refute it at one input. -/
def opcodeDoesWrong : ChangeSpec := { name := "opcodeDoes", fn := fun _ => fun
  | [d1, d2, d3] => { results := [.lit (.bool false)], args := [d1, d2, d3] }
  | _ => none }
def OpcodeDoesWrongFalsely : Prop := opcodeDoesRow.holds Try.pinned (OpenSpec.ofChange opcodeDoesWrong)

/-- 'backstitchlaw06.ChooseTells': WHATEVER THE INPUT: true; the input reads as it did. -/
def chooseTellsSpec : ChangeSpec := { name := "chooseTells", fn := fun _ => fun
  | [d1, d2] => { results := [.lit (.bool true)], args := [d1, d2] }
  | _ => none }
def chooseTellsRow : OpenClaim := { program := "ytnpgiallgcliiaa", sum := "01b155563daeaa23646290d7ccd9a073a99163fde68895fe879cbbc545746884", func := "backstitch/backstitchlaw06.ChooseTells", spec := "chooseTells", named := ["math/bits.divideError", "math/bits.overflowError"], apart := false }
def ChooseTellsSaid : Prop := chooseTellsRow.holds Try.pinned (OpenSpec.ofChange chooseTellsSpec)

/-- ITS FALSE NEIGHBOUR: 'it returns false'. Refute it at one input. -/
def chooseTellsWrong : ChangeSpec := { name := "chooseTells", fn := fun _ => fun
  | [d1, d2] => { results := [.lit (.bool false)], args := [d1, d2] }
  | _ => none }
def ChooseTellsWrongFalsely : Prop := chooseTellsRow.holds Try.pinned (OpenSpec.ofChange chooseTellsWrong)

/-- 'backstitchlaw07.OpcodeDerives': WHATEVER THE INPUT: true; the input reads as it did. -/
def opcodeDerivesSpec : ChangeSpec := { name := "opcodeDerives", fn := fun _ => fun
  | [d1, d2, d3] => { results := [.lit (.bool true)], args := [d1, d2, d3] }
  | _ => none }
def opcodeDerivesRow : OpenClaim := { program := "ytnpgiallgcliiaa", sum := "01b155563daeaa23646290d7ccd9a073a99163fde68895fe879cbbc545746884", func := "backstitch/backstitchlaw07.OpcodeDerives", spec := "opcodeDerives", unfollowed := true, recurses := true, apart := false }
def OpcodeDerivesSaid : Prop := opcodeDerivesRow.holds Try.pinned (OpenSpec.ofChange opcodeDerivesSpec)

/-- ITS FALSE NEIGHBOUR: 'it returns false'. Refute it at one input. -/
def opcodeDerivesWrong : ChangeSpec := { name := "opcodeDerives", fn := fun _ => fun
  | [d1, d2, d3] => { results := [.lit (.bool false)], args := [d1, d2, d3] }
  | _ => none }
def OpcodeDerivesWrongFalsely : Prop := opcodeDerivesRow.holds Try.pinned (OpenSpec.ofChange opcodeDerivesWrong)

/- THE SECOND FORM. 'bulk': how many values and letters a reading holds, each counted each time it is reached (what is shared counts as often as it is met; a slice's spare places count too). A statement '..UptoSaid' is the law's where the arguments, and the package variables that the reading takes, are together of bulk at most 1048576: NARROWER than '..Said'. Prove '..Said' where nothing that the law and all that it calls make is longer than what came in: it says more and counts as full. Else prove '..UptoSaid'. A law counts once. -/
mutual
def uptoBulk {H : Type} : DataW H → Nat
  | .lit (.string bytes) => bytes.length + 1
  | .lit _ => 1
  | .nil => 1
  | .ptr d => uptoBulk d + 1
  | .slice elems spare => uptoBulkAll elems + uptoBulkAll spare + 1
  | .agg parts => uptoBulkAll parts + 1
  | .iface _ d => uptoBulk d + 1
  | .map entries => uptoBulkEntries entries + 1
  | .held _ => 1
def uptoBulkAll {H : Type} : List (DataW H) → Nat
  | [] => 0
  | d :: r => uptoBulk d + uptoBulkAll r
def uptoBulkEntries {H : Type} : List (Lit × DataW H) → Nat
  | [] => 0
  | x :: r => uptoBulkEntry x + uptoBulkEntries r
def uptoBulkEntry {H : Type} : Lit × DataW H → Nat
  | (.string bytes, d) => bytes.length + uptoBulk d + 1
  | (_, d) => uptoBulk d + 1
 end
def uptoSmall : (H : Type) → List (DataW H) → Bool := fun _ ds => decide (uptoBulkAll ds ≤ 1048576)
def OpenSpec.upto (s : _root_.Go.ChangeSpec) : _root_.Go.OpenSpec := { _root_.Go.OpenSpec.ofChange s with cond := some uptoSmall }

/-- 'backstitchlaw07.OpcodeWords', WHERE WHAT IT READS IS OF BULK AT MOST 1048576: true; the input reads as it did. -/
def opcodeWordsUptoRow : OpenClaim := { program := "ytnpgiallgcliiaa", sum := "01b155563daeaa23646290d7ccd9a073a99163fde68895fe879cbbc545746884", func := "backstitch/backstitchlaw07.OpcodeWords", spec := "opcodeWords", unfollowed := true, recurses := true, apart := false, narrowed := true }
def OpcodeWordsUptoSaid : Prop := opcodeWordsUptoRow.holds Try.pinned (OpenSpec.upto opcodeWordsSpec)

/-- 'backstitchlaw07.OpcodeBack', WHERE WHAT IT READS IS OF BULK AT MOST 1048576: true; the input reads as it did. -/
def opcodeBackUptoRow : OpenClaim := { program := "ytnpgiallgcliiaa", sum := "01b155563daeaa23646290d7ccd9a073a99163fde68895fe879cbbc545746884", func := "backstitch/backstitchlaw07.OpcodeBack", spec := "opcodeBack", unfollowed := true, recurses := true, apart := false, narrowed := true }
def OpcodeBackUptoSaid : Prop := opcodeBackUptoRow.holds Try.pinned (OpenSpec.upto opcodeBackSpec)

/-- 'backstitchlaw07.OpcodeNames', WHERE WHAT IT READS IS OF BULK AT MOST 1048576: true; the input reads as it did. -/
def opcodeNamesUptoRow : OpenClaim := { program := "ytnpgiallgcliiaa", sum := "01b155563daeaa23646290d7ccd9a073a99163fde68895fe879cbbc545746884", func := "backstitch/backstitchlaw07.OpcodeNames", spec := "opcodeNames", unfollowed := true, recurses := true, apart := false, narrowed := true }
def OpcodeNamesUptoSaid : Prop := opcodeNamesUptoRow.holds Try.pinned (OpenSpec.upto opcodeNamesSpec)

/-- 'backstitchlaw06.ChooseRows', WHERE WHAT IT READS IS OF BULK AT MOST 1048576: true; the input reads as it did. -/
def chooseRowsUptoRow : OpenClaim := { program := "ytnpgiallgcliiaa", sum := "01b155563daeaa23646290d7ccd9a073a99163fde68895fe879cbbc545746884", func := "backstitch/backstitchlaw06.ChooseRows", spec := "chooseRows", named := ["math/bits.divideError", "math/bits.overflowError"], apart := false, narrowed := true }
def ChooseRowsUptoSaid : Prop := chooseRowsUptoRow.holds Try.pinned (OpenSpec.upto chooseRowsSpec)

/-- 'backstitchlaw06.ChooseReckons', WHERE WHAT IT READS IS OF BULK AT MOST 1048576: true; the input reads as it did. -/
def chooseReckonsUptoRow : OpenClaim := { program := "ytnpgiallgcliiaa", sum := "01b155563daeaa23646290d7ccd9a073a99163fde68895fe879cbbc545746884", func := "backstitch/backstitchlaw06.ChooseReckons", spec := "chooseReckons", named := ["math/bits.divideError", "math/bits.overflowError"], apart := false, narrowed := true }
def ChooseReckonsUptoSaid : Prop := chooseReckonsUptoRow.holds Try.pinned (OpenSpec.upto chooseReckonsSpec)

/-- 'backstitchlaw06.ChoosePascal', WHERE WHAT IT READS IS OF BULK AT MOST 1048576: true; the input reads as it did. -/
def choosePascalUptoRow : OpenClaim := { program := "ytnpgiallgcliiaa", sum := "01b155563daeaa23646290d7ccd9a073a99163fde68895fe879cbbc545746884", func := "backstitch/backstitchlaw06.ChoosePascal", spec := "choosePascal", named := ["math/bits.divideError", "math/bits.overflowError"], apart := false, narrowed := true }
def ChoosePascalUptoSaid : Prop := choosePascalUptoRow.holds Try.pinned (OpenSpec.upto choosePascalSpec)

/-- 'backstitchlaw06.ChooseMore', WHERE WHAT IT READS IS OF BULK AT MOST 1048576: true; the input reads as it did. -/
def chooseMoreUptoRow : OpenClaim := { program := "ytnpgiallgcliiaa", sum := "01b155563daeaa23646290d7ccd9a073a99163fde68895fe879cbbc545746884", func := "backstitch/backstitchlaw06.ChooseMore", spec := "chooseMore", named := ["math/bits.divideError", "math/bits.overflowError"], apart := false, narrowed := true }
def ChooseMoreUptoSaid : Prop := chooseMoreUptoRow.holds Try.pinned (OpenSpec.upto chooseMoreSpec)

/-- 'backstitchlaw07.OpcodeDoes', WHERE WHAT IT READS IS OF BULK AT MOST 1048576: true; the input reads as it did. -/
def opcodeDoesUptoRow : OpenClaim := { program := "ytnpgiallgcliiaa", sum := "01b155563daeaa23646290d7ccd9a073a99163fde68895fe879cbbc545746884", func := "backstitch/backstitchlaw07.OpcodeDoes", spec := "opcodeDoes", unfollowed := true, recurses := true, apart := false, narrowed := true }
def OpcodeDoesUptoSaid : Prop := opcodeDoesUptoRow.holds Try.pinned (OpenSpec.upto opcodeDoesSpec)

/-- 'backstitchlaw06.ChooseTells', WHERE WHAT IT READS IS OF BULK AT MOST 1048576: true; the input reads as it did. -/
def chooseTellsUptoRow : OpenClaim := { program := "ytnpgiallgcliiaa", sum := "01b155563daeaa23646290d7ccd9a073a99163fde68895fe879cbbc545746884", func := "backstitch/backstitchlaw06.ChooseTells", spec := "chooseTells", named := ["math/bits.divideError", "math/bits.overflowError"], apart := false, narrowed := true }
def ChooseTellsUptoSaid : Prop := chooseTellsUptoRow.holds Try.pinned (OpenSpec.upto chooseTellsSpec)

/-- 'backstitchlaw07.OpcodeDerives', WHERE WHAT IT READS IS OF BULK AT MOST 1048576: true; the input reads as it did. -/
def opcodeDerivesUptoRow : OpenClaim := { program := "ytnpgiallgcliiaa", sum := "01b155563daeaa23646290d7ccd9a073a99163fde68895fe879cbbc545746884", func := "backstitch/backstitchlaw07.OpcodeDerives", spec := "opcodeDerives", unfollowed := true, recurses := true, apart := false, narrowed := true }
def OpcodeDerivesUptoSaid : Prop := opcodeDerivesUptoRow.holds Try.pinned (OpenSpec.upto opcodeDerivesSpec)

end Rows
end Go.Proofs.Ytnpgiallgcliiaa
