/-
  No cell of these rows narrows 'for every input' (looked for: loops, veiled, ifaces, maps, wideKeys, modest, calm, conditions, laid).
  DERIVED. THE GIVEN ROWS OF THIS SEAT. 5 by the template 'for every input the law returns true; each argument reads behind the call as it read before'; 0 by the template 'total and deterministic' (their statements: YtkgcipgnpknbdaaTotals.lean).
  GIVEN WITH THE SEED: the statements are not yours to turn. If you find one false, say at which input.
  Laid BY PROGRAM, IN A SANDBOX (cutbox-rows.mjs): the forced cells as the released guide's own fill.sh prints them over the translation 69f2d8aa630a91be… (all of the seat's roots in one cut). By AI agents, Wed Nov 11 2026. No macro, syntax, notation, axiom, sorry.
-/
import Derived.Test.YtkgcipgnpknbdaaChecked
import GoSem.Claim
import GoSem.ClaimJoined
import GoSem.ClaimMapViews
import Derived.JoinedTies
import Derived.KernelRfl
namespace Go.Proofs.Ytkgcipgnpknbdaa
/- THE CELL 'sum', in the pinned program and in every row, IS THE sha256 OF THE DUMP (.gsa) THAT YtkgcipgnpknbdaaProg.lean LOADS. Nothing in Lean hashes anything: it is a label: what it is worth is what the hold of that sum in a sandbox is worth. -/
noncomputable def Try.pinned : Pinned := { name := "ytkgcipgnpknbdaa", sum := "69f2d8aa630a91bebe2965bcb8d6514113ea71e84cce41713fa2fb1ce663cb8a", checked := Try.checked }
namespace Rows
def none {H : Type} : Left H := { results := [], args := [] }

/-- 'backstitchlaw02.DualProducts': WHATEVER THE INPUT: true; the input reads as it did. -/
def dualProductsSpec : ChangeSpec := { name := "dualProducts", fn := fun _ => fun
  | [d1, d2, d3] => { results := [.lit (.bool true)], args := [d1, d2, d3] }
  | _ => none }
def dualProductsRow : OpenClaim := { program := "ytkgcipgnpknbdaa", sum := "69f2d8aa630a91bebe2965bcb8d6514113ea71e84cce41713fa2fb1ce663cb8a", func := "backstitch/backstitchlaw02.DualProducts", spec := "dualProducts", recurses := true, apart := false }
def DualProductsSaid : Prop := dualProductsRow.holds Try.pinned (OpenSpec.ofChange dualProductsSpec)

/-- ITS FALSE NEIGHBOUR: 'it returns false'. Refute it at one input. -/
def dualProductsWrong : ChangeSpec := { name := "dualProducts", fn := fun _ => fun
  | [d1, d2, d3] => { results := [.lit (.bool false)], args := [d1, d2, d3] }
  | _ => none }
def DualProductsWrongFalsely : Prop := dualProductsRow.holds Try.pinned (OpenSpec.ofChange dualProductsWrong)

/-- 'backstitchlaw02.DualHorner': WHATEVER THE INPUT: true; the input reads as it did. -/
def dualHornerSpec : ChangeSpec := { name := "dualHorner", fn := fun _ => fun
  | [d1, d2] => { results := [.lit (.bool true)], args := [d1, d2] }
  | _ => none }
def dualHornerRow : OpenClaim := { program := "ytkgcipgnpknbdaa", sum := "69f2d8aa630a91bebe2965bcb8d6514113ea71e84cce41713fa2fb1ce663cb8a", func := "backstitch/backstitchlaw02.DualHorner", spec := "dualHorner", apart := false }
def DualHornerSaid : Prop := dualHornerRow.holds Try.pinned (OpenSpec.ofChange dualHornerSpec)

/-- ITS FALSE NEIGHBOUR: 'it returns false'. Refute it at one input. -/
def dualHornerWrong : ChangeSpec := { name := "dualHorner", fn := fun _ => fun
  | [d1, d2] => { results := [.lit (.bool false)], args := [d1, d2] }
  | _ => none }
def DualHornerWrongFalsely : Prop := dualHornerRow.holds Try.pinned (OpenSpec.ofChange dualHornerWrong)

/-- 'backstitchlaw02.DualSums': WHATEVER THE INPUT: true; the input reads as it did. -/
def dualSumsSpec : ChangeSpec := { name := "dualSums", fn := fun _ => fun
  | [d1, d2, d3] => { results := [.lit (.bool true)], args := [d1, d2, d3] }
  | _ => none }
def dualSumsRow : OpenClaim := { program := "ytkgcipgnpknbdaa", sum := "69f2d8aa630a91bebe2965bcb8d6514113ea71e84cce41713fa2fb1ce663cb8a", func := "backstitch/backstitchlaw02.DualSums", spec := "dualSums", apart := false }
def DualSumsSaid : Prop := dualSumsRow.holds Try.pinned (OpenSpec.ofChange dualSumsSpec)

/-- ITS FALSE NEIGHBOUR: 'it returns false'. Refute it at one input. -/
def dualSumsWrong : ChangeSpec := { name := "dualSums", fn := fun _ => fun
  | [d1, d2, d3] => { results := [.lit (.bool false)], args := [d1, d2, d3] }
  | _ => none }
def DualSumsWrongFalsely : Prop := dualSumsRow.holds Try.pinned (OpenSpec.ofChange dualSumsWrong)

/-- 'backstitchlaw02.DualFormal': WHATEVER THE INPUT: true; the input reads as it did. -/
def dualFormalSpec : ChangeSpec := { name := "dualFormal", fn := fun _ => fun
  | [d1, d2] => { results := [.lit (.bool true)], args := [d1, d2] }
  | _ => none }
def dualFormalRow : OpenClaim := { program := "ytkgcipgnpknbdaa", sum := "69f2d8aa630a91bebe2965bcb8d6514113ea71e84cce41713fa2fb1ce663cb8a", func := "backstitch/backstitchlaw02.DualFormal", spec := "dualFormal", apart := false }
def DualFormalSaid : Prop := dualFormalRow.holds Try.pinned (OpenSpec.ofChange dualFormalSpec)

/-- ITS FALSE NEIGHBOUR: 'it returns false'. Refute it at one input. -/
def dualFormalWrong : ChangeSpec := { name := "dualFormal", fn := fun _ => fun
  | [d1, d2] => { results := [.lit (.bool false)], args := [d1, d2] }
  | _ => none }
def DualFormalWrongFalsely : Prop := dualFormalRow.holds Try.pinned (OpenSpec.ofChange dualFormalWrong)

/-- 'backstitchlaw02.DualRules': WHATEVER THE INPUT: true; the input reads as it did. -/
def dualRulesSpec : ChangeSpec := { name := "dualRules", fn := fun _ => fun
  | [d1, d2, d3] => { results := [.lit (.bool true)], args := [d1, d2, d3] }
  | _ => none }
def dualRulesRow : OpenClaim := { program := "ytkgcipgnpknbdaa", sum := "69f2d8aa630a91bebe2965bcb8d6514113ea71e84cce41713fa2fb1ce663cb8a", func := "backstitch/backstitchlaw02.DualRules", spec := "dualRules", apart := false }
def DualRulesSaid : Prop := dualRulesRow.holds Try.pinned (OpenSpec.ofChange dualRulesSpec)

/-- ITS FALSE NEIGHBOUR: 'it returns false'. Refute it at one input. -/
def dualRulesWrong : ChangeSpec := { name := "dualRules", fn := fun _ => fun
  | [d1, d2, d3] => { results := [.lit (.bool false)], args := [d1, d2, d3] }
  | _ => none }
def DualRulesWrongFalsely : Prop := dualRulesRow.holds Try.pinned (OpenSpec.ofChange dualRulesWrong)

/- THE SECOND FORM. 'bulk': how many values and letters a reading holds, each counted each time it is reached (what is shared counts as often as it is met; a slice's spare places count too). A statement '..UptoSaid' is the law's where the arguments, and the package variables that the reading takes, are together of bulk at most 1048576: NARROWER than '..Said'. Prove '..Said' where nothing that the law and all that it calls make is longer than what came in: it says more and counts as full. Else prove '..UptoSaid'. A law counts once. -/
mutual
def uptoBulk {H : Type} : DataW H → Nat
  | .lit (.string bytes) => bytes.length + 1
  | .lit _ => 1
  | .nil => 1
  | .ptr d => uptoBulk d + 1
  | .slice elems spare => uptoBulkAll elems + uptoBulkAll spare + 1
  | .agg parts => uptoBulkAll parts + 1
  | .iface _ d => uptoBulk d + 1
  | .map entries => uptoBulkEntries entries + 1
  | .held _ => 1
def uptoBulkAll {H : Type} : List (DataW H) → Nat
  | [] => 0
  | d :: r => uptoBulk d + uptoBulkAll r
def uptoBulkEntries {H : Type} : List (Lit × DataW H) → Nat
  | [] => 0
  | x :: r => uptoBulkEntry x + uptoBulkEntries r
def uptoBulkEntry {H : Type} : Lit × DataW H → Nat
  | (.string bytes, d) => bytes.length + uptoBulk d + 1
  | (_, d) => uptoBulk d + 1
 end
def uptoSmall : (H : Type) → List (DataW H) → Bool := fun _ ds => decide (uptoBulkAll ds ≤ 1048576)
def OpenSpec.upto (s : _root_.Go.ChangeSpec) : _root_.Go.OpenSpec := { _root_.Go.OpenSpec.ofChange s with cond := some uptoSmall }

/-- 'backstitchlaw02.DualProducts', WHERE WHAT IT READS IS OF BULK AT MOST 1048576: true; the input reads as it did. -/
def dualProductsUptoRow : OpenClaim := { program := "ytkgcipgnpknbdaa", sum := "69f2d8aa630a91bebe2965bcb8d6514113ea71e84cce41713fa2fb1ce663cb8a", func := "backstitch/backstitchlaw02.DualProducts", spec := "dualProducts", recurses := true, apart := false, narrowed := true }
def DualProductsUptoSaid : Prop := dualProductsUptoRow.holds Try.pinned (OpenSpec.upto dualProductsSpec)

/-- 'backstitchlaw02.DualHorner', WHERE WHAT IT READS IS OF BULK AT MOST 1048576: true; the input reads as it did. -/
def dualHornerUptoRow : OpenClaim := { program := "ytkgcipgnpknbdaa", sum := "69f2d8aa630a91bebe2965bcb8d6514113ea71e84cce41713fa2fb1ce663cb8a", func := "backstitch/backstitchlaw02.DualHorner", spec := "dualHorner", apart := false, narrowed := true }
def DualHornerUptoSaid : Prop := dualHornerUptoRow.holds Try.pinned (OpenSpec.upto dualHornerSpec)

/-- 'backstitchlaw02.DualSums', WHERE WHAT IT READS IS OF BULK AT MOST 1048576: true; the input reads as it did. -/
def dualSumsUptoRow : OpenClaim := { program := "ytkgcipgnpknbdaa", sum := "69f2d8aa630a91bebe2965bcb8d6514113ea71e84cce41713fa2fb1ce663cb8a", func := "backstitch/backstitchlaw02.DualSums", spec := "dualSums", apart := false, narrowed := true }
def DualSumsUptoSaid : Prop := dualSumsUptoRow.holds Try.pinned (OpenSpec.upto dualSumsSpec)

/-- 'backstitchlaw02.DualFormal', WHERE WHAT IT READS IS OF BULK AT MOST 1048576: true; the input reads as it did. -/
def dualFormalUptoRow : OpenClaim := { program := "ytkgcipgnpknbdaa", sum := "69f2d8aa630a91bebe2965bcb8d6514113ea71e84cce41713fa2fb1ce663cb8a", func := "backstitch/backstitchlaw02.DualFormal", spec := "dualFormal", apart := false, narrowed := true }
def DualFormalUptoSaid : Prop := dualFormalUptoRow.holds Try.pinned (OpenSpec.upto dualFormalSpec)

/-- 'backstitchlaw02.DualRules', WHERE WHAT IT READS IS OF BULK AT MOST 1048576: true; the input reads as it did. -/
def dualRulesUptoRow : OpenClaim := { program := "ytkgcipgnpknbdaa", sum := "69f2d8aa630a91bebe2965bcb8d6514113ea71e84cce41713fa2fb1ce663cb8a", func := "backstitch/backstitchlaw02.DualRules", spec := "dualRules", apart := false, narrowed := true }
def DualRulesUptoSaid : Prop := dualRulesUptoRow.holds Try.pinned (OpenSpec.upto dualRulesSpec)

end Rows
end Go.Proofs.Ytkgcipgnpknbdaa
