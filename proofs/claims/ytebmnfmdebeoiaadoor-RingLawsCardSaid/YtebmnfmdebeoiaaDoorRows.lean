/-
  NARROWER THAN 'FOR EVERY INPUT', by the rows' own cells (each row's printed sentence says how): RingPowers: laid · RingSums: laid · RingProducts: laid · RingInverse: laid · RingVanishes: laid · RingAdds: laid · RingLaws: laid · RingRows: laid · RingDots: laid.
  DERIVED. THE GIVEN ROWS OF THIS SEAT. 9 by the template 'for every input the law returns true; each argument reads behind the call as it read before'; 0 by the template 'total and deterministic' (their statements: YtebmnfmdebeoiaaDoorTotals.lean).
  GIVEN WITH THE SEED: the statements are not yours to turn. If you find one false, say at which input.
  Laid BY PROGRAM, IN A SANDBOX (cutbox-rows.mjs): the forced cells as the released guide's own fill.sh prints them over the translation d9fa135b8130255e… (all of the seat's roots in one cut). By AI agents, Wed Nov 11 2026. No macro, syntax, notation, axiom, sorry.
-/
import Derived.Test.YtebmnfmdebeoiaaDoorChecked
import GoSem.Claim
import GoSem.ClaimJoined
import GoSem.ClaimMapViews
import Derived.JoinedTies
import Derived.KernelRfl
namespace Go.Proofs.YtebmnfmdebeoiaaDoor
/- THE CELL 'sum', in the pinned program and in every row, IS THE sha256 OF THE DUMP (.gsa) THAT YtebmnfmdebeoiaaDoorProg.lean LOADS. Nothing in Lean hashes anything: it is a label: what it is worth is what the hold of that sum in a sandbox is worth. -/
noncomputable def Tryd.pinned : Pinned := { name := "ytebmnfmdebeoiaadoor", sum := "d9fa135b8130255e25d1d082cbeb69f195eb8089ca6453dd75ad0aef6abdcac1", checked := Tryd.checked }
namespace Rows
def none {H : Type} : Left H := { results := [], args := [] }

/- WHAT THE LISTED PACKAGE-LEVEL VARIABLES READ AS WHEN THE CALL BEGINS. Each datum BY PROGRAM (the guide's laid-datum.mjs) off the statement by which the dump's own 'gosem.cut.vars' lays the variable. In a bare row this is a premise. The card (YtebmnfmdebeoiaaDoorCards.lean) ties it to the program's text. -/
def laid_math_bits_deBruijn64tab {H : Type} : DataW H := .agg [.lit (.int .u8 0), .lit (.int .u8 1), .lit (.int .u8 56), .lit (.int .u8 2), .lit (.int .u8 57), .lit (.int .u8 49), .lit (.int .u8 28), .lit (.int .u8 3), .lit (.int .u8 61), .lit (.int .u8 58), .lit (.int .u8 42), .lit (.int .u8 50), .lit (.int .u8 38), .lit (.int .u8 29), .lit (.int .u8 17), .lit (.int .u8 4), .lit (.int .u8 62), .lit (.int .u8 47), .lit (.int .u8 59), .lit (.int .u8 36), .lit (.int .u8 45), .lit (.int .u8 43), .lit (.int .u8 51), .lit (.int .u8 22), .lit (.int .u8 53), .lit (.int .u8 39), .lit (.int .u8 33), .lit (.int .u8 30), .lit (.int .u8 24), .lit (.int .u8 18), .lit (.int .u8 12), .lit (.int .u8 5), .lit (.int .u8 63), .lit (.int .u8 55), .lit (.int .u8 48), .lit (.int .u8 27), .lit (.int .u8 60), .lit (.int .u8 41), .lit (.int .u8 37), .lit (.int .u8 16), .lit (.int .u8 46), .lit (.int .u8 35), .lit (.int .u8 44), .lit (.int .u8 21), .lit (.int .u8 52), .lit (.int .u8 32), .lit (.int .u8 23), .lit (.int .u8 11), .lit (.int .u8 54), .lit (.int .u8 26), .lit (.int .u8 40), .lit (.int .u8 15), .lit (.int .u8 34), .lit (.int .u8 20), .lit (.int .u8 31), .lit (.int .u8 10), .lit (.int .u8 25), .lit (.int .u8 14), .lit (.int .u8 19), .lit (.int .u8 9), .lit (.int .u8 13), .lit (.int .u8 8), .lit (.int .u8 7), .lit (.int .u8 6)]

/-- 'backstitchlaw01.RingPowers': WHATEVER THE INPUT: true; the input reads as it did. -/
def ringPowersSpec : ChangeSpec := { name := "ringPowers", fn := fun _ => fun
  | [d1, d2] => { results := [.lit (.bool true)], args := [d1, d2] }
  | _ => none }
def ringPowersRow : OpenClaim := { program := "ytebmnfmdebeoiaadoor", sum := "d9fa135b8130255e25d1d082cbeb69f195eb8089ca6453dd75ad0aef6abdcac1", func := "backstitch/backstitchlaw01.RingPowers", spec := "ringPowers", recurses := true, named := ["math/bits.deBruijn64tab"], apart := false, laid := [("math/bits.deBruijn64tab", laid_math_bits_deBruijn64tab)] }
def RingPowersSaid : Prop := ringPowersRow.holds Tryd.pinned (OpenSpec.ofChange ringPowersSpec)

/-- ITS FALSE NEIGHBOUR: 'it returns false'. Refute it at one input. -/
def ringPowersWrong : ChangeSpec := { name := "ringPowers", fn := fun _ => fun
  | [d1, d2] => { results := [.lit (.bool false)], args := [d1, d2] }
  | _ => none }
def RingPowersWrongFalsely : Prop := ringPowersRow.holds Tryd.pinned (OpenSpec.ofChange ringPowersWrong)

/-- 'backstitchlaw01.RingSums': WHATEVER THE INPUT: true; the input reads as it did. -/
def ringSumsSpec : ChangeSpec := { name := "ringSums", fn := fun _ => fun
  | [d1, d2, d3] => { results := [.lit (.bool true)], args := [d1, d2, d3] }
  | _ => none }
def ringSumsRow : OpenClaim := { program := "ytebmnfmdebeoiaadoor", sum := "d9fa135b8130255e25d1d082cbeb69f195eb8089ca6453dd75ad0aef6abdcac1", func := "backstitch/backstitchlaw01.RingSums", spec := "ringSums", named := ["math/bits.deBruijn64tab"], apart := false, laid := [("math/bits.deBruijn64tab", laid_math_bits_deBruijn64tab)] }
def RingSumsSaid : Prop := ringSumsRow.holds Tryd.pinned (OpenSpec.ofChange ringSumsSpec)

/-- ITS FALSE NEIGHBOUR: 'it returns false'. Refute it at one input. -/
def ringSumsWrong : ChangeSpec := { name := "ringSums", fn := fun _ => fun
  | [d1, d2, d3] => { results := [.lit (.bool false)], args := [d1, d2, d3] }
  | _ => none }
def RingSumsWrongFalsely : Prop := ringSumsRow.holds Tryd.pinned (OpenSpec.ofChange ringSumsWrong)

/-- 'backstitchlaw01.RingProducts': WHATEVER THE INPUT: true; the input reads as it did. -/
def ringProductsSpec : ChangeSpec := { name := "ringProducts", fn := fun _ => fun
  | [d] => { results := [.lit (.bool true)], args := [d] }
  | _ => none }
def ringProductsRow : OpenClaim := { program := "ytebmnfmdebeoiaadoor", sum := "d9fa135b8130255e25d1d082cbeb69f195eb8089ca6453dd75ad0aef6abdcac1", func := "backstitch/backstitchlaw01.RingProducts", spec := "ringProducts", named := ["math/bits.deBruijn64tab"], apart := false, laid := [("math/bits.deBruijn64tab", laid_math_bits_deBruijn64tab)] }
def RingProductsSaid : Prop := ringProductsRow.holds Tryd.pinned (OpenSpec.ofChange ringProductsSpec)

/-- ITS FALSE NEIGHBOUR: 'it returns false'. Refute it at one input. -/
def ringProductsWrong : ChangeSpec := { name := "ringProducts", fn := fun _ => fun
  | [d] => { results := [.lit (.bool false)], args := [d] }
  | _ => none }
def RingProductsWrongFalsely : Prop := ringProductsRow.holds Tryd.pinned (OpenSpec.ofChange ringProductsWrong)

/-- 'backstitchlaw01.RingInverse': WHATEVER THE INPUT: true; the input reads as it did. -/
def ringInverseSpec : ChangeSpec := { name := "ringInverse", fn := fun _ => fun
  | [d] => { results := [.lit (.bool true)], args := [d] }
  | _ => none }
def ringInverseRow : OpenClaim := { program := "ytebmnfmdebeoiaadoor", sum := "d9fa135b8130255e25d1d082cbeb69f195eb8089ca6453dd75ad0aef6abdcac1", func := "backstitch/backstitchlaw01.RingInverse", spec := "ringInverse", named := ["math/bits.deBruijn64tab"], apart := false, laid := [("math/bits.deBruijn64tab", laid_math_bits_deBruijn64tab)] }
def RingInverseSaid : Prop := ringInverseRow.holds Tryd.pinned (OpenSpec.ofChange ringInverseSpec)

/-- ITS FALSE NEIGHBOUR: 'it returns false'. Refute it at one input. -/
def ringInverseWrong : ChangeSpec := { name := "ringInverse", fn := fun _ => fun
  | [d] => { results := [.lit (.bool false)], args := [d] }
  | _ => none }
def RingInverseWrongFalsely : Prop := ringInverseRow.holds Tryd.pinned (OpenSpec.ofChange ringInverseWrong)

/-- 'backstitchlaw01.RingVanishes': WHATEVER THE INPUT: true; the input reads as it did. -/
def ringVanishesSpec : ChangeSpec := { name := "ringVanishes", fn := fun _ => fun
  | [d1, d2] => { results := [.lit (.bool true)], args := [d1, d2] }
  | _ => none }
def ringVanishesRow : OpenClaim := { program := "ytebmnfmdebeoiaadoor", sum := "d9fa135b8130255e25d1d082cbeb69f195eb8089ca6453dd75ad0aef6abdcac1", func := "backstitch/backstitchlaw01.RingVanishes", spec := "ringVanishes", named := ["math/bits.deBruijn64tab"], apart := false, laid := [("math/bits.deBruijn64tab", laid_math_bits_deBruijn64tab)] }
def RingVanishesSaid : Prop := ringVanishesRow.holds Tryd.pinned (OpenSpec.ofChange ringVanishesSpec)

/-- ITS FALSE NEIGHBOUR: 'it returns false'. Refute it at one input. -/
def ringVanishesWrong : ChangeSpec := { name := "ringVanishes", fn := fun _ => fun
  | [d1, d2] => { results := [.lit (.bool false)], args := [d1, d2] }
  | _ => none }
def RingVanishesWrongFalsely : Prop := ringVanishesRow.holds Tryd.pinned (OpenSpec.ofChange ringVanishesWrong)

/-- 'backstitchlaw01.RingAdds': WHATEVER THE INPUT: true; the input reads as it did. -/
def ringAddsSpec : ChangeSpec := { name := "ringAdds", fn := fun _ => fun
  | [d1, d2, d3] => { results := [.lit (.bool true)], args := [d1, d2, d3] }
  | _ => none }
def ringAddsRow : OpenClaim := { program := "ytebmnfmdebeoiaadoor", sum := "d9fa135b8130255e25d1d082cbeb69f195eb8089ca6453dd75ad0aef6abdcac1", func := "backstitch/backstitchlaw01.RingAdds", spec := "ringAdds", named := ["math/bits.deBruijn64tab"], apart := false, laid := [("math/bits.deBruijn64tab", laid_math_bits_deBruijn64tab)] }
def RingAddsSaid : Prop := ringAddsRow.holds Tryd.pinned (OpenSpec.ofChange ringAddsSpec)

/-- ITS FALSE NEIGHBOUR: 'it returns false'. Refute it at one input. -/
def ringAddsWrong : ChangeSpec := { name := "ringAdds", fn := fun _ => fun
  | [d1, d2, d3] => { results := [.lit (.bool false)], args := [d1, d2, d3] }
  | _ => none }
def RingAddsWrongFalsely : Prop := ringAddsRow.holds Tryd.pinned (OpenSpec.ofChange ringAddsWrong)

/-- 'backstitchlaw01.RingLaws': WHATEVER THE INPUT: true; the input reads as it did. -/
def ringLawsSpec : ChangeSpec := { name := "ringLaws", fn := fun _ => fun
  | [d1, d2, d3] => { results := [.lit (.bool true)], args := [d1, d2, d3] }
  | _ => none }
def ringLawsRow : OpenClaim := { program := "ytebmnfmdebeoiaadoor", sum := "d9fa135b8130255e25d1d082cbeb69f195eb8089ca6453dd75ad0aef6abdcac1", func := "backstitch/backstitchlaw01.RingLaws", spec := "ringLaws", named := ["math/bits.deBruijn64tab"], apart := false, laid := [("math/bits.deBruijn64tab", laid_math_bits_deBruijn64tab)] }
def RingLawsSaid : Prop := ringLawsRow.holds Tryd.pinned (OpenSpec.ofChange ringLawsSpec)

/-- ITS FALSE NEIGHBOUR: 'it returns false'. Refute it at one input. -/
def ringLawsWrong : ChangeSpec := { name := "ringLaws", fn := fun _ => fun
  | [d1, d2, d3] => { results := [.lit (.bool false)], args := [d1, d2, d3] }
  | _ => none }
def RingLawsWrongFalsely : Prop := ringLawsRow.holds Tryd.pinned (OpenSpec.ofChange ringLawsWrong)

/-- 'backstitchlaw01.RingRows': WHATEVER THE INPUT: true; the input reads as it did. -/
def ringRowsSpec : ChangeSpec := { name := "ringRows", fn := fun _ => fun
  | [d1, d2, d3] => { results := [.lit (.bool true)], args := [d1, d2, d3] }
  | _ => none }
def ringRowsRow : OpenClaim := { program := "ytebmnfmdebeoiaadoor", sum := "d9fa135b8130255e25d1d082cbeb69f195eb8089ca6453dd75ad0aef6abdcac1", func := "backstitch/backstitchlaw01.RingRows", spec := "ringRows", named := ["math/bits.deBruijn64tab"], apart := false, laid := [("math/bits.deBruijn64tab", laid_math_bits_deBruijn64tab)] }
def RingRowsSaid : Prop := ringRowsRow.holds Tryd.pinned (OpenSpec.ofChange ringRowsSpec)

/-- ITS FALSE NEIGHBOUR: 'it returns false'. Refute it at one input. -/
def ringRowsWrong : ChangeSpec := { name := "ringRows", fn := fun _ => fun
  | [d1, d2, d3] => { results := [.lit (.bool false)], args := [d1, d2, d3] }
  | _ => none }
def RingRowsWrongFalsely : Prop := ringRowsRow.holds Tryd.pinned (OpenSpec.ofChange ringRowsWrong)

/-- 'backstitchlaw01.RingDots': WHATEVER THE INPUT: true; the input reads as it did. -/
def ringDotsSpec : ChangeSpec := { name := "ringDots", fn := fun _ => fun
  | [d1, d2] => { results := [.lit (.bool true)], args := [d1, d2] }
  | _ => none }
def ringDotsRow : OpenClaim := { program := "ytebmnfmdebeoiaadoor", sum := "d9fa135b8130255e25d1d082cbeb69f195eb8089ca6453dd75ad0aef6abdcac1", func := "backstitch/backstitchlaw01.RingDots", spec := "ringDots", named := ["math/bits.deBruijn64tab"], apart := false, laid := [("math/bits.deBruijn64tab", laid_math_bits_deBruijn64tab)] }
def RingDotsSaid : Prop := ringDotsRow.holds Tryd.pinned (OpenSpec.ofChange ringDotsSpec)

/-- ITS FALSE NEIGHBOUR: 'it returns false'. Refute it at one input. -/
def ringDotsWrong : ChangeSpec := { name := "ringDots", fn := fun _ => fun
  | [d1, d2] => { results := [.lit (.bool false)], args := [d1, d2] }
  | _ => none }
def RingDotsWrongFalsely : Prop := ringDotsRow.holds Tryd.pinned (OpenSpec.ofChange ringDotsWrong)

/- THE SECOND FORM. 'bulk': how many values and letters a reading holds, each counted each time it is reached (what is shared counts as often as it is met; a slice's spare places count too). A statement '..UptoSaid' is the law's where the arguments, and the package variables that the reading takes, are together of bulk at most 1048576: NARROWER than '..Said'. Prove '..Said' where nothing that the law and all that it calls make is longer than what came in: it says more and counts as full. Else prove '..UptoSaid'. A law counts once. -/
mutual
def uptoBulk {H : Type} : DataW H → Nat
  | .lit (.string bytes) => bytes.length + 1
  | .lit _ => 1
  | .nil => 1
  | .ptr d => uptoBulk d + 1
  | .slice elems spare => uptoBulkAll elems + uptoBulkAll spare + 1
  | .agg parts => uptoBulkAll parts + 1
  | .iface _ d => uptoBulk d + 1
  | .map entries => uptoBulkEntries entries + 1
  | .held _ => 1
def uptoBulkAll {H : Type} : List (DataW H) → Nat
  | [] => 0
  | d :: r => uptoBulk d + uptoBulkAll r
def uptoBulkEntries {H : Type} : List (Lit × DataW H) → Nat
  | [] => 0
  | x :: r => uptoBulkEntry x + uptoBulkEntries r
def uptoBulkEntry {H : Type} : Lit × DataW H → Nat
  | (.string bytes, d) => bytes.length + uptoBulk d + 1
  | (_, d) => uptoBulk d + 1
 end
def uptoSmall : (H : Type) → List (DataW H) → Bool := fun _ ds => decide (uptoBulkAll ds ≤ 1048576)
def OpenSpec.upto (s : _root_.Go.ChangeSpec) : _root_.Go.OpenSpec := { _root_.Go.OpenSpec.ofChange s with cond := some uptoSmall }

/-- 'backstitchlaw01.RingPowers', WHERE WHAT IT READS IS OF BULK AT MOST 1048576: true; the input reads as it did. -/
def ringPowersUptoRow : OpenClaim := { program := "ytebmnfmdebeoiaadoor", sum := "d9fa135b8130255e25d1d082cbeb69f195eb8089ca6453dd75ad0aef6abdcac1", func := "backstitch/backstitchlaw01.RingPowers", spec := "ringPowers", recurses := true, named := ["math/bits.deBruijn64tab"], apart := false, laid := [("math/bits.deBruijn64tab", laid_math_bits_deBruijn64tab)], narrowed := true }
def RingPowersUptoSaid : Prop := ringPowersUptoRow.holds Tryd.pinned (OpenSpec.upto ringPowersSpec)

/-- 'backstitchlaw01.RingSums', WHERE WHAT IT READS IS OF BULK AT MOST 1048576: true; the input reads as it did. -/
def ringSumsUptoRow : OpenClaim := { program := "ytebmnfmdebeoiaadoor", sum := "d9fa135b8130255e25d1d082cbeb69f195eb8089ca6453dd75ad0aef6abdcac1", func := "backstitch/backstitchlaw01.RingSums", spec := "ringSums", named := ["math/bits.deBruijn64tab"], apart := false, laid := [("math/bits.deBruijn64tab", laid_math_bits_deBruijn64tab)], narrowed := true }
def RingSumsUptoSaid : Prop := ringSumsUptoRow.holds Tryd.pinned (OpenSpec.upto ringSumsSpec)

/-- 'backstitchlaw01.RingProducts', WHERE WHAT IT READS IS OF BULK AT MOST 1048576: true; the input reads as it did. -/
def ringProductsUptoRow : OpenClaim := { program := "ytebmnfmdebeoiaadoor", sum := "d9fa135b8130255e25d1d082cbeb69f195eb8089ca6453dd75ad0aef6abdcac1", func := "backstitch/backstitchlaw01.RingProducts", spec := "ringProducts", named := ["math/bits.deBruijn64tab"], apart := false, laid := [("math/bits.deBruijn64tab", laid_math_bits_deBruijn64tab)], narrowed := true }
def RingProductsUptoSaid : Prop := ringProductsUptoRow.holds Tryd.pinned (OpenSpec.upto ringProductsSpec)

/-- 'backstitchlaw01.RingInverse', WHERE WHAT IT READS IS OF BULK AT MOST 1048576: true; the input reads as it did. -/
def ringInverseUptoRow : OpenClaim := { program := "ytebmnfmdebeoiaadoor", sum := "d9fa135b8130255e25d1d082cbeb69f195eb8089ca6453dd75ad0aef6abdcac1", func := "backstitch/backstitchlaw01.RingInverse", spec := "ringInverse", named := ["math/bits.deBruijn64tab"], apart := false, laid := [("math/bits.deBruijn64tab", laid_math_bits_deBruijn64tab)], narrowed := true }
def RingInverseUptoSaid : Prop := ringInverseUptoRow.holds Tryd.pinned (OpenSpec.upto ringInverseSpec)

/-- 'backstitchlaw01.RingVanishes', WHERE WHAT IT READS IS OF BULK AT MOST 1048576: true; the input reads as it did. -/
def ringVanishesUptoRow : OpenClaim := { program := "ytebmnfmdebeoiaadoor", sum := "d9fa135b8130255e25d1d082cbeb69f195eb8089ca6453dd75ad0aef6abdcac1", func := "backstitch/backstitchlaw01.RingVanishes", spec := "ringVanishes", named := ["math/bits.deBruijn64tab"], apart := false, laid := [("math/bits.deBruijn64tab", laid_math_bits_deBruijn64tab)], narrowed := true }
def RingVanishesUptoSaid : Prop := ringVanishesUptoRow.holds Tryd.pinned (OpenSpec.upto ringVanishesSpec)

/-- 'backstitchlaw01.RingAdds', WHERE WHAT IT READS IS OF BULK AT MOST 1048576: true; the input reads as it did. -/
def ringAddsUptoRow : OpenClaim := { program := "ytebmnfmdebeoiaadoor", sum := "d9fa135b8130255e25d1d082cbeb69f195eb8089ca6453dd75ad0aef6abdcac1", func := "backstitch/backstitchlaw01.RingAdds", spec := "ringAdds", named := ["math/bits.deBruijn64tab"], apart := false, laid := [("math/bits.deBruijn64tab", laid_math_bits_deBruijn64tab)], narrowed := true }
def RingAddsUptoSaid : Prop := ringAddsUptoRow.holds Tryd.pinned (OpenSpec.upto ringAddsSpec)

/-- 'backstitchlaw01.RingLaws', WHERE WHAT IT READS IS OF BULK AT MOST 1048576: true; the input reads as it did. -/
def ringLawsUptoRow : OpenClaim := { program := "ytebmnfmdebeoiaadoor", sum := "d9fa135b8130255e25d1d082cbeb69f195eb8089ca6453dd75ad0aef6abdcac1", func := "backstitch/backstitchlaw01.RingLaws", spec := "ringLaws", named := ["math/bits.deBruijn64tab"], apart := false, laid := [("math/bits.deBruijn64tab", laid_math_bits_deBruijn64tab)], narrowed := true }
def RingLawsUptoSaid : Prop := ringLawsUptoRow.holds Tryd.pinned (OpenSpec.upto ringLawsSpec)

/-- 'backstitchlaw01.RingRows', WHERE WHAT IT READS IS OF BULK AT MOST 1048576: true; the input reads as it did. -/
def ringRowsUptoRow : OpenClaim := { program := "ytebmnfmdebeoiaadoor", sum := "d9fa135b8130255e25d1d082cbeb69f195eb8089ca6453dd75ad0aef6abdcac1", func := "backstitch/backstitchlaw01.RingRows", spec := "ringRows", named := ["math/bits.deBruijn64tab"], apart := false, laid := [("math/bits.deBruijn64tab", laid_math_bits_deBruijn64tab)], narrowed := true }
def RingRowsUptoSaid : Prop := ringRowsUptoRow.holds Tryd.pinned (OpenSpec.upto ringRowsSpec)

/-- 'backstitchlaw01.RingDots', WHERE WHAT IT READS IS OF BULK AT MOST 1048576: true; the input reads as it did. -/
def ringDotsUptoRow : OpenClaim := { program := "ytebmnfmdebeoiaadoor", sum := "d9fa135b8130255e25d1d082cbeb69f195eb8089ca6453dd75ad0aef6abdcac1", func := "backstitch/backstitchlaw01.RingDots", spec := "ringDots", named := ["math/bits.deBruijn64tab"], apart := false, laid := [("math/bits.deBruijn64tab", laid_math_bits_deBruijn64tab)], narrowed := true }
def RingDotsUptoSaid : Prop := ringDotsUptoRow.holds Tryd.pinned (OpenSpec.upto ringDotsSpec)

end Rows
end Go.Proofs.YtebmnfmdebeoiaaDoor
