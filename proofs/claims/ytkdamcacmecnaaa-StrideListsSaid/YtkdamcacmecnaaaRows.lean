/-
  No cell of these rows narrows 'for every input' (looked for: loops, veiled, ifaces, maps, wideKeys, modest, calm, conditions, laid).
  DERIVED. THE GIVEN ROWS OF THIS SEAT. 9 by the template 'for every input the law returns true; each argument reads behind the call as it read before'; 0 by the template 'total and deterministic' (their statements: YtkdamcacmecnaaaTotals.lean).
  GIVEN WITH THE SEED: the statements are not yours to turn. If you find one false, say at which input.
  Laid BY PROGRAM, IN A SANDBOX (cutbox-rows.mjs): the forced cells as the released guide's own fill.sh prints them over the translation 4ae381cb24ebc3ad… (all of the seat's roots in one cut). By AI agents, Wed Nov 11 2026. No macro, syntax, notation, axiom, sorry.
-/
import Derived.Test.YtkdamcacmecnaaaChecked
import GoSem.Claim
import GoSem.ClaimJoined
import GoSem.ClaimMapViews
import Derived.JoinedTies
import Derived.KernelRfl
namespace Go.Proofs.Ytkdamcacmecnaaa
/- THE CELL 'sum', in the pinned program and in every row, IS THE sha256 OF THE DUMP (.gsa) THAT YtkdamcacmecnaaaProg.lean LOADS. Nothing in Lean hashes anything: it is a label: what it is worth is what the hold of that sum in a sandbox is worth. -/
noncomputable def Try.pinned : Pinned := { name := "ytkdamcacmecnaaa", sum := "4ae381cb24ebc3ad7f603edf0e0ce1f0f7767ff0445d927019732c8793ccdc46", checked := Try.checked }
namespace Rows
def none {H : Type} : Left H := { results := [], args := [] }

/-- 'backstitchlaw32.ProfileWords': WHATEVER THE INPUT: true; the input reads as it did. -/
def profileWordsSpec : ChangeSpec := { name := "profileWords", fn := fun _ => fun
  | [d1, d2, d3, d4] => { results := [.lit (.bool true)], args := [d1, d2, d3, d4] }
  | _ => none }
def profileWordsRow : OpenClaim := { program := "ytkdamcacmecnaaa", sum := "4ae381cb24ebc3ad7f603edf0e0ce1f0f7767ff0445d927019732c8793ccdc46", func := "backstitch/backstitchlaw32.ProfileWords", spec := "profileWords", unfollowed := true, recurses := true, apart := false }
def ProfileWordsSaid : Prop := profileWordsRow.holds Try.pinned (OpenSpec.ofChange profileWordsSpec)

/-- ITS FALSE NEIGHBOUR: 'it returns false'. Refute it at one input. -/
def profileWordsWrong : ChangeSpec := { name := "profileWords", fn := fun _ => fun
  | [d1, d2, d3, d4] => { results := [.lit (.bool false)], args := [d1, d2, d3, d4] }
  | _ => none }
def ProfileWordsWrongFalsely : Prop := profileWordsRow.holds Try.pinned (OpenSpec.ofChange profileWordsWrong)

/-- 'backstitchlaw32.ProfileTells': WHATEVER THE INPUT: true; the input reads as it did. -/
def profileTellsSpec : ChangeSpec := { name := "profileTells", fn := fun _ => fun
  | [d1, d2, d3] => { results := [.lit (.bool true)], args := [d1, d2, d3] }
  | _ => none }
def profileTellsRow : OpenClaim := { program := "ytkdamcacmecnaaa", sum := "4ae381cb24ebc3ad7f603edf0e0ce1f0f7767ff0445d927019732c8793ccdc46", func := "backstitch/backstitchlaw32.ProfileTells", spec := "profileTells", unfollowed := true, recurses := true, apart := false }
def ProfileTellsSaid : Prop := profileTellsRow.holds Try.pinned (OpenSpec.ofChange profileTellsSpec)

/-- ITS FALSE NEIGHBOUR: 'it returns false'. Refute it at one input. -/
def profileTellsWrong : ChangeSpec := { name := "profileTells", fn := fun _ => fun
  | [d1, d2, d3] => { results := [.lit (.bool false)], args := [d1, d2, d3] }
  | _ => none }
def ProfileTellsWrongFalsely : Prop := profileTellsRow.holds Try.pinned (OpenSpec.ofChange profileTellsWrong)

/-- 'backstitchlaw32.ProfileSums': WHATEVER THE INPUT: true; the input reads as it did. -/
def profileSumsSpec : ChangeSpec := { name := "profileSums", fn := fun _ => fun
  | [d1, d2, d3, d4] => { results := [.lit (.bool true)], args := [d1, d2, d3, d4] }
  | _ => none }
def profileSumsRow : OpenClaim := { program := "ytkdamcacmecnaaa", sum := "4ae381cb24ebc3ad7f603edf0e0ce1f0f7767ff0445d927019732c8793ccdc46", func := "backstitch/backstitchlaw32.ProfileSums", spec := "profileSums", unfollowed := true, recurses := true, apart := false }
def ProfileSumsSaid : Prop := profileSumsRow.holds Try.pinned (OpenSpec.ofChange profileSumsSpec)

/-- ITS FALSE NEIGHBOUR: 'it returns false'. Refute it at one input. -/
def profileSumsWrong : ChangeSpec := { name := "profileSums", fn := fun _ => fun
  | [d1, d2, d3, d4] => { results := [.lit (.bool false)], args := [d1, d2, d3, d4] }
  | _ => none }
def ProfileSumsWrongFalsely : Prop := profileSumsRow.holds Try.pinned (OpenSpec.ofChange profileSumsWrong)

/-- 'backstitchlaw31.StrideTells': WHATEVER THE INPUT: true; the input reads as it did. -/
def strideTellsSpec : ChangeSpec := { name := "strideTells", fn := fun _ => fun
  | [d1, d2] => { results := [.lit (.bool true)], args := [d1, d2] }
  | _ => none }
def strideTellsRow : OpenClaim := { program := "ytkdamcacmecnaaa", sum := "4ae381cb24ebc3ad7f603edf0e0ce1f0f7767ff0445d927019732c8793ccdc46", func := "backstitch/backstitchlaw31.StrideTells", spec := "strideTells", unfollowed := true, recurses := true, apart := false }
def StrideTellsSaid : Prop := strideTellsRow.holds Try.pinned (OpenSpec.ofChange strideTellsSpec)

/-- ITS FALSE NEIGHBOUR: 'it returns false'. Refute it at one input. -/
def strideTellsWrong : ChangeSpec := { name := "strideTells", fn := fun _ => fun
  | [d1, d2] => { results := [.lit (.bool false)], args := [d1, d2] }
  | _ => none }
def StrideTellsWrongFalsely : Prop := strideTellsRow.holds Try.pinned (OpenSpec.ofChange strideTellsWrong)

/-- 'backstitchlaw31.StrideNext': WHATEVER THE INPUT: true; the input reads as it did. -/
def strideNextSpec : ChangeSpec := { name := "strideNext", fn := fun _ => fun
  | [d1, d2, d3] => { results := [.lit (.bool true)], args := [d1, d2, d3] }
  | _ => none }
def strideNextRow : OpenClaim := { program := "ytkdamcacmecnaaa", sum := "4ae381cb24ebc3ad7f603edf0e0ce1f0f7767ff0445d927019732c8793ccdc46", func := "backstitch/backstitchlaw31.StrideNext", spec := "strideNext", unfollowed := true, recurses := true, apart := false }
def StrideNextSaid : Prop := strideNextRow.holds Try.pinned (OpenSpec.ofChange strideNextSpec)

/-- ITS FALSE NEIGHBOUR: 'it returns false'. Refute it at one input. -/
def strideNextWrong : ChangeSpec := { name := "strideNext", fn := fun _ => fun
  | [d1, d2, d3] => { results := [.lit (.bool false)], args := [d1, d2, d3] }
  | _ => none }
def StrideNextWrongFalsely : Prop := strideNextRow.holds Try.pinned (OpenSpec.ofChange strideNextWrong)

/-- 'backstitchlaw31.StrideHolds': WHATEVER THE INPUT: true; the input reads as it did. -/
def strideHoldsSpec : ChangeSpec := { name := "strideHolds", fn := fun _ => fun
  | [d1, d2] => { results := [.lit (.bool true)], args := [d1, d2] }
  | _ => none }
def strideHoldsRow : OpenClaim := { program := "ytkdamcacmecnaaa", sum := "4ae381cb24ebc3ad7f603edf0e0ce1f0f7767ff0445d927019732c8793ccdc46", func := "backstitch/backstitchlaw31.StrideHolds", spec := "strideHolds", unfollowed := true, recurses := true, apart := false }
def StrideHoldsSaid : Prop := strideHoldsRow.holds Try.pinned (OpenSpec.ofChange strideHoldsSpec)

/-- ITS FALSE NEIGHBOUR: 'it returns false'. Refute it at one input. -/
def strideHoldsWrong : ChangeSpec := { name := "strideHolds", fn := fun _ => fun
  | [d1, d2] => { results := [.lit (.bool false)], args := [d1, d2] }
  | _ => none }
def StrideHoldsWrongFalsely : Prop := strideHoldsRow.holds Try.pinned (OpenSpec.ofChange strideHoldsWrong)

/-- 'backstitchlaw31.StrideLists': WHATEVER THE INPUT: true; the input reads as it did. -/
def strideListsSpec : ChangeSpec := { name := "strideLists", fn := fun _ => fun
  | [d1, d2] => { results := [.lit (.bool true)], args := [d1, d2] }
  | _ => none }
def strideListsRow : OpenClaim := { program := "ytkdamcacmecnaaa", sum := "4ae381cb24ebc3ad7f603edf0e0ce1f0f7767ff0445d927019732c8793ccdc46", func := "backstitch/backstitchlaw31.StrideLists", spec := "strideLists", unfollowed := true, recurses := true, apart := false }
def StrideListsSaid : Prop := strideListsRow.holds Try.pinned (OpenSpec.ofChange strideListsSpec)

/-- ITS FALSE NEIGHBOUR: 'it returns false'. Refute it at one input. -/
def strideListsWrong : ChangeSpec := { name := "strideLists", fn := fun _ => fun
  | [d1, d2] => { results := [.lit (.bool false)], args := [d1, d2] }
  | _ => none }
def StrideListsWrongFalsely : Prop := strideListsRow.holds Try.pinned (OpenSpec.ofChange strideListsWrong)

/-- 'backstitchlaw31.StrideAhead': WHATEVER THE INPUT: true; the input reads as it did. -/
def strideAheadSpec : ChangeSpec := { name := "strideAhead", fn := fun _ => fun
  | [d1, d2, d3] => { results := [.lit (.bool true)], args := [d1, d2, d3] }
  | _ => none }
def strideAheadRow : OpenClaim := { program := "ytkdamcacmecnaaa", sum := "4ae381cb24ebc3ad7f603edf0e0ce1f0f7767ff0445d927019732c8793ccdc46", func := "backstitch/backstitchlaw31.StrideAhead", spec := "strideAhead", unfollowed := true, recurses := true, apart := false }
def StrideAheadSaid : Prop := strideAheadRow.holds Try.pinned (OpenSpec.ofChange strideAheadSpec)

/-- ITS FALSE NEIGHBOUR: 'it returns false'. Refute it at one input. -/
def strideAheadWrong : ChangeSpec := { name := "strideAhead", fn := fun _ => fun
  | [d1, d2, d3] => { results := [.lit (.bool false)], args := [d1, d2, d3] }
  | _ => none }
def StrideAheadWrongFalsely : Prop := strideAheadRow.holds Try.pinned (OpenSpec.ofChange strideAheadWrong)

/-- 'backstitchlaw31.StrideComplete': WHATEVER THE INPUT: true; the input reads as it did. -/
def strideCompleteSpec : ChangeSpec := { name := "strideComplete", fn := fun _ => fun
  | [d1, d2] => { results := [.lit (.bool true)], args := [d1, d2] }
  | _ => none }
def strideCompleteRow : OpenClaim := { program := "ytkdamcacmecnaaa", sum := "4ae381cb24ebc3ad7f603edf0e0ce1f0f7767ff0445d927019732c8793ccdc46", func := "backstitch/backstitchlaw31.StrideComplete", spec := "strideComplete", unfollowed := true, recurses := true, apart := false }
def StrideCompleteSaid : Prop := strideCompleteRow.holds Try.pinned (OpenSpec.ofChange strideCompleteSpec)

/-- ITS FALSE NEIGHBOUR: 'it returns false'. Refute it at one input. -/
def strideCompleteWrong : ChangeSpec := { name := "strideComplete", fn := fun _ => fun
  | [d1, d2] => { results := [.lit (.bool false)], args := [d1, d2] }
  | _ => none }
def StrideCompleteWrongFalsely : Prop := strideCompleteRow.holds Try.pinned (OpenSpec.ofChange strideCompleteWrong)

/- THE SECOND FORM. 'bulk': how many values and letters a reading holds, each counted each time it is reached (what is shared counts as often as it is met; a slice's spare places count too). A statement '..UptoSaid' is the law's where the arguments, and the package variables that the reading takes, are together of bulk at most 1048576: NARROWER than '..Said'. Prove '..Said' where nothing that the law and all that it calls make is longer than what came in: it says more and counts as full. Else prove '..UptoSaid'. A law counts once. -/
mutual
def uptoBulk {H : Type} : DataW H → Nat
  | .lit (.string bytes) => bytes.length + 1
  | .lit _ => 1
  | .nil => 1
  | .ptr d => uptoBulk d + 1
  | .slice elems spare => uptoBulkAll elems + uptoBulkAll spare + 1
  | .agg parts => uptoBulkAll parts + 1
  | .iface _ d => uptoBulk d + 1
  | .map entries => uptoBulkEntries entries + 1
  | .held _ => 1
def uptoBulkAll {H : Type} : List (DataW H) → Nat
  | [] => 0
  | d :: r => uptoBulk d + uptoBulkAll r
def uptoBulkEntries {H : Type} : List (Lit × DataW H) → Nat
  | [] => 0
  | x :: r => uptoBulkEntry x + uptoBulkEntries r
def uptoBulkEntry {H : Type} : Lit × DataW H → Nat
  | (.string bytes, d) => bytes.length + uptoBulk d + 1
  | (_, d) => uptoBulk d + 1
 end
def uptoSmall : (H : Type) → List (DataW H) → Bool := fun _ ds => decide (uptoBulkAll ds ≤ 1048576)
def OpenSpec.upto (s : _root_.Go.ChangeSpec) : _root_.Go.OpenSpec := { _root_.Go.OpenSpec.ofChange s with cond := some uptoSmall }

/-- 'backstitchlaw32.ProfileWords', WHERE WHAT IT READS IS OF BULK AT MOST 1048576: true; the input reads as it did. -/
def profileWordsUptoRow : OpenClaim := { program := "ytkdamcacmecnaaa", sum := "4ae381cb24ebc3ad7f603edf0e0ce1f0f7767ff0445d927019732c8793ccdc46", func := "backstitch/backstitchlaw32.ProfileWords", spec := "profileWords", unfollowed := true, recurses := true, apart := false, narrowed := true }
def ProfileWordsUptoSaid : Prop := profileWordsUptoRow.holds Try.pinned (OpenSpec.upto profileWordsSpec)

/-- 'backstitchlaw32.ProfileTells', WHERE WHAT IT READS IS OF BULK AT MOST 1048576: true; the input reads as it did. -/
def profileTellsUptoRow : OpenClaim := { program := "ytkdamcacmecnaaa", sum := "4ae381cb24ebc3ad7f603edf0e0ce1f0f7767ff0445d927019732c8793ccdc46", func := "backstitch/backstitchlaw32.ProfileTells", spec := "profileTells", unfollowed := true, recurses := true, apart := false, narrowed := true }
def ProfileTellsUptoSaid : Prop := profileTellsUptoRow.holds Try.pinned (OpenSpec.upto profileTellsSpec)

/-- 'backstitchlaw32.ProfileSums', WHERE WHAT IT READS IS OF BULK AT MOST 1048576: true; the input reads as it did. -/
def profileSumsUptoRow : OpenClaim := { program := "ytkdamcacmecnaaa", sum := "4ae381cb24ebc3ad7f603edf0e0ce1f0f7767ff0445d927019732c8793ccdc46", func := "backstitch/backstitchlaw32.ProfileSums", spec := "profileSums", unfollowed := true, recurses := true, apart := false, narrowed := true }
def ProfileSumsUptoSaid : Prop := profileSumsUptoRow.holds Try.pinned (OpenSpec.upto profileSumsSpec)

/-- 'backstitchlaw31.StrideTells', WHERE WHAT IT READS IS OF BULK AT MOST 1048576: true; the input reads as it did. -/
def strideTellsUptoRow : OpenClaim := { program := "ytkdamcacmecnaaa", sum := "4ae381cb24ebc3ad7f603edf0e0ce1f0f7767ff0445d927019732c8793ccdc46", func := "backstitch/backstitchlaw31.StrideTells", spec := "strideTells", unfollowed := true, recurses := true, apart := false, narrowed := true }
def StrideTellsUptoSaid : Prop := strideTellsUptoRow.holds Try.pinned (OpenSpec.upto strideTellsSpec)

/-- 'backstitchlaw31.StrideNext', WHERE WHAT IT READS IS OF BULK AT MOST 1048576: true; the input reads as it did. -/
def strideNextUptoRow : OpenClaim := { program := "ytkdamcacmecnaaa", sum := "4ae381cb24ebc3ad7f603edf0e0ce1f0f7767ff0445d927019732c8793ccdc46", func := "backstitch/backstitchlaw31.StrideNext", spec := "strideNext", unfollowed := true, recurses := true, apart := false, narrowed := true }
def StrideNextUptoSaid : Prop := strideNextUptoRow.holds Try.pinned (OpenSpec.upto strideNextSpec)

/-- 'backstitchlaw31.StrideHolds', WHERE WHAT IT READS IS OF BULK AT MOST 1048576: true; the input reads as it did. -/
def strideHoldsUptoRow : OpenClaim := { program := "ytkdamcacmecnaaa", sum := "4ae381cb24ebc3ad7f603edf0e0ce1f0f7767ff0445d927019732c8793ccdc46", func := "backstitch/backstitchlaw31.StrideHolds", spec := "strideHolds", unfollowed := true, recurses := true, apart := false, narrowed := true }
def StrideHoldsUptoSaid : Prop := strideHoldsUptoRow.holds Try.pinned (OpenSpec.upto strideHoldsSpec)

/-- 'backstitchlaw31.StrideLists', WHERE WHAT IT READS IS OF BULK AT MOST 1048576: true; the input reads as it did. -/
def strideListsUptoRow : OpenClaim := { program := "ytkdamcacmecnaaa", sum := "4ae381cb24ebc3ad7f603edf0e0ce1f0f7767ff0445d927019732c8793ccdc46", func := "backstitch/backstitchlaw31.StrideLists", spec := "strideLists", unfollowed := true, recurses := true, apart := false, narrowed := true }
def StrideListsUptoSaid : Prop := strideListsUptoRow.holds Try.pinned (OpenSpec.upto strideListsSpec)

/-- 'backstitchlaw31.StrideAhead', WHERE WHAT IT READS IS OF BULK AT MOST 1048576: true; the input reads as it did. -/
def strideAheadUptoRow : OpenClaim := { program := "ytkdamcacmecnaaa", sum := "4ae381cb24ebc3ad7f603edf0e0ce1f0f7767ff0445d927019732c8793ccdc46", func := "backstitch/backstitchlaw31.StrideAhead", spec := "strideAhead", unfollowed := true, recurses := true, apart := false, narrowed := true }
def StrideAheadUptoSaid : Prop := strideAheadUptoRow.holds Try.pinned (OpenSpec.upto strideAheadSpec)

/-- 'backstitchlaw31.StrideComplete', WHERE WHAT IT READS IS OF BULK AT MOST 1048576: true; the input reads as it did. -/
def strideCompleteUptoRow : OpenClaim := { program := "ytkdamcacmecnaaa", sum := "4ae381cb24ebc3ad7f603edf0e0ce1f0f7767ff0445d927019732c8793ccdc46", func := "backstitch/backstitchlaw31.StrideComplete", spec := "strideComplete", unfollowed := true, recurses := true, apart := false, narrowed := true }
def StrideCompleteUptoSaid : Prop := strideCompleteUptoRow.holds Try.pinned (OpenSpec.upto strideCompleteSpec)

end Rows
end Go.Proofs.Ytkdamcacmecnaaa
