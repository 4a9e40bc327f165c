/-
  DERIVED. GIVEN WITH THE SEED: THE CARDS: each row of YtebmnfmdebeoiaaDoorRows.lean that lists a variable, with what it lists TIED to the program's text (the seventh form; the later family's looks); each row that meets fmt, with fmt's text TOLD by the authors' own Lean function (tested against real Go, not proved from fmt's source: count such statements apart). THE CARD IS WHAT COUNTS. Prove the row's statement (the work); the ties are given (YtebmnfmdebeoiaaDoorTie.lean); close each card by the builder's one call (the guide's Derived/Test/ToyasCard.lean, 'card_holds'). Laid BY PROGRAM, IN A SANDBOX (cutbox-door.mjs). By AI agents, Wed Nov 11 2026. No macro, syntax, notation, axiom, sorry.
-/
import Derived.Test.YtebmnfmdebeoiaaDoorRows
import GoSem.ClaimSeven
namespace Go.Proofs.YtebmnfmdebeoiaaDoor
namespace Rows

/-- THE TIED CARD OF 'backstitchlaw01.RingPowers'. -/
def ringPowersCard : Claim7 := { stood := { row := ringPowersRow, standIns := [], harness := (true, "026d32cc940bab7bd5f2cdab17d331515cc761b9939e01acf5e7b7cd93eec7ef"), looks := false }, kinds := [], alts := [], laidByText := true, laidKinds := [.data], laidTests := true, laidLooks := .later }
def RingPowersCardSaid : Prop := Claim7.holds Tryd.pinned (.plain (OpenSpec.ofChange ringPowersSpec)) ringPowersCard

/-- THE TIED CARD OF 'backstitchlaw01.RingSums'. -/
def ringSumsCard : Claim7 := { stood := { row := ringSumsRow, standIns := [], harness := (true, "026d32cc940bab7bd5f2cdab17d331515cc761b9939e01acf5e7b7cd93eec7ef"), looks := false }, kinds := [], alts := [], laidByText := true, laidKinds := [.data], laidTests := true, laidLooks := .later }
def RingSumsCardSaid : Prop := Claim7.holds Tryd.pinned (.plain (OpenSpec.ofChange ringSumsSpec)) ringSumsCard

/-- THE TIED CARD OF 'backstitchlaw01.RingProducts'. -/
def ringProductsCard : Claim7 := { stood := { row := ringProductsRow, standIns := [], harness := (true, "026d32cc940bab7bd5f2cdab17d331515cc761b9939e01acf5e7b7cd93eec7ef"), looks := false }, kinds := [], alts := [], laidByText := true, laidKinds := [.data], laidTests := true, laidLooks := .later }
def RingProductsCardSaid : Prop := Claim7.holds Tryd.pinned (.plain (OpenSpec.ofChange ringProductsSpec)) ringProductsCard

/-- THE TIED CARD OF 'backstitchlaw01.RingInverse'. -/
def ringInverseCard : Claim7 := { stood := { row := ringInverseRow, standIns := [], harness := (true, "026d32cc940bab7bd5f2cdab17d331515cc761b9939e01acf5e7b7cd93eec7ef"), looks := false }, kinds := [], alts := [], laidByText := true, laidKinds := [.data], laidTests := true, laidLooks := .later }
def RingInverseCardSaid : Prop := Claim7.holds Tryd.pinned (.plain (OpenSpec.ofChange ringInverseSpec)) ringInverseCard

/-- THE TIED CARD OF 'backstitchlaw01.RingVanishes'. -/
def ringVanishesCard : Claim7 := { stood := { row := ringVanishesRow, standIns := [], harness := (true, "026d32cc940bab7bd5f2cdab17d331515cc761b9939e01acf5e7b7cd93eec7ef"), looks := false }, kinds := [], alts := [], laidByText := true, laidKinds := [.data], laidTests := true, laidLooks := .later }
def RingVanishesCardSaid : Prop := Claim7.holds Tryd.pinned (.plain (OpenSpec.ofChange ringVanishesSpec)) ringVanishesCard

/-- THE TIED CARD OF 'backstitchlaw01.RingAdds'. -/
def ringAddsCard : Claim7 := { stood := { row := ringAddsRow, standIns := [], harness := (true, "026d32cc940bab7bd5f2cdab17d331515cc761b9939e01acf5e7b7cd93eec7ef"), looks := false }, kinds := [], alts := [], laidByText := true, laidKinds := [.data], laidTests := true, laidLooks := .later }
def RingAddsCardSaid : Prop := Claim7.holds Tryd.pinned (.plain (OpenSpec.ofChange ringAddsSpec)) ringAddsCard

/-- THE TIED CARD OF 'backstitchlaw01.RingLaws'. -/
def ringLawsCard : Claim7 := { stood := { row := ringLawsRow, standIns := [], harness := (true, "026d32cc940bab7bd5f2cdab17d331515cc761b9939e01acf5e7b7cd93eec7ef"), looks := false }, kinds := [], alts := [], laidByText := true, laidKinds := [.data], laidTests := true, laidLooks := .later }
def RingLawsCardSaid : Prop := Claim7.holds Tryd.pinned (.plain (OpenSpec.ofChange ringLawsSpec)) ringLawsCard

/-- THE TIED CARD OF 'backstitchlaw01.RingRows'. -/
def ringRowsCard : Claim7 := { stood := { row := ringRowsRow, standIns := [], harness := (true, "026d32cc940bab7bd5f2cdab17d331515cc761b9939e01acf5e7b7cd93eec7ef"), looks := false }, kinds := [], alts := [], laidByText := true, laidKinds := [.data], laidTests := true, laidLooks := .later }
def RingRowsCardSaid : Prop := Claim7.holds Tryd.pinned (.plain (OpenSpec.ofChange ringRowsSpec)) ringRowsCard

/-- THE TIED CARD OF 'backstitchlaw01.RingDots'. -/
def ringDotsCard : Claim7 := { stood := { row := ringDotsRow, standIns := [], harness := (true, "026d32cc940bab7bd5f2cdab17d331515cc761b9939e01acf5e7b7cd93eec7ef"), looks := false }, kinds := [], alts := [], laidByText := true, laidKinds := [.data], laidTests := true, laidLooks := .later }
def RingDotsCardSaid : Prop := Claim7.holds Tryd.pinned (.plain (OpenSpec.ofChange ringDotsSpec)) ringDotsCard

/-- THE SECOND FORM's CARD OF 'backstitchlaw01.RingPowers'. -/
def ringPowersUptoCard : Claim7 := { stood := { row := ringPowersUptoRow, standIns := [], harness := (true, "026d32cc940bab7bd5f2cdab17d331515cc761b9939e01acf5e7b7cd93eec7ef"), looks := false }, kinds := [], alts := [], laidByText := true, laidKinds := [.data], laidTests := true, laidLooks := .later }
def RingPowersUptoCardSaid : Prop := Claim7.holds Tryd.pinned (.plain (OpenSpec.upto ringPowersSpec)) ringPowersUptoCard

/-- THE SECOND FORM's CARD OF 'backstitchlaw01.RingSums'. -/
def ringSumsUptoCard : Claim7 := { stood := { row := ringSumsUptoRow, standIns := [], harness := (true, "026d32cc940bab7bd5f2cdab17d331515cc761b9939e01acf5e7b7cd93eec7ef"), looks := false }, kinds := [], alts := [], laidByText := true, laidKinds := [.data], laidTests := true, laidLooks := .later }
def RingSumsUptoCardSaid : Prop := Claim7.holds Tryd.pinned (.plain (OpenSpec.upto ringSumsSpec)) ringSumsUptoCard

/-- THE SECOND FORM's CARD OF 'backstitchlaw01.RingProducts'. -/
def ringProductsUptoCard : Claim7 := { stood := { row := ringProductsUptoRow, standIns := [], harness := (true, "026d32cc940bab7bd5f2cdab17d331515cc761b9939e01acf5e7b7cd93eec7ef"), looks := false }, kinds := [], alts := [], laidByText := true, laidKinds := [.data], laidTests := true, laidLooks := .later }
def RingProductsUptoCardSaid : Prop := Claim7.holds Tryd.pinned (.plain (OpenSpec.upto ringProductsSpec)) ringProductsUptoCard

/-- THE SECOND FORM's CARD OF 'backstitchlaw01.RingInverse'. -/
def ringInverseUptoCard : Claim7 := { stood := { row := ringInverseUptoRow, standIns := [], harness := (true, "026d32cc940bab7bd5f2cdab17d331515cc761b9939e01acf5e7b7cd93eec7ef"), looks := false }, kinds := [], alts := [], laidByText := true, laidKinds := [.data], laidTests := true, laidLooks := .later }
def RingInverseUptoCardSaid : Prop := Claim7.holds Tryd.pinned (.plain (OpenSpec.upto ringInverseSpec)) ringInverseUptoCard

/-- THE SECOND FORM's CARD OF 'backstitchlaw01.RingVanishes'. -/
def ringVanishesUptoCard : Claim7 := { stood := { row := ringVanishesUptoRow, standIns := [], harness := (true, "026d32cc940bab7bd5f2cdab17d331515cc761b9939e01acf5e7b7cd93eec7ef"), looks := false }, kinds := [], alts := [], laidByText := true, laidKinds := [.data], laidTests := true, laidLooks := .later }
def RingVanishesUptoCardSaid : Prop := Claim7.holds Tryd.pinned (.plain (OpenSpec.upto ringVanishesSpec)) ringVanishesUptoCard

/-- THE SECOND FORM's CARD OF 'backstitchlaw01.RingAdds'. -/
def ringAddsUptoCard : Claim7 := { stood := { row := ringAddsUptoRow, standIns := [], harness := (true, "026d32cc940bab7bd5f2cdab17d331515cc761b9939e01acf5e7b7cd93eec7ef"), looks := false }, kinds := [], alts := [], laidByText := true, laidKinds := [.data], laidTests := true, laidLooks := .later }
def RingAddsUptoCardSaid : Prop := Claim7.holds Tryd.pinned (.plain (OpenSpec.upto ringAddsSpec)) ringAddsUptoCard

/-- THE SECOND FORM's CARD OF 'backstitchlaw01.RingLaws'. -/
def ringLawsUptoCard : Claim7 := { stood := { row := ringLawsUptoRow, standIns := [], harness := (true, "026d32cc940bab7bd5f2cdab17d331515cc761b9939e01acf5e7b7cd93eec7ef"), looks := false }, kinds := [], alts := [], laidByText := true, laidKinds := [.data], laidTests := true, laidLooks := .later }
def RingLawsUptoCardSaid : Prop := Claim7.holds Tryd.pinned (.plain (OpenSpec.upto ringLawsSpec)) ringLawsUptoCard

/-- THE SECOND FORM's CARD OF 'backstitchlaw01.RingRows'. -/
def ringRowsUptoCard : Claim7 := { stood := { row := ringRowsUptoRow, standIns := [], harness := (true, "026d32cc940bab7bd5f2cdab17d331515cc761b9939e01acf5e7b7cd93eec7ef"), looks := false }, kinds := [], alts := [], laidByText := true, laidKinds := [.data], laidTests := true, laidLooks := .later }
def RingRowsUptoCardSaid : Prop := Claim7.holds Tryd.pinned (.plain (OpenSpec.upto ringRowsSpec)) ringRowsUptoCard

/-- THE SECOND FORM's CARD OF 'backstitchlaw01.RingDots'. -/
def ringDotsUptoCard : Claim7 := { stood := { row := ringDotsUptoRow, standIns := [], harness := (true, "026d32cc940bab7bd5f2cdab17d331515cc761b9939e01acf5e7b7cd93eec7ef"), looks := false }, kinds := [], alts := [], laidByText := true, laidKinds := [.data], laidTests := true, laidLooks := .later }
def RingDotsUptoCardSaid : Prop := Claim7.holds Tryd.pinned (.plain (OpenSpec.upto ringDotsSpec)) ringDotsUptoCard
end Rows
end Go.Proofs.YtebmnfmdebeoiaaDoor
