/-
  DERIVED. GIVEN WITH THE SEED: THE CARDS: each row of YtbpnfpckoapdbaaDoorRows.lean that lists a variable, with what it lists TIED to the program's text (the seventh form; the later family's looks); each row that meets fmt, with fmt's text TOLD by the authors' own Lean function (tested against real Go, not proved from fmt's source: count such statements apart). THE CARD IS WHAT COUNTS. Prove the row's statement (the work); the ties are given (YtbpnfpckoapdbaaDoorTie.lean); close each card by the builder's one call (the guide's Derived/Test/ToyasCard.lean, 'card_holds'). Laid BY PROGRAM, IN A SANDBOX (cutbox-door.mjs). By AI agents, Wed Nov 11 2026. No macro, syntax, notation, axiom, sorry.
-/
import Derived.Test.YtbpnfpckoapdbaaDoorRows
import GoSem.ClaimSeven
namespace Go.Proofs.YtbpnfpckoapdbaaDoor
namespace Rows

/-- THE TIED CARD OF 'ecdysislaw20.ValidTrees'. -/
def validTreesCard : Claim7 := { stood := { row := validTreesRow, standIns := [], harness := (true, "aafe2b8b84b22dc2a9f1aa9d6abaf4abbd9ee271f4259a73ddf62fcc9f63bc9d"), looks := false }, kinds := [], alts := [], laidByText := true, laidKinds := [.data, .pinned], laidTests := true, laidLooks := .later }
def ValidTreesCardSaid : Prop := Claim7.holds Tryd.pinned (.plain (OpenSpec.ofChange validTreesSpec)) validTreesCard

/-- THE TIED CARD OF 'ecdysislaw20.ValidLess'. -/
def validLessCard : Claim7 := { stood := { row := validLessRow, standIns := [], harness := (true, "aafe2b8b84b22dc2a9f1aa9d6abaf4abbd9ee271f4259a73ddf62fcc9f63bc9d"), looks := false }, kinds := [], alts := [], laidByText := true, laidKinds := [.data, .pinned], laidTests := true, laidLooks := .later }
def ValidLessCardSaid : Prop := Claim7.holds Tryd.pinned (.plain (OpenSpec.ofChange validLessSpec)) validLessCard

/-- THE TIED CARD OF 'ecdysislaw20.ValidVals'. -/
def validValsCard : Claim7 := { stood := { row := validValsRow, standIns := [], harness := (true, "aafe2b8b84b22dc2a9f1aa9d6abaf4abbd9ee271f4259a73ddf62fcc9f63bc9d"), looks := false }, kinds := [], alts := [], laidByText := true, laidKinds := [.data, .pinned], laidTests := true, laidLooks := .later }
def ValidValsCardSaid : Prop := Claim7.holds Tryd.pinned (.plain (OpenSpec.ofChange validValsSpec)) validValsCard

/-- THE SECOND FORM's CARD OF 'ecdysislaw20.ValidTrees'. -/
def validTreesUptoCard : Claim7 := { stood := { row := validTreesUptoRow, standIns := [], harness := (true, "aafe2b8b84b22dc2a9f1aa9d6abaf4abbd9ee271f4259a73ddf62fcc9f63bc9d"), looks := false }, kinds := [], alts := [], laidByText := true, laidKinds := [.data, .pinned], laidTests := true, laidLooks := .later }
def ValidTreesUptoCardSaid : Prop := Claim7.holds Tryd.pinned (.plain (OpenSpec.upto validTreesSpec)) validTreesUptoCard

/-- THE SECOND FORM's CARD OF 'ecdysislaw20.ValidLess'. -/
def validLessUptoCard : Claim7 := { stood := { row := validLessUptoRow, standIns := [], harness := (true, "aafe2b8b84b22dc2a9f1aa9d6abaf4abbd9ee271f4259a73ddf62fcc9f63bc9d"), looks := false }, kinds := [], alts := [], laidByText := true, laidKinds := [.data, .pinned], laidTests := true, laidLooks := .later }
def ValidLessUptoCardSaid : Prop := Claim7.holds Tryd.pinned (.plain (OpenSpec.upto validLessSpec)) validLessUptoCard

/-- THE SECOND FORM's CARD OF 'ecdysislaw20.ValidVals'. -/
def validValsUptoCard : Claim7 := { stood := { row := validValsUptoRow, standIns := [], harness := (true, "aafe2b8b84b22dc2a9f1aa9d6abaf4abbd9ee271f4259a73ddf62fcc9f63bc9d"), looks := false }, kinds := [], alts := [], laidByText := true, laidKinds := [.data, .pinned], laidTests := true, laidLooks := .later }
def ValidValsUptoCardSaid : Prop := Claim7.holds Tryd.pinned (.plain (OpenSpec.upto validValsSpec)) validValsUptoCard
end Rows
end Go.Proofs.YtbpnfpckoapdbaaDoor
