/-
  DERIVED. GIVEN WITH THE SEED: THE CARDS: each row of YthgddlibfboehaaDoorRows.lean that lists a variable, with what it lists TIED to the program's text (the seventh form; the later family's looks); each row that meets fmt, with fmt's text TOLD by the authors' own Lean function (tested against real Go, not proved from fmt's source: count such statements apart). THE CARD IS WHAT COUNTS. Prove the row's statement (the work); the ties are given (YthgddlibfboehaaDoorTie.lean); close each card by the builder's one call (the guide's Derived/Test/ToyasCard.lean, 'card_holds'). Laid BY PROGRAM, IN A SANDBOX (cutbox-door.mjs). By AI agents, Wed Nov 11 2026. No macro, syntax, notation, axiom, sorry.
-/
import Derived.Test.YthgddlibfboehaaDoorRows
import GoSem.ClaimSeven
namespace Go.Proofs.YthgddlibfboehaaDoor
namespace Rows

/-- THE TIED CARD OF 'ecdysislaw22.DecodeUnpacks'. -/
def decodeUnpacksCard : Claim7 := { stood := { row := decodeUnpacksRow, standIns := [], harness := (true, "ee63fd9c281dbd5983d70ce388c2fccd8831f691e772717f8df3ee58135a0df2"), looks := false }, kinds := [], alts := [], laidByText := true, laidKinds := [.data, .pinned], laidTests := true, laidLooks := .later }
def DecodeUnpacksCardSaid : Prop := Claim7.holds Tryd.pinned (.plain (OpenSpec.ofChange decodeUnpacksSpec)) decodeUnpacksCard

/-- THE SECOND FORM's CARD OF 'ecdysislaw22.DecodeUnpacks'. -/
def decodeUnpacksUptoCard : Claim7 := { stood := { row := decodeUnpacksUptoRow, standIns := [], harness := (true, "ee63fd9c281dbd5983d70ce388c2fccd8831f691e772717f8df3ee58135a0df2"), looks := false }, kinds := [], alts := [], laidByText := true, laidKinds := [.data, .pinned], laidTests := true, laidLooks := .later }
def DecodeUnpacksUptoCardSaid : Prop := Claim7.holds Tryd.pinned (.plain (OpenSpec.upto decodeUnpacksSpec)) decodeUnpacksUptoCard
end Rows
end Go.Proofs.YthgddlibfboehaaDoor
