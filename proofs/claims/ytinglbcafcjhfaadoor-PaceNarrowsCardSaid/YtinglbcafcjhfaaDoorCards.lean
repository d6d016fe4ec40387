/-
  DERIVED. GIVEN WITH THE SEED: THE CARDS: each row of YtinglbcafcjhfaaDoorRows.lean that lists a variable, with what it lists TIED to the program's text (the seventh form; the later family's looks); each row that meets fmt, with fmt's text TOLD by the authors' own Lean function (tested against real Go, not proved from fmt's source: count such statements apart). THE CARD IS WHAT COUNTS. Prove the row's statement (the work); the ties are given (YtinglbcafcjhfaaDoorTie.lean); close each card by the builder's one call (the guide's Derived/Test/ToyasCard.lean, 'card_holds'). Laid BY PROGRAM, IN A SANDBOX (cutbox-door.mjs). By AI agents, Wed Nov 11 2026. No macro, syntax, notation, axiom, sorry.
-/
import Derived.Test.YtinglbcafcjhfaaDoorRows
import GoSem.ClaimSeven
namespace Go.Proofs.YtinglbcafcjhfaaDoor
namespace Rows

/-- THE TIED CARD OF 'hairpinlaw03.PaceBetween'. -/
def paceBetweenCard : Claim7 := { stood := { row := paceBetweenRow, standIns := [], harness := (true, "7ae75b2982cb1c8c8724ba53bc22b934425054f3a1f25a1466b1c19b71fb31d3"), looks := false }, kinds := [], alts := [], laidByText := true, laidKinds := [.data, .data, .data], laidTests := true, laidLooks := .later }
def PaceBetweenCardSaid : Prop := Claim7.holds Tryd.pinned (.plain (OpenSpec.ofChange paceBetweenSpec)) paceBetweenCard

/-- THE TIED CARD OF 'hairpinlaw03.PaceLasts'. -/
def paceLastsCard : Claim7 := { stood := { row := paceLastsRow, standIns := [], harness := (true, "7ae75b2982cb1c8c8724ba53bc22b934425054f3a1f25a1466b1c19b71fb31d3"), looks := false }, kinds := [], alts := [], laidByText := true, laidKinds := [.data, .data, .data], laidTests := true, laidLooks := .later }
def PaceLastsCardSaid : Prop := Claim7.holds Tryd.pinned (.plain (OpenSpec.ofChange paceLastsSpec)) paceLastsCard

/-- THE TIED CARD OF 'hairpinlaw03.PacePlans'. -/
def pacePlansCard : Claim7 := { stood := { row := pacePlansRow, standIns := [], harness := (true, "7ae75b2982cb1c8c8724ba53bc22b934425054f3a1f25a1466b1c19b71fb31d3"), looks := false }, kinds := [], alts := [], laidByText := true, laidKinds := [.data, .data, .data], laidTests := true, laidLooks := .later }
def PacePlansCardSaid : Prop := Claim7.holds Tryd.pinned (.plain (OpenSpec.ofChange pacePlansSpec)) pacePlansCard

/-- THE TIED CARD OF 'hairpinlaw03.PaceFits'. -/
def paceFitsCard : Claim7 := { stood := { row := paceFitsRow, standIns := [], harness := (true, "7ae75b2982cb1c8c8724ba53bc22b934425054f3a1f25a1466b1c19b71fb31d3"), looks := false }, kinds := [], alts := [], laidByText := true, laidKinds := [.data, .data, .data], laidTests := true, laidLooks := .later }
def PaceFitsCardSaid : Prop := Claim7.holds Tryd.pinned (.plain (OpenSpec.ofChange paceFitsSpec)) paceFitsCard

/-- THE TIED CARD OF 'hairpinlaw03.PaceGood'. -/
def paceGoodCard : Claim7 := { stood := { row := paceGoodRow, standIns := [], harness := (true, "7ae75b2982cb1c8c8724ba53bc22b934425054f3a1f25a1466b1c19b71fb31d3"), looks := false }, kinds := [], alts := [], laidByText := true, laidKinds := [.data, .data, .data], laidTests := true, laidLooks := .later }
def PaceGoodCardSaid : Prop := Claim7.holds Tryd.pinned (.plain (OpenSpec.ofChange paceGoodSpec)) paceGoodCard

/-- THE TIED CARD OF 'hairpinlaw03.PaceLatest'. -/
def paceLatestCard : Claim7 := { stood := { row := paceLatestRow, standIns := [], harness := (true, "7ae75b2982cb1c8c8724ba53bc22b934425054f3a1f25a1466b1c19b71fb31d3"), looks := false }, kinds := [], alts := [], laidByText := true, laidKinds := [.data, .data, .data], laidTests := true, laidLooks := .later }
def PaceLatestCardSaid : Prop := Claim7.holds Tryd.pinned (.plain (OpenSpec.ofChange paceLatestSpec)) paceLatestCard

/-- THE TIED CARD OF 'hairpinlaw03.PaceSaid'. -/
def paceSaidCard : Claim7 := { stood := { row := paceSaidRow, standIns := [], harness := (true, "7ae75b2982cb1c8c8724ba53bc22b934425054f3a1f25a1466b1c19b71fb31d3"), looks := false }, kinds := [], alts := [], laidByText := true, laidKinds := [.data, .data, .data], laidTests := true, laidLooks := .later }
def PaceSaidCardSaid : Prop := Claim7.holds Tryd.pinned (.plain (OpenSpec.ofChange paceSaidSpec)) paceSaidCard

/-- THE TIED CARD OF 'hairpinlaw03.PaceNarrows'. -/
def paceNarrowsCard : Claim7 := { stood := { row := paceNarrowsRow, standIns := [], harness := (true, "7ae75b2982cb1c8c8724ba53bc22b934425054f3a1f25a1466b1c19b71fb31d3"), looks := false }, kinds := [], alts := [], laidByText := true, laidKinds := [.data, .data, .data], laidTests := true, laidLooks := .later }
def PaceNarrowsCardSaid : Prop := Claim7.holds Tryd.pinned (.plain (OpenSpec.ofChange paceNarrowsSpec)) paceNarrowsCard

/-- THE TIED CARD OF 'hairpinlaw03.PaceKeeps'. -/
def paceKeepsCard : Claim7 := { stood := { row := paceKeepsRow, standIns := [], harness := (true, "7ae75b2982cb1c8c8724ba53bc22b934425054f3a1f25a1466b1c19b71fb31d3"), looks := false }, kinds := [], alts := [], laidByText := true, laidKinds := [.data, .data, .data], laidTests := true, laidLooks := .later }
def PaceKeepsCardSaid : Prop := Claim7.holds Tryd.pinned (.plain (OpenSpec.ofChange paceKeepsSpec)) paceKeepsCard

/-- THE TIED CARD OF 'hairpinlaw03.PaceHeard'. -/
def paceHeardCard : Claim7 := { stood := { row := paceHeardRow, standIns := [], harness := (true, "7ae75b2982cb1c8c8724ba53bc22b934425054f3a1f25a1466b1c19b71fb31d3"), looks := false }, kinds := [], alts := [], laidByText := true, laidKinds := [.data, .data, .data], laidTests := true, laidLooks := .later }
def PaceHeardCardSaid : Prop := Claim7.holds Tryd.pinned (.plain (OpenSpec.ofChange paceHeardSpec)) paceHeardCard

/-- THE TIED CARD OF 'hairpinlaw03.PaceResumes'. -/
def paceResumesCard : Claim7 := { stood := { row := paceResumesRow, standIns := [], harness := (true, "7ae75b2982cb1c8c8724ba53bc22b934425054f3a1f25a1466b1c19b71fb31d3"), looks := false }, kinds := [], alts := [], laidByText := true, laidKinds := [.data, .data, .data], laidTests := true, laidLooks := .later }
def PaceResumesCardSaid : Prop := Claim7.holds Tryd.pinned (.plain (OpenSpec.ofChange paceResumesSpec)) paceResumesCard

/-- THE TIED CARD OF 'hairpinlaw03.PaceBetter'. -/
def paceBetterCard : Claim7 := { stood := { row := paceBetterRow, standIns := [], harness := (true, "7ae75b2982cb1c8c8724ba53bc22b934425054f3a1f25a1466b1c19b71fb31d3"), looks := false }, kinds := [], alts := [], laidByText := true, laidKinds := [.data, .data, .data], laidTests := true, laidLooks := .later }
def PaceBetterCardSaid : Prop := Claim7.holds Tryd.pinned (.plain (OpenSpec.ofChange paceBetterSpec)) paceBetterCard

/-- THE TIED CARD OF 'hairpinlaw03.PaceSums'. -/
def paceSumsCard : Claim7 := { stood := { row := paceSumsRow, standIns := [], harness := (true, "7ae75b2982cb1c8c8724ba53bc22b934425054f3a1f25a1466b1c19b71fb31d3"), looks := false }, kinds := [], alts := [], laidByText := true, laidKinds := [.data, .data, .data], laidTests := true, laidLooks := .later }
def PaceSumsCardSaid : Prop := Claim7.holds Tryd.pinned (.plain (OpenSpec.ofChange paceSumsSpec)) paceSumsCard

/-- THE SECOND FORM's CARD OF 'hairpinlaw03.PaceBetween'. -/
def paceBetweenUptoCard : Claim7 := { stood := { row := paceBetweenUptoRow, standIns := [], harness := (true, "7ae75b2982cb1c8c8724ba53bc22b934425054f3a1f25a1466b1c19b71fb31d3"), looks := false }, kinds := [], alts := [], laidByText := true, laidKinds := [.data, .data, .data], laidTests := true, laidLooks := .later }
def PaceBetweenUptoCardSaid : Prop := Claim7.holds Tryd.pinned (.plain (OpenSpec.upto paceBetweenSpec)) paceBetweenUptoCard

/-- THE SECOND FORM's CARD OF 'hairpinlaw03.PaceLasts'. -/
def paceLastsUptoCard : Claim7 := { stood := { row := paceLastsUptoRow, standIns := [], harness := (true, "7ae75b2982cb1c8c8724ba53bc22b934425054f3a1f25a1466b1c19b71fb31d3"), looks := false }, kinds := [], alts := [], laidByText := true, laidKinds := [.data, .data, .data], laidTests := true, laidLooks := .later }
def PaceLastsUptoCardSaid : Prop := Claim7.holds Tryd.pinned (.plain (OpenSpec.upto paceLastsSpec)) paceLastsUptoCard

/-- THE SECOND FORM's CARD OF 'hairpinlaw03.PacePlans'. -/
def pacePlansUptoCard : Claim7 := { stood := { row := pacePlansUptoRow, standIns := [], harness := (true, "7ae75b2982cb1c8c8724ba53bc22b934425054f3a1f25a1466b1c19b71fb31d3"), looks := false }, kinds := [], alts := [], laidByText := true, laidKinds := [.data, .data, .data], laidTests := true, laidLooks := .later }
def PacePlansUptoCardSaid : Prop := Claim7.holds Tryd.pinned (.plain (OpenSpec.upto pacePlansSpec)) pacePlansUptoCard

/-- THE SECOND FORM's CARD OF 'hairpinlaw03.PaceFits'. -/
def paceFitsUptoCard : Claim7 := { stood := { row := paceFitsUptoRow, standIns := [], harness := (true, "7ae75b2982cb1c8c8724ba53bc22b934425054f3a1f25a1466b1c19b71fb31d3"), looks := false }, kinds := [], alts := [], laidByText := true, laidKinds := [.data, .data, .data], laidTests := true, laidLooks := .later }
def PaceFitsUptoCardSaid : Prop := Claim7.holds Tryd.pinned (.plain (OpenSpec.upto paceFitsSpec)) paceFitsUptoCard

/-- THE SECOND FORM's CARD OF 'hairpinlaw03.PaceGood'. -/
def paceGoodUptoCard : Claim7 := { stood := { row := paceGoodUptoRow, standIns := [], harness := (true, "7ae75b2982cb1c8c8724ba53bc22b934425054f3a1f25a1466b1c19b71fb31d3"), looks := false }, kinds := [], alts := [], laidByText := true, laidKinds := [.data, .data, .data], laidTests := true, laidLooks := .later }
def PaceGoodUptoCardSaid : Prop := Claim7.holds Tryd.pinned (.plain (OpenSpec.upto paceGoodSpec)) paceGoodUptoCard

/-- THE SECOND FORM's CARD OF 'hairpinlaw03.PaceLatest'. -/
def paceLatestUptoCard : Claim7 := { stood := { row := paceLatestUptoRow, standIns := [], harness := (true, "7ae75b2982cb1c8c8724ba53bc22b934425054f3a1f25a1466b1c19b71fb31d3"), looks := false }, kinds := [], alts := [], laidByText := true, laidKinds := [.data, .data, .data], laidTests := true, laidLooks := .later }
def PaceLatestUptoCardSaid : Prop := Claim7.holds Tryd.pinned (.plain (OpenSpec.upto paceLatestSpec)) paceLatestUptoCard

/-- THE SECOND FORM's CARD OF 'hairpinlaw03.PaceSaid'. -/
def paceSaidUptoCard : Claim7 := { stood := { row := paceSaidUptoRow, standIns := [], harness := (true, "7ae75b2982cb1c8c8724ba53bc22b934425054f3a1f25a1466b1c19b71fb31d3"), looks := false }, kinds := [], alts := [], laidByText := true, laidKinds := [.data, .data, .data], laidTests := true, laidLooks := .later }
def PaceSaidUptoCardSaid : Prop := Claim7.holds Tryd.pinned (.plain (OpenSpec.upto paceSaidSpec)) paceSaidUptoCard

/-- THE SECOND FORM's CARD OF 'hairpinlaw03.PaceNarrows'. -/
def paceNarrowsUptoCard : Claim7 := { stood := { row := paceNarrowsUptoRow, standIns := [], harness := (true, "7ae75b2982cb1c8c8724ba53bc22b934425054f3a1f25a1466b1c19b71fb31d3"), looks := false }, kinds := [], alts := [], laidByText := true, laidKinds := [.data, .data, .data], laidTests := true, laidLooks := .later }
def PaceNarrowsUptoCardSaid : Prop := Claim7.holds Tryd.pinned (.plain (OpenSpec.upto paceNarrowsSpec)) paceNarrowsUptoCard

/-- THE SECOND FORM's CARD OF 'hairpinlaw03.PaceKeeps'. -/
def paceKeepsUptoCard : Claim7 := { stood := { row := paceKeepsUptoRow, standIns := [], harness := (true, "7ae75b2982cb1c8c8724ba53bc22b934425054f3a1f25a1466b1c19b71fb31d3"), looks := false }, kinds := [], alts := [], laidByText := true, laidKinds := [.data, .data, .data], laidTests := true, laidLooks := .later }
def PaceKeepsUptoCardSaid : Prop := Claim7.holds Tryd.pinned (.plain (OpenSpec.upto paceKeepsSpec)) paceKeepsUptoCard

/-- THE SECOND FORM's CARD OF 'hairpinlaw03.PaceHeard'. -/
def paceHeardUptoCard : Claim7 := { stood := { row := paceHeardUptoRow, standIns := [], harness := (true, "7ae75b2982cb1c8c8724ba53bc22b934425054f3a1f25a1466b1c19b71fb31d3"), looks := false }, kinds := [], alts := [], laidByText := true, laidKinds := [.data, .data, .data], laidTests := true, laidLooks := .later }
def PaceHeardUptoCardSaid : Prop := Claim7.holds Tryd.pinned (.plain (OpenSpec.upto paceHeardSpec)) paceHeardUptoCard

/-- THE SECOND FORM's CARD OF 'hairpinlaw03.PaceResumes'. -/
def paceResumesUptoCard : Claim7 := { stood := { row := paceResumesUptoRow, standIns := [], harness := (true, "7ae75b2982cb1c8c8724ba53bc22b934425054f3a1f25a1466b1c19b71fb31d3"), looks := false }, kinds := [], alts := [], laidByText := true, laidKinds := [.data, .data, .data], laidTests := true, laidLooks := .later }
def PaceResumesUptoCardSaid : Prop := Claim7.holds Tryd.pinned (.plain (OpenSpec.upto paceResumesSpec)) paceResumesUptoCard

/-- THE SECOND FORM's CARD OF 'hairpinlaw03.PaceBetter'. -/
def paceBetterUptoCard : Claim7 := { stood := { row := paceBetterUptoRow, standIns := [], harness := (true, "7ae75b2982cb1c8c8724ba53bc22b934425054f3a1f25a1466b1c19b71fb31d3"), looks := false }, kinds := [], alts := [], laidByText := true, laidKinds := [.data, .data, .data], laidTests := true, laidLooks := .later }
def PaceBetterUptoCardSaid : Prop := Claim7.holds Tryd.pinned (.plain (OpenSpec.upto paceBetterSpec)) paceBetterUptoCard

/-- THE SECOND FORM's CARD OF 'hairpinlaw03.PaceSums'. -/
def paceSumsUptoCard : Claim7 := { stood := { row := paceSumsUptoRow, standIns := [], harness := (true, "7ae75b2982cb1c8c8724ba53bc22b934425054f3a1f25a1466b1c19b71fb31d3"), looks := false }, kinds := [], alts := [], laidByText := true, laidKinds := [.data, .data, .data], laidTests := true, laidLooks := .later }
def PaceSumsUptoCardSaid : Prop := Claim7.holds Tryd.pinned (.plain (OpenSpec.upto paceSumsSpec)) paceSumsUptoCard
end Rows
end Go.Proofs.YtinglbcafcjhfaaDoor
