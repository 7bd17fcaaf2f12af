/-
  DERIVED. GIVEN WITH THE SEED: THE CARDS: each row of YthjfnpojelfekaaDoorRows.lean that lists a variable, with what it lists TIED to the program's text (the seventh form; the later family's looks); each row that meets fmt, with fmt's text TOLD by the authors' own Lean function (tested against real Go, not proved from fmt's source: count such statements apart). THE CARD IS WHAT COUNTS. Prove the row's statement (the work); the ties are given (YthjfnpojelfekaaDoorTie.lean); close each card by the builder's one call (the guide's Derived/Test/ToyasCard.lean, 'card_holds'). Laid BY PROGRAM, IN A SANDBOX (cutbox-door.mjs). By AI agents, Wed Nov 11 2026. No macro, syntax, notation, axiom, sorry.
-/
import Derived.Test.YthjfnpojelfekaaDoorRows
import GoSem.ClaimSeven
namespace Go.Proofs.YthjfnpojelfekaaDoor
namespace Rows

/-- THE TIED CARD OF 'leapfroglaw02.KeyOrders'. -/
def keyOrdersCard : Claim7 := { stood := { row := keyOrdersRow, standIns := [], harness := (true, "99bf8ec7b1779f4f73cce8fb8bb7e5a0b5bb1f51031fffbceadfc879834c4452"), looks := true }, kinds := [], alts := [], laidByText := true, laidKinds := [.data, .data, .data], laidTests := true, laidLooks := .later }
def KeyOrdersCardSaid : Prop := Claim7.holds Tryd.pinned (.plain (OpenSpec.ofChange keyOrdersSpec)) keyOrdersCard

/-- THE TIED CARD OF 'leapfroglaw02.KeyTotal'. -/
def keyTotalCard : Claim7 := { stood := { row := keyTotalRow, standIns := [], harness := (true, "99bf8ec7b1779f4f73cce8fb8bb7e5a0b5bb1f51031fffbceadfc879834c4452"), looks := true }, kinds := [], alts := [], laidByText := true, laidKinds := [.data, .data, .data], laidTests := true, laidLooks := .later }
def KeyTotalCardSaid : Prop := Claim7.holds Tryd.pinned (.plain (OpenSpec.ofChange keyTotalSpec)) keyTotalCard

/-- THE TIED CARD OF 'leapfroglaw02.KeyRows'. -/
def keyRowsCard : Claim7 := { stood := { row := keyRowsRow, standIns := [], harness := (true, "99bf8ec7b1779f4f73cce8fb8bb7e5a0b5bb1f51031fffbceadfc879834c4452"), looks := true }, kinds := [], alts := [], laidByText := true, laidKinds := [.data, .data, .data], laidTests := true, laidLooks := .later }
def KeyRowsCardSaid : Prop := Claim7.holds Tryd.pinned (.plain (OpenSpec.ofChange keyRowsSpec)) keyRowsCard

/-- THE TIED CARD OF 'leapfroglaw02.KeyPlaces'. -/
def keyPlacesCard : Claim7 := { stood := { row := keyPlacesRow, standIns := [], harness := (true, "99bf8ec7b1779f4f73cce8fb8bb7e5a0b5bb1f51031fffbceadfc879834c4452"), looks := true }, kinds := [], alts := [], laidByText := true, laidKinds := [.data, .data, .data], laidTests := true, laidLooks := .later }
def KeyPlacesCardSaid : Prop := Claim7.holds Tryd.pinned (.plain (OpenSpec.ofChange keyPlacesSpec)) keyPlacesCard

/-- THE TIED CARD OF 'leapfroglaw02.KeyBetween'. -/
def keyBetweenCard : Claim7 := { stood := { row := keyBetweenRow, standIns := [], harness := (true, "99bf8ec7b1779f4f73cce8fb8bb7e5a0b5bb1f51031fffbceadfc879834c4452"), looks := true }, kinds := [], alts := [], laidByText := true, laidKinds := [.data, .data, .data], laidTests := true, laidLooks := .later }
def KeyBetweenCardSaid : Prop := Claim7.holds Tryd.pinned (.plain (OpenSpec.ofChange keyBetweenSpec)) keyBetweenCard

/-- THE TIED CARD OF 'leapfroglaw02.KeySteps'. -/
def keyStepsCard : Claim7 := { stood := { row := keyStepsRow, standIns := [], harness := (true, "99bf8ec7b1779f4f73cce8fb8bb7e5a0b5bb1f51031fffbceadfc879834c4452"), looks := true }, kinds := [], alts := [], laidByText := true, laidKinds := [.data, .data, .data], laidTests := true, laidLooks := .later }
def KeyStepsCardSaid : Prop := Claim7.holds Tryd.pinned (.plain (OpenSpec.ofChange keyStepsSpec)) keyStepsCard

/-- THE TIED CARD OF 'leapfroglaw02.KeyTexts'. -/
def keyTextsCard : Claim7 := { stood := { row := keyTextsRow, standIns := [], harness := (true, "99bf8ec7b1779f4f73cce8fb8bb7e5a0b5bb1f51031fffbceadfc879834c4452"), looks := true }, kinds := [], alts := [], laidByText := true, laidKinds := [.data, .data, .data, .sentinel, .sentinel], laidTests := true, laidLooks := .later }
def KeyTextsCardSaid : Prop := Claim7.holds Tryd.pinned (.plain (OpenSpec.ofChange keyTextsSpec)) keyTextsCard

/-- THE TIED CARD OF 'leapfroglaw02.KeyBack'. -/
def keyBackCard : Claim7 := { stood := { row := keyBackRow, standIns := [], harness := (true, "99bf8ec7b1779f4f73cce8fb8bb7e5a0b5bb1f51031fffbceadfc879834c4452"), looks := true }, kinds := [], alts := [], laidByText := true, laidKinds := [.data, .data, .data, .sentinel, .sentinel], laidTests := true, laidLooks := .later }
def KeyBackCardSaid : Prop := Claim7.holds Tryd.pinned (.plain (OpenSpec.ofChange keyBackSpec)) keyBackCard

/-- THE SECOND FORM's CARD OF 'leapfroglaw02.KeyOrders'. -/
def keyOrdersUptoCard : Claim7 := { stood := { row := keyOrdersUptoRow, standIns := [], harness := (true, "99bf8ec7b1779f4f73cce8fb8bb7e5a0b5bb1f51031fffbceadfc879834c4452"), looks := true }, kinds := [], alts := [], laidByText := true, laidKinds := [.data, .data, .data], laidTests := true, laidLooks := .later }
def KeyOrdersUptoCardSaid : Prop := Claim7.holds Tryd.pinned (.plain (OpenSpec.upto keyOrdersSpec)) keyOrdersUptoCard

/-- THE SECOND FORM's CARD OF 'leapfroglaw02.KeyTotal'. -/
def keyTotalUptoCard : Claim7 := { stood := { row := keyTotalUptoRow, standIns := [], harness := (true, "99bf8ec7b1779f4f73cce8fb8bb7e5a0b5bb1f51031fffbceadfc879834c4452"), looks := true }, kinds := [], alts := [], laidByText := true, laidKinds := [.data, .data, .data], laidTests := true, laidLooks := .later }
def KeyTotalUptoCardSaid : Prop := Claim7.holds Tryd.pinned (.plain (OpenSpec.upto keyTotalSpec)) keyTotalUptoCard

/-- THE SECOND FORM's CARD OF 'leapfroglaw02.KeyRows'. -/
def keyRowsUptoCard : Claim7 := { stood := { row := keyRowsUptoRow, standIns := [], harness := (true, "99bf8ec7b1779f4f73cce8fb8bb7e5a0b5bb1f51031fffbceadfc879834c4452"), looks := true }, kinds := [], alts := [], laidByText := true, laidKinds := [.data, .data, .data], laidTests := true, laidLooks := .later }
def KeyRowsUptoCardSaid : Prop := Claim7.holds Tryd.pinned (.plain (OpenSpec.upto keyRowsSpec)) keyRowsUptoCard

/-- THE SECOND FORM's CARD OF 'leapfroglaw02.KeyPlaces'. -/
def keyPlacesUptoCard : Claim7 := { stood := { row := keyPlacesUptoRow, standIns := [], harness := (true, "99bf8ec7b1779f4f73cce8fb8bb7e5a0b5bb1f51031fffbceadfc879834c4452"), looks := true }, kinds := [], alts := [], laidByText := true, laidKinds := [.data, .data, .data], laidTests := true, laidLooks := .later }
def KeyPlacesUptoCardSaid : Prop := Claim7.holds Tryd.pinned (.plain (OpenSpec.upto keyPlacesSpec)) keyPlacesUptoCard

/-- THE SECOND FORM's CARD OF 'leapfroglaw02.KeyBetween'. -/
def keyBetweenUptoCard : Claim7 := { stood := { row := keyBetweenUptoRow, standIns := [], harness := (true, "99bf8ec7b1779f4f73cce8fb8bb7e5a0b5bb1f51031fffbceadfc879834c4452"), looks := true }, kinds := [], alts := [], laidByText := true, laidKinds := [.data, .data, .data], laidTests := true, laidLooks := .later }
def KeyBetweenUptoCardSaid : Prop := Claim7.holds Tryd.pinned (.plain (OpenSpec.upto keyBetweenSpec)) keyBetweenUptoCard

/-- THE SECOND FORM's CARD OF 'leapfroglaw02.KeySteps'. -/
def keyStepsUptoCard : Claim7 := { stood := { row := keyStepsUptoRow, standIns := [], harness := (true, "99bf8ec7b1779f4f73cce8fb8bb7e5a0b5bb1f51031fffbceadfc879834c4452"), looks := true }, kinds := [], alts := [], laidByText := true, laidKinds := [.data, .data, .data], laidTests := true, laidLooks := .later }
def KeyStepsUptoCardSaid : Prop := Claim7.holds Tryd.pinned (.plain (OpenSpec.upto keyStepsSpec)) keyStepsUptoCard

/-- THE SECOND FORM's CARD OF 'leapfroglaw02.KeyTexts'. -/
def keyTextsUptoCard : Claim7 := { stood := { row := keyTextsUptoRow, standIns := [], harness := (true, "99bf8ec7b1779f4f73cce8fb8bb7e5a0b5bb1f51031fffbceadfc879834c4452"), looks := true }, kinds := [], alts := [], laidByText := true, laidKinds := [.data, .data, .data, .sentinel, .sentinel], laidTests := true, laidLooks := .later }
def KeyTextsUptoCardSaid : Prop := Claim7.holds Tryd.pinned (.plain (OpenSpec.upto keyTextsSpec)) keyTextsUptoCard

/-- THE SECOND FORM's CARD OF 'leapfroglaw02.KeyBack'. -/
def keyBackUptoCard : Claim7 := { stood := { row := keyBackUptoRow, standIns := [], harness := (true, "99bf8ec7b1779f4f73cce8fb8bb7e5a0b5bb1f51031fffbceadfc879834c4452"), looks := true }, kinds := [], alts := [], laidByText := true, laidKinds := [.data, .data, .data, .sentinel, .sentinel], laidTests := true, laidLooks := .later }
def KeyBackUptoCardSaid : Prop := Claim7.holds Tryd.pinned (.plain (OpenSpec.upto keyBackSpec)) keyBackUptoCard
end Rows
end Go.Proofs.YthjfnpojelfekaaDoor
