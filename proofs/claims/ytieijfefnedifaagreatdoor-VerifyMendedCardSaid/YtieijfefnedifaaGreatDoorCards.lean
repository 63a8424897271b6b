/-
  DERIVED. GIVEN WITH THE SEED: THE CARDS: each row of YtieijfefnedifaaGreatDoorRows.lean that lists a variable, with what it lists TIED to the program's text (the seventh form; the later family's looks); each row that meets fmt, with fmt's text TOLD by the authors' own Lean function (tested against real Go, not proved from fmt's source: count such statements apart). THE CARD IS WHAT COUNTS. Prove the row's statement (the work); the ties are given (YtieijfefnedifaaGreatDoorTie.lean); close each card by the builder's one call (the guide's Derived/Test/ToyasCard.lean, 'card_holds'). Laid BY PROGRAM, IN A SANDBOX (cutbox-door.mjs). By AI agents, Wed Nov 11 2026. No macro, syntax, notation, axiom, sorry.
-/
import Derived.Test.YtieijfefnedifaaGreatDoorRows
import GoSem.ClaimSeven
namespace Go.Proofs.YtieijfefnedifaaGreatDoor
namespace Rows

/-- THE TIED CARD OF 'besomlaw29.VerifyRight'. -/
def verifyRightCard : Claim7 := { stood := { row := verifyRightRow, standIns := [], harness := (true, "fff75693dcdbd6ec82f037f6ec29bb9d4b35f7841e679082a7989fba22ef6e11"), looks := false }, kinds := [], alts := [], laidByText := true, laidKinds := [.data], laidTests := true, laidLooks := .later }
def VerifyRightCardSaid : Prop := Claim7.holds Tryz.pinned (.plain (OpenSpec.ofChange verifyRightSpec)) verifyRightCard

/-- THE TIED CARD OF 'besomlaw29.VerifyMended'. -/
def verifyMendedCard : Claim7 := { stood := { row := verifyMendedRow, standIns := [], harness := (true, "fff75693dcdbd6ec82f037f6ec29bb9d4b35f7841e679082a7989fba22ef6e11"), looks := false }, kinds := [], alts := [], laidByText := true, laidKinds := [.data], laidTests := true, laidLooks := .later }
def VerifyMendedCardSaid : Prop := Claim7.holds Tryz.pinned (.plain (OpenSpec.ofChange verifyMendedSpec)) verifyMendedCard

/-- THE TIED CARD OF 'besomlaw29.VerifyKinds'. -/
def verifyKindsCard : Claim7 := { stood := { row := verifyKindsRow, standIns := [], harness := (true, "fff75693dcdbd6ec82f037f6ec29bb9d4b35f7841e679082a7989fba22ef6e11"), looks := false }, kinds := [], alts := [], laidByText := true, laidKinds := [.data], laidTests := true, laidLooks := .later }
def VerifyKindsCardSaid : Prop := Claim7.holds Tryz.pinned (.plain (OpenSpec.ofChange verifyKindsSpec)) verifyKindsCard

/-- THE TIED CARD OF 'besomlaw29.VerifyTurned'. -/
def verifyTurnedCard : Claim7 := { stood := { row := verifyTurnedRow, standIns := [], harness := (true, "fff75693dcdbd6ec82f037f6ec29bb9d4b35f7841e679082a7989fba22ef6e11"), looks := false }, kinds := [], alts := [], laidByText := true, laidKinds := [.data], laidTests := true, laidLooks := .later }
def VerifyTurnedCardSaid : Prop := Claim7.holds Tryz.pinned (.plain (OpenSpec.ofChange verifyTurnedSpec)) verifyTurnedCard

/-- THE SECOND FORM's CARD OF 'besomlaw29.VerifyRight'. -/
def verifyRightUptoCard : Claim7 := { stood := { row := verifyRightUptoRow, standIns := [], harness := (true, "fff75693dcdbd6ec82f037f6ec29bb9d4b35f7841e679082a7989fba22ef6e11"), looks := false }, kinds := [], alts := [], laidByText := true, laidKinds := [.data], laidTests := true, laidLooks := .later }
def VerifyRightUptoCardSaid : Prop := Claim7.holds Tryz.pinned (.plain (OpenSpec.upto verifyRightSpec)) verifyRightUptoCard

/-- THE SECOND FORM's CARD OF 'besomlaw29.VerifyMended'. -/
def verifyMendedUptoCard : Claim7 := { stood := { row := verifyMendedUptoRow, standIns := [], harness := (true, "fff75693dcdbd6ec82f037f6ec29bb9d4b35f7841e679082a7989fba22ef6e11"), looks := false }, kinds := [], alts := [], laidByText := true, laidKinds := [.data], laidTests := true, laidLooks := .later }
def VerifyMendedUptoCardSaid : Prop := Claim7.holds Tryz.pinned (.plain (OpenSpec.upto verifyMendedSpec)) verifyMendedUptoCard

/-- THE SECOND FORM's CARD OF 'besomlaw29.VerifyKinds'. -/
def verifyKindsUptoCard : Claim7 := { stood := { row := verifyKindsUptoRow, standIns := [], harness := (true, "fff75693dcdbd6ec82f037f6ec29bb9d4b35f7841e679082a7989fba22ef6e11"), looks := false }, kinds := [], alts := [], laidByText := true, laidKinds := [.data], laidTests := true, laidLooks := .later }
def VerifyKindsUptoCardSaid : Prop := Claim7.holds Tryz.pinned (.plain (OpenSpec.upto verifyKindsSpec)) verifyKindsUptoCard

/-- THE SECOND FORM's CARD OF 'besomlaw29.VerifyTurned'. -/
def verifyTurnedUptoCard : Claim7 := { stood := { row := verifyTurnedUptoRow, standIns := [], harness := (true, "fff75693dcdbd6ec82f037f6ec29bb9d4b35f7841e679082a7989fba22ef6e11"), looks := false }, kinds := [], alts := [], laidByText := true, laidKinds := [.data], laidTests := true, laidLooks := .later }
def VerifyTurnedUptoCardSaid : Prop := Claim7.holds Tryz.pinned (.plain (OpenSpec.upto verifyTurnedSpec)) verifyTurnedUptoCard
end Rows
end Go.Proofs.YtieijfefnedifaaGreatDoor
