/-
  DERIVED. GIVEN WITH THE SEED: THE CARDS: each row of YtchbbldanmmpjaaDoorRows.lean that lists a variable, with what it lists TIED to the program's text (the seventh form; the later family's looks); each row that meets fmt, with fmt's text TOLD by the authors' own Lean function (tested against real Go, not proved from fmt's source: count such statements apart). THE CARD IS WHAT COUNTS. Prove the row's statement (the work); the ties are given (YtchbbldanmmpjaaDoorTie.lean); close each card by the builder's one call (the guide's Derived/Test/ToyasCard.lean, 'card_holds'). Laid BY PROGRAM, IN A SANDBOX (cutbox-door.mjs). By AI agents, Wed Nov 11 2026. No macro, syntax, notation, axiom, sorry.
-/
import Derived.Test.YtchbbldanmmpjaaDoorRows
import GoSem.ClaimSeven
namespace Go.Proofs.YtchbbldanmmpjaaDoor
namespace Rows

/-- THE TIED CARD OF 'besomlaw05.SpanMakes'. -/
def spanMakesCard : Claim7 := { stood := { row := spanMakesRow, standIns := [], harness := (true, "961487737ae018a8e24fd25e57d86dcdc1f1adf5dcaca26b059554ddb59efd13"), looks := false }, kinds := [], alts := [], laidByText := true, laidKinds := [.data], laidTests := true, laidLooks := .later }
def SpanMakesCardSaid : Prop := Claim7.holds Tryd.pinned (.plain (OpenSpec.ofChange spanMakesSpec)) spanMakesCard

/-- THE TIED CARD OF 'besomlaw05.SpanFinds'. -/
def spanFindsCard : Claim7 := { stood := { row := spanFindsRow, standIns := [], harness := (true, "961487737ae018a8e24fd25e57d86dcdc1f1adf5dcaca26b059554ddb59efd13"), looks := false }, kinds := [], alts := [], laidByText := true, laidKinds := [.data], laidTests := true, laidLooks := .later }
def SpanFindsCardSaid : Prop := Claim7.holds Tryd.pinned (.plain (OpenSpec.ofChange spanFindsSpec)) spanFindsCard

/-- THE TIED CARD OF 'besomlaw05.SpanChanges'. -/
def spanChangesCard : Claim7 := { stood := { row := spanChangesRow, standIns := [], harness := (true, "961487737ae018a8e24fd25e57d86dcdc1f1adf5dcaca26b059554ddb59efd13"), looks := false }, kinds := [], alts := [], laidByText := true, laidKinds := [.data], laidTests := true, laidLooks := .later }
def SpanChangesCardSaid : Prop := Claim7.holds Tryd.pinned (.plain (OpenSpec.ofChange spanChangesSpec)) spanChangesCard

/-- THE TIED CARD OF 'besomlaw05.SpanBack'. -/
def spanBackCard : Claim7 := { stood := { row := spanBackRow, standIns := [], harness := (true, "961487737ae018a8e24fd25e57d86dcdc1f1adf5dcaca26b059554ddb59efd13"), looks := false }, kinds := [], alts := [], laidByText := true, laidKinds := [.data], laidTests := true, laidLooks := .later }
def SpanBackCardSaid : Prop := Claim7.holds Tryd.pinned (.plain (OpenSpec.ofChange spanBackSpec)) spanBackCard

/-- THE TIED CARD OF 'besomlaw05.SpanApart'. -/
def spanApartCard : Claim7 := { stood := { row := spanApartRow, standIns := [], harness := (true, "961487737ae018a8e24fd25e57d86dcdc1f1adf5dcaca26b059554ddb59efd13"), looks := false }, kinds := [], alts := [], laidByText := true, laidKinds := [.data], laidTests := true, laidLooks := .later }
def SpanApartCardSaid : Prop := Claim7.holds Tryd.pinned (.plain (OpenSpec.ofChange spanApartSpec)) spanApartCard

/-- THE TIED CARD OF 'besomlaw05.SpanOwn'. -/
def spanOwnCard : Claim7 := { stood := { row := spanOwnRow, standIns := [], harness := (true, "961487737ae018a8e24fd25e57d86dcdc1f1adf5dcaca26b059554ddb59efd13"), looks := false }, kinds := [], alts := [], laidByText := true, laidKinds := [.data], laidTests := true, laidLooks := .later }
def SpanOwnCardSaid : Prop := Claim7.holds Tryd.pinned (.plain (OpenSpec.ofChange spanOwnSpec)) spanOwnCard

/-- THE TIED CARD OF 'besomlaw05.SpanFound'. -/
def spanFoundCard : Claim7 := { stood := { row := spanFoundRow, standIns := [], harness := (true, "961487737ae018a8e24fd25e57d86dcdc1f1adf5dcaca26b059554ddb59efd13"), looks := false }, kinds := [], alts := [], laidByText := true, laidKinds := [.data], laidTests := true, laidLooks := .later }
def SpanFoundCardSaid : Prop := Claim7.holds Tryd.pinned (.plain (OpenSpec.ofChange spanFoundSpec)) spanFoundCard

/-- THE TIED CARD OF 'besomlaw05.SpanRoom'. -/
def spanRoomCard : Claim7 := { stood := { row := spanRoomRow, standIns := [], harness := (true, "961487737ae018a8e24fd25e57d86dcdc1f1adf5dcaca26b059554ddb59efd13"), looks := false }, kinds := [], alts := [], laidByText := true, laidKinds := [.data], laidTests := true, laidLooks := .later }
def SpanRoomCardSaid : Prop := Claim7.holds Tryd.pinned (.plain (OpenSpec.ofChange spanRoomSpec)) spanRoomCard

/-- THE SECOND FORM's CARD OF 'besomlaw05.SpanMakes'. -/
def spanMakesUptoCard : Claim7 := { stood := { row := spanMakesUptoRow, standIns := [], harness := (true, "961487737ae018a8e24fd25e57d86dcdc1f1adf5dcaca26b059554ddb59efd13"), looks := false }, kinds := [], alts := [], laidByText := true, laidKinds := [.data], laidTests := true, laidLooks := .later }
def SpanMakesUptoCardSaid : Prop := Claim7.holds Tryd.pinned (.plain (OpenSpec.upto spanMakesSpec)) spanMakesUptoCard

/-- THE SECOND FORM's CARD OF 'besomlaw05.SpanFinds'. -/
def spanFindsUptoCard : Claim7 := { stood := { row := spanFindsUptoRow, standIns := [], harness := (true, "961487737ae018a8e24fd25e57d86dcdc1f1adf5dcaca26b059554ddb59efd13"), looks := false }, kinds := [], alts := [], laidByText := true, laidKinds := [.data], laidTests := true, laidLooks := .later }
def SpanFindsUptoCardSaid : Prop := Claim7.holds Tryd.pinned (.plain (OpenSpec.upto spanFindsSpec)) spanFindsUptoCard

/-- THE SECOND FORM's CARD OF 'besomlaw05.SpanChanges'. -/
def spanChangesUptoCard : Claim7 := { stood := { row := spanChangesUptoRow, standIns := [], harness := (true, "961487737ae018a8e24fd25e57d86dcdc1f1adf5dcaca26b059554ddb59efd13"), looks := false }, kinds := [], alts := [], laidByText := true, laidKinds := [.data], laidTests := true, laidLooks := .later }
def SpanChangesUptoCardSaid : Prop := Claim7.holds Tryd.pinned (.plain (OpenSpec.upto spanChangesSpec)) spanChangesUptoCard

/-- THE SECOND FORM's CARD OF 'besomlaw05.SpanBack'. -/
def spanBackUptoCard : Claim7 := { stood := { row := spanBackUptoRow, standIns := [], harness := (true, "961487737ae018a8e24fd25e57d86dcdc1f1adf5dcaca26b059554ddb59efd13"), looks := false }, kinds := [], alts := [], laidByText := true, laidKinds := [.data], laidTests := true, laidLooks := .later }
def SpanBackUptoCardSaid : Prop := Claim7.holds Tryd.pinned (.plain (OpenSpec.upto spanBackSpec)) spanBackUptoCard

/-- THE SECOND FORM's CARD OF 'besomlaw05.SpanApart'. -/
def spanApartUptoCard : Claim7 := { stood := { row := spanApartUptoRow, standIns := [], harness := (true, "961487737ae018a8e24fd25e57d86dcdc1f1adf5dcaca26b059554ddb59efd13"), looks := false }, kinds := [], alts := [], laidByText := true, laidKinds := [.data], laidTests := true, laidLooks := .later }
def SpanApartUptoCardSaid : Prop := Claim7.holds Tryd.pinned (.plain (OpenSpec.upto spanApartSpec)) spanApartUptoCard

/-- THE SECOND FORM's CARD OF 'besomlaw05.SpanOwn'. -/
def spanOwnUptoCard : Claim7 := { stood := { row := spanOwnUptoRow, standIns := [], harness := (true, "961487737ae018a8e24fd25e57d86dcdc1f1adf5dcaca26b059554ddb59efd13"), looks := false }, kinds := [], alts := [], laidByText := true, laidKinds := [.data], laidTests := true, laidLooks := .later }
def SpanOwnUptoCardSaid : Prop := Claim7.holds Tryd.pinned (.plain (OpenSpec.upto spanOwnSpec)) spanOwnUptoCard

/-- THE SECOND FORM's CARD OF 'besomlaw05.SpanFound'. -/
def spanFoundUptoCard : Claim7 := { stood := { row := spanFoundUptoRow, standIns := [], harness := (true, "961487737ae018a8e24fd25e57d86dcdc1f1adf5dcaca26b059554ddb59efd13"), looks := false }, kinds := [], alts := [], laidByText := true, laidKinds := [.data], laidTests := true, laidLooks := .later }
def SpanFoundUptoCardSaid : Prop := Claim7.holds Tryd.pinned (.plain (OpenSpec.upto spanFoundSpec)) spanFoundUptoCard

/-- THE SECOND FORM's CARD OF 'besomlaw05.SpanRoom'. -/
def spanRoomUptoCard : Claim7 := { stood := { row := spanRoomUptoRow, standIns := [], harness := (true, "961487737ae018a8e24fd25e57d86dcdc1f1adf5dcaca26b059554ddb59efd13"), looks := false }, kinds := [], alts := [], laidByText := true, laidKinds := [.data], laidTests := true, laidLooks := .later }
def SpanRoomUptoCardSaid : Prop := Claim7.holds Tryd.pinned (.plain (OpenSpec.upto spanRoomSpec)) spanRoomUptoCard
end Rows
end Go.Proofs.YtchbbldanmmpjaaDoor
