/-
  NARROWER THAN 'FOR EVERY INPUT', by the rows' own cells (each row's printed sentence says how): SpanMakes: laid · SpanFinds: laid · SpanChanges: laid · SpanBack: laid · SpanApart: laid · SpanOwn: laid · SpanFound: laid · SpanRoom: laid.
  DERIVED. THE GIVEN ROWS OF THIS SEAT. 8 by the template 'for every input the law returns true; each argument reads behind the call as it read before'; 0 by the template 'total and deterministic' (their statements: YtchbbldanmmpjaaDoorTotals.lean).
  GIVEN WITH THE SEED: the statements are not yours to turn. If you find one false, say at which input.
  Laid BY PROGRAM, IN A SANDBOX (cutbox-rows.mjs): the forced cells as the released guide's own fill.sh prints them over the translation b8aa12e2debc4df8… (all of the seat's roots in one cut). By AI agents, Wed Nov 11 2026. No macro, syntax, notation, axiom, sorry.
-/
import Derived.Test.YtchbbldanmmpjaaDoorChecked
import GoSem.Claim
import GoSem.ClaimJoined
import GoSem.ClaimMapViews
import Derived.JoinedTies
import Derived.KernelRfl
namespace Go.Proofs.YtchbbldanmmpjaaDoor
/- THE CELL 'sum', in the pinned program and in every row, IS THE sha256 OF THE DUMP (.gsa) THAT YtchbbldanmmpjaaDoorProg.lean LOADS. Nothing in Lean hashes anything: it is a label: what it is worth is what the hold of that sum in a sandbox is worth. -/
noncomputable def Tryd.pinned : Pinned := { name := "ytchbbldanmmpjaadoor", sum := "b8aa12e2debc4df88a370b78dfa006d6f29838a9523617366d8fc4b720ac9b91", checked := Tryd.checked }
namespace Rows
def none {H : Type} : Left H := { results := [], args := [] }

/- WHAT THE LISTED PACKAGE-LEVEL VARIABLES READ AS WHEN THE CALL BEGINS. Each datum BY PROGRAM (the guide's laid-datum.mjs) off the statement by which the dump's own 'gosem.cut.vars' lays the variable. In a bare row this is a premise. The card (YtchbbldanmmpjaaDoorCards.lean) ties it to the program's text. -/
def laid_math_bits_deBruijn64tab {H : Type} : DataW H := .agg [.lit (.int .u8 0), .lit (.int .u8 1), .lit (.int .u8 56), .lit (.int .u8 2), .lit (.int .u8 57), .lit (.int .u8 49), .lit (.int .u8 28), .lit (.int .u8 3), .lit (.int .u8 61), .lit (.int .u8 58), .lit (.int .u8 42), .lit (.int .u8 50), .lit (.int .u8 38), .lit (.int .u8 29), .lit (.int .u8 17), .lit (.int .u8 4), .lit (.int .u8 62), .lit (.int .u8 47), .lit (.int .u8 59), .lit (.int .u8 36), .lit (.int .u8 45), .lit (.int .u8 43), .lit (.int .u8 51), .lit (.int .u8 22), .lit (.int .u8 53), .lit (.int .u8 39), .lit (.int .u8 33), .lit (.int .u8 30), .lit (.int .u8 24), .lit (.int .u8 18), .lit (.int .u8 12), .lit (.int .u8 5), .lit (.int .u8 63), .lit (.int .u8 55), .lit (.int .u8 48), .lit (.int .u8 27), .lit (.int .u8 60), .lit (.int .u8 41), .lit (.int .u8 37), .lit (.int .u8 16), .lit (.int .u8 46), .lit (.int .u8 35), .lit (.int .u8 44), .lit (.int .u8 21), .lit (.int .u8 52), .lit (.int .u8 32), .lit (.int .u8 23), .lit (.int .u8 11), .lit (.int .u8 54), .lit (.int .u8 26), .lit (.int .u8 40), .lit (.int .u8 15), .lit (.int .u8 34), .lit (.int .u8 20), .lit (.int .u8 31), .lit (.int .u8 10), .lit (.int .u8 25), .lit (.int .u8 14), .lit (.int .u8 19), .lit (.int .u8 9), .lit (.int .u8 13), .lit (.int .u8 8), .lit (.int .u8 7), .lit (.int .u8 6)]

/-- 'besomlaw05.SpanMakes': WHATEVER THE INPUT: true; the input reads as it did. -/
def spanMakesSpec : ChangeSpec := { name := "spanMakes", fn := fun _ => fun
  | [d1, d2, d3, d4, d5, d6] => { results := [.lit (.bool true)], args := [d1, d2, d3, d4, d5, d6] }
  | _ => none }
def spanMakesRow : OpenClaim := { program := "ytchbbldanmmpjaadoor", sum := "b8aa12e2debc4df88a370b78dfa006d6f29838a9523617366d8fc4b720ac9b91", func := "besom/besomlaw05.SpanMakes", spec := "spanMakes", inPlace := ["slices.overlaps[besom/api.Span]"], unfollowed := true, recurses := true, named := ["math/bits.deBruijn64tab"], apart := false, laid := [("math/bits.deBruijn64tab", laid_math_bits_deBruijn64tab)] }
def SpanMakesSaid : Prop := spanMakesRow.holds Tryd.pinned (OpenSpec.ofChange spanMakesSpec)

/-- ITS FALSE NEIGHBOUR: 'it returns false'. Refute it at one input. -/
def spanMakesWrong : ChangeSpec := { name := "spanMakes", fn := fun _ => fun
  | [d1, d2, d3, d4, d5, d6] => { results := [.lit (.bool false)], args := [d1, d2, d3, d4, d5, d6] }
  | _ => none }
def SpanMakesWrongFalsely : Prop := spanMakesRow.holds Tryd.pinned (OpenSpec.ofChange spanMakesWrong)

/-- 'besomlaw05.SpanFinds': WHATEVER THE INPUT: true; the input reads as it did. -/
def spanFindsSpec : ChangeSpec := { name := "spanFinds", fn := fun _ => fun
  | [d1, d2, d3] => { results := [.lit (.bool true)], args := [d1, d2, d3] }
  | _ => none }
def spanFindsRow : OpenClaim := { program := "ytchbbldanmmpjaadoor", sum := "b8aa12e2debc4df88a370b78dfa006d6f29838a9523617366d8fc4b720ac9b91", func := "besom/besomlaw05.SpanFinds", spec := "spanFinds", inPlace := ["slices.overlaps[besom/api.Span]"], unfollowed := true, recurses := true, named := ["math/bits.deBruijn64tab"], apart := false, laid := [("math/bits.deBruijn64tab", laid_math_bits_deBruijn64tab)] }
def SpanFindsSaid : Prop := spanFindsRow.holds Tryd.pinned (OpenSpec.ofChange spanFindsSpec)

/-- ITS FALSE NEIGHBOUR: 'it returns false'. Refute it at one input. -/
def spanFindsWrong : ChangeSpec := { name := "spanFinds", fn := fun _ => fun
  | [d1, d2, d3] => { results := [.lit (.bool false)], args := [d1, d2, d3] }
  | _ => none }
def SpanFindsWrongFalsely : Prop := spanFindsRow.holds Tryd.pinned (OpenSpec.ofChange spanFindsWrong)

/-- 'besomlaw05.SpanChanges': WHATEVER THE INPUT: true; the input reads as it did. -/
def spanChangesSpec : ChangeSpec := { name := "spanChanges", fn := fun _ => fun
  | [d1, d2, d3] => { results := [.lit (.bool true)], args := [d1, d2, d3] }
  | _ => none }
def spanChangesRow : OpenClaim := { program := "ytchbbldanmmpjaadoor", sum := "b8aa12e2debc4df88a370b78dfa006d6f29838a9523617366d8fc4b720ac9b91", func := "besom/besomlaw05.SpanChanges", spec := "spanChanges", inPlace := ["slices.overlaps[besom/api.Span]"], unfollowed := true, recurses := true, named := ["math/bits.deBruijn64tab"], apart := false, laid := [("math/bits.deBruijn64tab", laid_math_bits_deBruijn64tab)] }
def SpanChangesSaid : Prop := spanChangesRow.holds Tryd.pinned (OpenSpec.ofChange spanChangesSpec)

/-- ITS FALSE NEIGHBOUR: 'it returns false'. Refute it at one input. -/
def spanChangesWrong : ChangeSpec := { name := "spanChanges", fn := fun _ => fun
  | [d1, d2, d3] => { results := [.lit (.bool false)], args := [d1, d2, d3] }
  | _ => none }
def SpanChangesWrongFalsely : Prop := spanChangesRow.holds Tryd.pinned (OpenSpec.ofChange spanChangesWrong)

/-- 'besomlaw05.SpanBack': WHATEVER THE INPUT: true; the input reads as it did. -/
def spanBackSpec : ChangeSpec := { name := "spanBack", fn := fun _ => fun
  | [d1, d2] => { results := [.lit (.bool true)], args := [d1, d2] }
  | _ => none }
def spanBackRow : OpenClaim := { program := "ytchbbldanmmpjaadoor", sum := "b8aa12e2debc4df88a370b78dfa006d6f29838a9523617366d8fc4b720ac9b91", func := "besom/besomlaw05.SpanBack", spec := "spanBack", inPlace := ["slices.overlaps[besom/api.Span]"], unfollowed := true, recurses := true, named := ["math/bits.deBruijn64tab"], apart := false, laid := [("math/bits.deBruijn64tab", laid_math_bits_deBruijn64tab)] }
def SpanBackSaid : Prop := spanBackRow.holds Tryd.pinned (OpenSpec.ofChange spanBackSpec)

/-- ITS FALSE NEIGHBOUR: 'it returns false'. Refute it at one input. -/
def spanBackWrong : ChangeSpec := { name := "spanBack", fn := fun _ => fun
  | [d1, d2] => { results := [.lit (.bool false)], args := [d1, d2] }
  | _ => none }
def SpanBackWrongFalsely : Prop := spanBackRow.holds Tryd.pinned (OpenSpec.ofChange spanBackWrong)

/-- 'besomlaw05.SpanApart': WHATEVER THE INPUT: true; the input reads as it did. -/
def spanApartSpec : ChangeSpec := { name := "spanApart", fn := fun _ => fun
  | [d1, d2, d3, d4, d5] => { results := [.lit (.bool true)], args := [d1, d2, d3, d4, d5] }
  | _ => none }
def spanApartRow : OpenClaim := { program := "ytchbbldanmmpjaadoor", sum := "b8aa12e2debc4df88a370b78dfa006d6f29838a9523617366d8fc4b720ac9b91", func := "besom/besomlaw05.SpanApart", spec := "spanApart", inPlace := ["slices.overlaps[besom/api.Span]"], unfollowed := true, recurses := true, named := ["math/bits.deBruijn64tab"], apart := false, laid := [("math/bits.deBruijn64tab", laid_math_bits_deBruijn64tab)] }
def SpanApartSaid : Prop := spanApartRow.holds Tryd.pinned (OpenSpec.ofChange spanApartSpec)

/-- ITS FALSE NEIGHBOUR: 'it returns false'. Refute it at one input. -/
def spanApartWrong : ChangeSpec := { name := "spanApart", fn := fun _ => fun
  | [d1, d2, d3, d4, d5] => { results := [.lit (.bool false)], args := [d1, d2, d3, d4, d5] }
  | _ => none }
def SpanApartWrongFalsely : Prop := spanApartRow.holds Tryd.pinned (OpenSpec.ofChange spanApartWrong)

/-- 'besomlaw05.SpanOwn': WHATEVER THE INPUT: true; the input reads as it did. -/
def spanOwnSpec : ChangeSpec := { name := "spanOwn", fn := fun _ => fun
  | [d1, d2, d3] => { results := [.lit (.bool true)], args := [d1, d2, d3] }
  | _ => none }
def spanOwnRow : OpenClaim := { program := "ytchbbldanmmpjaadoor", sum := "b8aa12e2debc4df88a370b78dfa006d6f29838a9523617366d8fc4b720ac9b91", func := "besom/besomlaw05.SpanOwn", spec := "spanOwn", inPlace := ["slices.overlaps[besom/api.Span]"], unfollowed := true, recurses := true, named := ["math/bits.deBruijn64tab"], apart := false, laid := [("math/bits.deBruijn64tab", laid_math_bits_deBruijn64tab)] }
def SpanOwnSaid : Prop := spanOwnRow.holds Tryd.pinned (OpenSpec.ofChange spanOwnSpec)

/-- ITS FALSE NEIGHBOUR: 'it returns false'. Refute it at one input. -/
def spanOwnWrong : ChangeSpec := { name := "spanOwn", fn := fun _ => fun
  | [d1, d2, d3] => { results := [.lit (.bool false)], args := [d1, d2, d3] }
  | _ => none }
def SpanOwnWrongFalsely : Prop := spanOwnRow.holds Tryd.pinned (OpenSpec.ofChange spanOwnWrong)

/-- 'besomlaw05.SpanFound': WHATEVER THE INPUT: true; the input reads as it did. -/
def spanFoundSpec : ChangeSpec := { name := "spanFound", fn := fun _ => fun
  | [d1, d2, d3, d4] => { results := [.lit (.bool true)], args := [d1, d2, d3, d4] }
  | _ => none }
def spanFoundRow : OpenClaim := { program := "ytchbbldanmmpjaadoor", sum := "b8aa12e2debc4df88a370b78dfa006d6f29838a9523617366d8fc4b720ac9b91", func := "besom/besomlaw05.SpanFound", spec := "spanFound", inPlace := ["slices.overlaps[besom/api.Span]"], unfollowed := true, recurses := true, named := ["math/bits.deBruijn64tab"], apart := false, laid := [("math/bits.deBruijn64tab", laid_math_bits_deBruijn64tab)] }
def SpanFoundSaid : Prop := spanFoundRow.holds Tryd.pinned (OpenSpec.ofChange spanFoundSpec)

/-- ITS FALSE NEIGHBOUR: 'it returns false'. Refute it at one input. -/
def spanFoundWrong : ChangeSpec := { name := "spanFound", fn := fun _ => fun
  | [d1, d2, d3, d4] => { results := [.lit (.bool false)], args := [d1, d2, d3, d4] }
  | _ => none }
def SpanFoundWrongFalsely : Prop := spanFoundRow.holds Tryd.pinned (OpenSpec.ofChange spanFoundWrong)

/-- 'besomlaw05.SpanRoom': WHATEVER THE INPUT: true; the input reads as it did. -/
def spanRoomSpec : ChangeSpec := { name := "spanRoom", fn := fun _ => fun
  | [d1, d2] => { results := [.lit (.bool true)], args := [d1, d2] }
  | _ => none }
def spanRoomRow : OpenClaim := { program := "ytchbbldanmmpjaadoor", sum := "b8aa12e2debc4df88a370b78dfa006d6f29838a9523617366d8fc4b720ac9b91", func := "besom/besomlaw05.SpanRoom", spec := "spanRoom", inPlace := ["slices.overlaps[besom/api.Span]"], unfollowed := true, recurses := true, named := ["math/bits.deBruijn64tab"], apart := false, laid := [("math/bits.deBruijn64tab", laid_math_bits_deBruijn64tab)] }
def SpanRoomSaid : Prop := spanRoomRow.holds Tryd.pinned (OpenSpec.ofChange spanRoomSpec)

/-- ITS FALSE NEIGHBOUR: 'it returns false'. Refute it at one input. -/
def spanRoomWrong : ChangeSpec := { name := "spanRoom", fn := fun _ => fun
  | [d1, d2] => { results := [.lit (.bool false)], args := [d1, d2] }
  | _ => none }
def SpanRoomWrongFalsely : Prop := spanRoomRow.holds Tryd.pinned (OpenSpec.ofChange spanRoomWrong)

/- THE SECOND FORM. 'bulk': how many values and letters a reading holds, each counted each time it is reached (what is shared counts as often as it is met; a slice's spare places count too). A statement '..UptoSaid' is the law's where the arguments, and the package variables that the reading takes, are together of bulk at most 1048576: NARROWER than '..Said'. Prove '..Said' where nothing that the law and all that it calls make is longer than what came in: it says more and counts as full. Else prove '..UptoSaid'. A law counts once. -/
mutual
def uptoBulk {H : Type} : DataW H → Nat
  | .lit (.string bytes) => bytes.length + 1
  | .lit _ => 1
  | .nil => 1
  | .ptr d => uptoBulk d + 1
  | .slice elems spare => uptoBulkAll elems + uptoBulkAll spare + 1
  | .agg parts => uptoBulkAll parts + 1
  | .iface _ d => uptoBulk d + 1
  | .map entries => uptoBulkEntries entries + 1
  | .held _ => 1
def uptoBulkAll {H : Type} : List (DataW H) → Nat
  | [] => 0
  | d :: r => uptoBulk d + uptoBulkAll r
def uptoBulkEntries {H : Type} : List (Lit × DataW H) → Nat
  | [] => 0
  | x :: r => uptoBulkEntry x + uptoBulkEntries r
def uptoBulkEntry {H : Type} : Lit × DataW H → Nat
  | (.string bytes, d) => bytes.length + uptoBulk d + 1
  | (_, d) => uptoBulk d + 1
 end
def uptoSmall : (H : Type) → List (DataW H) → Bool := fun _ ds => decide (uptoBulkAll ds ≤ 1048576)
def OpenSpec.upto (s : _root_.Go.ChangeSpec) : _root_.Go.OpenSpec := { _root_.Go.OpenSpec.ofChange s with cond := some uptoSmall }

/-- 'besomlaw05.SpanMakes', WHERE WHAT IT READS IS OF BULK AT MOST 1048576: true; the input reads as it did. -/
def spanMakesUptoRow : OpenClaim := { program := "ytchbbldanmmpjaadoor", sum := "b8aa12e2debc4df88a370b78dfa006d6f29838a9523617366d8fc4b720ac9b91", func := "besom/besomlaw05.SpanMakes", spec := "spanMakes", inPlace := ["slices.overlaps[besom/api.Span]"], unfollowed := true, recurses := true, named := ["math/bits.deBruijn64tab"], apart := false, laid := [("math/bits.deBruijn64tab", laid_math_bits_deBruijn64tab)], narrowed := true }
def SpanMakesUptoSaid : Prop := spanMakesUptoRow.holds Tryd.pinned (OpenSpec.upto spanMakesSpec)

/-- 'besomlaw05.SpanFinds', WHERE WHAT IT READS IS OF BULK AT MOST 1048576: true; the input reads as it did. -/
def spanFindsUptoRow : OpenClaim := { program := "ytchbbldanmmpjaadoor", sum := "b8aa12e2debc4df88a370b78dfa006d6f29838a9523617366d8fc4b720ac9b91", func := "besom/besomlaw05.SpanFinds", spec := "spanFinds", inPlace := ["slices.overlaps[besom/api.Span]"], unfollowed := true, recurses := true, named := ["math/bits.deBruijn64tab"], apart := false, laid := [("math/bits.deBruijn64tab", laid_math_bits_deBruijn64tab)], narrowed := true }
def SpanFindsUptoSaid : Prop := spanFindsUptoRow.holds Tryd.pinned (OpenSpec.upto spanFindsSpec)

/-- 'besomlaw05.SpanChanges', WHERE WHAT IT READS IS OF BULK AT MOST 1048576: true; the input reads as it did. -/
def spanChangesUptoRow : OpenClaim := { program := "ytchbbldanmmpjaadoor", sum := "b8aa12e2debc4df88a370b78dfa006d6f29838a9523617366d8fc4b720ac9b91", func := "besom/besomlaw05.SpanChanges", spec := "spanChanges", inPlace := ["slices.overlaps[besom/api.Span]"], unfollowed := true, recurses := true, named := ["math/bits.deBruijn64tab"], apart := false, laid := [("math/bits.deBruijn64tab", laid_math_bits_deBruijn64tab)], narrowed := true }
def SpanChangesUptoSaid : Prop := spanChangesUptoRow.holds Tryd.pinned (OpenSpec.upto spanChangesSpec)

/-- 'besomlaw05.SpanBack', WHERE WHAT IT READS IS OF BULK AT MOST 1048576: true; the input reads as it did. -/
def spanBackUptoRow : OpenClaim := { program := "ytchbbldanmmpjaadoor", sum := "b8aa12e2debc4df88a370b78dfa006d6f29838a9523617366d8fc4b720ac9b91", func := "besom/besomlaw05.SpanBack", spec := "spanBack", inPlace := ["slices.overlaps[besom/api.Span]"], unfollowed := true, recurses := true, named := ["math/bits.deBruijn64tab"], apart := false, laid := [("math/bits.deBruijn64tab", laid_math_bits_deBruijn64tab)], narrowed := true }
def SpanBackUptoSaid : Prop := spanBackUptoRow.holds Tryd.pinned (OpenSpec.upto spanBackSpec)

/-- 'besomlaw05.SpanApart', WHERE WHAT IT READS IS OF BULK AT MOST 1048576: true; the input reads as it did. -/
def spanApartUptoRow : OpenClaim := { program := "ytchbbldanmmpjaadoor", sum := "b8aa12e2debc4df88a370b78dfa006d6f29838a9523617366d8fc4b720ac9b91", func := "besom/besomlaw05.SpanApart", spec := "spanApart", inPlace := ["slices.overlaps[besom/api.Span]"], unfollowed := true, recurses := true, named := ["math/bits.deBruijn64tab"], apart := false, laid := [("math/bits.deBruijn64tab", laid_math_bits_deBruijn64tab)], narrowed := true }
def SpanApartUptoSaid : Prop := spanApartUptoRow.holds Tryd.pinned (OpenSpec.upto spanApartSpec)

/-- 'besomlaw05.SpanOwn', WHERE WHAT IT READS IS OF BULK AT MOST 1048576: true; the input reads as it did. -/
def spanOwnUptoRow : OpenClaim := { program := "ytchbbldanmmpjaadoor", sum := "b8aa12e2debc4df88a370b78dfa006d6f29838a9523617366d8fc4b720ac9b91", func := "besom/besomlaw05.SpanOwn", spec := "spanOwn", inPlace := ["slices.overlaps[besom/api.Span]"], unfollowed := true, recurses := true, named := ["math/bits.deBruijn64tab"], apart := false, laid := [("math/bits.deBruijn64tab", laid_math_bits_deBruijn64tab)], narrowed := true }
def SpanOwnUptoSaid : Prop := spanOwnUptoRow.holds Tryd.pinned (OpenSpec.upto spanOwnSpec)

/-- 'besomlaw05.SpanFound', WHERE WHAT IT READS IS OF BULK AT MOST 1048576: true; the input reads as it did. -/
def spanFoundUptoRow : OpenClaim := { program := "ytchbbldanmmpjaadoor", sum := "b8aa12e2debc4df88a370b78dfa006d6f29838a9523617366d8fc4b720ac9b91", func := "besom/besomlaw05.SpanFound", spec := "spanFound", inPlace := ["slices.overlaps[besom/api.Span]"], unfollowed := true, recurses := true, named := ["math/bits.deBruijn64tab"], apart := false, laid := [("math/bits.deBruijn64tab", laid_math_bits_deBruijn64tab)], narrowed := true }
def SpanFoundUptoSaid : Prop := spanFoundUptoRow.holds Tryd.pinned (OpenSpec.upto spanFoundSpec)

/-- 'besomlaw05.SpanRoom', WHERE WHAT IT READS IS OF BULK AT MOST 1048576: true; the input reads as it did. -/
def spanRoomUptoRow : OpenClaim := { program := "ytchbbldanmmpjaadoor", sum := "b8aa12e2debc4df88a370b78dfa006d6f29838a9523617366d8fc4b720ac9b91", func := "besom/besomlaw05.SpanRoom", spec := "spanRoom", inPlace := ["slices.overlaps[besom/api.Span]"], unfollowed := true, recurses := true, named := ["math/bits.deBruijn64tab"], apart := false, laid := [("math/bits.deBruijn64tab", laid_math_bits_deBruijn64tab)], narrowed := true }
def SpanRoomUptoSaid : Prop := spanRoomUptoRow.holds Tryd.pinned (OpenSpec.upto spanRoomSpec)

end Rows
end Go.Proofs.YtchbbldanmmpjaaDoor
