/-
  No cell of these rows narrows 'for every input' (looked for: loops, veiled, ifaces, maps, wideKeys, modest, calm, conditions, laid).
  DERIVED. THE GIVEN ROWS OF THIS SEAT. 6 by the template 'for every input the law returns true; each argument reads behind the call as it read before'; 0 by the template 'total and deterministic' (their statements: YtiapiajldchnmaaTotals.lean).
  GIVEN WITH THE SEED: the statements are not yours to turn. If you find one false, say at which input.
  Laid BY PROGRAM, IN A SANDBOX (cutbox-rows.mjs): the forced cells as the released guide's own fill.sh prints them over the translation be9a8b4fdaaed3ba… (all of the seat's roots in one cut). By AI agents, Wed Nov 11 2026. No macro, syntax, notation, axiom, sorry.
-/
import Derived.Test.YtiapiajldchnmaaChecked
import GoSem.Claim
import GoSem.ClaimJoined
import GoSem.ClaimMapViews
import Derived.JoinedTies
import Derived.KernelRfl
namespace Go.Proofs.Ytiapiajldchnmaa
/- THE CELL 'sum', in the pinned program and in every row, IS THE sha256 OF THE DUMP (.gsa) THAT YtiapiajldchnmaaProg.lean LOADS. Nothing in Lean hashes anything: it is a label: what it is worth is what the hold of that sum in a sandbox is worth. -/
noncomputable def Try.pinned : Pinned := { name := "ytiapiajldchnmaa", sum := "be9a8b4fdaaed3bace179de1244bb86a95ca8a32a4e955772bd7057689d5a0a7", checked := Try.checked }
namespace Rows
def none {H : Type} : Left H := { results := [], args := [] }

/-- 'besomlaw08.SpecialDoes': WHATEVER THE INPUT: true; the input reads as it did. -/
def specialDoesSpec : ChangeSpec := { name := "specialDoes", fn := fun _ => fun
  | [d1, d2, d3, d4] => { results := [.lit (.bool true)], args := [d1, d2, d3, d4] }
  | _ => none }
def specialDoesRow : OpenClaim := { program := "ytiapiajldchnmaa", sum := "be9a8b4fdaaed3bace179de1244bb86a95ca8a32a4e955772bd7057689d5a0a7", func := "besom/besomlaw08.SpecialDoes", spec := "specialDoes", inPlace := ["slices.overlaps[besom/api.Special]"], unfollowed := true, recurses := true, apart := false }
def SpecialDoesSaid : Prop := specialDoesRow.holds Try.pinned (OpenSpec.ofChange specialDoesSpec)

/-- ITS FALSE NEIGHBOUR: 'it returns false'. Refute it at one input. -/
def specialDoesWrong : ChangeSpec := { name := "specialDoes", fn := fun _ => fun
  | [d1, d2, d3, d4] => { results := [.lit (.bool false)], args := [d1, d2, d3, d4] }
  | _ => none }
def SpecialDoesWrongFalsely : Prop := specialDoesRow.holds Try.pinned (OpenSpec.ofChange specialDoesWrong)

/-- 'besomlaw08.SpecialAsks': WHATEVER THE INPUT: true; the input reads as it did. -/
def specialAsksSpec : ChangeSpec := { name := "specialAsks", fn := fun _ => fun
  | [d1, d2] => { results := [.lit (.bool true)], args := [d1, d2] }
  | _ => none }
def specialAsksRow : OpenClaim := { program := "ytiapiajldchnmaa", sum := "be9a8b4fdaaed3bace179de1244bb86a95ca8a32a4e955772bd7057689d5a0a7", func := "besom/besomlaw08.SpecialAsks", spec := "specialAsks", inPlace := ["slices.overlaps[besom/api.Special]"], unfollowed := true, recurses := true, apart := false }
def SpecialAsksSaid : Prop := specialAsksRow.holds Try.pinned (OpenSpec.ofChange specialAsksSpec)

/-- ITS FALSE NEIGHBOUR: 'it returns false'. Refute it at one input. -/
def specialAsksWrong : ChangeSpec := { name := "specialAsks", fn := fun _ => fun
  | [d1, d2] => { results := [.lit (.bool false)], args := [d1, d2] }
  | _ => none }
def SpecialAsksWrongFalsely : Prop := specialAsksRow.holds Try.pinned (OpenSpec.ofChange specialAsksWrong)

/-- 'besomlaw08.SpecialBack': WHATEVER THE INPUT: true; the input reads as it did. -/
def specialBackSpec : ChangeSpec := { name := "specialBack", fn := fun _ => fun
  | [d1, d2] => { results := [.lit (.bool true)], args := [d1, d2] }
  | _ => none }
def specialBackRow : OpenClaim := { program := "ytiapiajldchnmaa", sum := "be9a8b4fdaaed3bace179de1244bb86a95ca8a32a4e955772bd7057689d5a0a7", func := "besom/besomlaw08.SpecialBack", spec := "specialBack", inPlace := ["slices.overlaps[besom/api.Special]"], unfollowed := true, recurses := true, apart := false }
def SpecialBackSaid : Prop := specialBackRow.holds Try.pinned (OpenSpec.ofChange specialBackSpec)

/-- ITS FALSE NEIGHBOUR: 'it returns false'. Refute it at one input. -/
def specialBackWrong : ChangeSpec := { name := "specialBack", fn := fun _ => fun
  | [d1, d2] => { results := [.lit (.bool false)], args := [d1, d2] }
  | _ => none }
def SpecialBackWrongFalsely : Prop := specialBackRow.holds Try.pinned (OpenSpec.ofChange specialBackWrong)

/-- 'besomlaw08.SpecialParts': WHATEVER THE INPUT: true; the input reads as it did. -/
def specialPartsSpec : ChangeSpec := { name := "specialParts", fn := fun _ => fun
  | [d1, d2] => { results := [.lit (.bool true)], args := [d1, d2] }
  | _ => none }
def specialPartsRow : OpenClaim := { program := "ytiapiajldchnmaa", sum := "be9a8b4fdaaed3bace179de1244bb86a95ca8a32a4e955772bd7057689d5a0a7", func := "besom/besomlaw08.SpecialParts", spec := "specialParts", inPlace := ["slices.overlaps[besom/api.Special]"], unfollowed := true, recurses := true, apart := false }
def SpecialPartsSaid : Prop := specialPartsRow.holds Try.pinned (OpenSpec.ofChange specialPartsSpec)

/-- ITS FALSE NEIGHBOUR: 'it returns false'. Refute it at one input. -/
def specialPartsWrong : ChangeSpec := { name := "specialParts", fn := fun _ => fun
  | [d1, d2] => { results := [.lit (.bool false)], args := [d1, d2] }
  | _ => none }
def SpecialPartsWrongFalsely : Prop := specialPartsRow.holds Try.pinned (OpenSpec.ofChange specialPartsWrong)

/-- 'besomlaw08.SpecialOrder': WHATEVER THE INPUT: true; the input reads as it did. -/
def specialOrderSpec : ChangeSpec := { name := "specialOrder", fn := fun _ => fun
  | [d1, d2, d3, d4] => { results := [.lit (.bool true)], args := [d1, d2, d3, d4] }
  | _ => none }
def specialOrderRow : OpenClaim := { program := "ytiapiajldchnmaa", sum := "be9a8b4fdaaed3bace179de1244bb86a95ca8a32a4e955772bd7057689d5a0a7", func := "besom/besomlaw08.SpecialOrder", spec := "specialOrder", inPlace := ["slices.overlaps[besom/api.Special]"], unfollowed := true, recurses := true, apart := false }
def SpecialOrderSaid : Prop := specialOrderRow.holds Try.pinned (OpenSpec.ofChange specialOrderSpec)

/-- ITS FALSE NEIGHBOUR: 'it returns false'. Refute it at one input. -/
def specialOrderWrong : ChangeSpec := { name := "specialOrder", fn := fun _ => fun
  | [d1, d2, d3, d4] => { results := [.lit (.bool false)], args := [d1, d2, d3, d4] }
  | _ => none }
def SpecialOrderWrongFalsely : Prop := specialOrderRow.holds Try.pinned (OpenSpec.ofChange specialOrderWrong)

/-- 'besomlaw08.SpecialOwn': WHATEVER THE INPUT: true; the input reads as it did. -/
def specialOwnSpec : ChangeSpec := { name := "specialOwn", fn := fun _ => fun
  | [d1, d2, d3] => { results := [.lit (.bool true)], args := [d1, d2, d3] }
  | _ => none }
def specialOwnRow : OpenClaim := { program := "ytiapiajldchnmaa", sum := "be9a8b4fdaaed3bace179de1244bb86a95ca8a32a4e955772bd7057689d5a0a7", func := "besom/besomlaw08.SpecialOwn", spec := "specialOwn", inPlace := ["slices.overlaps[besom/api.Special]"], unfollowed := true, recurses := true, apart := false }
def SpecialOwnSaid : Prop := specialOwnRow.holds Try.pinned (OpenSpec.ofChange specialOwnSpec)

/-- ITS FALSE NEIGHBOUR: 'it returns false'. Refute it at one input. -/
def specialOwnWrong : ChangeSpec := { name := "specialOwn", fn := fun _ => fun
  | [d1, d2, d3] => { results := [.lit (.bool false)], args := [d1, d2, d3] }
  | _ => none }
def SpecialOwnWrongFalsely : Prop := specialOwnRow.holds Try.pinned (OpenSpec.ofChange specialOwnWrong)

/- THE SECOND FORM. 'bulk': how many values and letters a reading holds, each counted each time it is reached (what is shared counts as often as it is met; a slice's spare places count too). A statement '..UptoSaid' is the law's where the arguments, and the package variables that the reading takes, are together of bulk at most 1048576: NARROWER than '..Said'. Prove '..Said' where nothing that the law and all that it calls make is longer than what came in: it says more and counts as full. Else prove '..UptoSaid'. A law counts once. -/
mutual
def uptoBulk {H : Type} : DataW H → Nat
  | .lit (.string bytes) => bytes.length + 1
  | .lit _ => 1
  | .nil => 1
  | .ptr d => uptoBulk d + 1
  | .slice elems spare => uptoBulkAll elems + uptoBulkAll spare + 1
  | .agg parts => uptoBulkAll parts + 1
  | .iface _ d => uptoBulk d + 1
  | .map entries => uptoBulkEntries entries + 1
  | .held _ => 1
def uptoBulkAll {H : Type} : List (DataW H) → Nat
  | [] => 0
  | d :: r => uptoBulk d + uptoBulkAll r
def uptoBulkEntries {H : Type} : List (Lit × DataW H) → Nat
  | [] => 0
  | x :: r => uptoBulkEntry x + uptoBulkEntries r
def uptoBulkEntry {H : Type} : Lit × DataW H → Nat
  | (.string bytes, d) => bytes.length + uptoBulk d + 1
  | (_, d) => uptoBulk d + 1
 end
def uptoSmall : (H : Type) → List (DataW H) → Bool := fun _ ds => decide (uptoBulkAll ds ≤ 1048576)
def OpenSpec.upto (s : _root_.Go.ChangeSpec) : _root_.Go.OpenSpec := { _root_.Go.OpenSpec.ofChange s with cond := some uptoSmall }

/-- 'besomlaw08.SpecialDoes', WHERE WHAT IT READS IS OF BULK AT MOST 1048576: true; the input reads as it did. -/
def specialDoesUptoRow : OpenClaim := { program := "ytiapiajldchnmaa", sum := "be9a8b4fdaaed3bace179de1244bb86a95ca8a32a4e955772bd7057689d5a0a7", func := "besom/besomlaw08.SpecialDoes", spec := "specialDoes", inPlace := ["slices.overlaps[besom/api.Special]"], unfollowed := true, recurses := true, apart := false, narrowed := true }
def SpecialDoesUptoSaid : Prop := specialDoesUptoRow.holds Try.pinned (OpenSpec.upto specialDoesSpec)

/-- 'besomlaw08.SpecialAsks', WHERE WHAT IT READS IS OF BULK AT MOST 1048576: true; the input reads as it did. -/
def specialAsksUptoRow : OpenClaim := { program := "ytiapiajldchnmaa", sum := "be9a8b4fdaaed3bace179de1244bb86a95ca8a32a4e955772bd7057689d5a0a7", func := "besom/besomlaw08.SpecialAsks", spec := "specialAsks", inPlace := ["slices.overlaps[besom/api.Special]"], unfollowed := true, recurses := true, apart := false, narrowed := true }
def SpecialAsksUptoSaid : Prop := specialAsksUptoRow.holds Try.pinned (OpenSpec.upto specialAsksSpec)

/-- 'besomlaw08.SpecialBack', WHERE WHAT IT READS IS OF BULK AT MOST 1048576: true; the input reads as it did. -/
def specialBackUptoRow : OpenClaim := { program := "ytiapiajldchnmaa", sum := "be9a8b4fdaaed3bace179de1244bb86a95ca8a32a4e955772bd7057689d5a0a7", func := "besom/besomlaw08.SpecialBack", spec := "specialBack", inPlace := ["slices.overlaps[besom/api.Special]"], unfollowed := true, recurses := true, apart := false, narrowed := true }
def SpecialBackUptoSaid : Prop := specialBackUptoRow.holds Try.pinned (OpenSpec.upto specialBackSpec)

/-- 'besomlaw08.SpecialParts', WHERE WHAT IT READS IS OF BULK AT MOST 1048576: true; the input reads as it did. -/
def specialPartsUptoRow : OpenClaim := { program := "ytiapiajldchnmaa", sum := "be9a8b4fdaaed3bace179de1244bb86a95ca8a32a4e955772bd7057689d5a0a7", func := "besom/besomlaw08.SpecialParts", spec := "specialParts", inPlace := ["slices.overlaps[besom/api.Special]"], unfollowed := true, recurses := true, apart := false, narrowed := true }
def SpecialPartsUptoSaid : Prop := specialPartsUptoRow.holds Try.pinned (OpenSpec.upto specialPartsSpec)

/-- 'besomlaw08.SpecialOrder', WHERE WHAT IT READS IS OF BULK AT MOST 1048576: true; the input reads as it did. -/
def specialOrderUptoRow : OpenClaim := { program := "ytiapiajldchnmaa", sum := "be9a8b4fdaaed3bace179de1244bb86a95ca8a32a4e955772bd7057689d5a0a7", func := "besom/besomlaw08.SpecialOrder", spec := "specialOrder", inPlace := ["slices.overlaps[besom/api.Special]"], unfollowed := true, recurses := true, apart := false, narrowed := true }
def SpecialOrderUptoSaid : Prop := specialOrderUptoRow.holds Try.pinned (OpenSpec.upto specialOrderSpec)

/-- 'besomlaw08.SpecialOwn', WHERE WHAT IT READS IS OF BULK AT MOST 1048576: true; the input reads as it did. -/
def specialOwnUptoRow : OpenClaim := { program := "ytiapiajldchnmaa", sum := "be9a8b4fdaaed3bace179de1244bb86a95ca8a32a4e955772bd7057689d5a0a7", func := "besom/besomlaw08.SpecialOwn", spec := "specialOwn", inPlace := ["slices.overlaps[besom/api.Special]"], unfollowed := true, recurses := true, apart := false, narrowed := true }
def SpecialOwnUptoSaid : Prop := specialOwnUptoRow.holds Try.pinned (OpenSpec.upto specialOwnSpec)

end Rows
end Go.Proofs.Ytiapiajldchnmaa
