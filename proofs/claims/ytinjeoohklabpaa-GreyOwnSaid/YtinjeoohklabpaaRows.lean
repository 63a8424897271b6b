/-
  No cell of these rows narrows 'for every input' (looked for: loops, veiled, ifaces, maps, wideKeys, modest, calm, conditions, laid).
  DERIVED. THE GIVEN ROWS OF THIS SEAT. 6 by the template 'for every input the law returns true; each argument reads behind the call as it read before'; 0 by the template 'total and deterministic' (their statements: YtinjeoohklabpaaTotals.lean).
  GIVEN WITH THE SEED: the statements are not yours to turn. If you find one false, say at which input.
  Laid BY PROGRAM, IN A SANDBOX (cutbox-rows.mjs): the forced cells as the released guide's own fill.sh prints them over the translation fa2f99bacefdcde3… (all of the seat's roots in one cut). By AI agents, Wed Nov 11 2026. No macro, syntax, notation, axiom, sorry.
-/
import Derived.Test.YtinjeoohklabpaaChecked
import GoSem.Claim
import GoSem.ClaimJoined
import GoSem.ClaimMapViews
import Derived.JoinedTies
import Derived.KernelRfl
namespace Go.Proofs.Ytinjeoohklabpaa
/- THE CELL 'sum', in the pinned program and in every row, IS THE sha256 OF THE DUMP (.gsa) THAT YtinjeoohklabpaaProg.lean LOADS. Nothing in Lean hashes anything: it is a label: what it is worth is what the hold of that sum in a sandbox is worth. -/
noncomputable def Try.pinned : Pinned := { name := "ytinjeoohklabpaa", sum := "fa2f99bacefdcde3cdd80203a786be407fd15e4dbfb94851d71b87acb6476c69", checked := Try.checked }
namespace Rows
def none {H : Type} : Left H := { results := [], args := [] }

/-- 'besomlaw12.GreyDoes': WHATEVER THE INPUT: true; the input reads as it did. -/
def greyDoesSpec : ChangeSpec := { name := "greyDoes", fn := fun _ => fun
  | [d1, d2, d3] => { results := [.lit (.bool true)], args := [d1, d2, d3] }
  | _ => none }
def greyDoesRow : OpenClaim := { program := "ytinjeoohklabpaa", sum := "fa2f99bacefdcde3cdd80203a786be407fd15e4dbfb94851d71b87acb6476c69", func := "besom/besomlaw12.GreyDoes", spec := "greyDoes", unfollowed := true, recurses := true, apart := false }
def GreyDoesSaid : Prop := greyDoesRow.holds Try.pinned (OpenSpec.ofChange greyDoesSpec)

/-- ITS FALSE NEIGHBOUR: 'it returns false'. Refute it at one input. -/
def greyDoesWrong : ChangeSpec := { name := "greyDoes", fn := fun _ => fun
  | [d1, d2, d3] => { results := [.lit (.bool false)], args := [d1, d2, d3] }
  | _ => none }
def GreyDoesWrongFalsely : Prop := greyDoesRow.holds Try.pinned (OpenSpec.ofChange greyDoesWrong)

/-- 'besomlaw12.GreyAsks': WHATEVER THE INPUT: true; the input reads as it did. -/
def greyAsksSpec : ChangeSpec := { name := "greyAsks", fn := fun _ => fun
  | [d1, d2] => { results := [.lit (.bool true)], args := [d1, d2] }
  | _ => none }
def greyAsksRow : OpenClaim := { program := "ytinjeoohklabpaa", sum := "fa2f99bacefdcde3cdd80203a786be407fd15e4dbfb94851d71b87acb6476c69", func := "besom/besomlaw12.GreyAsks", spec := "greyAsks", unfollowed := true, recurses := true, apart := false }
def GreyAsksSaid : Prop := greyAsksRow.holds Try.pinned (OpenSpec.ofChange greyAsksSpec)

/-- ITS FALSE NEIGHBOUR: 'it returns false'. Refute it at one input. -/
def greyAsksWrong : ChangeSpec := { name := "greyAsks", fn := fun _ => fun
  | [d1, d2] => { results := [.lit (.bool false)], args := [d1, d2] }
  | _ => none }
def GreyAsksWrongFalsely : Prop := greyAsksRow.holds Try.pinned (OpenSpec.ofChange greyAsksWrong)

/-- 'besomlaw12.GreyOnce': WHATEVER THE INPUT: true; the input reads as it did. -/
def greyOnceSpec : ChangeSpec := { name := "greyOnce", fn := fun _ => fun
  | [d1, d2] => { results := [.lit (.bool true)], args := [d1, d2] }
  | _ => none }
def greyOnceRow : OpenClaim := { program := "ytinjeoohklabpaa", sum := "fa2f99bacefdcde3cdd80203a786be407fd15e4dbfb94851d71b87acb6476c69", func := "besom/besomlaw12.GreyOnce", spec := "greyOnce", unfollowed := true, recurses := true, apart := false }
def GreyOnceSaid : Prop := greyOnceRow.holds Try.pinned (OpenSpec.ofChange greyOnceSpec)

/-- ITS FALSE NEIGHBOUR: 'it returns false'. Refute it at one input. -/
def greyOnceWrong : ChangeSpec := { name := "greyOnce", fn := fun _ => fun
  | [d1, d2] => { results := [.lit (.bool false)], args := [d1, d2] }
  | _ => none }
def GreyOnceWrongFalsely : Prop := greyOnceRow.holds Try.pinned (OpenSpec.ofChange greyOnceWrong)

/-- 'besomlaw12.GreyLast': WHATEVER THE INPUT: true; the input reads as it did. -/
def greyLastSpec : ChangeSpec := { name := "greyLast", fn := fun _ => fun
  | [d1, d2, d3] => { results := [.lit (.bool true)], args := [d1, d2, d3] }
  | _ => none }
def greyLastRow : OpenClaim := { program := "ytinjeoohklabpaa", sum := "fa2f99bacefdcde3cdd80203a786be407fd15e4dbfb94851d71b87acb6476c69", func := "besom/besomlaw12.GreyLast", spec := "greyLast", unfollowed := true, recurses := true, apart := false }
def GreyLastSaid : Prop := greyLastRow.holds Try.pinned (OpenSpec.ofChange greyLastSpec)

/-- ITS FALSE NEIGHBOUR: 'it returns false'. Refute it at one input. -/
def greyLastWrong : ChangeSpec := { name := "greyLast", fn := fun _ => fun
  | [d1, d2, d3] => { results := [.lit (.bool false)], args := [d1, d2, d3] }
  | _ => none }
def GreyLastWrongFalsely : Prop := greyLastRow.holds Try.pinned (OpenSpec.ofChange greyLastWrong)

/-- 'besomlaw12.GreySteals': WHATEVER THE INPUT: true; the input reads as it did. -/
def greyStealsSpec : ChangeSpec := { name := "greySteals", fn := fun _ => fun
  | [d1, d2] => { results := [.lit (.bool true)], args := [d1, d2] }
  | _ => none }
def greyStealsRow : OpenClaim := { program := "ytinjeoohklabpaa", sum := "fa2f99bacefdcde3cdd80203a786be407fd15e4dbfb94851d71b87acb6476c69", func := "besom/besomlaw12.GreySteals", spec := "greySteals", unfollowed := true, recurses := true, apart := false }
def GreyStealsSaid : Prop := greyStealsRow.holds Try.pinned (OpenSpec.ofChange greyStealsSpec)

/-- ITS FALSE NEIGHBOUR: 'it returns false'. Refute it at one input. -/
def greyStealsWrong : ChangeSpec := { name := "greySteals", fn := fun _ => fun
  | [d1, d2] => { results := [.lit (.bool false)], args := [d1, d2] }
  | _ => none }
def GreyStealsWrongFalsely : Prop := greyStealsRow.holds Try.pinned (OpenSpec.ofChange greyStealsWrong)

/-- 'besomlaw12.GreyOwn': WHATEVER THE INPUT: true; the input reads as it did. -/
def greyOwnSpec : ChangeSpec := { name := "greyOwn", fn := fun _ => fun
  | [d1, d2, d3] => { results := [.lit (.bool true)], args := [d1, d2, d3] }
  | _ => none }
def greyOwnRow : OpenClaim := { program := "ytinjeoohklabpaa", sum := "fa2f99bacefdcde3cdd80203a786be407fd15e4dbfb94851d71b87acb6476c69", func := "besom/besomlaw12.GreyOwn", spec := "greyOwn", unfollowed := true, recurses := true, apart := false }
def GreyOwnSaid : Prop := greyOwnRow.holds Try.pinned (OpenSpec.ofChange greyOwnSpec)

/-- ITS FALSE NEIGHBOUR: 'it returns false'. Refute it at one input. -/
def greyOwnWrong : ChangeSpec := { name := "greyOwn", fn := fun _ => fun
  | [d1, d2, d3] => { results := [.lit (.bool false)], args := [d1, d2, d3] }
  | _ => none }
def GreyOwnWrongFalsely : Prop := greyOwnRow.holds Try.pinned (OpenSpec.ofChange greyOwnWrong)

/- THE SECOND FORM. 'bulk': how many values and letters a reading holds, each counted each time it is reached (what is shared counts as often as it is met; a slice's spare places count too). A statement '..UptoSaid' is the law's where the arguments, and the package variables that the reading takes, are together of bulk at most 1048576: NARROWER than '..Said'. Prove '..Said' where nothing that the law and all that it calls make is longer than what came in: it says more and counts as full. Else prove '..UptoSaid'. A law counts once. -/
mutual
def uptoBulk {H : Type} : DataW H → Nat
  | .lit (.string bytes) => bytes.length + 1
  | .lit _ => 1
  | .nil => 1
  | .ptr d => uptoBulk d + 1
  | .slice elems spare => uptoBulkAll elems + uptoBulkAll spare + 1
  | .agg parts => uptoBulkAll parts + 1
  | .iface _ d => uptoBulk d + 1
  | .map entries => uptoBulkEntries entries + 1
  | .held _ => 1
def uptoBulkAll {H : Type} : List (DataW H) → Nat
  | [] => 0
  | d :: r => uptoBulk d + uptoBulkAll r
def uptoBulkEntries {H : Type} : List (Lit × DataW H) → Nat
  | [] => 0
  | x :: r => uptoBulkEntry x + uptoBulkEntries r
def uptoBulkEntry {H : Type} : Lit × DataW H → Nat
  | (.string bytes, d) => bytes.length + uptoBulk d + 1
  | (_, d) => uptoBulk d + 1
 end
def uptoSmall : (H : Type) → List (DataW H) → Bool := fun _ ds => decide (uptoBulkAll ds ≤ 1048576)
def OpenSpec.upto (s : _root_.Go.ChangeSpec) : _root_.Go.OpenSpec := { _root_.Go.OpenSpec.ofChange s with cond := some uptoSmall }

/-- 'besomlaw12.GreyDoes', WHERE WHAT IT READS IS OF BULK AT MOST 1048576: true; the input reads as it did. -/
def greyDoesUptoRow : OpenClaim := { program := "ytinjeoohklabpaa", sum := "fa2f99bacefdcde3cdd80203a786be407fd15e4dbfb94851d71b87acb6476c69", func := "besom/besomlaw12.GreyDoes", spec := "greyDoes", unfollowed := true, recurses := true, apart := false, narrowed := true }
def GreyDoesUptoSaid : Prop := greyDoesUptoRow.holds Try.pinned (OpenSpec.upto greyDoesSpec)

/-- 'besomlaw12.GreyAsks', WHERE WHAT IT READS IS OF BULK AT MOST 1048576: true; the input reads as it did. -/
def greyAsksUptoRow : OpenClaim := { program := "ytinjeoohklabpaa", sum := "fa2f99bacefdcde3cdd80203a786be407fd15e4dbfb94851d71b87acb6476c69", func := "besom/besomlaw12.GreyAsks", spec := "greyAsks", unfollowed := true, recurses := true, apart := false, narrowed := true }
def GreyAsksUptoSaid : Prop := greyAsksUptoRow.holds Try.pinned (OpenSpec.upto greyAsksSpec)

/-- 'besomlaw12.GreyOnce', WHERE WHAT IT READS IS OF BULK AT MOST 1048576: true; the input reads as it did. -/
def greyOnceUptoRow : OpenClaim := { program := "ytinjeoohklabpaa", sum := "fa2f99bacefdcde3cdd80203a786be407fd15e4dbfb94851d71b87acb6476c69", func := "besom/besomlaw12.GreyOnce", spec := "greyOnce", unfollowed := true, recurses := true, apart := false, narrowed := true }
def GreyOnceUptoSaid : Prop := greyOnceUptoRow.holds Try.pinned (OpenSpec.upto greyOnceSpec)

/-- 'besomlaw12.GreyLast', WHERE WHAT IT READS IS OF BULK AT MOST 1048576: true; the input reads as it did. -/
def greyLastUptoRow : OpenClaim := { program := "ytinjeoohklabpaa", sum := "fa2f99bacefdcde3cdd80203a786be407fd15e4dbfb94851d71b87acb6476c69", func := "besom/besomlaw12.GreyLast", spec := "greyLast", unfollowed := true, recurses := true, apart := false, narrowed := true }
def GreyLastUptoSaid : Prop := greyLastUptoRow.holds Try.pinned (OpenSpec.upto greyLastSpec)

/-- 'besomlaw12.GreySteals', WHERE WHAT IT READS IS OF BULK AT MOST 1048576: true; the input reads as it did. -/
def greyStealsUptoRow : OpenClaim := { program := "ytinjeoohklabpaa", sum := "fa2f99bacefdcde3cdd80203a786be407fd15e4dbfb94851d71b87acb6476c69", func := "besom/besomlaw12.GreySteals", spec := "greySteals", unfollowed := true, recurses := true, apart := false, narrowed := true }
def GreyStealsUptoSaid : Prop := greyStealsUptoRow.holds Try.pinned (OpenSpec.upto greyStealsSpec)

/-- 'besomlaw12.GreyOwn', WHERE WHAT IT READS IS OF BULK AT MOST 1048576: true; the input reads as it did. -/
def greyOwnUptoRow : OpenClaim := { program := "ytinjeoohklabpaa", sum := "fa2f99bacefdcde3cdd80203a786be407fd15e4dbfb94851d71b87acb6476c69", func := "besom/besomlaw12.GreyOwn", spec := "greyOwn", unfollowed := true, recurses := true, apart := false, narrowed := true }
def GreyOwnUptoSaid : Prop := greyOwnUptoRow.holds Try.pinned (OpenSpec.upto greyOwnSpec)

end Rows
end Go.Proofs.Ytinjeoohklabpaa
