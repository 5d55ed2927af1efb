/-
  No cell of these rows narrows 'for every input' (looked for: loops, veiled, ifaces, maps, wideKeys, modest, calm, conditions, laid).
  DERIVED. THE GIVEN ROWS OF THIS SEAT. 4 by the template 'for every input the law returns true; each argument reads behind the call as it read before'; 0 by the template 'total and deterministic' (their statements: YtkakldfdejklpaaTotals.lean).
  GIVEN WITH THE SEED: the statements are not yours to turn. If you find one false, say at which input.
  Laid BY PROGRAM, IN A SANDBOX (cutbox-rows.mjs): the forced cells as the released guide's own fill.sh prints them over the translation cf2715f1539cb1b1… (all of the seat's roots in one cut). By AI agents, Wed Nov 11 2026. No macro, syntax, notation, axiom, sorry.
-/
import Derived.Test.YtkakldfdejklpaaChecked
import GoSem.Claim
import GoSem.ClaimJoined
import GoSem.ClaimMapViews
import Derived.JoinedTies
import Derived.KernelRfl
namespace Go.Proofs.Ytkakldfdejklpaa
/- THE CELL 'sum', in the pinned program and in every row, IS THE sha256 OF THE DUMP (.gsa) THAT YtkakldfdejklpaaProg.lean LOADS. Nothing in Lean hashes anything: it is a label: what it is worth is what the hold of that sum in a sandbox is worth. -/
noncomputable def Try.pinned : Pinned := { name := "ytkakldfdejklpaa", sum := "cf2715f1539cb1b151b7b15857576ab9772221be2b0e56878e1b197df962c23e", checked := Try.checked }
namespace Rows
def none {H : Type} : Left H := { results := [], args := [] }

/-- 'haulierlaw12.CwndBounds': WHATEVER THE INPUT: true; the input reads as it did. -/
def cwndBoundsSpec : ChangeSpec := { name := "cwndBounds", fn := fun _ => fun
  | [d1, d2] => { results := [.lit (.bool true)], args := [d1, d2] }
  | _ => none }
def cwndBoundsRow : OpenClaim := { program := "ytkakldfdejklpaa", sum := "cf2715f1539cb1b151b7b15857576ab9772221be2b0e56878e1b197df962c23e", func := "haulier/haulierlaw12.CwndBounds", spec := "cwndBounds", apart := false }
def CwndBoundsSaid : Prop := cwndBoundsRow.holds Try.pinned (OpenSpec.ofChange cwndBoundsSpec)

/-- ITS FALSE NEIGHBOUR: 'it returns false'. Refute it at one input. -/
def cwndBoundsWrong : ChangeSpec := { name := "cwndBounds", fn := fun _ => fun
  | [d1, d2] => { results := [.lit (.bool false)], args := [d1, d2] }
  | _ => none }
def CwndBoundsWrongFalsely : Prop := cwndBoundsRow.holds Try.pinned (OpenSpec.ofChange cwndBoundsWrong)

/-- 'haulierlaw12.CwndRoom': WHATEVER THE INPUT: true; the input reads as it did. -/
def cwndRoomSpec : ChangeSpec := { name := "cwndRoom", fn := fun _ => fun
  | [d1, d2, d3] => { results := [.lit (.bool true)], args := [d1, d2, d3] }
  | _ => none }
def cwndRoomRow : OpenClaim := { program := "ytkakldfdejklpaa", sum := "cf2715f1539cb1b151b7b15857576ab9772221be2b0e56878e1b197df962c23e", func := "haulier/haulierlaw12.CwndRoom", spec := "cwndRoom", apart := false }
def CwndRoomSaid : Prop := cwndRoomRow.holds Try.pinned (OpenSpec.ofChange cwndRoomSpec)

/-- ITS FALSE NEIGHBOUR: 'it returns false'. Refute it at one input. -/
def cwndRoomWrong : ChangeSpec := { name := "cwndRoom", fn := fun _ => fun
  | [d1, d2, d3] => { results := [.lit (.bool false)], args := [d1, d2, d3] }
  | _ => none }
def CwndRoomWrongFalsely : Prop := cwndRoomRow.holds Try.pinned (OpenSpec.ofChange cwndRoomWrong)

/-- 'haulierlaw12.CwndSteps': WHATEVER THE INPUT: true; the input reads as it did. -/
def cwndStepsSpec : ChangeSpec := { name := "cwndSteps", fn := fun _ => fun
  | [d1, d2] => { results := [.lit (.bool true)], args := [d1, d2] }
  | _ => none }
def cwndStepsRow : OpenClaim := { program := "ytkakldfdejklpaa", sum := "cf2715f1539cb1b151b7b15857576ab9772221be2b0e56878e1b197df962c23e", func := "haulier/haulierlaw12.CwndSteps", spec := "cwndSteps", apart := false }
def CwndStepsSaid : Prop := cwndStepsRow.holds Try.pinned (OpenSpec.ofChange cwndStepsSpec)

/-- ITS FALSE NEIGHBOUR: 'it returns false'. Refute it at one input. -/
def cwndStepsWrong : ChangeSpec := { name := "cwndSteps", fn := fun _ => fun
  | [d1, d2] => { results := [.lit (.bool false)], args := [d1, d2] }
  | _ => none }
def CwndStepsWrongFalsely : Prop := cwndStepsRow.holds Try.pinned (OpenSpec.ofChange cwndStepsWrong)

/-- 'haulierlaw12.CwndPlays': WHATEVER THE INPUT: true; the input reads as it did. -/
def cwndPlaysSpec : ChangeSpec := { name := "cwndPlays", fn := fun _ => fun
  | [d1, d2, d3] => { results := [.lit (.bool true)], args := [d1, d2, d3] }
  | _ => none }
def cwndPlaysRow : OpenClaim := { program := "ytkakldfdejklpaa", sum := "cf2715f1539cb1b151b7b15857576ab9772221be2b0e56878e1b197df962c23e", func := "haulier/haulierlaw12.CwndPlays", spec := "cwndPlays", apart := false }
def CwndPlaysSaid : Prop := cwndPlaysRow.holds Try.pinned (OpenSpec.ofChange cwndPlaysSpec)

/-- ITS FALSE NEIGHBOUR: 'it returns false'. Refute it at one input. -/
def cwndPlaysWrong : ChangeSpec := { name := "cwndPlays", fn := fun _ => fun
  | [d1, d2, d3] => { results := [.lit (.bool false)], args := [d1, d2, d3] }
  | _ => none }
def CwndPlaysWrongFalsely : Prop := cwndPlaysRow.holds Try.pinned (OpenSpec.ofChange cwndPlaysWrong)

/- THE SECOND FORM. 'bulk': how many values and letters a reading holds, each counted each time it is reached (what is shared counts as often as it is met; a slice's spare places count too). A statement '..UptoSaid' is the law's where the arguments, and the package variables that the reading takes, are together of bulk at most 1048576: NARROWER than '..Said'. Prove '..Said' where nothing that the law and all that it calls make is longer than what came in: it says more and counts as full. Else prove '..UptoSaid'. A law counts once. -/
mutual
def uptoBulk {H : Type} : DataW H → Nat
  | .lit (.string bytes) => bytes.length + 1
  | .lit _ => 1
  | .nil => 1
  | .ptr d => uptoBulk d + 1
  | .slice elems spare => uptoBulkAll elems + uptoBulkAll spare + 1
  | .agg parts => uptoBulkAll parts + 1
  | .iface _ d => uptoBulk d + 1
  | .map entries => uptoBulkEntries entries + 1
  | .held _ => 1
def uptoBulkAll {H : Type} : List (DataW H) → Nat
  | [] => 0
  | d :: r => uptoBulk d + uptoBulkAll r
def uptoBulkEntries {H : Type} : List (Lit × DataW H) → Nat
  | [] => 0
  | x :: r => uptoBulkEntry x + uptoBulkEntries r
def uptoBulkEntry {H : Type} : Lit × DataW H → Nat
  | (.string bytes, d) => bytes.length + uptoBulk d + 1
  | (_, d) => uptoBulk d + 1
 end
def uptoSmall : (H : Type) → List (DataW H) → Bool := fun _ ds => decide (uptoBulkAll ds ≤ 1048576)
def OpenSpec.upto (s : _root_.Go.ChangeSpec) : _root_.Go.OpenSpec := { _root_.Go.OpenSpec.ofChange s with cond := some uptoSmall }

/-- 'haulierlaw12.CwndBounds', WHERE WHAT IT READS IS OF BULK AT MOST 1048576: true; the input reads as it did. -/
def cwndBoundsUptoRow : OpenClaim := { program := "ytkakldfdejklpaa", sum := "cf2715f1539cb1b151b7b15857576ab9772221be2b0e56878e1b197df962c23e", func := "haulier/haulierlaw12.CwndBounds", spec := "cwndBounds", apart := false, narrowed := true }
def CwndBoundsUptoSaid : Prop := cwndBoundsUptoRow.holds Try.pinned (OpenSpec.upto cwndBoundsSpec)

/-- 'haulierlaw12.CwndRoom', WHERE WHAT IT READS IS OF BULK AT MOST 1048576: true; the input reads as it did. -/
def cwndRoomUptoRow : OpenClaim := { program := "ytkakldfdejklpaa", sum := "cf2715f1539cb1b151b7b15857576ab9772221be2b0e56878e1b197df962c23e", func := "haulier/haulierlaw12.CwndRoom", spec := "cwndRoom", apart := false, narrowed := true }
def CwndRoomUptoSaid : Prop := cwndRoomUptoRow.holds Try.pinned (OpenSpec.upto cwndRoomSpec)

/-- 'haulierlaw12.CwndSteps', WHERE WHAT IT READS IS OF BULK AT MOST 1048576: true; the input reads as it did. -/
def cwndStepsUptoRow : OpenClaim := { program := "ytkakldfdejklpaa", sum := "cf2715f1539cb1b151b7b15857576ab9772221be2b0e56878e1b197df962c23e", func := "haulier/haulierlaw12.CwndSteps", spec := "cwndSteps", apart := false, narrowed := true }
def CwndStepsUptoSaid : Prop := cwndStepsUptoRow.holds Try.pinned (OpenSpec.upto cwndStepsSpec)

/-- 'haulierlaw12.CwndPlays', WHERE WHAT IT READS IS OF BULK AT MOST 1048576: true; the input reads as it did. -/
def cwndPlaysUptoRow : OpenClaim := { program := "ytkakldfdejklpaa", sum := "cf2715f1539cb1b151b7b15857576ab9772221be2b0e56878e1b197df962c23e", func := "haulier/haulierlaw12.CwndPlays", spec := "cwndPlays", apart := false, narrowed := true }
def CwndPlaysUptoSaid : Prop := cwndPlaysUptoRow.holds Try.pinned (OpenSpec.upto cwndPlaysSpec)

end Rows
end Go.Proofs.Ytkakldfdejklpaa
