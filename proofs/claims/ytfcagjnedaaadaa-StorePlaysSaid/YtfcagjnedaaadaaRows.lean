/-
  No cell of these rows narrows 'for every input' (looked for: loops, veiled, ifaces, maps, wideKeys, modest, calm, conditions, laid).
  DERIVED. THE GIVEN ROWS OF THIS SEAT. 5 by the template 'for every input the law returns true; each argument reads behind the call as it read before'; 0 by the template 'total and deterministic' (their statements: YtfcagjnedaaadaaTotals.lean).
  GIVEN WITH THE SEED: the statements are not yours to turn. If you find one false, say at which input.
  Laid BY PROGRAM, IN A SANDBOX (cutbox-rows.mjs): the forced cells as the released guide's own fill.sh prints them over the translation 775f587cb68981b8… (all of the seat's roots in one cut). By AI agents, Wed Nov 11 2026. No macro, syntax, notation, axiom, sorry.
-/
import Derived.Test.YtfcagjnedaaadaaChecked
import GoSem.Claim
import GoSem.ClaimJoined
import GoSem.ClaimMapViews
import Derived.JoinedTies
import Derived.KernelRfl
namespace Go.Proofs.Ytfcagjnedaaadaa
/- THE CELL 'sum', in the pinned program and in every row, IS THE sha256 OF THE DUMP (.gsa) THAT YtfcagjnedaaadaaProg.lean LOADS. Nothing in Lean hashes anything: it is a label: what it is worth is what the hold of that sum in a sandbox is worth. -/
noncomputable def Try.pinned : Pinned := { name := "ytfcagjnedaaadaa", sum := "775f587cb68981b8aaf2ceb6f4f24b517aa58036d05dd31e001ff97c9f71c365", checked := Try.checked }
namespace Rows
def none {H : Type} : Left H := { results := [], args := [] }

/-- 'haulierlaw08.StoreBlocks': WHATEVER THE INPUT: true; the input reads as it did. -/
def storeBlocksSpec : ChangeSpec := { name := "storeBlocks", fn := fun _ => fun
  | [d1, d2] => { results := [.lit (.bool true)], args := [d1, d2] }
  | _ => none }
def storeBlocksRow : OpenClaim := { program := "ytfcagjnedaaadaa", sum := "775f587cb68981b8aaf2ceb6f4f24b517aa58036d05dd31e001ff97c9f71c365", func := "haulier/haulierlaw08.StoreBlocks", spec := "storeBlocks", inPlace := ["maps.clone"], unfollowed := true, recurses := true, apart := false }
def StoreBlocksSaid : Prop := storeBlocksRow.holds Try.pinned (OpenSpec.ofChange storeBlocksSpec)

/-- ITS FALSE NEIGHBOUR: 'it returns false'. Refute it at one input. -/
def storeBlocksWrong : ChangeSpec := { name := "storeBlocks", fn := fun _ => fun
  | [d1, d2] => { results := [.lit (.bool false)], args := [d1, d2] }
  | _ => none }
def StoreBlocksWrongFalsely : Prop := storeBlocksRow.holds Try.pinned (OpenSpec.ofChange storeBlocksWrong)

/-- 'haulierlaw08.StorePlays': WHATEVER THE INPUT: true; the input reads as it did. -/
def storePlaysSpec : ChangeSpec := { name := "storePlays", fn := fun _ => fun
  | [d] => { results := [.lit (.bool true)], args := [d] }
  | _ => none }
def storePlaysRow : OpenClaim := { program := "ytfcagjnedaaadaa", sum := "775f587cb68981b8aaf2ceb6f4f24b517aa58036d05dd31e001ff97c9f71c365", func := "haulier/haulierlaw08.StorePlays", spec := "storePlays", inPlace := ["maps.clone"], unfollowed := true, recurses := true, apart := false }
def StorePlaysSaid : Prop := storePlaysRow.holds Try.pinned (OpenSpec.ofChange storePlaysSpec)

/-- ITS FALSE NEIGHBOUR: 'it returns false'. Refute it at one input. -/
def storePlaysWrong : ChangeSpec := { name := "storePlays", fn := fun _ => fun
  | [d] => { results := [.lit (.bool false)], args := [d] }
  | _ => none }
def StorePlaysWrongFalsely : Prop := storePlaysRow.holds Try.pinned (OpenSpec.ofChange storePlaysWrong)

/-- 'haulierlaw08.StoreTears': WHATEVER THE INPUT: true; the input reads as it did. -/
def storeTearsSpec : ChangeSpec := { name := "storeTears", fn := fun _ => fun
  | [d1, d2, d3, d4, d5] => { results := [.lit (.bool true)], args := [d1, d2, d3, d4, d5] }
  | _ => none }
def storeTearsRow : OpenClaim := { program := "ytfcagjnedaaadaa", sum := "775f587cb68981b8aaf2ceb6f4f24b517aa58036d05dd31e001ff97c9f71c365", func := "haulier/haulierlaw08.StoreTears", spec := "storeTears", unfollowed := true, recurses := true, apart := false }
def StoreTearsSaid : Prop := storeTearsRow.holds Try.pinned (OpenSpec.ofChange storeTearsSpec)

/-- ITS FALSE NEIGHBOUR: 'it returns false'. Refute it at one input. -/
def storeTearsWrong : ChangeSpec := { name := "storeTears", fn := fun _ => fun
  | [d1, d2, d3, d4, d5] => { results := [.lit (.bool false)], args := [d1, d2, d3, d4, d5] }
  | _ => none }
def StoreTearsWrongFalsely : Prop := storeTearsRow.holds Try.pinned (OpenSpec.ofChange storeTearsWrong)

/-- 'haulierlaw08.StoreCuts': WHATEVER THE INPUT: true; the input reads as it did. -/
def storeCutsSpec : ChangeSpec := { name := "storeCuts", fn := fun _ => fun
  | [d1, d2, d3, d4] => { results := [.lit (.bool true)], args := [d1, d2, d3, d4] }
  | _ => none }
def storeCutsRow : OpenClaim := { program := "ytfcagjnedaaadaa", sum := "775f587cb68981b8aaf2ceb6f4f24b517aa58036d05dd31e001ff97c9f71c365", func := "haulier/haulierlaw08.StoreCuts", spec := "storeCuts", unfollowed := true, recurses := true, apart := false }
def StoreCutsSaid : Prop := storeCutsRow.holds Try.pinned (OpenSpec.ofChange storeCutsSpec)

/-- ITS FALSE NEIGHBOUR: 'it returns false'. Refute it at one input. -/
def storeCutsWrong : ChangeSpec := { name := "storeCuts", fn := fun _ => fun
  | [d1, d2, d3, d4] => { results := [.lit (.bool false)], args := [d1, d2, d3, d4] }
  | _ => none }
def StoreCutsWrongFalsely : Prop := storeCutsRow.holds Try.pinned (OpenSpec.ofChange storeCutsWrong)

/-- 'haulierlaw08.StoreFuse': WHATEVER THE INPUT: true; the input reads as it did. -/
def storeFuseSpec : ChangeSpec := { name := "storeFuse", fn := fun _ => fun
  | [d1, d2] => { results := [.lit (.bool true)], args := [d1, d2] }
  | _ => none }
def storeFuseRow : OpenClaim := { program := "ytfcagjnedaaadaa", sum := "775f587cb68981b8aaf2ceb6f4f24b517aa58036d05dd31e001ff97c9f71c365", func := "haulier/haulierlaw08.StoreFuse", spec := "storeFuse", unfollowed := true, recurses := true, apart := false }
def StoreFuseSaid : Prop := storeFuseRow.holds Try.pinned (OpenSpec.ofChange storeFuseSpec)

/-- ITS FALSE NEIGHBOUR: 'it returns false'. Refute it at one input. -/
def storeFuseWrong : ChangeSpec := { name := "storeFuse", fn := fun _ => fun
  | [d1, d2] => { results := [.lit (.bool false)], args := [d1, d2] }
  | _ => none }
def StoreFuseWrongFalsely : Prop := storeFuseRow.holds Try.pinned (OpenSpec.ofChange storeFuseWrong)

/- THE SECOND FORM. 'bulk': how many values and letters a reading holds, each counted each time it is reached (what is shared counts as often as it is met; a slice's spare places count too). A statement '..UptoSaid' is the law's where the arguments, and the package variables that the reading takes, are together of bulk at most 1048576: NARROWER than '..Said'. Prove '..Said' where nothing that the law and all that it calls make is longer than what came in: it says more and counts as full. Else prove '..UptoSaid'. A law counts once. -/
mutual
def uptoBulk {H : Type} : DataW H → Nat
  | .lit (.string bytes) => bytes.length + 1
  | .lit _ => 1
  | .nil => 1
  | .ptr d => uptoBulk d + 1
  | .slice elems spare => uptoBulkAll elems + uptoBulkAll spare + 1
  | .agg parts => uptoBulkAll parts + 1
  | .iface _ d => uptoBulk d + 1
  | .map entries => uptoBulkEntries entries + 1
  | .held _ => 1
def uptoBulkAll {H : Type} : List (DataW H) → Nat
  | [] => 0
  | d :: r => uptoBulk d + uptoBulkAll r
def uptoBulkEntries {H : Type} : List (Lit × DataW H) → Nat
  | [] => 0
  | x :: r => uptoBulkEntry x + uptoBulkEntries r
def uptoBulkEntry {H : Type} : Lit × DataW H → Nat
  | (.string bytes, d) => bytes.length + uptoBulk d + 1
  | (_, d) => uptoBulk d + 1
 end
def uptoSmall : (H : Type) → List (DataW H) → Bool := fun _ ds => decide (uptoBulkAll ds ≤ 1048576)
def OpenSpec.upto (s : _root_.Go.ChangeSpec) : _root_.Go.OpenSpec := { _root_.Go.OpenSpec.ofChange s with cond := some uptoSmall }

/-- 'haulierlaw08.StoreBlocks', WHERE WHAT IT READS IS OF BULK AT MOST 1048576: true; the input reads as it did. -/
def storeBlocksUptoRow : OpenClaim := { program := "ytfcagjnedaaadaa", sum := "775f587cb68981b8aaf2ceb6f4f24b517aa58036d05dd31e001ff97c9f71c365", func := "haulier/haulierlaw08.StoreBlocks", spec := "storeBlocks", inPlace := ["maps.clone"], unfollowed := true, recurses := true, apart := false, narrowed := true }
def StoreBlocksUptoSaid : Prop := storeBlocksUptoRow.holds Try.pinned (OpenSpec.upto storeBlocksSpec)

/-- 'haulierlaw08.StorePlays', WHERE WHAT IT READS IS OF BULK AT MOST 1048576: true; the input reads as it did. -/
def storePlaysUptoRow : OpenClaim := { program := "ytfcagjnedaaadaa", sum := "775f587cb68981b8aaf2ceb6f4f24b517aa58036d05dd31e001ff97c9f71c365", func := "haulier/haulierlaw08.StorePlays", spec := "storePlays", inPlace := ["maps.clone"], unfollowed := true, recurses := true, apart := false, narrowed := true }
def StorePlaysUptoSaid : Prop := storePlaysUptoRow.holds Try.pinned (OpenSpec.upto storePlaysSpec)

/-- 'haulierlaw08.StoreTears', WHERE WHAT IT READS IS OF BULK AT MOST 1048576: true; the input reads as it did. -/
def storeTearsUptoRow : OpenClaim := { program := "ytfcagjnedaaadaa", sum := "775f587cb68981b8aaf2ceb6f4f24b517aa58036d05dd31e001ff97c9f71c365", func := "haulier/haulierlaw08.StoreTears", spec := "storeTears", unfollowed := true, recurses := true, apart := false, narrowed := true }
def StoreTearsUptoSaid : Prop := storeTearsUptoRow.holds Try.pinned (OpenSpec.upto storeTearsSpec)

/-- 'haulierlaw08.StoreCuts', WHERE WHAT IT READS IS OF BULK AT MOST 1048576: true; the input reads as it did. -/
def storeCutsUptoRow : OpenClaim := { program := "ytfcagjnedaaadaa", sum := "775f587cb68981b8aaf2ceb6f4f24b517aa58036d05dd31e001ff97c9f71c365", func := "haulier/haulierlaw08.StoreCuts", spec := "storeCuts", unfollowed := true, recurses := true, apart := false, narrowed := true }
def StoreCutsUptoSaid : Prop := storeCutsUptoRow.holds Try.pinned (OpenSpec.upto storeCutsSpec)

/-- 'haulierlaw08.StoreFuse', WHERE WHAT IT READS IS OF BULK AT MOST 1048576: true; the input reads as it did. -/
def storeFuseUptoRow : OpenClaim := { program := "ytfcagjnedaaadaa", sum := "775f587cb68981b8aaf2ceb6f4f24b517aa58036d05dd31e001ff97c9f71c365", func := "haulier/haulierlaw08.StoreFuse", spec := "storeFuse", unfollowed := true, recurses := true, apart := false, narrowed := true }
def StoreFuseUptoSaid : Prop := storeFuseUptoRow.holds Try.pinned (OpenSpec.upto storeFuseSpec)

end Rows
end Go.Proofs.Ytfcagjnedaaadaa
