/-
  No cell of these rows narrows 'for every input' (looked for: loops, veiled, ifaces, maps, wideKeys, modest, calm, conditions, laid).
  DERIVED. THE GIVEN ROWS OF THIS SEAT. 9 by the template 'for every input the law returns true; each argument reads behind the call as it read before'; 0 by the template 'total and deterministic' (their statements: YtfpdkeolecmepaaTotals.lean).
  GIVEN WITH THE SEED: the statements are not yours to turn. If you find one false, say at which input.
  Laid BY PROGRAM, IN A SANDBOX (cutbox-rows.mjs): the forced cells as the released guide's own fill.sh prints them over the translation dafc9ca6847faec6… (all of the seat's roots in one cut). By AI agents, Wed Nov 11 2026. No macro, syntax, notation, axiom, sorry.
-/
import Derived.Test.YtfpdkeolecmepaaChecked
import GoSem.Claim
import GoSem.ClaimJoined
import GoSem.ClaimMapViews
import Derived.JoinedTies
import Derived.KernelRfl
namespace Go.Proofs.Ytfpdkeolecmepaa
/- THE CELL 'sum', in the pinned program and in every row, IS THE sha256 OF THE DUMP (.gsa) THAT YtfpdkeolecmepaaProg.lean LOADS. Nothing in Lean hashes anything: it is a label: what it is worth is what the hold of that sum in a sandbox is worth. -/
noncomputable def Try.pinned : Pinned := { name := "ytfpdkeolecmepaa", sum := "dafc9ca6847faec61b8f0c710aada022b548980ca308ab06efac7325f7fcf769", checked := Try.checked }
namespace Rows
def none {H : Type} : Left H := { results := [], args := [] }

/-- 'laws.FnMergeSwap': WHATEVER THE INPUT: true; the input reads as it did. -/
def fnMergeSwapSpec : ChangeSpec := { name := "fnMergeSwap", fn := fun _ => fun
  | [d] => { results := [.lit (.bool true)], args := [d] }
  | _ => none }
def fnMergeSwapRow : OpenClaim := { program := "ytfpdkeolecmepaa", sum := "dafc9ca6847faec61b8f0c710aada022b548980ca308ab06efac7325f7fcf769", func := "loop.example/stemma/laws.FnMergeSwap", spec := "fnMergeSwap", unfollowed := true, recurses := true, apart := false }
def FnMergeSwapSaid : Prop := fnMergeSwapRow.holds Try.pinned (OpenSpec.ofChange fnMergeSwapSpec)

/-- ITS FALSE NEIGHBOUR: 'it returns false'. Refute it at one input. -/
def fnMergeSwapWrong : ChangeSpec := { name := "fnMergeSwap", fn := fun _ => fun
  | [d] => { results := [.lit (.bool false)], args := [d] }
  | _ => none }
def FnMergeSwapWrongFalsely : Prop := fnMergeSwapRow.holds Try.pinned (OpenSpec.ofChange fnMergeSwapWrong)

/-- 'laws.FnPatchBack': WHATEVER THE INPUT: true; the input reads as it did. -/
def fnPatchBackSpec : ChangeSpec := { name := "fnPatchBack", fn := fun _ => fun
  | [d] => { results := [.lit (.bool true)], args := [d] }
  | _ => none }
def fnPatchBackRow : OpenClaim := { program := "ytfpdkeolecmepaa", sum := "dafc9ca6847faec61b8f0c710aada022b548980ca308ab06efac7325f7fcf769", func := "loop.example/stemma/laws.FnPatchBack", spec := "fnPatchBack", unfollowed := true, recurses := true, apart := false }
def FnPatchBackSaid : Prop := fnPatchBackRow.holds Try.pinned (OpenSpec.ofChange fnPatchBackSpec)

/-- ITS FALSE NEIGHBOUR: 'it returns false'. Refute it at one input. -/
def fnPatchBackWrong : ChangeSpec := { name := "fnPatchBack", fn := fun _ => fun
  | [d] => { results := [.lit (.bool false)], args := [d] }
  | _ => none }
def FnPatchBackWrongFalsely : Prop := fnPatchBackRow.holds Try.pinned (OpenSpec.ofChange fnPatchBackWrong)

/-- 'laws.FnMergeOne': WHATEVER THE INPUT: true; the input reads as it did. -/
def fnMergeOneSpec : ChangeSpec := { name := "fnMergeOne", fn := fun _ => fun
  | [d] => { results := [.lit (.bool true)], args := [d] }
  | _ => none }
def fnMergeOneRow : OpenClaim := { program := "ytfpdkeolecmepaa", sum := "dafc9ca6847faec61b8f0c710aada022b548980ca308ab06efac7325f7fcf769", func := "loop.example/stemma/laws.FnMergeOne", spec := "fnMergeOne", unfollowed := true, recurses := true, apart := false }
def FnMergeOneSaid : Prop := fnMergeOneRow.holds Try.pinned (OpenSpec.ofChange fnMergeOneSpec)

/-- ITS FALSE NEIGHBOUR: 'it returns false'. Refute it at one input. -/
def fnMergeOneWrong : ChangeSpec := { name := "fnMergeOne", fn := fun _ => fun
  | [d] => { results := [.lit (.bool false)], args := [d] }
  | _ => none }
def FnMergeOneWrongFalsely : Prop := fnMergeOneRow.holds Try.pinned (OpenSpec.ofChange fnMergeOneWrong)

/-- 'laws.FnMergeClash': WHATEVER THE INPUT: true; the input reads as it did. -/
def fnMergeClashSpec : ChangeSpec := { name := "fnMergeClash", fn := fun _ => fun
  | [d] => { results := [.lit (.bool true)], args := [d] }
  | _ => none }
def fnMergeClashRow : OpenClaim := { program := "ytfpdkeolecmepaa", sum := "dafc9ca6847faec61b8f0c710aada022b548980ca308ab06efac7325f7fcf769", func := "loop.example/stemma/laws.FnMergeClash", spec := "fnMergeClash", unfollowed := true, recurses := true, apart := false }
def FnMergeClashSaid : Prop := fnMergeClashRow.holds Try.pinned (OpenSpec.ofChange fnMergeClashSpec)

/-- ITS FALSE NEIGHBOUR: 'it returns false'. Refute it at one input. -/
def fnMergeClashWrong : ChangeSpec := { name := "fnMergeClash", fn := fun _ => fun
  | [d] => { results := [.lit (.bool false)], args := [d] }
  | _ => none }
def FnMergeClashWrongFalsely : Prop := fnMergeClashRow.holds Try.pinned (OpenSpec.ofChange fnMergeClashWrong)

/-- 'laws.FnMergeSide': WHATEVER THE INPUT: true; the input reads as it did. -/
def fnMergeSideSpec : ChangeSpec := { name := "fnMergeSide", fn := fun _ => fun
  | [d] => { results := [.lit (.bool true)], args := [d] }
  | _ => none }
def fnMergeSideRow : OpenClaim := { program := "ytfpdkeolecmepaa", sum := "dafc9ca6847faec61b8f0c710aada022b548980ca308ab06efac7325f7fcf769", func := "loop.example/stemma/laws.FnMergeSide", spec := "fnMergeSide", unfollowed := true, recurses := true, apart := false }
def FnMergeSideSaid : Prop := fnMergeSideRow.holds Try.pinned (OpenSpec.ofChange fnMergeSideSpec)

/-- ITS FALSE NEIGHBOUR: 'it returns false'. Refute it at one input. -/
def fnMergeSideWrong : ChangeSpec := { name := "fnMergeSide", fn := fun _ => fun
  | [d] => { results := [.lit (.bool false)], args := [d] }
  | _ => none }
def FnMergeSideWrongFalsely : Prop := fnMergeSideRow.holds Try.pinned (OpenSpec.ofChange fnMergeSideWrong)

/-- 'laws.FnPatchOver': WHATEVER THE INPUT: true; the input reads as it did. -/
def fnPatchOverSpec : ChangeSpec := { name := "fnPatchOver", fn := fun _ => fun
  | [d] => { results := [.lit (.bool true)], args := [d] }
  | _ => none }
def fnPatchOverRow : OpenClaim := { program := "ytfpdkeolecmepaa", sum := "dafc9ca6847faec61b8f0c710aada022b548980ca308ab06efac7325f7fcf769", func := "loop.example/stemma/laws.FnPatchOver", spec := "fnPatchOver", unfollowed := true, recurses := true, apart := false }
def FnPatchOverSaid : Prop := fnPatchOverRow.holds Try.pinned (OpenSpec.ofChange fnPatchOverSpec)

/-- ITS FALSE NEIGHBOUR: 'it returns false'. Refute it at one input. -/
def fnPatchOverWrong : ChangeSpec := { name := "fnPatchOver", fn := fun _ => fun
  | [d] => { results := [.lit (.bool false)], args := [d] }
  | _ => none }
def FnPatchOverWrongFalsely : Prop := fnPatchOverRow.holds Try.pinned (OpenSpec.ofChange fnPatchOverWrong)

/-- 'laws.FnMergeFree': WHATEVER THE INPUT: true; the input reads as it did. -/
def fnMergeFreeSpec : ChangeSpec := { name := "fnMergeFree", fn := fun _ => fun
  | [d] => { results := [.lit (.bool true)], args := [d] }
  | _ => none }
def fnMergeFreeRow : OpenClaim := { program := "ytfpdkeolecmepaa", sum := "dafc9ca6847faec61b8f0c710aada022b548980ca308ab06efac7325f7fcf769", func := "loop.example/stemma/laws.FnMergeFree", spec := "fnMergeFree", unfollowed := true, recurses := true, apart := false }
def FnMergeFreeSaid : Prop := fnMergeFreeRow.holds Try.pinned (OpenSpec.ofChange fnMergeFreeSpec)

/-- ITS FALSE NEIGHBOUR: 'it returns false'. Refute it at one input. -/
def fnMergeFreeWrong : ChangeSpec := { name := "fnMergeFree", fn := fun _ => fun
  | [d] => { results := [.lit (.bool false)], args := [d] }
  | _ => none }
def FnMergeFreeWrongFalsely : Prop := fnMergeFreeRow.holds Try.pinned (OpenSpec.ofChange fnMergeFreeWrong)

/-- 'laws.FnMergeShow': WHATEVER THE INPUT: true; the input reads as it did. -/
def fnMergeShowSpec : ChangeSpec := { name := "fnMergeShow", fn := fun _ => fun
  | [d] => { results := [.lit (.bool true)], args := [d] }
  | _ => none }
def fnMergeShowRow : OpenClaim := { program := "ytfpdkeolecmepaa", sum := "dafc9ca6847faec61b8f0c710aada022b548980ca308ab06efac7325f7fcf769", func := "loop.example/stemma/laws.FnMergeShow", spec := "fnMergeShow", unfollowed := true, recurses := true, apart := false }
def FnMergeShowSaid : Prop := fnMergeShowRow.holds Try.pinned (OpenSpec.ofChange fnMergeShowSpec)

/-- ITS FALSE NEIGHBOUR: 'it returns false'. Refute it at one input. -/
def fnMergeShowWrong : ChangeSpec := { name := "fnMergeShow", fn := fun _ => fun
  | [d] => { results := [.lit (.bool false)], args := [d] }
  | _ => none }
def FnMergeShowWrongFalsely : Prop := fnMergeShowRow.holds Try.pinned (OpenSpec.ofChange fnMergeShowWrong)

/-- 'laws.FnMergeDiff': WHATEVER THE INPUT: true; the input reads as it did. -/
def fnMergeDiffSpec : ChangeSpec := { name := "fnMergeDiff", fn := fun _ => fun
  | [d] => { results := [.lit (.bool true)], args := [d] }
  | _ => none }
def fnMergeDiffRow : OpenClaim := { program := "ytfpdkeolecmepaa", sum := "dafc9ca6847faec61b8f0c710aada022b548980ca308ab06efac7325f7fcf769", func := "loop.example/stemma/laws.FnMergeDiff", spec := "fnMergeDiff", unfollowed := true, recurses := true, apart := false }
def FnMergeDiffSaid : Prop := fnMergeDiffRow.holds Try.pinned (OpenSpec.ofChange fnMergeDiffSpec)

/-- ITS FALSE NEIGHBOUR: 'it returns false'. Refute it at one input. -/
def fnMergeDiffWrong : ChangeSpec := { name := "fnMergeDiff", fn := fun _ => fun
  | [d] => { results := [.lit (.bool false)], args := [d] }
  | _ => none }
def FnMergeDiffWrongFalsely : Prop := fnMergeDiffRow.holds Try.pinned (OpenSpec.ofChange fnMergeDiffWrong)

/- THE SECOND FORM. 'bulk': how many values and letters a reading holds, each counted each time it is reached (what is shared counts as often as it is met; a slice's spare places count too). A statement '..UptoSaid' is the law's where the arguments, and the package variables that the reading takes, are together of bulk at most 1048576: NARROWER than '..Said'. Prove '..Said' where nothing that the law and all that it calls make is longer than what came in: it says more and counts as full. Else prove '..UptoSaid'. A law counts once. -/
mutual
def uptoBulk {H : Type} : DataW H → Nat
  | .lit (.string bytes) => bytes.length + 1
  | .lit _ => 1
  | .nil => 1
  | .ptr d => uptoBulk d + 1
  | .slice elems spare => uptoBulkAll elems + uptoBulkAll spare + 1
  | .agg parts => uptoBulkAll parts + 1
  | .iface _ d => uptoBulk d + 1
  | .map entries => uptoBulkEntries entries + 1
  | .held _ => 1
def uptoBulkAll {H : Type} : List (DataW H) → Nat
  | [] => 0
  | d :: r => uptoBulk d + uptoBulkAll r
def uptoBulkEntries {H : Type} : List (Lit × DataW H) → Nat
  | [] => 0
  | x :: r => uptoBulkEntry x + uptoBulkEntries r
def uptoBulkEntry {H : Type} : Lit × DataW H → Nat
  | (.string bytes, d) => bytes.length + uptoBulk d + 1
  | (_, d) => uptoBulk d + 1
 end
def uptoSmall : (H : Type) → List (DataW H) → Bool := fun _ ds => decide (uptoBulkAll ds ≤ 1048576)
def OpenSpec.upto (s : _root_.Go.ChangeSpec) : _root_.Go.OpenSpec := { _root_.Go.OpenSpec.ofChange s with cond := some uptoSmall }

/-- 'laws.FnMergeSwap', WHERE WHAT IT READS IS OF BULK AT MOST 1048576: true; the input reads as it did. -/
def fnMergeSwapUptoRow : OpenClaim := { program := "ytfpdkeolecmepaa", sum := "dafc9ca6847faec61b8f0c710aada022b548980ca308ab06efac7325f7fcf769", func := "loop.example/stemma/laws.FnMergeSwap", spec := "fnMergeSwap", unfollowed := true, recurses := true, apart := false, narrowed := true }
def FnMergeSwapUptoSaid : Prop := fnMergeSwapUptoRow.holds Try.pinned (OpenSpec.upto fnMergeSwapSpec)

/-- 'laws.FnPatchBack', WHERE WHAT IT READS IS OF BULK AT MOST 1048576: true; the input reads as it did. -/
def fnPatchBackUptoRow : OpenClaim := { program := "ytfpdkeolecmepaa", sum := "dafc9ca6847faec61b8f0c710aada022b548980ca308ab06efac7325f7fcf769", func := "loop.example/stemma/laws.FnPatchBack", spec := "fnPatchBack", unfollowed := true, recurses := true, apart := false, narrowed := true }
def FnPatchBackUptoSaid : Prop := fnPatchBackUptoRow.holds Try.pinned (OpenSpec.upto fnPatchBackSpec)

/-- 'laws.FnMergeOne', WHERE WHAT IT READS IS OF BULK AT MOST 1048576: true; the input reads as it did. -/
def fnMergeOneUptoRow : OpenClaim := { program := "ytfpdkeolecmepaa", sum := "dafc9ca6847faec61b8f0c710aada022b548980ca308ab06efac7325f7fcf769", func := "loop.example/stemma/laws.FnMergeOne", spec := "fnMergeOne", unfollowed := true, recurses := true, apart := false, narrowed := true }
def FnMergeOneUptoSaid : Prop := fnMergeOneUptoRow.holds Try.pinned (OpenSpec.upto fnMergeOneSpec)

/-- 'laws.FnMergeClash', WHERE WHAT IT READS IS OF BULK AT MOST 1048576: true; the input reads as it did. -/
def fnMergeClashUptoRow : OpenClaim := { program := "ytfpdkeolecmepaa", sum := "dafc9ca6847faec61b8f0c710aada022b548980ca308ab06efac7325f7fcf769", func := "loop.example/stemma/laws.FnMergeClash", spec := "fnMergeClash", unfollowed := true, recurses := true, apart := false, narrowed := true }
def FnMergeClashUptoSaid : Prop := fnMergeClashUptoRow.holds Try.pinned (OpenSpec.upto fnMergeClashSpec)

/-- 'laws.FnMergeSide', WHERE WHAT IT READS IS OF BULK AT MOST 1048576: true; the input reads as it did. -/
def fnMergeSideUptoRow : OpenClaim := { program := "ytfpdkeolecmepaa", sum := "dafc9ca6847faec61b8f0c710aada022b548980ca308ab06efac7325f7fcf769", func := "loop.example/stemma/laws.FnMergeSide", spec := "fnMergeSide", unfollowed := true, recurses := true, apart := false, narrowed := true }
def FnMergeSideUptoSaid : Prop := fnMergeSideUptoRow.holds Try.pinned (OpenSpec.upto fnMergeSideSpec)

/-- 'laws.FnPatchOver', WHERE WHAT IT READS IS OF BULK AT MOST 1048576: true; the input reads as it did. -/
def fnPatchOverUptoRow : OpenClaim := { program := "ytfpdkeolecmepaa", sum := "dafc9ca6847faec61b8f0c710aada022b548980ca308ab06efac7325f7fcf769", func := "loop.example/stemma/laws.FnPatchOver", spec := "fnPatchOver", unfollowed := true, recurses := true, apart := false, narrowed := true }
def FnPatchOverUptoSaid : Prop := fnPatchOverUptoRow.holds Try.pinned (OpenSpec.upto fnPatchOverSpec)

/-- 'laws.FnMergeFree', WHERE WHAT IT READS IS OF BULK AT MOST 1048576: true; the input reads as it did. -/
def fnMergeFreeUptoRow : OpenClaim := { program := "ytfpdkeolecmepaa", sum := "dafc9ca6847faec61b8f0c710aada022b548980ca308ab06efac7325f7fcf769", func := "loop.example/stemma/laws.FnMergeFree", spec := "fnMergeFree", unfollowed := true, recurses := true, apart := false, narrowed := true }
def FnMergeFreeUptoSaid : Prop := fnMergeFreeUptoRow.holds Try.pinned (OpenSpec.upto fnMergeFreeSpec)

/-- 'laws.FnMergeShow', WHERE WHAT IT READS IS OF BULK AT MOST 1048576: true; the input reads as it did. -/
def fnMergeShowUptoRow : OpenClaim := { program := "ytfpdkeolecmepaa", sum := "dafc9ca6847faec61b8f0c710aada022b548980ca308ab06efac7325f7fcf769", func := "loop.example/stemma/laws.FnMergeShow", spec := "fnMergeShow", unfollowed := true, recurses := true, apart := false, narrowed := true }
def FnMergeShowUptoSaid : Prop := fnMergeShowUptoRow.holds Try.pinned (OpenSpec.upto fnMergeShowSpec)

/-- 'laws.FnMergeDiff', WHERE WHAT IT READS IS OF BULK AT MOST 1048576: true; the input reads as it did. -/
def fnMergeDiffUptoRow : OpenClaim := { program := "ytfpdkeolecmepaa", sum := "dafc9ca6847faec61b8f0c710aada022b548980ca308ab06efac7325f7fcf769", func := "loop.example/stemma/laws.FnMergeDiff", spec := "fnMergeDiff", unfollowed := true, recurses := true, apart := false, narrowed := true }
def FnMergeDiffUptoSaid : Prop := fnMergeDiffUptoRow.holds Try.pinned (OpenSpec.upto fnMergeDiffSpec)

end Rows
end Go.Proofs.Ytfpdkeolecmepaa
