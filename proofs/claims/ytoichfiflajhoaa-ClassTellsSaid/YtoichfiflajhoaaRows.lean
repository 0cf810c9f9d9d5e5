/-
  No cell of these rows narrows 'for every input' (looked for: loops, veiled, ifaces, maps, wideKeys, modest, calm, conditions, laid).
  DERIVED. THE GIVEN ROWS OF THIS SEAT. 6 by the template 'for every input the law returns true; each argument reads behind the call as it read before'; 0 by the template 'total and deterministic' (their statements: YtoichfiflajhoaaTotals.lean).
  GIVEN WITH THE SEED: the statements are not yours to turn. If you find one false, say at which input.
  Laid BY PROGRAM, IN A SANDBOX (cutbox-rows.mjs): the forced cells as the released guide's own fill.sh prints them over the translation 41aaf2f8fe7f4b4d… (all of the seat's roots in one cut). By AI agents, Wed Nov 11 2026. No macro, syntax, notation, axiom, sorry.
-/
import Derived.Test.YtoichfiflajhoaaChecked
import GoSem.Claim
import GoSem.ClaimJoined
import GoSem.ClaimMapViews
import Derived.JoinedTies
import Derived.KernelRfl
namespace Go.Proofs.Ytoichfiflajhoaa
/- THE CELL 'sum', in the pinned program and in every row, IS THE sha256 OF THE DUMP (.gsa) THAT YtoichfiflajhoaaProg.lean LOADS. Nothing in Lean hashes anything: it is a label: what it is worth is what the hold of that sum in a sandbox is worth. -/
noncomputable def Try.pinned : Pinned := { name := "ytoichfiflajhoaa", sum := "41aaf2f8fe7f4b4d8bdb5c107bbbb6fa809536436f4462443215c40a6d1e86a4", checked := Try.checked }
namespace Rows
def none {H : Type} : Left H := { results := [], args := [] }

/-- 'riddlelaw02.ClassFolds': WHATEVER THE INPUT: true; the input reads as it did. -/
def classFoldsSpec : ChangeSpec := { name := "classFolds", fn := fun _ => fun
  | [d1, d2] => { results := [.lit (.bool true)], args := [d1, d2] }
  | _ => none }
def classFoldsRow : OpenClaim := { program := "ytoichfiflajhoaa", sum := "41aaf2f8fe7f4b4d8bdb5c107bbbb6fa809536436f4462443215c40a6d1e86a4", func := "riddle/riddlelaw02.ClassFolds", spec := "classFolds", unfollowed := true, recurses := true, apart := false }
def ClassFoldsSaid : Prop := classFoldsRow.holds Try.pinned (OpenSpec.ofChange classFoldsSpec)

/-- ITS FALSE NEIGHBOUR: 'it returns false'. Refute it at one input. -/
def classFoldsWrong : ChangeSpec := { name := "classFolds", fn := fun _ => fun
  | [d1, d2] => { results := [.lit (.bool false)], args := [d1, d2] }
  | _ => none }
def ClassFoldsWrongFalsely : Prop := classFoldsRow.holds Try.pinned (OpenSpec.ofChange classFoldsWrong)

/-- 'riddlelaw02.ClassMakes': WHATEVER THE INPUT: true; the input reads as it did. -/
def classMakesSpec : ChangeSpec := { name := "classMakes", fn := fun _ => fun
  | [d1, d2, d3] => { results := [.lit (.bool true)], args := [d1, d2, d3] }
  | _ => none }
def classMakesRow : OpenClaim := { program := "ytoichfiflajhoaa", sum := "41aaf2f8fe7f4b4d8bdb5c107bbbb6fa809536436f4462443215c40a6d1e86a4", func := "riddle/riddlelaw02.ClassMakes", spec := "classMakes", unfollowed := true, recurses := true, apart := false }
def ClassMakesSaid : Prop := classMakesRow.holds Try.pinned (OpenSpec.ofChange classMakesSpec)

/-- ITS FALSE NEIGHBOUR: 'it returns false'. Refute it at one input. -/
def classMakesWrong : ChangeSpec := { name := "classMakes", fn := fun _ => fun
  | [d1, d2, d3] => { results := [.lit (.bool false)], args := [d1, d2, d3] }
  | _ => none }
def ClassMakesWrongFalsely : Prop := classMakesRow.holds Try.pinned (OpenSpec.ofChange classMakesWrong)

/-- 'riddlelaw02.ClassJoins': WHATEVER THE INPUT: true; the input reads as it did. -/
def classJoinsSpec : ChangeSpec := { name := "classJoins", fn := fun _ => fun
  | [d1, d2, d3] => { results := [.lit (.bool true)], args := [d1, d2, d3] }
  | _ => none }
def classJoinsRow : OpenClaim := { program := "ytoichfiflajhoaa", sum := "41aaf2f8fe7f4b4d8bdb5c107bbbb6fa809536436f4462443215c40a6d1e86a4", func := "riddle/riddlelaw02.ClassJoins", spec := "classJoins", unfollowed := true, recurses := true, apart := false }
def ClassJoinsSaid : Prop := classJoinsRow.holds Try.pinned (OpenSpec.ofChange classJoinsSpec)

/-- ITS FALSE NEIGHBOUR: 'it returns false'. Refute it at one input. -/
def classJoinsWrong : ChangeSpec := { name := "classJoins", fn := fun _ => fun
  | [d1, d2, d3] => { results := [.lit (.bool false)], args := [d1, d2, d3] }
  | _ => none }
def ClassJoinsWrongFalsely : Prop := classJoinsRow.holds Try.pinned (OpenSpec.ofChange classJoinsWrong)

/-- 'riddlelaw02.ClassSets': WHATEVER THE INPUT: true; the input reads as it did. -/
def classSetsSpec : ChangeSpec := { name := "classSets", fn := fun _ => fun
  | [d1, d2, d3] => { results := [.lit (.bool true)], args := [d1, d2, d3] }
  | _ => none }
def classSetsRow : OpenClaim := { program := "ytoichfiflajhoaa", sum := "41aaf2f8fe7f4b4d8bdb5c107bbbb6fa809536436f4462443215c40a6d1e86a4", func := "riddle/riddlelaw02.ClassSets", spec := "classSets", unfollowed := true, recurses := true, apart := false }
def ClassSetsSaid : Prop := classSetsRow.holds Try.pinned (OpenSpec.ofChange classSetsSpec)

/-- ITS FALSE NEIGHBOUR: 'it returns false'. Refute it at one input. -/
def classSetsWrong : ChangeSpec := { name := "classSets", fn := fun _ => fun
  | [d1, d2, d3] => { results := [.lit (.bool false)], args := [d1, d2, d3] }
  | _ => none }
def ClassSetsWrongFalsely : Prop := classSetsRow.holds Try.pinned (OpenSpec.ofChange classSetsWrong)

/-- 'riddlelaw02.ClassBack': WHATEVER THE INPUT: true; the input reads as it did. -/
def classBackSpec : ChangeSpec := { name := "classBack", fn := fun _ => fun
  | [d] => { results := [.lit (.bool true)], args := [d] }
  | _ => none }
def classBackRow : OpenClaim := { program := "ytoichfiflajhoaa", sum := "41aaf2f8fe7f4b4d8bdb5c107bbbb6fa809536436f4462443215c40a6d1e86a4", func := "riddle/riddlelaw02.ClassBack", spec := "classBack", unfollowed := true, recurses := true, apart := false }
def ClassBackSaid : Prop := classBackRow.holds Try.pinned (OpenSpec.ofChange classBackSpec)

/-- ITS FALSE NEIGHBOUR: 'it returns false'. Refute it at one input. -/
def classBackWrong : ChangeSpec := { name := "classBack", fn := fun _ => fun
  | [d] => { results := [.lit (.bool false)], args := [d] }
  | _ => none }
def ClassBackWrongFalsely : Prop := classBackRow.holds Try.pinned (OpenSpec.ofChange classBackWrong)

/-- 'riddlelaw02.ClassTells': WHATEVER THE INPUT: true; the input reads as it did. -/
def classTellsSpec : ChangeSpec := { name := "classTells", fn := fun _ => fun
  | [d1, d2] => { results := [.lit (.bool true)], args := [d1, d2] }
  | _ => none }
def classTellsRow : OpenClaim := { program := "ytoichfiflajhoaa", sum := "41aaf2f8fe7f4b4d8bdb5c107bbbb6fa809536436f4462443215c40a6d1e86a4", func := "riddle/riddlelaw02.ClassTells", spec := "classTells", unfollowed := true, recurses := true, apart := false }
def ClassTellsSaid : Prop := classTellsRow.holds Try.pinned (OpenSpec.ofChange classTellsSpec)

/-- ITS FALSE NEIGHBOUR: 'it returns false'. Refute it at one input. -/
def classTellsWrong : ChangeSpec := { name := "classTells", fn := fun _ => fun
  | [d1, d2] => { results := [.lit (.bool false)], args := [d1, d2] }
  | _ => none }
def ClassTellsWrongFalsely : Prop := classTellsRow.holds Try.pinned (OpenSpec.ofChange classTellsWrong)

/- THE SECOND FORM. 'bulk': how many values and letters a reading holds, each counted each time it is reached (what is shared counts as often as it is met; a slice's spare places count too). A statement '..UptoSaid' is the law's where the arguments, and the package variables that the reading takes, are together of bulk at most 1048576: NARROWER than '..Said'. Prove '..Said' where nothing that the law and all that it calls make is longer than what came in: it says more and counts as full. Else prove '..UptoSaid'. A law counts once. -/
mutual
def uptoBulk {H : Type} : DataW H → Nat
  | .lit (.string bytes) => bytes.length + 1
  | .lit _ => 1
  | .nil => 1
  | .ptr d => uptoBulk d + 1
  | .slice elems spare => uptoBulkAll elems + uptoBulkAll spare + 1
  | .agg parts => uptoBulkAll parts + 1
  | .iface _ d => uptoBulk d + 1
  | .map entries => uptoBulkEntries entries + 1
  | .held _ => 1
def uptoBulkAll {H : Type} : List (DataW H) → Nat
  | [] => 0
  | d :: r => uptoBulk d + uptoBulkAll r
def uptoBulkEntries {H : Type} : List (Lit × DataW H) → Nat
  | [] => 0
  | x :: r => uptoBulkEntry x + uptoBulkEntries r
def uptoBulkEntry {H : Type} : Lit × DataW H → Nat
  | (.string bytes, d) => bytes.length + uptoBulk d + 1
  | (_, d) => uptoBulk d + 1
 end
def uptoSmall : (H : Type) → List (DataW H) → Bool := fun _ ds => decide (uptoBulkAll ds ≤ 1048576)
def OpenSpec.upto (s : _root_.Go.ChangeSpec) : _root_.Go.OpenSpec := { _root_.Go.OpenSpec.ofChange s with cond := some uptoSmall }

/-- 'riddlelaw02.ClassFolds', WHERE WHAT IT READS IS OF BULK AT MOST 1048576: true; the input reads as it did. -/
def classFoldsUptoRow : OpenClaim := { program := "ytoichfiflajhoaa", sum := "41aaf2f8fe7f4b4d8bdb5c107bbbb6fa809536436f4462443215c40a6d1e86a4", func := "riddle/riddlelaw02.ClassFolds", spec := "classFolds", unfollowed := true, recurses := true, apart := false, narrowed := true }
def ClassFoldsUptoSaid : Prop := classFoldsUptoRow.holds Try.pinned (OpenSpec.upto classFoldsSpec)

/-- 'riddlelaw02.ClassMakes', WHERE WHAT IT READS IS OF BULK AT MOST 1048576: true; the input reads as it did. -/
def classMakesUptoRow : OpenClaim := { program := "ytoichfiflajhoaa", sum := "41aaf2f8fe7f4b4d8bdb5c107bbbb6fa809536436f4462443215c40a6d1e86a4", func := "riddle/riddlelaw02.ClassMakes", spec := "classMakes", unfollowed := true, recurses := true, apart := false, narrowed := true }
def ClassMakesUptoSaid : Prop := classMakesUptoRow.holds Try.pinned (OpenSpec.upto classMakesSpec)

/-- 'riddlelaw02.ClassJoins', WHERE WHAT IT READS IS OF BULK AT MOST 1048576: true; the input reads as it did. -/
def classJoinsUptoRow : OpenClaim := { program := "ytoichfiflajhoaa", sum := "41aaf2f8fe7f4b4d8bdb5c107bbbb6fa809536436f4462443215c40a6d1e86a4", func := "riddle/riddlelaw02.ClassJoins", spec := "classJoins", unfollowed := true, recurses := true, apart := false, narrowed := true }
def ClassJoinsUptoSaid : Prop := classJoinsUptoRow.holds Try.pinned (OpenSpec.upto classJoinsSpec)

/-- 'riddlelaw02.ClassSets', WHERE WHAT IT READS IS OF BULK AT MOST 1048576: true; the input reads as it did. -/
def classSetsUptoRow : OpenClaim := { program := "ytoichfiflajhoaa", sum := "41aaf2f8fe7f4b4d8bdb5c107bbbb6fa809536436f4462443215c40a6d1e86a4", func := "riddle/riddlelaw02.ClassSets", spec := "classSets", unfollowed := true, recurses := true, apart := false, narrowed := true }
def ClassSetsUptoSaid : Prop := classSetsUptoRow.holds Try.pinned (OpenSpec.upto classSetsSpec)

/-- 'riddlelaw02.ClassBack', WHERE WHAT IT READS IS OF BULK AT MOST 1048576: true; the input reads as it did. -/
def classBackUptoRow : OpenClaim := { program := "ytoichfiflajhoaa", sum := "41aaf2f8fe7f4b4d8bdb5c107bbbb6fa809536436f4462443215c40a6d1e86a4", func := "riddle/riddlelaw02.ClassBack", spec := "classBack", unfollowed := true, recurses := true, apart := false, narrowed := true }
def ClassBackUptoSaid : Prop := classBackUptoRow.holds Try.pinned (OpenSpec.upto classBackSpec)

/-- 'riddlelaw02.ClassTells', WHERE WHAT IT READS IS OF BULK AT MOST 1048576: true; the input reads as it did. -/
def classTellsUptoRow : OpenClaim := { program := "ytoichfiflajhoaa", sum := "41aaf2f8fe7f4b4d8bdb5c107bbbb6fa809536436f4462443215c40a6d1e86a4", func := "riddle/riddlelaw02.ClassTells", spec := "classTells", unfollowed := true, recurses := true, apart := false, narrowed := true }
def ClassTellsUptoSaid : Prop := classTellsUptoRow.holds Try.pinned (OpenSpec.upto classTellsSpec)

end Rows
end Go.Proofs.Ytoichfiflajhoaa
