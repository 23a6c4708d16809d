/-
  No cell of these rows narrows 'for every input' (looked for: loops, veiled, ifaces, maps, wideKeys, modest, calm, conditions, laid).
  DERIVED. THE GIVEN ROWS OF THIS SEAT. 10 by the template 'for every input the law returns true; each argument reads behind the call as it read before'; 0 by the template 'total and deterministic' (their statements: YtndghakagogmcaaTotals.lean).
  GIVEN WITH THE SEED: the statements are not yours to turn. If you find one false, say at which input.
  Laid BY PROGRAM, IN A SANDBOX (cutbox-rows.mjs): the forced cells as the released guide's own fill.sh prints them over the translation b9689cbe2e6b5909… (all of the seat's roots in one cut). By AI agents, Wed Nov 11 2026. No macro, syntax, notation, axiom, sorry.
-/
import Derived.Test.YtndghakagogmcaaChecked
import GoSem.Claim
import GoSem.ClaimJoined
import GoSem.ClaimMapViews
import Derived.JoinedTies
import Derived.KernelRfl
namespace Go.Proofs.Ytndghakagogmcaa
/- THE CELL 'sum', in the pinned program and in every row, IS THE sha256 OF THE DUMP (.gsa) THAT YtndghakagogmcaaProg.lean LOADS. Nothing in Lean hashes anything: it is a label: what it is worth is what the hold of that sum in a sandbox is worth. -/
noncomputable def Try.pinned : Pinned := { name := "ytndghakagogmcaa", sum := "b9689cbe2e6b5909715d7bdceb8e925b120b1f355b276db19998420f385d8c71", checked := Try.checked }
namespace Rows
def none {H : Type} : Left H := { results := [], args := [] }

/-- 'paddocklaw31.SaveNames': WHATEVER THE INPUT: true; the input reads as it did. -/
def saveNamesSpec : ChangeSpec := { name := "saveNames", fn := fun _ => fun
  | [] => { results := [.lit (.bool true)], args := [] }
  | _ => none }
def saveNamesRow : OpenClaim := { program := "ytndghakagogmcaa", sum := "b9689cbe2e6b5909715d7bdceb8e925b120b1f355b276db19998420f385d8c71", func := "paddock/paddocklaw31.SaveNames", spec := "saveNames", apart := false }
def SaveNamesSaid : Prop := saveNamesRow.holds Try.pinned (OpenSpec.ofChange saveNamesSpec)

/-- ITS FALSE NEIGHBOUR: 'it returns false'. Refute it at one input. -/
def saveNamesWrong : ChangeSpec := { name := "saveNames", fn := fun _ => fun
  | [] => { results := [.lit (.bool false)], args := [] }
  | _ => none }
def SaveNamesWrongFalsely : Prop := saveNamesRow.holds Try.pinned (OpenSpec.ofChange saveNamesWrong)

/-- 'paddocklaw30.ModelNames': WHATEVER THE INPUT: true; the input reads as it did. -/
def modelNamesSpec : ChangeSpec := { name := "modelNames", fn := fun _ => fun
  | [] => { results := [.lit (.bool true)], args := [] }
  | _ => none }
def modelNamesRow : OpenClaim := { program := "ytndghakagogmcaa", sum := "b9689cbe2e6b5909715d7bdceb8e925b120b1f355b276db19998420f385d8c71", func := "paddock/paddocklaw30.ModelNames", spec := "modelNames", apart := false }
def ModelNamesSaid : Prop := modelNamesRow.holds Try.pinned (OpenSpec.ofChange modelNamesSpec)

/-- ITS FALSE NEIGHBOUR: 'it returns false'. Refute it at one input. -/
def modelNamesWrong : ChangeSpec := { name := "modelNames", fn := fun _ => fun
  | [] => { results := [.lit (.bool false)], args := [] }
  | _ => none }
def ModelNamesWrongFalsely : Prop := modelNamesRow.holds Try.pinned (OpenSpec.ofChange modelNamesWrong)

/-- 'paddocklaw12.GridNames': WHATEVER THE INPUT: true; the input reads as it did. -/
def gridNamesSpec : ChangeSpec := { name := "gridNames", fn := fun _ => fun
  | [] => { results := [.lit (.bool true)], args := [] }
  | _ => none }
def gridNamesRow : OpenClaim := { program := "ytndghakagogmcaa", sum := "b9689cbe2e6b5909715d7bdceb8e925b120b1f355b276db19998420f385d8c71", func := "paddock/paddocklaw12.GridNames", spec := "gridNames", apart := false }
def GridNamesSaid : Prop := gridNamesRow.holds Try.pinned (OpenSpec.ofChange gridNamesSpec)

/-- ITS FALSE NEIGHBOUR: 'it returns false'. Refute it at one input. -/
def gridNamesWrong : ChangeSpec := { name := "gridNames", fn := fun _ => fun
  | [] => { results := [.lit (.bool false)], args := [] }
  | _ => none }
def GridNamesWrongFalsely : Prop := gridNamesRow.holds Try.pinned (OpenSpec.ofChange gridNamesWrong)

/-- 'paddocklaw19.MatchNames': WHATEVER THE INPUT: true; the input reads as it did. -/
def matchNamesSpec : ChangeSpec := { name := "matchNames", fn := fun _ => fun
  | [] => { results := [.lit (.bool true)], args := [] }
  | _ => none }
def matchNamesRow : OpenClaim := { program := "ytndghakagogmcaa", sum := "b9689cbe2e6b5909715d7bdceb8e925b120b1f355b276db19998420f385d8c71", func := "paddock/paddocklaw19.MatchNames", spec := "matchNames", apart := false }
def MatchNamesSaid : Prop := matchNamesRow.holds Try.pinned (OpenSpec.ofChange matchNamesSpec)

/-- ITS FALSE NEIGHBOUR: 'it returns false'. Refute it at one input. -/
def matchNamesWrong : ChangeSpec := { name := "matchNames", fn := fun _ => fun
  | [] => { results := [.lit (.bool false)], args := [] }
  | _ => none }
def MatchNamesWrongFalsely : Prop := matchNamesRow.holds Try.pinned (OpenSpec.ofChange matchNamesWrong)

/-- 'paddocklaw13.TreeNames': WHATEVER THE INPUT: true; the input reads as it did. -/
def treeNamesSpec : ChangeSpec := { name := "treeNames", fn := fun _ => fun
  | [] => { results := [.lit (.bool true)], args := [] }
  | _ => none }
def treeNamesRow : OpenClaim := { program := "ytndghakagogmcaa", sum := "b9689cbe2e6b5909715d7bdceb8e925b120b1f355b276db19998420f385d8c71", func := "paddock/paddocklaw13.TreeNames", spec := "treeNames", apart := false }
def TreeNamesSaid : Prop := treeNamesRow.holds Try.pinned (OpenSpec.ofChange treeNamesSpec)

/-- ITS FALSE NEIGHBOUR: 'it returns false'. Refute it at one input. -/
def treeNamesWrong : ChangeSpec := { name := "treeNames", fn := fun _ => fun
  | [] => { results := [.lit (.bool false)], args := [] }
  | _ => none }
def TreeNamesWrongFalsely : Prop := treeNamesRow.holds Try.pinned (OpenSpec.ofChange treeNamesWrong)

/-- 'paddocklaw23.TakeOrder': WHATEVER THE INPUT: true; the input reads as it did. -/
def takeOrderSpec : ChangeSpec := { name := "takeOrder", fn := fun _ => fun
  | [d1, d2, d3] => { results := [.lit (.bool true)], args := [d1, d2, d3] }
  | _ => none }
def takeOrderRow : OpenClaim := { program := "ytndghakagogmcaa", sum := "b9689cbe2e6b5909715d7bdceb8e925b120b1f355b276db19998420f385d8c71", func := "paddock/paddocklaw23.TakeOrder", spec := "takeOrder", unfollowed := true, recurses := true, apart := false }
def TakeOrderSaid : Prop := takeOrderRow.holds Try.pinned (OpenSpec.ofChange takeOrderSpec)

/-- ITS FALSE NEIGHBOUR: 'it returns false'. Refute it at one input. -/
def takeOrderWrong : ChangeSpec := { name := "takeOrder", fn := fun _ => fun
  | [d1, d2, d3] => { results := [.lit (.bool false)], args := [d1, d2, d3] }
  | _ => none }
def TakeOrderWrongFalsely : Prop := takeOrderRow.holds Try.pinned (OpenSpec.ofChange takeOrderWrong)

/-- 'paddocklaw13.TreeMeanwhile': WHATEVER THE INPUT: true; the input reads as it did. -/
def treeMeanwhileSpec : ChangeSpec := { name := "treeMeanwhile", fn := fun _ => fun
  | [d1, d2, d3] => { results := [.lit (.bool true)], args := [d1, d2, d3] }
  | _ => none }
def treeMeanwhileRow : OpenClaim := { program := "ytndghakagogmcaa", sum := "b9689cbe2e6b5909715d7bdceb8e925b120b1f355b276db19998420f385d8c71", func := "paddock/paddocklaw13.TreeMeanwhile", spec := "treeMeanwhile", unfollowed := true, recurses := true, apart := false }
def TreeMeanwhileSaid : Prop := treeMeanwhileRow.holds Try.pinned (OpenSpec.ofChange treeMeanwhileSpec)

/-- ITS FALSE NEIGHBOUR: 'it returns false'. Refute it at one input. -/
def treeMeanwhileWrong : ChangeSpec := { name := "treeMeanwhile", fn := fun _ => fun
  | [d1, d2, d3] => { results := [.lit (.bool false)], args := [d1, d2, d3] }
  | _ => none }
def TreeMeanwhileWrongFalsely : Prop := treeMeanwhileRow.holds Try.pinned (OpenSpec.ofChange treeMeanwhileWrong)

/-- 'paddocklaw13.TreeAny': WHATEVER THE INPUT: true; the input reads as it did. -/
def treeAnySpec : ChangeSpec := { name := "treeAny", fn := fun _ => fun
  | [d1, d2, d3] => { results := [.lit (.bool true)], args := [d1, d2, d3] }
  | _ => none }
def treeAnyRow : OpenClaim := { program := "ytndghakagogmcaa", sum := "b9689cbe2e6b5909715d7bdceb8e925b120b1f355b276db19998420f385d8c71", func := "paddock/paddocklaw13.TreeAny", spec := "treeAny", unfollowed := true, recurses := true, apart := false }
def TreeAnySaid : Prop := treeAnyRow.holds Try.pinned (OpenSpec.ofChange treeAnySpec)

/-- ITS FALSE NEIGHBOUR: 'it returns false'. Refute it at one input. -/
def treeAnyWrong : ChangeSpec := { name := "treeAny", fn := fun _ => fun
  | [d1, d2, d3] => { results := [.lit (.bool false)], args := [d1, d2, d3] }
  | _ => none }
def TreeAnyWrongFalsely : Prop := treeAnyRow.holds Try.pinned (OpenSpec.ofChange treeAnyWrong)

/-- 'paddocklaw13.TreeNil': WHATEVER THE INPUT: true; the input reads as it did. -/
def treeNilSpec : ChangeSpec := { name := "treeNil", fn := fun _ => fun
  | [d] => { results := [.lit (.bool true)], args := [d] }
  | _ => none }
def treeNilRow : OpenClaim := { program := "ytndghakagogmcaa", sum := "b9689cbe2e6b5909715d7bdceb8e925b120b1f355b276db19998420f385d8c71", func := "paddock/paddocklaw13.TreeNil", spec := "treeNil", unfollowed := true, recurses := true, apart := false }
def TreeNilSaid : Prop := treeNilRow.holds Try.pinned (OpenSpec.ofChange treeNilSpec)

/-- ITS FALSE NEIGHBOUR: 'it returns false'. Refute it at one input. -/
def treeNilWrong : ChangeSpec := { name := "treeNil", fn := fun _ => fun
  | [d] => { results := [.lit (.bool false)], args := [d] }
  | _ => none }
def TreeNilWrongFalsely : Prop := treeNilRow.holds Try.pinned (OpenSpec.ofChange treeNilWrong)

/-- 'paddocklaw13.TreePlays': WHATEVER THE INPUT: true; the input reads as it did. -/
def treePlaysSpec : ChangeSpec := { name := "treePlays", fn := fun _ => fun
  | [d] => { results := [.lit (.bool true)], args := [d] }
  | _ => none }
def treePlaysRow : OpenClaim := { program := "ytndghakagogmcaa", sum := "b9689cbe2e6b5909715d7bdceb8e925b120b1f355b276db19998420f385d8c71", func := "paddock/paddocklaw13.TreePlays", spec := "treePlays", unfollowed := true, recurses := true, apart := false }
def TreePlaysSaid : Prop := treePlaysRow.holds Try.pinned (OpenSpec.ofChange treePlaysSpec)

/-- ITS FALSE NEIGHBOUR: 'it returns false'. Refute it at one input. -/
def treePlaysWrong : ChangeSpec := { name := "treePlays", fn := fun _ => fun
  | [d] => { results := [.lit (.bool false)], args := [d] }
  | _ => none }
def TreePlaysWrongFalsely : Prop := treePlaysRow.holds Try.pinned (OpenSpec.ofChange treePlaysWrong)

/- THE SECOND FORM. 'bulk': how many values and letters a reading holds, each counted each time it is reached (what is shared counts as often as it is met; a slice's spare places count too). A statement '..UptoSaid' is the law's where the arguments, and the package variables that the reading takes, are together of bulk at most 1048576: NARROWER than '..Said'. Prove '..Said' where nothing that the law and all that it calls make is longer than what came in: it says more and counts as full. Else prove '..UptoSaid'. A law counts once. -/
mutual
def uptoBulk {H : Type} : DataW H → Nat
  | .lit (.string bytes) => bytes.length + 1
  | .lit _ => 1
  | .nil => 1
  | .ptr d => uptoBulk d + 1
  | .slice elems spare => uptoBulkAll elems + uptoBulkAll spare + 1
  | .agg parts => uptoBulkAll parts + 1
  | .iface _ d => uptoBulk d + 1
  | .map entries => uptoBulkEntries entries + 1
  | .held _ => 1
def uptoBulkAll {H : Type} : List (DataW H) → Nat
  | [] => 0
  | d :: r => uptoBulk d + uptoBulkAll r
def uptoBulkEntries {H : Type} : List (Lit × DataW H) → Nat
  | [] => 0
  | x :: r => uptoBulkEntry x + uptoBulkEntries r
def uptoBulkEntry {H : Type} : Lit × DataW H → Nat
  | (.string bytes, d) => bytes.length + uptoBulk d + 1
  | (_, d) => uptoBulk d + 1
 end
def uptoSmall : (H : Type) → List (DataW H) → Bool := fun _ ds => decide (uptoBulkAll ds ≤ 1048576)
def OpenSpec.upto (s : _root_.Go.ChangeSpec) : _root_.Go.OpenSpec := { _root_.Go.OpenSpec.ofChange s with cond := some uptoSmall }

/-- 'paddocklaw31.SaveNames', WHERE WHAT IT READS IS OF BULK AT MOST 1048576: true; the input reads as it did. -/
def saveNamesUptoRow : OpenClaim := { program := "ytndghakagogmcaa", sum := "b9689cbe2e6b5909715d7bdceb8e925b120b1f355b276db19998420f385d8c71", func := "paddock/paddocklaw31.SaveNames", spec := "saveNames", apart := false, narrowed := true }
def SaveNamesUptoSaid : Prop := saveNamesUptoRow.holds Try.pinned (OpenSpec.upto saveNamesSpec)

/-- 'paddocklaw30.ModelNames', WHERE WHAT IT READS IS OF BULK AT MOST 1048576: true; the input reads as it did. -/
def modelNamesUptoRow : OpenClaim := { program := "ytndghakagogmcaa", sum := "b9689cbe2e6b5909715d7bdceb8e925b120b1f355b276db19998420f385d8c71", func := "paddock/paddocklaw30.ModelNames", spec := "modelNames", apart := false, narrowed := true }
def ModelNamesUptoSaid : Prop := modelNamesUptoRow.holds Try.pinned (OpenSpec.upto modelNamesSpec)

/-- 'paddocklaw12.GridNames', WHERE WHAT IT READS IS OF BULK AT MOST 1048576: true; the input reads as it did. -/
def gridNamesUptoRow : OpenClaim := { program := "ytndghakagogmcaa", sum := "b9689cbe2e6b5909715d7bdceb8e925b120b1f355b276db19998420f385d8c71", func := "paddock/paddocklaw12.GridNames", spec := "gridNames", apart := false, narrowed := true }
def GridNamesUptoSaid : Prop := gridNamesUptoRow.holds Try.pinned (OpenSpec.upto gridNamesSpec)

/-- 'paddocklaw19.MatchNames', WHERE WHAT IT READS IS OF BULK AT MOST 1048576: true; the input reads as it did. -/
def matchNamesUptoRow : OpenClaim := { program := "ytndghakagogmcaa", sum := "b9689cbe2e6b5909715d7bdceb8e925b120b1f355b276db19998420f385d8c71", func := "paddock/paddocklaw19.MatchNames", spec := "matchNames", apart := false, narrowed := true }
def MatchNamesUptoSaid : Prop := matchNamesUptoRow.holds Try.pinned (OpenSpec.upto matchNamesSpec)

/-- 'paddocklaw13.TreeNames', WHERE WHAT IT READS IS OF BULK AT MOST 1048576: true; the input reads as it did. -/
def treeNamesUptoRow : OpenClaim := { program := "ytndghakagogmcaa", sum := "b9689cbe2e6b5909715d7bdceb8e925b120b1f355b276db19998420f385d8c71", func := "paddock/paddocklaw13.TreeNames", spec := "treeNames", apart := false, narrowed := true }
def TreeNamesUptoSaid : Prop := treeNamesUptoRow.holds Try.pinned (OpenSpec.upto treeNamesSpec)

/-- 'paddocklaw23.TakeOrder', WHERE WHAT IT READS IS OF BULK AT MOST 1048576: true; the input reads as it did. -/
def takeOrderUptoRow : OpenClaim := { program := "ytndghakagogmcaa", sum := "b9689cbe2e6b5909715d7bdceb8e925b120b1f355b276db19998420f385d8c71", func := "paddock/paddocklaw23.TakeOrder", spec := "takeOrder", unfollowed := true, recurses := true, apart := false, narrowed := true }
def TakeOrderUptoSaid : Prop := takeOrderUptoRow.holds Try.pinned (OpenSpec.upto takeOrderSpec)

/-- 'paddocklaw13.TreeMeanwhile', WHERE WHAT IT READS IS OF BULK AT MOST 1048576: true; the input reads as it did. -/
def treeMeanwhileUptoRow : OpenClaim := { program := "ytndghakagogmcaa", sum := "b9689cbe2e6b5909715d7bdceb8e925b120b1f355b276db19998420f385d8c71", func := "paddock/paddocklaw13.TreeMeanwhile", spec := "treeMeanwhile", unfollowed := true, recurses := true, apart := false, narrowed := true }
def TreeMeanwhileUptoSaid : Prop := treeMeanwhileUptoRow.holds Try.pinned (OpenSpec.upto treeMeanwhileSpec)

/-- 'paddocklaw13.TreeAny', WHERE WHAT IT READS IS OF BULK AT MOST 1048576: true; the input reads as it did. -/
def treeAnyUptoRow : OpenClaim := { program := "ytndghakagogmcaa", sum := "b9689cbe2e6b5909715d7bdceb8e925b120b1f355b276db19998420f385d8c71", func := "paddock/paddocklaw13.TreeAny", spec := "treeAny", unfollowed := true, recurses := true, apart := false, narrowed := true }
def TreeAnyUptoSaid : Prop := treeAnyUptoRow.holds Try.pinned (OpenSpec.upto treeAnySpec)

/-- 'paddocklaw13.TreeNil', WHERE WHAT IT READS IS OF BULK AT MOST 1048576: true; the input reads as it did. -/
def treeNilUptoRow : OpenClaim := { program := "ytndghakagogmcaa", sum := "b9689cbe2e6b5909715d7bdceb8e925b120b1f355b276db19998420f385d8c71", func := "paddock/paddocklaw13.TreeNil", spec := "treeNil", unfollowed := true, recurses := true, apart := false, narrowed := true }
def TreeNilUptoSaid : Prop := treeNilUptoRow.holds Try.pinned (OpenSpec.upto treeNilSpec)

/-- 'paddocklaw13.TreePlays', WHERE WHAT IT READS IS OF BULK AT MOST 1048576: true; the input reads as it did. -/
def treePlaysUptoRow : OpenClaim := { program := "ytndghakagogmcaa", sum := "b9689cbe2e6b5909715d7bdceb8e925b120b1f355b276db19998420f385d8c71", func := "paddock/paddocklaw13.TreePlays", spec := "treePlays", unfollowed := true, recurses := true, apart := false, narrowed := true }
def TreePlaysUptoSaid : Prop := treePlaysUptoRow.holds Try.pinned (OpenSpec.upto treePlaysSpec)

end Rows
end Go.Proofs.Ytndghakagogmcaa
