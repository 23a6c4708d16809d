/-
  No cell of these rows narrows 'for every input' (looked for: loops, veiled, ifaces, maps, wideKeys, modest, calm, conditions, laid).
  DERIVED. THE GIVEN ROWS OF THIS SEAT. 2 by the template 'for every input the law returns true; each argument reads behind the call as it read before'; 0 by the template 'total and deterministic' (their statements: YtdbpfbokfmpgcaaGreatTotals.lean).
  GIVEN WITH THE SEED: the statements are not yours to turn. If you find one false, say at which input.
  Laid BY PROGRAM, IN A SANDBOX (cutbox-rows.mjs): the forced cells as the released guide's own fill.sh prints them over the translation 238e1ea9a71d90ee… (all of the seat's roots in one cut). By AI agents, Wed Nov 11 2026. No macro, syntax, notation, axiom, sorry.
-/
import Derived.Test.YtdbpfbokfmpgcaaGreatChecked
import GoSem.Claim
import GoSem.ClaimJoined
import GoSem.ClaimMapViews
import Derived.JoinedTies
import Derived.KernelRfl
namespace Go.Proofs.YtdbpfbokfmpgcaaGreat
/- THE CELL 'sum', in the pinned program and in every row, IS THE sha256 OF THE DUMP (.gsa) THAT YtdbpfbokfmpgcaaGreatProg.lean LOADS. Nothing in Lean hashes anything: it is a label: what it is worth is what the hold of that sum in a sandbox is worth. -/
noncomputable def Tryz.pinned : Pinned := { name := "ytdbpfbokfmpgcaagreat", sum := "238e1ea9a71d90eecf37b289720b6b9c9e397104f109f50e631cb42f704e9752", checked := Tryz.checked }
namespace Rows
def none {H : Type} : Left H := { results := [], args := [] }

/-- 'paddocklaw14.FinderPlays': WHATEVER THE INPUT: true; the input reads as it did. -/
def finderPlaysSpec : ChangeSpec := { name := "finderPlays", fn := fun _ => fun
  | [d1, d2, d3] => { results := [.lit (.bool true)], args := [d1, d2, d3] }
  | _ => none }
def finderPlaysRow : OpenClaim := { program := "ytdbpfbokfmpgcaagreat", sum := "238e1ea9a71d90eecf37b289720b6b9c9e397104f109f50e631cb42f704e9752", func := "paddock/paddocklaw14.FinderPlays", spec := "finderPlays", unfollowed := true, recurses := true, plainKeys := false, apart := false }
def FinderPlaysSaid : Prop := finderPlaysRow.holds Tryz.pinned (OpenSpec.ofChange finderPlaysSpec)

/-- ITS FALSE NEIGHBOUR: 'it returns false'. Refute it at one input. -/
def finderPlaysWrong : ChangeSpec := { name := "finderPlays", fn := fun _ => fun
  | [d1, d2, d3] => { results := [.lit (.bool false)], args := [d1, d2, d3] }
  | _ => none }
def FinderPlaysWrongFalsely : Prop := finderPlaysRow.holds Tryz.pinned (OpenSpec.ofChange finderPlaysWrong)

/-- 'paddocklaw14.FinderSame': WHATEVER THE INPUT: true; the input reads as it did. -/
def finderSameSpec : ChangeSpec := { name := "finderSame", fn := fun _ => fun
  | [d1, d2, d3] => { results := [.lit (.bool true)], args := [d1, d2, d3] }
  | _ => none }
def finderSameRow : OpenClaim := { program := "ytdbpfbokfmpgcaagreat", sum := "238e1ea9a71d90eecf37b289720b6b9c9e397104f109f50e631cb42f704e9752", func := "paddock/paddocklaw14.FinderSame", spec := "finderSame", unfollowed := true, recurses := true, plainKeys := false, apart := false }
def FinderSameSaid : Prop := finderSameRow.holds Tryz.pinned (OpenSpec.ofChange finderSameSpec)

/-- ITS FALSE NEIGHBOUR: 'it returns false'. Refute it at one input. -/
def finderSameWrong : ChangeSpec := { name := "finderSame", fn := fun _ => fun
  | [d1, d2, d3] => { results := [.lit (.bool false)], args := [d1, d2, d3] }
  | _ => none }
def FinderSameWrongFalsely : Prop := finderSameRow.holds Tryz.pinned (OpenSpec.ofChange finderSameWrong)

/- THE SECOND FORM. 'bulk': how many values and letters a reading holds, each counted each time it is reached (what is shared counts as often as it is met; a slice's spare places count too). A statement '..UptoSaid' is the law's where the arguments, and the package variables that the reading takes, are together of bulk at most 1048576: NARROWER than '..Said'. Prove '..Said' where nothing that the law and all that it calls make is longer than what came in: it says more and counts as full. Else prove '..UptoSaid'. A law counts once. -/
mutual
def uptoBulk {H : Type} : DataW H → Nat
  | .lit (.string bytes) => bytes.length + 1
  | .lit _ => 1
  | .nil => 1
  | .ptr d => uptoBulk d + 1
  | .slice elems spare => uptoBulkAll elems + uptoBulkAll spare + 1
  | .agg parts => uptoBulkAll parts + 1
  | .iface _ d => uptoBulk d + 1
  | .map entries => uptoBulkEntries entries + 1
  | .held _ => 1
def uptoBulkAll {H : Type} : List (DataW H) → Nat
  | [] => 0
  | d :: r => uptoBulk d + uptoBulkAll r
def uptoBulkEntries {H : Type} : List (Lit × DataW H) → Nat
  | [] => 0
  | x :: r => uptoBulkEntry x + uptoBulkEntries r
def uptoBulkEntry {H : Type} : Lit × DataW H → Nat
  | (.string bytes, d) => bytes.length + uptoBulk d + 1
  | (_, d) => uptoBulk d + 1
 end
def uptoSmall : (H : Type) → List (DataW H) → Bool := fun _ ds => decide (uptoBulkAll ds ≤ 1048576)
def OpenSpec.upto (s : _root_.Go.ChangeSpec) : _root_.Go.OpenSpec := { _root_.Go.OpenSpec.ofChange s with cond := some uptoSmall }

/-- 'paddocklaw14.FinderPlays', WHERE WHAT IT READS IS OF BULK AT MOST 1048576: true; the input reads as it did. -/
def finderPlaysUptoRow : OpenClaim := { program := "ytdbpfbokfmpgcaagreat", sum := "238e1ea9a71d90eecf37b289720b6b9c9e397104f109f50e631cb42f704e9752", func := "paddock/paddocklaw14.FinderPlays", spec := "finderPlays", unfollowed := true, recurses := true, plainKeys := false, apart := false, narrowed := true }
def FinderPlaysUptoSaid : Prop := finderPlaysUptoRow.holds Tryz.pinned (OpenSpec.upto finderPlaysSpec)

/-- 'paddocklaw14.FinderSame', WHERE WHAT IT READS IS OF BULK AT MOST 1048576: true; the input reads as it did. -/
def finderSameUptoRow : OpenClaim := { program := "ytdbpfbokfmpgcaagreat", sum := "238e1ea9a71d90eecf37b289720b6b9c9e397104f109f50e631cb42f704e9752", func := "paddock/paddocklaw14.FinderSame", spec := "finderSame", unfollowed := true, recurses := true, plainKeys := false, apart := false, narrowed := true }
def FinderSameUptoSaid : Prop := finderSameUptoRow.holds Tryz.pinned (OpenSpec.upto finderSameSpec)

end Rows
end Go.Proofs.YtdbpfbokfmpgcaaGreat
