/-
  No cell of these rows narrows 'for every input' (looked for: loops, veiled, ifaces, maps, wideKeys, modest, calm, conditions, laid).
  DERIVED. THE GIVEN ROWS OF THIS SEAT. 7 by the template 'for every input the law returns true; each argument reads behind the call as it read before'; 0 by the template 'total and deterministic' (their statements: YtcjjmhgboibbgaaTotals.lean).
  GIVEN WITH THE SEED: the statements are not yours to turn. If you find one false, say at which input.
  Laid BY PROGRAM, IN A SANDBOX (cutbox-rows.mjs): the forced cells as the released guide's own fill.sh prints them over the translation 2d6b41895cc227fc… (all of the seat's roots in one cut). By AI agents, Wed Nov 11 2026. No macro, syntax, notation, axiom, sorry.
-/
import Derived.Test.YtcjjmhgboibbgaaChecked
import GoSem.Claim
import GoSem.ClaimJoined
import GoSem.ClaimMapViews
import Derived.JoinedTies
import Derived.KernelRfl
namespace Go.Proofs.Ytcjjmhgboibbgaa
/- THE CELL 'sum', in the pinned program and in every row, IS THE sha256 OF THE DUMP (.gsa) THAT YtcjjmhgboibbgaaProg.lean LOADS. Nothing in Lean hashes anything: it is a label: what it is worth is what the hold of that sum in a sandbox is worth. -/
noncomputable def Try.pinned : Pinned := { name := "ytcjjmhgboibbgaa", sum := "2d6b41895cc227fc8d1b55a2c1f457ce4f54289bd829ec895938b32224b1a4b7", checked := Try.checked }
namespace Rows
def none {H : Type} : Left H := { results := [], args := [] }

/-- 'manorboylaw08.ArrayDims': WHATEVER THE INPUT: true; the input reads as it did. -/
def arrayDimsSpec : ChangeSpec := { name := "arrayDims", fn := fun _ => fun
  | [d1, d2, d3] => { results := [.lit (.bool true)], args := [d1, d2, d3] }
  | _ => none }
def arrayDimsRow : OpenClaim := { program := "ytcjjmhgboibbgaa", sum := "2d6b41895cc227fc8d1b55a2c1f457ce4f54289bd829ec895938b32224b1a4b7", func := "manorboy/manorboylaw08.ArrayDims", spec := "arrayDims", unfollowed := true, recurses := true, plainKeys := false, apart := false }
def ArrayDimsSaid : Prop := arrayDimsRow.holds Try.pinned (OpenSpec.ofChange arrayDimsSpec)

/-- ITS FALSE NEIGHBOUR: 'it returns false'. Refute it at one input. -/
def arrayDimsWrong : ChangeSpec := { name := "arrayDims", fn := fun _ => fun
  | [d1, d2, d3] => { results := [.lit (.bool false)], args := [d1, d2, d3] }
  | _ => none }
def ArrayDimsWrongFalsely : Prop := arrayDimsRow.holds Try.pinned (OpenSpec.ofChange arrayDimsWrong)

/-- 'manorboylaw08.ArrayOrder': WHATEVER THE INPUT: true; the input reads as it did. -/
def arrayOrderSpec : ChangeSpec := { name := "arrayOrder", fn := fun _ => fun
  | [d1, d2, d3, d4] => { results := [.lit (.bool true)], args := [d1, d2, d3, d4] }
  | _ => none }
def arrayOrderRow : OpenClaim := { program := "ytcjjmhgboibbgaa", sum := "2d6b41895cc227fc8d1b55a2c1f457ce4f54289bd829ec895938b32224b1a4b7", func := "manorboy/manorboylaw08.ArrayOrder", spec := "arrayOrder", unfollowed := true, recurses := true, plainKeys := false, apart := false }
def ArrayOrderSaid : Prop := arrayOrderRow.holds Try.pinned (OpenSpec.ofChange arrayOrderSpec)

/-- ITS FALSE NEIGHBOUR: 'it returns false'. Refute it at one input. -/
def arrayOrderWrong : ChangeSpec := { name := "arrayOrder", fn := fun _ => fun
  | [d1, d2, d3, d4] => { results := [.lit (.bool false)], args := [d1, d2, d3, d4] }
  | _ => none }
def ArrayOrderWrongFalsely : Prop := arrayOrderRow.holds Try.pinned (OpenSpec.ofChange arrayOrderWrong)

/-- 'manorboylaw08.ArrayCommon': WHATEVER THE INPUT: true; the input reads as it did. -/
def arrayCommonSpec : ChangeSpec := { name := "arrayCommon", fn := fun _ => fun
  | [d1, d2] => { results := [.lit (.bool true)], args := [d1, d2] }
  | _ => none }
def arrayCommonRow : OpenClaim := { program := "ytcjjmhgboibbgaa", sum := "2d6b41895cc227fc8d1b55a2c1f457ce4f54289bd829ec895938b32224b1a4b7", func := "manorboy/manorboylaw08.ArrayCommon", spec := "arrayCommon", unfollowed := true, recurses := true, plainKeys := false, apart := false }
def ArrayCommonSaid : Prop := arrayCommonRow.holds Try.pinned (OpenSpec.ofChange arrayCommonSpec)

/-- ITS FALSE NEIGHBOUR: 'it returns false'. Refute it at one input. -/
def arrayCommonWrong : ChangeSpec := { name := "arrayCommon", fn := fun _ => fun
  | [d1, d2] => { results := [.lit (.bool false)], args := [d1, d2] }
  | _ => none }
def ArrayCommonWrongFalsely : Prop := arrayCommonRow.holds Try.pinned (OpenSpec.ofChange arrayCommonWrong)

/-- 'manorboylaw08.ArrayCuts': WHATEVER THE INPUT: true; the input reads as it did. -/
def arrayCutsSpec : ChangeSpec := { name := "arrayCuts", fn := fun _ => fun
  | [d1, d2, d3] => { results := [.lit (.bool true)], args := [d1, d2, d3] }
  | _ => none }
def arrayCutsRow : OpenClaim := { program := "ytcjjmhgboibbgaa", sum := "2d6b41895cc227fc8d1b55a2c1f457ce4f54289bd829ec895938b32224b1a4b7", func := "manorboy/manorboylaw08.ArrayCuts", spec := "arrayCuts", unfollowed := true, recurses := true, plainKeys := false, apart := false }
def ArrayCutsSaid : Prop := arrayCutsRow.holds Try.pinned (OpenSpec.ofChange arrayCutsSpec)

/-- ITS FALSE NEIGHBOUR: 'it returns false'. Refute it at one input. -/
def arrayCutsWrong : ChangeSpec := { name := "arrayCuts", fn := fun _ => fun
  | [d1, d2, d3] => { results := [.lit (.bool false)], args := [d1, d2, d3] }
  | _ => none }
def ArrayCutsWrongFalsely : Prop := arrayCutsRow.holds Try.pinned (OpenSpec.ofChange arrayCutsWrong)

/-- 'manorboylaw08.ArrayOwn': WHATEVER THE INPUT: true; the input reads as it did. -/
def arrayOwnSpec : ChangeSpec := { name := "arrayOwn", fn := fun _ => fun
  | [d1, d2, d3, d4] => { results := [.lit (.bool true)], args := [d1, d2, d3, d4] }
  | _ => none }
def arrayOwnRow : OpenClaim := { program := "ytcjjmhgboibbgaa", sum := "2d6b41895cc227fc8d1b55a2c1f457ce4f54289bd829ec895938b32224b1a4b7", func := "manorboy/manorboylaw08.ArrayOwn", spec := "arrayOwn", unfollowed := true, recurses := true, plainKeys := false, apart := false }
def ArrayOwnSaid : Prop := arrayOwnRow.holds Try.pinned (OpenSpec.ofChange arrayOwnSpec)

/-- ITS FALSE NEIGHBOUR: 'it returns false'. Refute it at one input. -/
def arrayOwnWrong : ChangeSpec := { name := "arrayOwn", fn := fun _ => fun
  | [d1, d2, d3, d4] => { results := [.lit (.bool false)], args := [d1, d2, d3, d4] }
  | _ => none }
def ArrayOwnWrongFalsely : Prop := arrayOwnRow.holds Try.pinned (OpenSpec.ofChange arrayOwnWrong)

/-- 'manorboylaw08.ArrayConversions': WHATEVER THE INPUT: true; the input reads as it did. -/
def arrayConversionsSpec : ChangeSpec := { name := "arrayConversions", fn := fun _ => fun
  | [d1, d2, d3] => { results := [.lit (.bool true)], args := [d1, d2, d3] }
  | _ => none }
def arrayConversionsRow : OpenClaim := { program := "ytcjjmhgboibbgaa", sum := "2d6b41895cc227fc8d1b55a2c1f457ce4f54289bd829ec895938b32224b1a4b7", func := "manorboy/manorboylaw08.ArrayConversions", spec := "arrayConversions", unfollowed := true, recurses := true, plainKeys := false, apart := false }
def ArrayConversionsSaid : Prop := arrayConversionsRow.holds Try.pinned (OpenSpec.ofChange arrayConversionsSpec)

/-- ITS FALSE NEIGHBOUR: 'it returns false'. Refute it at one input. -/
def arrayConversionsWrong : ChangeSpec := { name := "arrayConversions", fn := fun _ => fun
  | [d1, d2, d3] => { results := [.lit (.bool false)], args := [d1, d2, d3] }
  | _ => none }
def ArrayConversionsWrongFalsely : Prop := arrayConversionsRow.holds Try.pinned (OpenSpec.ofChange arrayConversionsWrong)

/-- 'manorboylaw08.ArrayWrites': WHATEVER THE INPUT: true; the input reads as it did. -/
def arrayWritesSpec : ChangeSpec := { name := "arrayWrites", fn := fun _ => fun
  | [d1, d2, d3, d4, d5] => { results := [.lit (.bool true)], args := [d1, d2, d3, d4, d5] }
  | _ => none }
def arrayWritesRow : OpenClaim := { program := "ytcjjmhgboibbgaa", sum := "2d6b41895cc227fc8d1b55a2c1f457ce4f54289bd829ec895938b32224b1a4b7", func := "manorboy/manorboylaw08.ArrayWrites", spec := "arrayWrites", unfollowed := true, recurses := true, plainKeys := false, apart := false }
def ArrayWritesSaid : Prop := arrayWritesRow.holds Try.pinned (OpenSpec.ofChange arrayWritesSpec)

/-- ITS FALSE NEIGHBOUR: 'it returns false'. Refute it at one input. -/
def arrayWritesWrong : ChangeSpec := { name := "arrayWrites", fn := fun _ => fun
  | [d1, d2, d3, d4, d5] => { results := [.lit (.bool false)], args := [d1, d2, d3, d4, d5] }
  | _ => none }
def ArrayWritesWrongFalsely : Prop := arrayWritesRow.holds Try.pinned (OpenSpec.ofChange arrayWritesWrong)

/- THE SECOND FORM. 'bulk': how many values and letters a reading holds, each counted each time it is reached (what is shared counts as often as it is met; a slice's spare places count too). A statement '..UptoSaid' is the law's where the arguments, and the package variables that the reading takes, are together of bulk at most 1048576: NARROWER than '..Said'. Prove '..Said' where nothing that the law and all that it calls make is longer than what came in: it says more and counts as full. Else prove '..UptoSaid'. A law counts once. -/
mutual
def uptoBulk {H : Type} : DataW H → Nat
  | .lit (.string bytes) => bytes.length + 1
  | .lit _ => 1
  | .nil => 1
  | .ptr d => uptoBulk d + 1
  | .slice elems spare => uptoBulkAll elems + uptoBulkAll spare + 1
  | .agg parts => uptoBulkAll parts + 1
  | .iface _ d => uptoBulk d + 1
  | .map entries => uptoBulkEntries entries + 1
  | .held _ => 1
def uptoBulkAll {H : Type} : List (DataW H) → Nat
  | [] => 0
  | d :: r => uptoBulk d + uptoBulkAll r
def uptoBulkEntries {H : Type} : List (Lit × DataW H) → Nat
  | [] => 0
  | x :: r => uptoBulkEntry x + uptoBulkEntries r
def uptoBulkEntry {H : Type} : Lit × DataW H → Nat
  | (.string bytes, d) => bytes.length + uptoBulk d + 1
  | (_, d) => uptoBulk d + 1
 end
def uptoSmall : (H : Type) → List (DataW H) → Bool := fun _ ds => decide (uptoBulkAll ds ≤ 1048576)
def OpenSpec.upto (s : _root_.Go.ChangeSpec) : _root_.Go.OpenSpec := { _root_.Go.OpenSpec.ofChange s with cond := some uptoSmall }

/-- 'manorboylaw08.ArrayDims', WHERE WHAT IT READS IS OF BULK AT MOST 1048576: true; the input reads as it did. -/
def arrayDimsUptoRow : OpenClaim := { program := "ytcjjmhgboibbgaa", sum := "2d6b41895cc227fc8d1b55a2c1f457ce4f54289bd829ec895938b32224b1a4b7", func := "manorboy/manorboylaw08.ArrayDims", spec := "arrayDims", unfollowed := true, recurses := true, plainKeys := false, apart := false, narrowed := true }
def ArrayDimsUptoSaid : Prop := arrayDimsUptoRow.holds Try.pinned (OpenSpec.upto arrayDimsSpec)

/-- 'manorboylaw08.ArrayOrder', WHERE WHAT IT READS IS OF BULK AT MOST 1048576: true; the input reads as it did. -/
def arrayOrderUptoRow : OpenClaim := { program := "ytcjjmhgboibbgaa", sum := "2d6b41895cc227fc8d1b55a2c1f457ce4f54289bd829ec895938b32224b1a4b7", func := "manorboy/manorboylaw08.ArrayOrder", spec := "arrayOrder", unfollowed := true, recurses := true, plainKeys := false, apart := false, narrowed := true }
def ArrayOrderUptoSaid : Prop := arrayOrderUptoRow.holds Try.pinned (OpenSpec.upto arrayOrderSpec)

/-- 'manorboylaw08.ArrayCommon', WHERE WHAT IT READS IS OF BULK AT MOST 1048576: true; the input reads as it did. -/
def arrayCommonUptoRow : OpenClaim := { program := "ytcjjmhgboibbgaa", sum := "2d6b41895cc227fc8d1b55a2c1f457ce4f54289bd829ec895938b32224b1a4b7", func := "manorboy/manorboylaw08.ArrayCommon", spec := "arrayCommon", unfollowed := true, recurses := true, plainKeys := false, apart := false, narrowed := true }
def ArrayCommonUptoSaid : Prop := arrayCommonUptoRow.holds Try.pinned (OpenSpec.upto arrayCommonSpec)

/-- 'manorboylaw08.ArrayCuts', WHERE WHAT IT READS IS OF BULK AT MOST 1048576: true; the input reads as it did. -/
def arrayCutsUptoRow : OpenClaim := { program := "ytcjjmhgboibbgaa", sum := "2d6b41895cc227fc8d1b55a2c1f457ce4f54289bd829ec895938b32224b1a4b7", func := "manorboy/manorboylaw08.ArrayCuts", spec := "arrayCuts", unfollowed := true, recurses := true, plainKeys := false, apart := false, narrowed := true }
def ArrayCutsUptoSaid : Prop := arrayCutsUptoRow.holds Try.pinned (OpenSpec.upto arrayCutsSpec)

/-- 'manorboylaw08.ArrayOwn', WHERE WHAT IT READS IS OF BULK AT MOST 1048576: true; the input reads as it did. -/
def arrayOwnUptoRow : OpenClaim := { program := "ytcjjmhgboibbgaa", sum := "2d6b41895cc227fc8d1b55a2c1f457ce4f54289bd829ec895938b32224b1a4b7", func := "manorboy/manorboylaw08.ArrayOwn", spec := "arrayOwn", unfollowed := true, recurses := true, plainKeys := false, apart := false, narrowed := true }
def ArrayOwnUptoSaid : Prop := arrayOwnUptoRow.holds Try.pinned (OpenSpec.upto arrayOwnSpec)

/-- 'manorboylaw08.ArrayConversions', WHERE WHAT IT READS IS OF BULK AT MOST 1048576: true; the input reads as it did. -/
def arrayConversionsUptoRow : OpenClaim := { program := "ytcjjmhgboibbgaa", sum := "2d6b41895cc227fc8d1b55a2c1f457ce4f54289bd829ec895938b32224b1a4b7", func := "manorboy/manorboylaw08.ArrayConversions", spec := "arrayConversions", unfollowed := true, recurses := true, plainKeys := false, apart := false, narrowed := true }
def ArrayConversionsUptoSaid : Prop := arrayConversionsUptoRow.holds Try.pinned (OpenSpec.upto arrayConversionsSpec)

/-- 'manorboylaw08.ArrayWrites', WHERE WHAT IT READS IS OF BULK AT MOST 1048576: true; the input reads as it did. -/
def arrayWritesUptoRow : OpenClaim := { program := "ytcjjmhgboibbgaa", sum := "2d6b41895cc227fc8d1b55a2c1f457ce4f54289bd829ec895938b32224b1a4b7", func := "manorboy/manorboylaw08.ArrayWrites", spec := "arrayWrites", unfollowed := true, recurses := true, plainKeys := false, apart := false, narrowed := true }
def ArrayWritesUptoSaid : Prop := arrayWritesUptoRow.holds Try.pinned (OpenSpec.upto arrayWritesSpec)

end Rows
end Go.Proofs.Ytcjjmhgboibbgaa
