/-
  No cell of these rows narrows 'for every input' (looked for: loops, veiled, ifaces, maps, wideKeys, modest, calm, conditions, laid).
  DERIVED. THE GIVEN ROWS OF THIS SEAT. 5 by the template 'for every input the law returns true; each argument reads behind the call as it read before'; 0 by the template 'total and deterministic' (their statements: YtabnpmojccepcaaTotals.lean).
  GIVEN WITH THE SEED: the statements are not yours to turn. If you find one false, say at which input.
  Laid BY PROGRAM, IN A SANDBOX (cutbox-rows.mjs): the forced cells as the released guide's own fill.sh prints them over the translation 8e3bfd0a7cf75b31… (all of the seat's roots in one cut). By AI agents, Wed Nov 11 2026. No macro, syntax, notation, axiom, sorry.
-/
import Derived.Test.YtabnpmojccepcaaChecked
import GoSem.Claim
import GoSem.ClaimJoined
import GoSem.ClaimMapViews
import Derived.JoinedTies
import Derived.KernelRfl
namespace Go.Proofs.Ytabnpmojccepcaa
/- THE CELL 'sum', in the pinned program and in every row, IS THE sha256 OF THE DUMP (.gsa) THAT YtabnpmojccepcaaProg.lean LOADS. Nothing in Lean hashes anything: it is a label: what it is worth is what the hold of that sum in a sandbox is worth. -/
noncomputable def Try.pinned : Pinned := { name := "ytabnpmojccepcaa", sum := "8e3bfd0a7cf75b31a845c97b23ff4a88f3148de67c848dd5c803c63eef638487", checked := Try.checked }
namespace Rows
def none {H : Type} : Left H := { results := [], args := [] }

/-- 'lombardlaw05.IsinDigits': WHATEVER THE INPUT: true; the input reads as it did. -/
def isinDigitsSpec : ChangeSpec := { name := "isinDigits", fn := fun _ => fun
  | [d1, d2] => { results := [.lit (.bool true)], args := [d1, d2] }
  | _ => none }
def isinDigitsRow : OpenClaim := { program := "ytabnpmojccepcaa", sum := "8e3bfd0a7cf75b31a845c97b23ff4a88f3148de67c848dd5c803c63eef638487", func := "lombard/lombardlaw05.IsinDigits", spec := "isinDigits", unfollowed := true, recurses := true, apart := false }
def IsinDigitsSaid : Prop := isinDigitsRow.holds Try.pinned (OpenSpec.ofChange isinDigitsSpec)

/-- ITS FALSE NEIGHBOUR: 'it returns false'. Refute it at one input. -/
def isinDigitsWrong : ChangeSpec := { name := "isinDigits", fn := fun _ => fun
  | [d1, d2] => { results := [.lit (.bool false)], args := [d1, d2] }
  | _ => none }
def IsinDigitsWrongFalsely : Prop := isinDigitsRow.holds Try.pinned (OpenSpec.ofChange isinDigitsWrong)

/-- 'lombardlaw05.IsinSlips': WHATEVER THE INPUT: true; the input reads as it did. -/
def isinSlipsSpec : ChangeSpec := { name := "isinSlips", fn := fun _ => fun
  | [d1, d2, d3] => { results := [.lit (.bool true)], args := [d1, d2, d3] }
  | _ => none }
def isinSlipsRow : OpenClaim := { program := "ytabnpmojccepcaa", sum := "8e3bfd0a7cf75b31a845c97b23ff4a88f3148de67c848dd5c803c63eef638487", func := "lombard/lombardlaw05.IsinSlips", spec := "isinSlips", unfollowed := true, recurses := true, apart := false }
def IsinSlipsSaid : Prop := isinSlipsRow.holds Try.pinned (OpenSpec.ofChange isinSlipsSpec)

/-- ITS FALSE NEIGHBOUR: 'it returns false'. Refute it at one input. -/
def isinSlipsWrong : ChangeSpec := { name := "isinSlips", fn := fun _ => fun
  | [d1, d2, d3] => { results := [.lit (.bool false)], args := [d1, d2, d3] }
  | _ => none }
def IsinSlipsWrongFalsely : Prop := isinSlipsRow.holds Try.pinned (OpenSpec.ofChange isinSlipsWrong)

/-- 'lombardlaw05.IsinMakes': WHATEVER THE INPUT: true; the input reads as it did. -/
def isinMakesSpec : ChangeSpec := { name := "isinMakes", fn := fun _ => fun
  | [d1, d2, d3] => { results := [.lit (.bool true)], args := [d1, d2, d3] }
  | _ => none }
def isinMakesRow : OpenClaim := { program := "ytabnpmojccepcaa", sum := "8e3bfd0a7cf75b31a845c97b23ff4a88f3148de67c848dd5c803c63eef638487", func := "lombard/lombardlaw05.IsinMakes", spec := "isinMakes", unfollowed := true, recurses := true, apart := false }
def IsinMakesSaid : Prop := isinMakesRow.holds Try.pinned (OpenSpec.ofChange isinMakesSpec)

/-- ITS FALSE NEIGHBOUR: 'it returns false'. Refute it at one input. -/
def isinMakesWrong : ChangeSpec := { name := "isinMakes", fn := fun _ => fun
  | [d1, d2, d3] => { results := [.lit (.bool false)], args := [d1, d2, d3] }
  | _ => none }
def IsinMakesWrongFalsely : Prop := isinMakesRow.holds Try.pinned (OpenSpec.ofChange isinMakesWrong)

/-- 'lombardlaw05.IsinBack': WHATEVER THE INPUT: true; the input reads as it did. -/
def isinBackSpec : ChangeSpec := { name := "isinBack", fn := fun _ => fun
  | [d1, d2] => { results := [.lit (.bool true)], args := [d1, d2] }
  | _ => none }
def isinBackRow : OpenClaim := { program := "ytabnpmojccepcaa", sum := "8e3bfd0a7cf75b31a845c97b23ff4a88f3148de67c848dd5c803c63eef638487", func := "lombard/lombardlaw05.IsinBack", spec := "isinBack", unfollowed := true, recurses := true, apart := false }
def IsinBackSaid : Prop := isinBackRow.holds Try.pinned (OpenSpec.ofChange isinBackSpec)

/-- ITS FALSE NEIGHBOUR: 'it returns false'. Refute it at one input. -/
def isinBackWrong : ChangeSpec := { name := "isinBack", fn := fun _ => fun
  | [d1, d2] => { results := [.lit (.bool false)], args := [d1, d2] }
  | _ => none }
def IsinBackWrongFalsely : Prop := isinBackRow.holds Try.pinned (OpenSpec.ofChange isinBackWrong)

/-- 'lombardlaw05.IsinAssets': WHATEVER THE INPUT: true; the input reads as it did. -/
def isinAssetsSpec : ChangeSpec := { name := "isinAssets", fn := fun _ => fun
  | [d1, d2] => { results := [.lit (.bool true)], args := [d1, d2] }
  | _ => none }
def isinAssetsRow : OpenClaim := { program := "ytabnpmojccepcaa", sum := "8e3bfd0a7cf75b31a845c97b23ff4a88f3148de67c848dd5c803c63eef638487", func := "lombard/lombardlaw05.IsinAssets", spec := "isinAssets", unfollowed := true, recurses := true, apart := false }
def IsinAssetsSaid : Prop := isinAssetsRow.holds Try.pinned (OpenSpec.ofChange isinAssetsSpec)

/-- ITS FALSE NEIGHBOUR: 'it returns false'. Refute it at one input. -/
def isinAssetsWrong : ChangeSpec := { name := "isinAssets", fn := fun _ => fun
  | [d1, d2] => { results := [.lit (.bool false)], args := [d1, d2] }
  | _ => none }
def IsinAssetsWrongFalsely : Prop := isinAssetsRow.holds Try.pinned (OpenSpec.ofChange isinAssetsWrong)

/- THE SECOND FORM. 'bulk': how many values and letters a reading holds, each counted each time it is reached (what is shared counts as often as it is met; a slice's spare places count too). A statement '..UptoSaid' is the law's where the arguments, and the package variables that the reading takes, are together of bulk at most 1048576: NARROWER than '..Said'. Prove '..Said' where nothing that the law and all that it calls make is longer than what came in: it says more and counts as full. Else prove '..UptoSaid'. A law counts once. -/
mutual
def uptoBulk {H : Type} : DataW H → Nat
  | .lit (.string bytes) => bytes.length + 1
  | .lit _ => 1
  | .nil => 1
  | .ptr d => uptoBulk d + 1
  | .slice elems spare => uptoBulkAll elems + uptoBulkAll spare + 1
  | .agg parts => uptoBulkAll parts + 1
  | .iface _ d => uptoBulk d + 1
  | .map entries => uptoBulkEntries entries + 1
  | .held _ => 1
def uptoBulkAll {H : Type} : List (DataW H) → Nat
  | [] => 0
  | d :: r => uptoBulk d + uptoBulkAll r
def uptoBulkEntries {H : Type} : List (Lit × DataW H) → Nat
  | [] => 0
  | x :: r => uptoBulkEntry x + uptoBulkEntries r
def uptoBulkEntry {H : Type} : Lit × DataW H → Nat
  | (.string bytes, d) => bytes.length + uptoBulk d + 1
  | (_, d) => uptoBulk d + 1
 end
def uptoSmall : (H : Type) → List (DataW H) → Bool := fun _ ds => decide (uptoBulkAll ds ≤ 1048576)
def OpenSpec.upto (s : _root_.Go.ChangeSpec) : _root_.Go.OpenSpec := { _root_.Go.OpenSpec.ofChange s with cond := some uptoSmall }

/-- 'lombardlaw05.IsinDigits', WHERE WHAT IT READS IS OF BULK AT MOST 1048576: true; the input reads as it did. -/
def isinDigitsUptoRow : OpenClaim := { program := "ytabnpmojccepcaa", sum := "8e3bfd0a7cf75b31a845c97b23ff4a88f3148de67c848dd5c803c63eef638487", func := "lombard/lombardlaw05.IsinDigits", spec := "isinDigits", unfollowed := true, recurses := true, apart := false, narrowed := true }
def IsinDigitsUptoSaid : Prop := isinDigitsUptoRow.holds Try.pinned (OpenSpec.upto isinDigitsSpec)

/-- 'lombardlaw05.IsinSlips', WHERE WHAT IT READS IS OF BULK AT MOST 1048576: true; the input reads as it did. -/
def isinSlipsUptoRow : OpenClaim := { program := "ytabnpmojccepcaa", sum := "8e3bfd0a7cf75b31a845c97b23ff4a88f3148de67c848dd5c803c63eef638487", func := "lombard/lombardlaw05.IsinSlips", spec := "isinSlips", unfollowed := true, recurses := true, apart := false, narrowed := true }
def IsinSlipsUptoSaid : Prop := isinSlipsUptoRow.holds Try.pinned (OpenSpec.upto isinSlipsSpec)

/-- 'lombardlaw05.IsinMakes', WHERE WHAT IT READS IS OF BULK AT MOST 1048576: true; the input reads as it did. -/
def isinMakesUptoRow : OpenClaim := { program := "ytabnpmojccepcaa", sum := "8e3bfd0a7cf75b31a845c97b23ff4a88f3148de67c848dd5c803c63eef638487", func := "lombard/lombardlaw05.IsinMakes", spec := "isinMakes", unfollowed := true, recurses := true, apart := false, narrowed := true }
def IsinMakesUptoSaid : Prop := isinMakesUptoRow.holds Try.pinned (OpenSpec.upto isinMakesSpec)

/-- 'lombardlaw05.IsinBack', WHERE WHAT IT READS IS OF BULK AT MOST 1048576: true; the input reads as it did. -/
def isinBackUptoRow : OpenClaim := { program := "ytabnpmojccepcaa", sum := "8e3bfd0a7cf75b31a845c97b23ff4a88f3148de67c848dd5c803c63eef638487", func := "lombard/lombardlaw05.IsinBack", spec := "isinBack", unfollowed := true, recurses := true, apart := false, narrowed := true }
def IsinBackUptoSaid : Prop := isinBackUptoRow.holds Try.pinned (OpenSpec.upto isinBackSpec)

/-- 'lombardlaw05.IsinAssets', WHERE WHAT IT READS IS OF BULK AT MOST 1048576: true; the input reads as it did. -/
def isinAssetsUptoRow : OpenClaim := { program := "ytabnpmojccepcaa", sum := "8e3bfd0a7cf75b31a845c97b23ff4a88f3148de67c848dd5c803c63eef638487", func := "lombard/lombardlaw05.IsinAssets", spec := "isinAssets", unfollowed := true, recurses := true, apart := false, narrowed := true }
def IsinAssetsUptoSaid : Prop := isinAssetsUptoRow.holds Try.pinned (OpenSpec.upto isinAssetsSpec)

end Rows
end Go.Proofs.Ytabnpmojccepcaa
