/-
  No cell of these rows narrows 'for every input' (looked for: loops, veiled, ifaces, maps, wideKeys, modest, calm, conditions, laid).
  DERIVED. THE GIVEN ROWS OF THIS SEAT. 4 by the template 'for every input the law returns true; each argument reads behind the call as it read before'; 0 by the template 'total and deterministic' (their statements: YtpemominnppmaabTotals.lean).
  GIVEN WITH THE SEED: the statements are not yours to turn. If you find one false, say at which input.
  Laid BY PROGRAM, IN A SANDBOX (cutbox-rows.mjs): the forced cells as the released guide's own fill.sh prints them over the translation 02875a575ec84b44… (all of the seat's roots in one cut). By AI agents, Wed Nov 11 2026. No macro, syntax, notation, axiom, sorry.
-/
import Derived.Test.YtpemominnppmaabChecked
import GoSem.Claim
import GoSem.ClaimJoined
import GoSem.ClaimMapViews
import Derived.JoinedTies
import Derived.KernelRfl
namespace Go.Proofs.Ytpemominnppmaab
/- THE CELL 'sum', in the pinned program and in every row, IS THE sha256 OF THE DUMP (.gsa) THAT YtpemominnppmaabProg.lean LOADS. Nothing in Lean hashes anything: it is a label: what it is worth is what the hold of that sum in a sandbox is worth. -/
noncomputable def Try.pinned : Pinned := { name := "ytpemominnppmaab", sum := "02875a575ec84b444b3f6b526f9a81b1b21e750fdc157b6f05e6ce9e8c10a016", checked := Try.checked }
namespace Rows
def none {H : Type} : Left H := { results := [], args := [] }

/-- 'trystlaw12.PageNames': WHATEVER THE INPUT: true; the input reads as it did. -/
def pageNamesSpec : ChangeSpec := { name := "pageNames", fn := fun _ => fun
  | [] => { results := [.lit (.bool true)], args := [] }
  | _ => none }
def pageNamesRow : OpenClaim := { program := "ytpemominnppmaab", sum := "02875a575ec84b444b3f6b526f9a81b1b21e750fdc157b6f05e6ce9e8c10a016", func := "tryst/trystlaw12.PageNames", spec := "pageNames", inPlace := ["math/bits.Add64", "math/bits.Sub64", "internal/reflectlite.TypeOf"], unfollowed := true, recurses := true, apart := false }
def PageNamesSaid : Prop := pageNamesRow.holds Try.pinned (OpenSpec.ofChange pageNamesSpec)

/-- ITS FALSE NEIGHBOUR: 'it returns false'. Refute it at one input. -/
def pageNamesWrong : ChangeSpec := { name := "pageNames", fn := fun _ => fun
  | [] => { results := [.lit (.bool false)], args := [] }
  | _ => none }
def PageNamesWrongFalsely : Prop := pageNamesRow.holds Try.pinned (OpenSpec.ofChange pageNamesWrong)

/-- 'trystlaw12.PageReturns': WHATEVER THE INPUT: true; the input reads as it did. -/
def pageReturnsSpec : ChangeSpec := { name := "pageReturns", fn := fun _ => fun
  | [d] => { results := [.lit (.bool true)], args := [d] }
  | _ => none }
def pageReturnsRow : OpenClaim := { program := "ytpemominnppmaab", sum := "02875a575ec84b444b3f6b526f9a81b1b21e750fdc157b6f05e6ce9e8c10a016", func := "tryst/trystlaw12.PageReturns", spec := "pageReturns", inPlace := ["math/bits.Add64", "math/bits.Sub64", "internal/reflectlite.TypeOf"], unfollowed := true, recurses := true, apart := false }
def PageReturnsSaid : Prop := pageReturnsRow.holds Try.pinned (OpenSpec.ofChange pageReturnsSpec)

/-- ITS FALSE NEIGHBOUR: 'it returns false'. Refute it at one input. -/
def pageReturnsWrong : ChangeSpec := { name := "pageReturns", fn := fun _ => fun
  | [d] => { results := [.lit (.bool false)], args := [d] }
  | _ => none }
def PageReturnsWrongFalsely : Prop := pageReturnsRow.holds Try.pinned (OpenSpec.ofChange pageReturnsWrong)

/-- 'trystlaw12.PageOneForm': WHATEVER THE INPUT: true; the input reads as it did. -/
def pageOneFormSpec : ChangeSpec := { name := "pageOneForm", fn := fun _ => fun
  | [d] => { results := [.lit (.bool true)], args := [d] }
  | _ => none }
def pageOneFormRow : OpenClaim := { program := "ytpemominnppmaab", sum := "02875a575ec84b444b3f6b526f9a81b1b21e750fdc157b6f05e6ce9e8c10a016", func := "tryst/trystlaw12.PageOneForm", spec := "pageOneForm", inPlace := ["math/bits.Add64", "math/bits.Sub64", "internal/reflectlite.TypeOf"], unfollowed := true, recurses := true, apart := false }
def PageOneFormSaid : Prop := pageOneFormRow.holds Try.pinned (OpenSpec.ofChange pageOneFormSpec)

/-- ITS FALSE NEIGHBOUR: 'it returns false'. Refute it at one input. -/
def pageOneFormWrong : ChangeSpec := { name := "pageOneForm", fn := fun _ => fun
  | [d] => { results := [.lit (.bool false)], args := [d] }
  | _ => none }
def PageOneFormWrongFalsely : Prop := pageOneFormRow.holds Try.pinned (OpenSpec.ofChange pageOneFormWrong)

/-- 'trystlaw12.PageElsewhere': WHATEVER THE INPUT: true; the input reads as it did. -/
def pageElsewhereSpec : ChangeSpec := { name := "pageElsewhere", fn := fun _ => fun
  | [d1, d2] => { results := [.lit (.bool true)], args := [d1, d2] }
  | _ => none }
def pageElsewhereRow : OpenClaim := { program := "ytpemominnppmaab", sum := "02875a575ec84b444b3f6b526f9a81b1b21e750fdc157b6f05e6ce9e8c10a016", func := "tryst/trystlaw12.PageElsewhere", spec := "pageElsewhere", inPlace := ["math/bits.Add64", "math/bits.Sub64", "internal/reflectlite.TypeOf"], unfollowed := true, recurses := true, apart := false }
def PageElsewhereSaid : Prop := pageElsewhereRow.holds Try.pinned (OpenSpec.ofChange pageElsewhereSpec)

/-- ITS FALSE NEIGHBOUR: 'it returns false'. Refute it at one input. -/
def pageElsewhereWrong : ChangeSpec := { name := "pageElsewhere", fn := fun _ => fun
  | [d1, d2] => { results := [.lit (.bool false)], args := [d1, d2] }
  | _ => none }
def PageElsewhereWrongFalsely : Prop := pageElsewhereRow.holds Try.pinned (OpenSpec.ofChange pageElsewhereWrong)

/- THE SECOND FORM. 'bulk': how many values and letters a reading holds, each counted each time it is reached (what is shared counts as often as it is met; a slice's spare places count too). A statement '..UptoSaid' is the law's where the arguments, and the package variables that the reading takes, are together of bulk at most 1048576: NARROWER than '..Said'. Prove '..Said' where nothing that the law and all that it calls make is longer than what came in: it says more and counts as full. Else prove '..UptoSaid'. A law counts once. -/
mutual
def uptoBulk {H : Type} : DataW H → Nat
  | .lit (.string bytes) => bytes.length + 1
  | .lit _ => 1
  | .nil => 1
  | .ptr d => uptoBulk d + 1
  | .slice elems spare => uptoBulkAll elems + uptoBulkAll spare + 1
  | .agg parts => uptoBulkAll parts + 1
  | .iface _ d => uptoBulk d + 1
  | .map entries => uptoBulkEntries entries + 1
  | .held _ => 1
def uptoBulkAll {H : Type} : List (DataW H) → Nat
  | [] => 0
  | d :: r => uptoBulk d + uptoBulkAll r
def uptoBulkEntries {H : Type} : List (Lit × DataW H) → Nat
  | [] => 0
  | x :: r => uptoBulkEntry x + uptoBulkEntries r
def uptoBulkEntry {H : Type} : Lit × DataW H → Nat
  | (.string bytes, d) => bytes.length + uptoBulk d + 1
  | (_, d) => uptoBulk d + 1
 end
def uptoSmall : (H : Type) → List (DataW H) → Bool := fun _ ds => decide (uptoBulkAll ds ≤ 1048576)
def OpenSpec.upto (s : _root_.Go.ChangeSpec) : _root_.Go.OpenSpec := { _root_.Go.OpenSpec.ofChange s with cond := some uptoSmall }

/-- 'trystlaw12.PageNames', WHERE WHAT IT READS IS OF BULK AT MOST 1048576: true; the input reads as it did. -/
def pageNamesUptoRow : OpenClaim := { program := "ytpemominnppmaab", sum := "02875a575ec84b444b3f6b526f9a81b1b21e750fdc157b6f05e6ce9e8c10a016", func := "tryst/trystlaw12.PageNames", spec := "pageNames", inPlace := ["math/bits.Add64", "math/bits.Sub64", "internal/reflectlite.TypeOf"], unfollowed := true, recurses := true, apart := false, narrowed := true }
def PageNamesUptoSaid : Prop := pageNamesUptoRow.holds Try.pinned (OpenSpec.upto pageNamesSpec)

/-- 'trystlaw12.PageReturns', WHERE WHAT IT READS IS OF BULK AT MOST 1048576: true; the input reads as it did. -/
def pageReturnsUptoRow : OpenClaim := { program := "ytpemominnppmaab", sum := "02875a575ec84b444b3f6b526f9a81b1b21e750fdc157b6f05e6ce9e8c10a016", func := "tryst/trystlaw12.PageReturns", spec := "pageReturns", inPlace := ["math/bits.Add64", "math/bits.Sub64", "internal/reflectlite.TypeOf"], unfollowed := true, recurses := true, apart := false, narrowed := true }
def PageReturnsUptoSaid : Prop := pageReturnsUptoRow.holds Try.pinned (OpenSpec.upto pageReturnsSpec)

/-- 'trystlaw12.PageOneForm', WHERE WHAT IT READS IS OF BULK AT MOST 1048576: true; the input reads as it did. -/
def pageOneFormUptoRow : OpenClaim := { program := "ytpemominnppmaab", sum := "02875a575ec84b444b3f6b526f9a81b1b21e750fdc157b6f05e6ce9e8c10a016", func := "tryst/trystlaw12.PageOneForm", spec := "pageOneForm", inPlace := ["math/bits.Add64", "math/bits.Sub64", "internal/reflectlite.TypeOf"], unfollowed := true, recurses := true, apart := false, narrowed := true }
def PageOneFormUptoSaid : Prop := pageOneFormUptoRow.holds Try.pinned (OpenSpec.upto pageOneFormSpec)

/-- 'trystlaw12.PageElsewhere', WHERE WHAT IT READS IS OF BULK AT MOST 1048576: true; the input reads as it did. -/
def pageElsewhereUptoRow : OpenClaim := { program := "ytpemominnppmaab", sum := "02875a575ec84b444b3f6b526f9a81b1b21e750fdc157b6f05e6ce9e8c10a016", func := "tryst/trystlaw12.PageElsewhere", spec := "pageElsewhere", inPlace := ["math/bits.Add64", "math/bits.Sub64", "internal/reflectlite.TypeOf"], unfollowed := true, recurses := true, apart := false, narrowed := true }
def PageElsewhereUptoSaid : Prop := pageElsewhereUptoRow.holds Try.pinned (OpenSpec.upto pageElsewhereSpec)

end Rows
end Go.Proofs.Ytpemominnppmaab
