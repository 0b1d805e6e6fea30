/-
  No cell of these rows narrows 'for every input' (looked for: loops, veiled, ifaces, maps, wideKeys, modest, calm, conditions, laid).
  DERIVED. THE GIVEN ROWS OF THIS SEAT. 11 by the template 'for every input the law returns true; each argument reads behind the call as it read before'; 0 by the template 'total and deterministic' (their statements: YtkifhflakdkemaaGreatTotals.lean).
  GIVEN WITH THE SEED: the statements are not yours to turn. If you find one false, say at which input.
  Laid BY PROGRAM, IN A SANDBOX (cutbox-rows.mjs): the forced cells as the released guide's own fill.sh prints them over the translation d1fd0d594f5c53dc… (all of the seat's roots in one cut). By AI agents, Wed Nov 11 2026. No macro, syntax, notation, axiom, sorry.
-/
import Derived.Test.YtkifhflakdkemaaGreatChecked
import GoSem.Claim
import GoSem.ClaimJoined
import GoSem.ClaimMapViews
import Derived.JoinedTies
import Derived.KernelRfl
namespace Go.Proofs.YtkifhflakdkemaaGreat
/- THE CELL 'sum', in the pinned program and in every row, IS THE sha256 OF THE DUMP (.gsa) THAT YtkifhflakdkemaaGreatProg.lean LOADS. Nothing in Lean hashes anything: it is a label: what it is worth is what the hold of that sum in a sandbox is worth. -/
noncomputable def Tryz.pinned : Pinned := { name := "ytkifhflakdkemaagreat", sum := "d1fd0d594f5c53dc8d4ce0b5e5795e20ce5b8879623aa326afd6b2a73021c29b", checked := Tryz.checked }
namespace Rows
def none {H : Type} : Left H := { results := [], args := [] }

/-- 'trystlaw15.SlotsNames': WHATEVER THE INPUT: true; the input reads as it did. -/
def slotsNamesSpec : ChangeSpec := { name := "slotsNames", fn := fun _ => fun
  | [] => { results := [.lit (.bool true)], args := [] }
  | _ => none }
def slotsNamesRow : OpenClaim := { program := "ytkifhflakdkemaagreat", sum := "d1fd0d594f5c53dc8d4ce0b5e5795e20ce5b8879623aa326afd6b2a73021c29b", func := "tryst/trystlaw15.SlotsNames", spec := "slotsNames", inPlace := ["math/bits.Add64", "math/bits.Sub64", "internal/reflectlite.TypeOf"], unfollowed := true, recurses := true, apart := false }
def SlotsNamesSaid : Prop := slotsNamesRow.holds Tryz.pinned (OpenSpec.ofChange slotsNamesSpec)

/-- ITS FALSE NEIGHBOUR: 'it returns false'. Refute it at one input. -/
def slotsNamesWrong : ChangeSpec := { name := "slotsNames", fn := fun _ => fun
  | [] => { results := [.lit (.bool false)], args := [] }
  | _ => none }
def SlotsNamesWrongFalsely : Prop := slotsNamesRow.holds Tryz.pinned (OpenSpec.ofChange slotsNamesWrong)

/-- 'trystlaw15.SlotsFits': WHATEVER THE INPUT: true; the input reads as it did. -/
def slotsFitsSpec : ChangeSpec := { name := "slotsFits", fn := fun _ => fun
  | [d] => { results := [.lit (.bool true)], args := [d] }
  | _ => none }
def slotsFitsRow : OpenClaim := { program := "ytkifhflakdkemaagreat", sum := "d1fd0d594f5c53dc8d4ce0b5e5795e20ce5b8879623aa326afd6b2a73021c29b", func := "tryst/trystlaw15.SlotsFits", spec := "slotsFits", inPlace := ["math/bits.Add64", "math/bits.Sub64", "internal/reflectlite.TypeOf"], unfollowed := true, recurses := true, apart := false }
def SlotsFitsSaid : Prop := slotsFitsRow.holds Tryz.pinned (OpenSpec.ofChange slotsFitsSpec)

/-- ITS FALSE NEIGHBOUR: 'it returns false'. Refute it at one input. -/
def slotsFitsWrong : ChangeSpec := { name := "slotsFits", fn := fun _ => fun
  | [d] => { results := [.lit (.bool false)], args := [d] }
  | _ => none }
def SlotsFitsWrongFalsely : Prop := slotsFitsRow.holds Tryz.pinned (OpenSpec.ofChange slotsFitsWrong)

/-- 'trystlaw15.SlotsList': WHATEVER THE INPUT: true; the input reads as it did. -/
def slotsListSpec : ChangeSpec := { name := "slotsList", fn := fun _ => fun
  | [d] => { results := [.lit (.bool true)], args := [d] }
  | _ => none }
def slotsListRow : OpenClaim := { program := "ytkifhflakdkemaagreat", sum := "d1fd0d594f5c53dc8d4ce0b5e5795e20ce5b8879623aa326afd6b2a73021c29b", func := "tryst/trystlaw15.SlotsList", spec := "slotsList", inPlace := ["math/bits.Add64", "math/bits.Sub64", "internal/reflectlite.TypeOf"], unfollowed := true, recurses := true, apart := false }
def SlotsListSaid : Prop := slotsListRow.holds Tryz.pinned (OpenSpec.ofChange slotsListSpec)

/-- ITS FALSE NEIGHBOUR: 'it returns false'. Refute it at one input. -/
def slotsListWrong : ChangeSpec := { name := "slotsList", fn := fun _ => fun
  | [d] => { results := [.lit (.bool false)], args := [d] }
  | _ => none }
def SlotsListWrongFalsely : Prop := slotsListRow.holds Tryz.pinned (OpenSpec.ofChange slotsListWrong)

/-- 'trystlaw15.SlotsBlind': WHATEVER THE INPUT: true; the input reads as it did. -/
def slotsBlindSpec : ChangeSpec := { name := "slotsBlind", fn := fun _ => fun
  | [d1, d2, d3] => { results := [.lit (.bool true)], args := [d1, d2, d3] }
  | _ => none }
def slotsBlindRow : OpenClaim := { program := "ytkifhflakdkemaagreat", sum := "d1fd0d594f5c53dc8d4ce0b5e5795e20ce5b8879623aa326afd6b2a73021c29b", func := "tryst/trystlaw15.SlotsBlind", spec := "slotsBlind", inPlace := ["math/bits.Add64", "math/bits.Sub64", "internal/reflectlite.TypeOf"], unfollowed := true, recurses := true, apart := false }
def SlotsBlindSaid : Prop := slotsBlindRow.holds Tryz.pinned (OpenSpec.ofChange slotsBlindSpec)

/-- ITS FALSE NEIGHBOUR: 'it returns false'. Refute it at one input. -/
def slotsBlindWrong : ChangeSpec := { name := "slotsBlind", fn := fun _ => fun
  | [d1, d2, d3] => { results := [.lit (.bool false)], args := [d1, d2, d3] }
  | _ => none }
def SlotsBlindWrongFalsely : Prop := slotsBlindRow.holds Tryz.pinned (OpenSpec.ofChange slotsBlindWrong)

/-- 'trystlaw17.SorterSorts': WHATEVER THE INPUT: true; the input reads as it did. -/
def sorterSortsSpec : ChangeSpec := { name := "sorterSorts", fn := fun _ => fun
  | [d1, d2] => { results := [.lit (.bool true)], args := [d1, d2] }
  | _ => none }
def sorterSortsRow : OpenClaim := { program := "ytkifhflakdkemaagreat", sum := "d1fd0d594f5c53dc8d4ce0b5e5795e20ce5b8879623aa326afd6b2a73021c29b", func := "tryst/trystlaw17.SorterSorts", spec := "sorterSorts", inPlace := ["math/bits.Add64", "math/bits.Sub64", "internal/reflectlite.TypeOf"], unfollowed := true, recurses := true, apart := false }
def SorterSortsSaid : Prop := sorterSortsRow.holds Tryz.pinned (OpenSpec.ofChange sorterSortsSpec)

/-- ITS FALSE NEIGHBOUR: 'it returns false'. Refute it at one input. -/
def sorterSortsWrong : ChangeSpec := { name := "sorterSorts", fn := fun _ => fun
  | [d1, d2] => { results := [.lit (.bool false)], args := [d1, d2] }
  | _ => none }
def SorterSortsWrongFalsely : Prop := sorterSortsRow.holds Tryz.pinned (OpenSpec.ofChange sorterSortsWrong)

/-- 'trystlaw17.SorterBack': WHATEVER THE INPUT: true; the input reads as it did. -/
def sorterBackSpec : ChangeSpec := { name := "sorterBack", fn := fun _ => fun
  | [d1, d2] => { results := [.lit (.bool true)], args := [d1, d2] }
  | _ => none }
def sorterBackRow : OpenClaim := { program := "ytkifhflakdkemaagreat", sum := "d1fd0d594f5c53dc8d4ce0b5e5795e20ce5b8879623aa326afd6b2a73021c29b", func := "tryst/trystlaw17.SorterBack", spec := "sorterBack", inPlace := ["math/bits.Add64", "math/bits.Sub64", "internal/reflectlite.TypeOf"], unfollowed := true, recurses := true, apart := false }
def SorterBackSaid : Prop := sorterBackRow.holds Tryz.pinned (OpenSpec.ofChange sorterBackSpec)

/-- ITS FALSE NEIGHBOUR: 'it returns false'. Refute it at one input. -/
def sorterBackWrong : ChangeSpec := { name := "sorterBack", fn := fun _ => fun
  | [d1, d2] => { results := [.lit (.bool false)], args := [d1, d2] }
  | _ => none }
def SorterBackWrongFalsely : Prop := sorterBackRow.holds Tryz.pinned (OpenSpec.ofChange sorterBackWrong)

/-- 'trystlaw17.SorterNames': WHATEVER THE INPUT: true; the input reads as it did. -/
def sorterNamesSpec : ChangeSpec := { name := "sorterNames", fn := fun _ => fun
  | [] => { results := [.lit (.bool true)], args := [] }
  | _ => none }
def sorterNamesRow : OpenClaim := { program := "ytkifhflakdkemaagreat", sum := "d1fd0d594f5c53dc8d4ce0b5e5795e20ce5b8879623aa326afd6b2a73021c29b", func := "tryst/trystlaw17.SorterNames", spec := "sorterNames", inPlace := ["math/bits.Add64", "math/bits.Sub64", "internal/reflectlite.TypeOf"], unfollowed := true, recurses := true, apart := false }
def SorterNamesSaid : Prop := sorterNamesRow.holds Tryz.pinned (OpenSpec.ofChange sorterNamesSpec)

/-- ITS FALSE NEIGHBOUR: 'it returns false'. Refute it at one input. -/
def sorterNamesWrong : ChangeSpec := { name := "sorterNames", fn := fun _ => fun
  | [] => { results := [.lit (.bool false)], args := [] }
  | _ => none }
def SorterNamesWrongFalsely : Prop := sorterNamesRow.holds Tryz.pinned (OpenSpec.ofChange sorterNamesWrong)

/-- 'trystlaw17.SorterPlays': WHATEVER THE INPUT: true; the input reads as it did. -/
def sorterPlaysSpec : ChangeSpec := { name := "sorterPlays", fn := fun _ => fun
  | [d] => { results := [.lit (.bool true)], args := [d] }
  | _ => none }
def sorterPlaysRow : OpenClaim := { program := "ytkifhflakdkemaagreat", sum := "d1fd0d594f5c53dc8d4ce0b5e5795e20ce5b8879623aa326afd6b2a73021c29b", func := "tryst/trystlaw17.SorterPlays", spec := "sorterPlays", inPlace := ["math/bits.Add64", "math/bits.Sub64", "internal/reflectlite.TypeOf"], unfollowed := true, recurses := true, apart := false }
def SorterPlaysSaid : Prop := sorterPlaysRow.holds Tryz.pinned (OpenSpec.ofChange sorterPlaysSpec)

/-- ITS FALSE NEIGHBOUR: 'it returns false'. Refute it at one input. -/
def sorterPlaysWrong : ChangeSpec := { name := "sorterPlays", fn := fun _ => fun
  | [d] => { results := [.lit (.bool false)], args := [d] }
  | _ => none }
def SorterPlaysWrongFalsely : Prop := sorterPlaysRow.holds Tryz.pinned (OpenSpec.ofChange sorterPlaysWrong)

/-- 'trystlaw17.SorterBlind': WHATEVER THE INPUT: true; the input reads as it did. -/
def sorterBlindSpec : ChangeSpec := { name := "sorterBlind", fn := fun _ => fun
  | [d1, d2] => { results := [.lit (.bool true)], args := [d1, d2] }
  | _ => none }
def sorterBlindRow : OpenClaim := { program := "ytkifhflakdkemaagreat", sum := "d1fd0d594f5c53dc8d4ce0b5e5795e20ce5b8879623aa326afd6b2a73021c29b", func := "tryst/trystlaw17.SorterBlind", spec := "sorterBlind", inPlace := ["math/bits.Add64", "math/bits.Sub64", "internal/reflectlite.TypeOf"], unfollowed := true, recurses := true, apart := false }
def SorterBlindSaid : Prop := sorterBlindRow.holds Tryz.pinned (OpenSpec.ofChange sorterBlindSpec)

/-- ITS FALSE NEIGHBOUR: 'it returns false'. Refute it at one input. -/
def sorterBlindWrong : ChangeSpec := { name := "sorterBlind", fn := fun _ => fun
  | [d1, d2] => { results := [.lit (.bool false)], args := [d1, d2] }
  | _ => none }
def SorterBlindWrongFalsely : Prop := sorterBlindRow.holds Tryz.pinned (OpenSpec.ofChange sorterBlindWrong)

/-- 'trystlaw17.SorterBreaks': WHATEVER THE INPUT: true; the input reads as it did. -/
def sorterBreaksSpec : ChangeSpec := { name := "sorterBreaks", fn := fun _ => fun
  | [d1, d2, d3] => { results := [.lit (.bool true)], args := [d1, d2, d3] }
  | _ => none }
def sorterBreaksRow : OpenClaim := { program := "ytkifhflakdkemaagreat", sum := "d1fd0d594f5c53dc8d4ce0b5e5795e20ce5b8879623aa326afd6b2a73021c29b", func := "tryst/trystlaw17.SorterBreaks", spec := "sorterBreaks", inPlace := ["math/bits.Add64", "math/bits.Sub64", "internal/reflectlite.TypeOf"], unfollowed := true, recurses := true, apart := false }
def SorterBreaksSaid : Prop := sorterBreaksRow.holds Tryz.pinned (OpenSpec.ofChange sorterBreaksSpec)

/-- ITS FALSE NEIGHBOUR: 'it returns false'. Refute it at one input. -/
def sorterBreaksWrong : ChangeSpec := { name := "sorterBreaks", fn := fun _ => fun
  | [d1, d2, d3] => { results := [.lit (.bool false)], args := [d1, d2, d3] }
  | _ => none }
def SorterBreaksWrongFalsely : Prop := sorterBreaksRow.holds Tryz.pinned (OpenSpec.ofChange sorterBreaksWrong)

/-- 'trystlaw15.SlotsPlays': WHATEVER THE INPUT: true; the input reads as it did. -/
def slotsPlaysSpec : ChangeSpec := { name := "slotsPlays", fn := fun _ => fun
  | [d] => { results := [.lit (.bool true)], args := [d] }
  | _ => none }
def slotsPlaysRow : OpenClaim := { program := "ytkifhflakdkemaagreat", sum := "d1fd0d594f5c53dc8d4ce0b5e5795e20ce5b8879623aa326afd6b2a73021c29b", func := "tryst/trystlaw15.SlotsPlays", spec := "slotsPlays", inPlace := ["math/bits.Add64", "math/bits.Sub64", "internal/reflectlite.TypeOf"], unfollowed := true, recurses := true, apart := false }
def SlotsPlaysSaid : Prop := slotsPlaysRow.holds Tryz.pinned (OpenSpec.ofChange slotsPlaysSpec)

/-- ITS FALSE NEIGHBOUR: 'it returns false'. Refute it at one input. -/
def slotsPlaysWrong : ChangeSpec := { name := "slotsPlays", fn := fun _ => fun
  | [d] => { results := [.lit (.bool false)], args := [d] }
  | _ => none }
def SlotsPlaysWrongFalsely : Prop := slotsPlaysRow.holds Tryz.pinned (OpenSpec.ofChange slotsPlaysWrong)

/- THE SECOND FORM. 'bulk': how many values and letters a reading holds, each counted each time it is reached (what is shared counts as often as it is met; a slice's spare places count too). A statement '..UptoSaid' is the law's where the arguments, and the package variables that the reading takes, are together of bulk at most 1048576: NARROWER than '..Said'. Prove '..Said' where nothing that the law and all that it calls make is longer than what came in: it says more and counts as full. Else prove '..UptoSaid'. A law counts once. -/
mutual
def uptoBulk {H : Type} : DataW H → Nat
  | .lit (.string bytes) => bytes.length + 1
  | .lit _ => 1
  | .nil => 1
  | .ptr d => uptoBulk d + 1
  | .slice elems spare => uptoBulkAll elems + uptoBulkAll spare + 1
  | .agg parts => uptoBulkAll parts + 1
  | .iface _ d => uptoBulk d + 1
  | .map entries => uptoBulkEntries entries + 1
  | .held _ => 1
def uptoBulkAll {H : Type} : List (DataW H) → Nat
  | [] => 0
  | d :: r => uptoBulk d + uptoBulkAll r
def uptoBulkEntries {H : Type} : List (Lit × DataW H) → Nat
  | [] => 0
  | x :: r => uptoBulkEntry x + uptoBulkEntries r
def uptoBulkEntry {H : Type} : Lit × DataW H → Nat
  | (.string bytes, d) => bytes.length + uptoBulk d + 1
  | (_, d) => uptoBulk d + 1
 end
def uptoSmall : (H : Type) → List (DataW H) → Bool := fun _ ds => decide (uptoBulkAll ds ≤ 1048576)
def OpenSpec.upto (s : _root_.Go.ChangeSpec) : _root_.Go.OpenSpec := { _root_.Go.OpenSpec.ofChange s with cond := some uptoSmall }

/-- 'trystlaw15.SlotsNames', WHERE WHAT IT READS IS OF BULK AT MOST 1048576: true; the input reads as it did. -/
def slotsNamesUptoRow : OpenClaim := { program := "ytkifhflakdkemaagreat", sum := "d1fd0d594f5c53dc8d4ce0b5e5795e20ce5b8879623aa326afd6b2a73021c29b", func := "tryst/trystlaw15.SlotsNames", spec := "slotsNames", inPlace := ["math/bits.Add64", "math/bits.Sub64", "internal/reflectlite.TypeOf"], unfollowed := true, recurses := true, apart := false, narrowed := true }
def SlotsNamesUptoSaid : Prop := slotsNamesUptoRow.holds Tryz.pinned (OpenSpec.upto slotsNamesSpec)

/-- 'trystlaw15.SlotsFits', WHERE WHAT IT READS IS OF BULK AT MOST 1048576: true; the input reads as it did. -/
def slotsFitsUptoRow : OpenClaim := { program := "ytkifhflakdkemaagreat", sum := "d1fd0d594f5c53dc8d4ce0b5e5795e20ce5b8879623aa326afd6b2a73021c29b", func := "tryst/trystlaw15.SlotsFits", spec := "slotsFits", inPlace := ["math/bits.Add64", "math/bits.Sub64", "internal/reflectlite.TypeOf"], unfollowed := true, recurses := true, apart := false, narrowed := true }
def SlotsFitsUptoSaid : Prop := slotsFitsUptoRow.holds Tryz.pinned (OpenSpec.upto slotsFitsSpec)

/-- 'trystlaw15.SlotsList', WHERE WHAT IT READS IS OF BULK AT MOST 1048576: true; the input reads as it did. -/
def slotsListUptoRow : OpenClaim := { program := "ytkifhflakdkemaagreat", sum := "d1fd0d594f5c53dc8d4ce0b5e5795e20ce5b8879623aa326afd6b2a73021c29b", func := "tryst/trystlaw15.SlotsList", spec := "slotsList", inPlace := ["math/bits.Add64", "math/bits.Sub64", "internal/reflectlite.TypeOf"], unfollowed := true, recurses := true, apart := false, narrowed := true }
def SlotsListUptoSaid : Prop := slotsListUptoRow.holds Tryz.pinned (OpenSpec.upto slotsListSpec)

/-- 'trystlaw15.SlotsBlind', WHERE WHAT IT READS IS OF BULK AT MOST 1048576: true; the input reads as it did. -/
def slotsBlindUptoRow : OpenClaim := { program := "ytkifhflakdkemaagreat", sum := "d1fd0d594f5c53dc8d4ce0b5e5795e20ce5b8879623aa326afd6b2a73021c29b", func := "tryst/trystlaw15.SlotsBlind", spec := "slotsBlind", inPlace := ["math/bits.Add64", "math/bits.Sub64", "internal/reflectlite.TypeOf"], unfollowed := true, recurses := true, apart := false, narrowed := true }
def SlotsBlindUptoSaid : Prop := slotsBlindUptoRow.holds Tryz.pinned (OpenSpec.upto slotsBlindSpec)

/-- 'trystlaw17.SorterSorts', WHERE WHAT IT READS IS OF BULK AT MOST 1048576: true; the input reads as it did. -/
def sorterSortsUptoRow : OpenClaim := { program := "ytkifhflakdkemaagreat", sum := "d1fd0d594f5c53dc8d4ce0b5e5795e20ce5b8879623aa326afd6b2a73021c29b", func := "tryst/trystlaw17.SorterSorts", spec := "sorterSorts", inPlace := ["math/bits.Add64", "math/bits.Sub64", "internal/reflectlite.TypeOf"], unfollowed := true, recurses := true, apart := false, narrowed := true }
def SorterSortsUptoSaid : Prop := sorterSortsUptoRow.holds Tryz.pinned (OpenSpec.upto sorterSortsSpec)

/-- 'trystlaw17.SorterBack', WHERE WHAT IT READS IS OF BULK AT MOST 1048576: true; the input reads as it did. -/
def sorterBackUptoRow : OpenClaim := { program := "ytkifhflakdkemaagreat", sum := "d1fd0d594f5c53dc8d4ce0b5e5795e20ce5b8879623aa326afd6b2a73021c29b", func := "tryst/trystlaw17.SorterBack", spec := "sorterBack", inPlace := ["math/bits.Add64", "math/bits.Sub64", "internal/reflectlite.TypeOf"], unfollowed := true, recurses := true, apart := false, narrowed := true }
def SorterBackUptoSaid : Prop := sorterBackUptoRow.holds Tryz.pinned (OpenSpec.upto sorterBackSpec)

/-- 'trystlaw17.SorterNames', WHERE WHAT IT READS IS OF BULK AT MOST 1048576: true; the input reads as it did. -/
def sorterNamesUptoRow : OpenClaim := { program := "ytkifhflakdkemaagreat", sum := "d1fd0d594f5c53dc8d4ce0b5e5795e20ce5b8879623aa326afd6b2a73021c29b", func := "tryst/trystlaw17.SorterNames", spec := "sorterNames", inPlace := ["math/bits.Add64", "math/bits.Sub64", "internal/reflectlite.TypeOf"], unfollowed := true, recurses := true, apart := false, narrowed := true }
def SorterNamesUptoSaid : Prop := sorterNamesUptoRow.holds Tryz.pinned (OpenSpec.upto sorterNamesSpec)

/-- 'trystlaw17.SorterPlays', WHERE WHAT IT READS IS OF BULK AT MOST 1048576: true; the input reads as it did. -/
def sorterPlaysUptoRow : OpenClaim := { program := "ytkifhflakdkemaagreat", sum := "d1fd0d594f5c53dc8d4ce0b5e5795e20ce5b8879623aa326afd6b2a73021c29b", func := "tryst/trystlaw17.SorterPlays", spec := "sorterPlays", inPlace := ["math/bits.Add64", "math/bits.Sub64", "internal/reflectlite.TypeOf"], unfollowed := true, recurses := true, apart := false, narrowed := true }
def SorterPlaysUptoSaid : Prop := sorterPlaysUptoRow.holds Tryz.pinned (OpenSpec.upto sorterPlaysSpec)

/-- 'trystlaw17.SorterBlind', WHERE WHAT IT READS IS OF BULK AT MOST 1048576: true; the input reads as it did. -/
def sorterBlindUptoRow : OpenClaim := { program := "ytkifhflakdkemaagreat", sum := "d1fd0d594f5c53dc8d4ce0b5e5795e20ce5b8879623aa326afd6b2a73021c29b", func := "tryst/trystlaw17.SorterBlind", spec := "sorterBlind", inPlace := ["math/bits.Add64", "math/bits.Sub64", "internal/reflectlite.TypeOf"], unfollowed := true, recurses := true, apart := false, narrowed := true }
def SorterBlindUptoSaid : Prop := sorterBlindUptoRow.holds Tryz.pinned (OpenSpec.upto sorterBlindSpec)

/-- 'trystlaw17.SorterBreaks', WHERE WHAT IT READS IS OF BULK AT MOST 1048576: true; the input reads as it did. -/
def sorterBreaksUptoRow : OpenClaim := { program := "ytkifhflakdkemaagreat", sum := "d1fd0d594f5c53dc8d4ce0b5e5795e20ce5b8879623aa326afd6b2a73021c29b", func := "tryst/trystlaw17.SorterBreaks", spec := "sorterBreaks", inPlace := ["math/bits.Add64", "math/bits.Sub64", "internal/reflectlite.TypeOf"], unfollowed := true, recurses := true, apart := false, narrowed := true }
def SorterBreaksUptoSaid : Prop := sorterBreaksUptoRow.holds Tryz.pinned (OpenSpec.upto sorterBreaksSpec)

/-- 'trystlaw15.SlotsPlays', WHERE WHAT IT READS IS OF BULK AT MOST 1048576: true; the input reads as it did. -/
def slotsPlaysUptoRow : OpenClaim := { program := "ytkifhflakdkemaagreat", sum := "d1fd0d594f5c53dc8d4ce0b5e5795e20ce5b8879623aa326afd6b2a73021c29b", func := "tryst/trystlaw15.SlotsPlays", spec := "slotsPlays", inPlace := ["math/bits.Add64", "math/bits.Sub64", "internal/reflectlite.TypeOf"], unfollowed := true, recurses := true, apart := false, narrowed := true }
def SlotsPlaysUptoSaid : Prop := slotsPlaysUptoRow.holds Tryz.pinned (OpenSpec.upto slotsPlaysSpec)

end Rows
end Go.Proofs.YtkifhflakdkemaaGreat
