/-
  No cell of these rows narrows 'for every input' (looked for: loops, veiled, ifaces, maps, wideKeys, modest, calm, conditions, laid).
  DERIVED. THE GIVEN ROWS OF THIS SEAT. 8 by the template 'for every input the law returns true; each argument reads behind the call as it read before'; 0 by the template 'total and deterministic' (their statements: YtiebmodokjaokabTotals.lean).
  GIVEN WITH THE SEED: the statements are not yours to turn. If you find one false, say at which input.
  Laid BY PROGRAM, IN A SANDBOX (cutbox-rows.mjs): the forced cells as the released guide's own fill.sh prints them over the translation bbc1306c6da8239d… (all of the seat's roots in one cut). By AI agents, Wed Nov 11 2026. No macro, syntax, notation, axiom, sorry.
-/
import Derived.Test.YtiebmodokjaokabChecked
import GoSem.Claim
import GoSem.ClaimJoined
import GoSem.ClaimMapViews
import Derived.JoinedTies
import Derived.KernelRfl
namespace Go.Proofs.Ytiebmodokjaokab
/- THE CELL 'sum', in the pinned program and in every row, IS THE sha256 OF THE DUMP (.gsa) THAT YtiebmodokjaokabProg.lean LOADS. Nothing in Lean hashes anything: it is a label: what it is worth is what the hold of that sum in a sandbox is worth. -/
noncomputable def Try.pinned : Pinned := { name := "ytiebmodokjaokab", sum := "bbc1306c6da8239d93635907d414be69c2061ba5d655e35b020e6c49d8047f00", checked := Try.checked }
namespace Rows
def none {H : Type} : Left H := { results := [], args := [] }

/-- 'trystlaw06.TagNames': WHATEVER THE INPUT: true; the input reads as it did. -/
def tagNamesSpec : ChangeSpec := { name := "tagNames", fn := fun _ => fun
  | [] => { results := [.lit (.bool true)], args := [] }
  | _ => none }
def tagNamesRow : OpenClaim := { program := "ytiebmodokjaokab", sum := "bbc1306c6da8239d93635907d414be69c2061ba5d655e35b020e6c49d8047f00", func := "tryst/trystlaw06.TagNames", spec := "tagNames", inPlace := ["math/bits.Add64", "math/bits.Sub64"], apart := false }
def TagNamesSaid : Prop := tagNamesRow.holds Try.pinned (OpenSpec.ofChange tagNamesSpec)

/-- ITS FALSE NEIGHBOUR: 'it returns false'. Refute it at one input. -/
def tagNamesWrong : ChangeSpec := { name := "tagNames", fn := fun _ => fun
  | [] => { results := [.lit (.bool false)], args := [] }
  | _ => none }
def TagNamesWrongFalsely : Prop := tagNamesRow.holds Try.pinned (OpenSpec.ofChange tagNamesWrong)

/-- 'trystlaw06.TagSums': WHATEVER THE INPUT: true; the input reads as it did. -/
def tagSumsSpec : ChangeSpec := { name := "tagSums", fn := fun _ => fun
  | [d1, d2] => { results := [.lit (.bool true)], args := [d1, d2] }
  | _ => none }
def tagSumsRow : OpenClaim := { program := "ytiebmodokjaokab", sum := "bbc1306c6da8239d93635907d414be69c2061ba5d655e35b020e6c49d8047f00", func := "tryst/trystlaw06.TagSums", spec := "tagSums", inPlace := ["math/bits.Add64", "math/bits.Sub64"], apart := false }
def TagSumsSaid : Prop := tagSumsRow.holds Try.pinned (OpenSpec.ofChange tagSumsSpec)

/-- ITS FALSE NEIGHBOUR: 'it returns false'. Refute it at one input. -/
def tagSumsWrong : ChangeSpec := { name := "tagSums", fn := fun _ => fun
  | [d1, d2] => { results := [.lit (.bool false)], args := [d1, d2] }
  | _ => none }
def TagSumsWrongFalsely : Prop := tagSumsRow.holds Try.pinned (OpenSpec.ofChange tagSumsWrong)

/-- 'trystlaw06.TagChecks': WHATEVER THE INPUT: true; the input reads as it did. -/
def tagChecksSpec : ChangeSpec := { name := "tagChecks", fn := fun _ => fun
  | [d1, d2, d3] => { results := [.lit (.bool true)], args := [d1, d2, d3] }
  | _ => none }
def tagChecksRow : OpenClaim := { program := "ytiebmodokjaokab", sum := "bbc1306c6da8239d93635907d414be69c2061ba5d655e35b020e6c49d8047f00", func := "tryst/trystlaw06.TagChecks", spec := "tagChecks", inPlace := ["math/bits.Add64", "math/bits.Sub64"], apart := false }
def TagChecksSaid : Prop := tagChecksRow.holds Try.pinned (OpenSpec.ofChange tagChecksSpec)

/-- ITS FALSE NEIGHBOUR: 'it returns false'. Refute it at one input. -/
def tagChecksWrong : ChangeSpec := { name := "tagChecks", fn := fun _ => fun
  | [d1, d2, d3] => { results := [.lit (.bool false)], args := [d1, d2, d3] }
  | _ => none }
def TagChecksWrongFalsely : Prop := tagChecksRow.holds Try.pinned (OpenSpec.ofChange tagChecksWrong)

/-- 'trystlaw06.TagPlays': WHATEVER THE INPUT: true; the input reads as it did. -/
def tagPlaysSpec : ChangeSpec := { name := "tagPlays", fn := fun _ => fun
  | [d] => { results := [.lit (.bool true)], args := [d] }
  | _ => none }
def tagPlaysRow : OpenClaim := { program := "ytiebmodokjaokab", sum := "bbc1306c6da8239d93635907d414be69c2061ba5d655e35b020e6c49d8047f00", func := "tryst/trystlaw06.TagPlays", spec := "tagPlays", inPlace := ["math/bits.Add64", "math/bits.Sub64"], apart := false }
def TagPlaysSaid : Prop := tagPlaysRow.holds Try.pinned (OpenSpec.ofChange tagPlaysSpec)

/-- ITS FALSE NEIGHBOUR: 'it returns false'. Refute it at one input. -/
def tagPlaysWrong : ChangeSpec := { name := "tagPlays", fn := fun _ => fun
  | [d] => { results := [.lit (.bool false)], args := [d] }
  | _ => none }
def TagPlaysWrongFalsely : Prop := tagPlaysRow.holds Try.pinned (OpenSpec.ofChange tagPlaysWrong)

/-- 'trystlaw06.TagPieces': WHATEVER THE INPUT: true; the input reads as it did. -/
def tagPiecesSpec : ChangeSpec := { name := "tagPieces", fn := fun _ => fun
  | [d1, d2, d3] => { results := [.lit (.bool true)], args := [d1, d2, d3] }
  | _ => none }
def tagPiecesRow : OpenClaim := { program := "ytiebmodokjaokab", sum := "bbc1306c6da8239d93635907d414be69c2061ba5d655e35b020e6c49d8047f00", func := "tryst/trystlaw06.TagPieces", spec := "tagPieces", inPlace := ["math/bits.Add64", "math/bits.Sub64"], apart := false }
def TagPiecesSaid : Prop := tagPiecesRow.holds Try.pinned (OpenSpec.ofChange tagPiecesSpec)

/-- ITS FALSE NEIGHBOUR: 'it returns false'. Refute it at one input. -/
def tagPiecesWrong : ChangeSpec := { name := "tagPieces", fn := fun _ => fun
  | [d1, d2, d3] => { results := [.lit (.bool false)], args := [d1, d2, d3] }
  | _ => none }
def TagPiecesWrongFalsely : Prop := tagPiecesRow.holds Try.pinned (OpenSpec.ofChange tagPiecesWrong)

/-- 'trystlaw06.TagShifts': WHATEVER THE INPUT: true; the input reads as it did. -/
def tagShiftsSpec : ChangeSpec := { name := "tagShifts", fn := fun _ => fun
  | [d1, d2, d3] => { results := [.lit (.bool true)], args := [d1, d2, d3] }
  | _ => none }
def tagShiftsRow : OpenClaim := { program := "ytiebmodokjaokab", sum := "bbc1306c6da8239d93635907d414be69c2061ba5d655e35b020e6c49d8047f00", func := "tryst/trystlaw06.TagShifts", spec := "tagShifts", inPlace := ["math/bits.Add64", "math/bits.Sub64"], apart := false }
def TagShiftsSaid : Prop := tagShiftsRow.holds Try.pinned (OpenSpec.ofChange tagShiftsSpec)

/-- ITS FALSE NEIGHBOUR: 'it returns false'. Refute it at one input. -/
def tagShiftsWrong : ChangeSpec := { name := "tagShifts", fn := fun _ => fun
  | [d1, d2, d3] => { results := [.lit (.bool false)], args := [d1, d2, d3] }
  | _ => none }
def TagShiftsWrongFalsely : Prop := tagShiftsRow.holds Try.pinned (OpenSpec.ofChange tagShiftsWrong)

/-- 'trystlaw06.TagNought': WHATEVER THE INPUT: true; the input reads as it did. -/
def tagNoughtSpec : ChangeSpec := { name := "tagNought", fn := fun _ => fun
  | [d1, d2] => { results := [.lit (.bool true)], args := [d1, d2] }
  | _ => none }
def tagNoughtRow : OpenClaim := { program := "ytiebmodokjaokab", sum := "bbc1306c6da8239d93635907d414be69c2061ba5d655e35b020e6c49d8047f00", func := "tryst/trystlaw06.TagNought", spec := "tagNought", inPlace := ["math/bits.Add64", "math/bits.Sub64"], apart := false }
def TagNoughtSaid : Prop := tagNoughtRow.holds Try.pinned (OpenSpec.ofChange tagNoughtSpec)

/-- ITS FALSE NEIGHBOUR: 'it returns false'. Refute it at one input. -/
def tagNoughtWrong : ChangeSpec := { name := "tagNought", fn := fun _ => fun
  | [d1, d2] => { results := [.lit (.bool false)], args := [d1, d2] }
  | _ => none }
def TagNoughtWrongFalsely : Prop := tagNoughtRow.holds Try.pinned (OpenSpec.ofChange tagNoughtWrong)

/-- 'trystlaw06.TagOrderless': WHATEVER THE INPUT: true; the input reads as it did. -/
def tagOrderlessSpec : ChangeSpec := { name := "tagOrderless", fn := fun _ => fun
  | [d] => { results := [.lit (.bool true)], args := [d] }
  | _ => none }
def tagOrderlessRow : OpenClaim := { program := "ytiebmodokjaokab", sum := "bbc1306c6da8239d93635907d414be69c2061ba5d655e35b020e6c49d8047f00", func := "tryst/trystlaw06.TagOrderless", spec := "tagOrderless", inPlace := ["math/bits.Add64", "math/bits.Sub64"], apart := false }
def TagOrderlessSaid : Prop := tagOrderlessRow.holds Try.pinned (OpenSpec.ofChange tagOrderlessSpec)

/-- ITS FALSE NEIGHBOUR: 'it returns false'. Refute it at one input. -/
def tagOrderlessWrong : ChangeSpec := { name := "tagOrderless", fn := fun _ => fun
  | [d] => { results := [.lit (.bool false)], args := [d] }
  | _ => none }
def TagOrderlessWrongFalsely : Prop := tagOrderlessRow.holds Try.pinned (OpenSpec.ofChange tagOrderlessWrong)

/- THE SECOND FORM. 'bulk': how many values and letters a reading holds, each counted each time it is reached (what is shared counts as often as it is met; a slice's spare places count too). A statement '..UptoSaid' is the law's where the arguments, and the package variables that the reading takes, are together of bulk at most 1048576: NARROWER than '..Said'. Prove '..Said' where nothing that the law and all that it calls make is longer than what came in: it says more and counts as full. Else prove '..UptoSaid'. A law counts once. -/
mutual
def uptoBulk {H : Type} : DataW H → Nat
  | .lit (.string bytes) => bytes.length + 1
  | .lit _ => 1
  | .nil => 1
  | .ptr d => uptoBulk d + 1
  | .slice elems spare => uptoBulkAll elems + uptoBulkAll spare + 1
  | .agg parts => uptoBulkAll parts + 1
  | .iface _ d => uptoBulk d + 1
  | .map entries => uptoBulkEntries entries + 1
  | .held _ => 1
def uptoBulkAll {H : Type} : List (DataW H) → Nat
  | [] => 0
  | d :: r => uptoBulk d + uptoBulkAll r
def uptoBulkEntries {H : Type} : List (Lit × DataW H) → Nat
  | [] => 0
  | x :: r => uptoBulkEntry x + uptoBulkEntries r
def uptoBulkEntry {H : Type} : Lit × DataW H → Nat
  | (.string bytes, d) => bytes.length + uptoBulk d + 1
  | (_, d) => uptoBulk d + 1
 end
def uptoSmall : (H : Type) → List (DataW H) → Bool := fun _ ds => decide (uptoBulkAll ds ≤ 1048576)
def OpenSpec.upto (s : _root_.Go.ChangeSpec) : _root_.Go.OpenSpec := { _root_.Go.OpenSpec.ofChange s with cond := some uptoSmall }

/-- 'trystlaw06.TagNames', WHERE WHAT IT READS IS OF BULK AT MOST 1048576: true; the input reads as it did. -/
def tagNamesUptoRow : OpenClaim := { program := "ytiebmodokjaokab", sum := "bbc1306c6da8239d93635907d414be69c2061ba5d655e35b020e6c49d8047f00", func := "tryst/trystlaw06.TagNames", spec := "tagNames", inPlace := ["math/bits.Add64", "math/bits.Sub64"], apart := false, narrowed := true }
def TagNamesUptoSaid : Prop := tagNamesUptoRow.holds Try.pinned (OpenSpec.upto tagNamesSpec)

/-- 'trystlaw06.TagSums', WHERE WHAT IT READS IS OF BULK AT MOST 1048576: true; the input reads as it did. -/
def tagSumsUptoRow : OpenClaim := { program := "ytiebmodokjaokab", sum := "bbc1306c6da8239d93635907d414be69c2061ba5d655e35b020e6c49d8047f00", func := "tryst/trystlaw06.TagSums", spec := "tagSums", inPlace := ["math/bits.Add64", "math/bits.Sub64"], apart := false, narrowed := true }
def TagSumsUptoSaid : Prop := tagSumsUptoRow.holds Try.pinned (OpenSpec.upto tagSumsSpec)

/-- 'trystlaw06.TagChecks', WHERE WHAT IT READS IS OF BULK AT MOST 1048576: true; the input reads as it did. -/
def tagChecksUptoRow : OpenClaim := { program := "ytiebmodokjaokab", sum := "bbc1306c6da8239d93635907d414be69c2061ba5d655e35b020e6c49d8047f00", func := "tryst/trystlaw06.TagChecks", spec := "tagChecks", inPlace := ["math/bits.Add64", "math/bits.Sub64"], apart := false, narrowed := true }
def TagChecksUptoSaid : Prop := tagChecksUptoRow.holds Try.pinned (OpenSpec.upto tagChecksSpec)

/-- 'trystlaw06.TagPlays', WHERE WHAT IT READS IS OF BULK AT MOST 1048576: true; the input reads as it did. -/
def tagPlaysUptoRow : OpenClaim := { program := "ytiebmodokjaokab", sum := "bbc1306c6da8239d93635907d414be69c2061ba5d655e35b020e6c49d8047f00", func := "tryst/trystlaw06.TagPlays", spec := "tagPlays", inPlace := ["math/bits.Add64", "math/bits.Sub64"], apart := false, narrowed := true }
def TagPlaysUptoSaid : Prop := tagPlaysUptoRow.holds Try.pinned (OpenSpec.upto tagPlaysSpec)

/-- 'trystlaw06.TagPieces', WHERE WHAT IT READS IS OF BULK AT MOST 1048576: true; the input reads as it did. -/
def tagPiecesUptoRow : OpenClaim := { program := "ytiebmodokjaokab", sum := "bbc1306c6da8239d93635907d414be69c2061ba5d655e35b020e6c49d8047f00", func := "tryst/trystlaw06.TagPieces", spec := "tagPieces", inPlace := ["math/bits.Add64", "math/bits.Sub64"], apart := false, narrowed := true }
def TagPiecesUptoSaid : Prop := tagPiecesUptoRow.holds Try.pinned (OpenSpec.upto tagPiecesSpec)

/-- 'trystlaw06.TagShifts', WHERE WHAT IT READS IS OF BULK AT MOST 1048576: true; the input reads as it did. -/
def tagShiftsUptoRow : OpenClaim := { program := "ytiebmodokjaokab", sum := "bbc1306c6da8239d93635907d414be69c2061ba5d655e35b020e6c49d8047f00", func := "tryst/trystlaw06.TagShifts", spec := "tagShifts", inPlace := ["math/bits.Add64", "math/bits.Sub64"], apart := false, narrowed := true }
def TagShiftsUptoSaid : Prop := tagShiftsUptoRow.holds Try.pinned (OpenSpec.upto tagShiftsSpec)

/-- 'trystlaw06.TagNought', WHERE WHAT IT READS IS OF BULK AT MOST 1048576: true; the input reads as it did. -/
def tagNoughtUptoRow : OpenClaim := { program := "ytiebmodokjaokab", sum := "bbc1306c6da8239d93635907d414be69c2061ba5d655e35b020e6c49d8047f00", func := "tryst/trystlaw06.TagNought", spec := "tagNought", inPlace := ["math/bits.Add64", "math/bits.Sub64"], apart := false, narrowed := true }
def TagNoughtUptoSaid : Prop := tagNoughtUptoRow.holds Try.pinned (OpenSpec.upto tagNoughtSpec)

/-- 'trystlaw06.TagOrderless', WHERE WHAT IT READS IS OF BULK AT MOST 1048576: true; the input reads as it did. -/
def tagOrderlessUptoRow : OpenClaim := { program := "ytiebmodokjaokab", sum := "bbc1306c6da8239d93635907d414be69c2061ba5d655e35b020e6c49d8047f00", func := "tryst/trystlaw06.TagOrderless", spec := "tagOrderless", inPlace := ["math/bits.Add64", "math/bits.Sub64"], apart := false, narrowed := true }
def TagOrderlessUptoSaid : Prop := tagOrderlessUptoRow.holds Try.pinned (OpenSpec.upto tagOrderlessSpec)

end Rows
end Go.Proofs.Ytiebmodokjaokab
