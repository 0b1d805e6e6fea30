/-
  No cell of these rows narrows 'for every input' (looked for: loops, veiled, ifaces, maps, wideKeys, modest, calm, conditions, laid).
  DERIVED. THE GIVEN ROWS OF THIS SEAT. 7 by the template 'for every input the law returns true; each argument reads behind the call as it read before'; 0 by the template 'total and deterministic' (their statements: YtpemominnppmaaaTotals.lean).
  GIVEN WITH THE SEED: the statements are not yours to turn. If you find one false, say at which input.
  Laid BY PROGRAM, IN A SANDBOX (cutbox-rows.mjs): the forced cells as the released guide's own fill.sh prints them over the translation dc2c77e6d1a7a7f9… (all of the seat's roots in one cut). By AI agents, Wed Nov 11 2026. No macro, syntax, notation, axiom, sorry.
-/
import Derived.Test.YtpemominnppmaaaChecked
import GoSem.Claim
import GoSem.ClaimJoined
import GoSem.ClaimMapViews
import Derived.JoinedTies
import Derived.KernelRfl
namespace Go.Proofs.Ytpemominnppmaaa
/- THE CELL 'sum', in the pinned program and in every row, IS THE sha256 OF THE DUMP (.gsa) THAT YtpemominnppmaaaProg.lean LOADS. Nothing in Lean hashes anything: it is a label: what it is worth is what the hold of that sum in a sandbox is worth. -/
noncomputable def Try.pinned : Pinned := { name := "ytpemominnppmaaa", sum := "dc2c77e6d1a7a7f9e1b6b31be21952b4dd3a63364618ab60cd2c30ff74948604", checked := Try.checked }
namespace Rows
def none {H : Type} : Left H := { results := [], args := [] }

/-- 'trystlaw07.SealSeals': WHATEVER THE INPUT: true; the input reads as it did. -/
def sealSealsSpec : ChangeSpec := { name := "sealSeals", fn := fun _ => fun
  | [d] => { results := [.lit (.bool true)], args := [d] }
  | _ => none }
def sealSealsRow : OpenClaim := { program := "ytpemominnppmaaa", sum := "dc2c77e6d1a7a7f9e1b6b31be21952b4dd3a63364618ab60cd2c30ff74948604", func := "tryst/trystlaw07.SealSeals", spec := "sealSeals", inPlace := ["math/bits.Add64", "math/bits.Sub64"], apart := false }
def SealSealsSaid : Prop := sealSealsRow.holds Try.pinned (OpenSpec.ofChange sealSealsSpec)

/-- ITS FALSE NEIGHBOUR: 'it returns false'. Refute it at one input. -/
def sealSealsWrong : ChangeSpec := { name := "sealSeals", fn := fun _ => fun
  | [d] => { results := [.lit (.bool false)], args := [d] }
  | _ => none }
def SealSealsWrongFalsely : Prop := sealSealsRow.holds Try.pinned (OpenSpec.ofChange sealSealsWrong)

/-- 'trystlaw07.SealCovers': WHATEVER THE INPUT: true; the input reads as it did. -/
def sealCoversSpec : ChangeSpec := { name := "sealCovers", fn := fun _ => fun
  | [d1, d2, d3] => { results := [.lit (.bool true)], args := [d1, d2, d3] }
  | _ => none }
def sealCoversRow : OpenClaim := { program := "ytpemominnppmaaa", sum := "dc2c77e6d1a7a7f9e1b6b31be21952b4dd3a63364618ab60cd2c30ff74948604", func := "tryst/trystlaw07.SealCovers", spec := "sealCovers", inPlace := ["math/bits.Add64", "math/bits.Sub64"], apart := false }
def SealCoversSaid : Prop := sealCoversRow.holds Try.pinned (OpenSpec.ofChange sealCoversSpec)

/-- ITS FALSE NEIGHBOUR: 'it returns false'. Refute it at one input. -/
def sealCoversWrong : ChangeSpec := { name := "sealCovers", fn := fun _ => fun
  | [d1, d2, d3] => { results := [.lit (.bool false)], args := [d1, d2, d3] }
  | _ => none }
def SealCoversWrongFalsely : Prop := sealCoversRow.holds Try.pinned (OpenSpec.ofChange sealCoversWrong)

/-- 'trystlaw07.SealOpens': WHATEVER THE INPUT: true; the input reads as it did. -/
def sealOpensSpec : ChangeSpec := { name := "sealOpens", fn := fun _ => fun
  | [d] => { results := [.lit (.bool true)], args := [d] }
  | _ => none }
def sealOpensRow : OpenClaim := { program := "ytpemominnppmaaa", sum := "dc2c77e6d1a7a7f9e1b6b31be21952b4dd3a63364618ab60cd2c30ff74948604", func := "tryst/trystlaw07.SealOpens", spec := "sealOpens", inPlace := ["math/bits.Add64", "math/bits.Sub64"], apart := false }
def SealOpensSaid : Prop := sealOpensRow.holds Try.pinned (OpenSpec.ofChange sealOpensSpec)

/-- ITS FALSE NEIGHBOUR: 'it returns false'. Refute it at one input. -/
def sealOpensWrong : ChangeSpec := { name := "sealOpens", fn := fun _ => fun
  | [d] => { results := [.lit (.bool false)], args := [d] }
  | _ => none }
def SealOpensWrongFalsely : Prop := sealOpensRow.holds Try.pinned (OpenSpec.ofChange sealOpensWrong)

/-- 'trystlaw07.SealBack': WHATEVER THE INPUT: true; the input reads as it did. -/
def sealBackSpec : ChangeSpec := { name := "sealBack", fn := fun _ => fun
  | [d] => { results := [.lit (.bool true)], args := [d] }
  | _ => none }
def sealBackRow : OpenClaim := { program := "ytpemominnppmaaa", sum := "dc2c77e6d1a7a7f9e1b6b31be21952b4dd3a63364618ab60cd2c30ff74948604", func := "tryst/trystlaw07.SealBack", spec := "sealBack", inPlace := ["math/bits.Add64", "math/bits.Sub64"], apart := false }
def SealBackSaid : Prop := sealBackRow.holds Try.pinned (OpenSpec.ofChange sealBackSpec)

/-- ITS FALSE NEIGHBOUR: 'it returns false'. Refute it at one input. -/
def sealBackWrong : ChangeSpec := { name := "sealBack", fn := fun _ => fun
  | [d] => { results := [.lit (.bool false)], args := [d] }
  | _ => none }
def SealBackWrongFalsely : Prop := sealBackRow.holds Try.pinned (OpenSpec.ofChange sealBackWrong)

/-- 'trystlaw07.SealOneForm': WHATEVER THE INPUT: true; the input reads as it did. -/
def sealOneFormSpec : ChangeSpec := { name := "sealOneForm", fn := fun _ => fun
  | [d] => { results := [.lit (.bool true)], args := [d] }
  | _ => none }
def sealOneFormRow : OpenClaim := { program := "ytpemominnppmaaa", sum := "dc2c77e6d1a7a7f9e1b6b31be21952b4dd3a63364618ab60cd2c30ff74948604", func := "tryst/trystlaw07.SealOneForm", spec := "sealOneForm", inPlace := ["math/bits.Add64", "math/bits.Sub64"], apart := false }
def SealOneFormSaid : Prop := sealOneFormRow.holds Try.pinned (OpenSpec.ofChange sealOneFormSpec)

/-- ITS FALSE NEIGHBOUR: 'it returns false'. Refute it at one input. -/
def sealOneFormWrong : ChangeSpec := { name := "sealOneForm", fn := fun _ => fun
  | [d] => { results := [.lit (.bool false)], args := [d] }
  | _ => none }
def SealOneFormWrongFalsely : Prop := sealOneFormRow.holds Try.pinned (OpenSpec.ofChange sealOneFormWrong)

/-- 'trystlaw07.SealNonces': WHATEVER THE INPUT: true; the input reads as it did. -/
def sealNoncesSpec : ChangeSpec := { name := "sealNonces", fn := fun _ => fun
  | [d1, d2] => { results := [.lit (.bool true)], args := [d1, d2] }
  | _ => none }
def sealNoncesRow : OpenClaim := { program := "ytpemominnppmaaa", sum := "dc2c77e6d1a7a7f9e1b6b31be21952b4dd3a63364618ab60cd2c30ff74948604", func := "tryst/trystlaw07.SealNonces", spec := "sealNonces", inPlace := ["math/bits.Add64", "math/bits.Sub64"], apart := false }
def SealNoncesSaid : Prop := sealNoncesRow.holds Try.pinned (OpenSpec.ofChange sealNoncesSpec)

/-- ITS FALSE NEIGHBOUR: 'it returns false'. Refute it at one input. -/
def sealNoncesWrong : ChangeSpec := { name := "sealNonces", fn := fun _ => fun
  | [d1, d2] => { results := [.lit (.bool false)], args := [d1, d2] }
  | _ => none }
def SealNoncesWrongFalsely : Prop := sealNoncesRow.holds Try.pinned (OpenSpec.ofChange sealNoncesWrong)

/-- 'trystlaw07.SealKnown': WHATEVER THE INPUT: true; the input reads as it did. -/
def sealKnownSpec : ChangeSpec := { name := "sealKnown", fn := fun _ => fun
  | [] => { results := [.lit (.bool true)], args := [] }
  | _ => none }
def sealKnownRow : OpenClaim := { program := "ytpemominnppmaaa", sum := "dc2c77e6d1a7a7f9e1b6b31be21952b4dd3a63364618ab60cd2c30ff74948604", func := "tryst/trystlaw07.SealKnown", spec := "sealKnown", inPlace := ["math/bits.Add64", "math/bits.Sub64"], apart := false }
def SealKnownSaid : Prop := sealKnownRow.holds Try.pinned (OpenSpec.ofChange sealKnownSpec)

/-- ITS FALSE NEIGHBOUR: 'it returns false'. Refute it at one input. -/
def sealKnownWrong : ChangeSpec := { name := "sealKnown", fn := fun _ => fun
  | [] => { results := [.lit (.bool false)], args := [] }
  | _ => none }
def SealKnownWrongFalsely : Prop := sealKnownRow.holds Try.pinned (OpenSpec.ofChange sealKnownWrong)

/- THE SECOND FORM. 'bulk': how many values and letters a reading holds, each counted each time it is reached (what is shared counts as often as it is met; a slice's spare places count too). A statement '..UptoSaid' is the law's where the arguments, and the package variables that the reading takes, are together of bulk at most 1048576: NARROWER than '..Said'. Prove '..Said' where nothing that the law and all that it calls make is longer than what came in: it says more and counts as full. Else prove '..UptoSaid'. A law counts once. -/
mutual
def uptoBulk {H : Type} : DataW H → Nat
  | .lit (.string bytes) => bytes.length + 1
  | .lit _ => 1
  | .nil => 1
  | .ptr d => uptoBulk d + 1
  | .slice elems spare => uptoBulkAll elems + uptoBulkAll spare + 1
  | .agg parts => uptoBulkAll parts + 1
  | .iface _ d => uptoBulk d + 1
  | .map entries => uptoBulkEntries entries + 1
  | .held _ => 1
def uptoBulkAll {H : Type} : List (DataW H) → Nat
  | [] => 0
  | d :: r => uptoBulk d + uptoBulkAll r
def uptoBulkEntries {H : Type} : List (Lit × DataW H) → Nat
  | [] => 0
  | x :: r => uptoBulkEntry x + uptoBulkEntries r
def uptoBulkEntry {H : Type} : Lit × DataW H → Nat
  | (.string bytes, d) => bytes.length + uptoBulk d + 1
  | (_, d) => uptoBulk d + 1
 end
def uptoSmall : (H : Type) → List (DataW H) → Bool := fun _ ds => decide (uptoBulkAll ds ≤ 1048576)
def OpenSpec.upto (s : _root_.Go.ChangeSpec) : _root_.Go.OpenSpec := { _root_.Go.OpenSpec.ofChange s with cond := some uptoSmall }

/-- 'trystlaw07.SealSeals', WHERE WHAT IT READS IS OF BULK AT MOST 1048576: true; the input reads as it did. -/
def sealSealsUptoRow : OpenClaim := { program := "ytpemominnppmaaa", sum := "dc2c77e6d1a7a7f9e1b6b31be21952b4dd3a63364618ab60cd2c30ff74948604", func := "tryst/trystlaw07.SealSeals", spec := "sealSeals", inPlace := ["math/bits.Add64", "math/bits.Sub64"], apart := false, narrowed := true }
def SealSealsUptoSaid : Prop := sealSealsUptoRow.holds Try.pinned (OpenSpec.upto sealSealsSpec)

/-- 'trystlaw07.SealCovers', WHERE WHAT IT READS IS OF BULK AT MOST 1048576: true; the input reads as it did. -/
def sealCoversUptoRow : OpenClaim := { program := "ytpemominnppmaaa", sum := "dc2c77e6d1a7a7f9e1b6b31be21952b4dd3a63364618ab60cd2c30ff74948604", func := "tryst/trystlaw07.SealCovers", spec := "sealCovers", inPlace := ["math/bits.Add64", "math/bits.Sub64"], apart := false, narrowed := true }
def SealCoversUptoSaid : Prop := sealCoversUptoRow.holds Try.pinned (OpenSpec.upto sealCoversSpec)

/-- 'trystlaw07.SealOpens', WHERE WHAT IT READS IS OF BULK AT MOST 1048576: true; the input reads as it did. -/
def sealOpensUptoRow : OpenClaim := { program := "ytpemominnppmaaa", sum := "dc2c77e6d1a7a7f9e1b6b31be21952b4dd3a63364618ab60cd2c30ff74948604", func := "tryst/trystlaw07.SealOpens", spec := "sealOpens", inPlace := ["math/bits.Add64", "math/bits.Sub64"], apart := false, narrowed := true }
def SealOpensUptoSaid : Prop := sealOpensUptoRow.holds Try.pinned (OpenSpec.upto sealOpensSpec)

/-- 'trystlaw07.SealBack', WHERE WHAT IT READS IS OF BULK AT MOST 1048576: true; the input reads as it did. -/
def sealBackUptoRow : OpenClaim := { program := "ytpemominnppmaaa", sum := "dc2c77e6d1a7a7f9e1b6b31be21952b4dd3a63364618ab60cd2c30ff74948604", func := "tryst/trystlaw07.SealBack", spec := "sealBack", inPlace := ["math/bits.Add64", "math/bits.Sub64"], apart := false, narrowed := true }
def SealBackUptoSaid : Prop := sealBackUptoRow.holds Try.pinned (OpenSpec.upto sealBackSpec)

/-- 'trystlaw07.SealOneForm', WHERE WHAT IT READS IS OF BULK AT MOST 1048576: true; the input reads as it did. -/
def sealOneFormUptoRow : OpenClaim := { program := "ytpemominnppmaaa", sum := "dc2c77e6d1a7a7f9e1b6b31be21952b4dd3a63364618ab60cd2c30ff74948604", func := "tryst/trystlaw07.SealOneForm", spec := "sealOneForm", inPlace := ["math/bits.Add64", "math/bits.Sub64"], apart := false, narrowed := true }
def SealOneFormUptoSaid : Prop := sealOneFormUptoRow.holds Try.pinned (OpenSpec.upto sealOneFormSpec)

/-- 'trystlaw07.SealNonces', WHERE WHAT IT READS IS OF BULK AT MOST 1048576: true; the input reads as it did. -/
def sealNoncesUptoRow : OpenClaim := { program := "ytpemominnppmaaa", sum := "dc2c77e6d1a7a7f9e1b6b31be21952b4dd3a63364618ab60cd2c30ff74948604", func := "tryst/trystlaw07.SealNonces", spec := "sealNonces", inPlace := ["math/bits.Add64", "math/bits.Sub64"], apart := false, narrowed := true }
def SealNoncesUptoSaid : Prop := sealNoncesUptoRow.holds Try.pinned (OpenSpec.upto sealNoncesSpec)

/-- 'trystlaw07.SealKnown', WHERE WHAT IT READS IS OF BULK AT MOST 1048576: true; the input reads as it did. -/
def sealKnownUptoRow : OpenClaim := { program := "ytpemominnppmaaa", sum := "dc2c77e6d1a7a7f9e1b6b31be21952b4dd3a63364618ab60cd2c30ff74948604", func := "tryst/trystlaw07.SealKnown", spec := "sealKnown", inPlace := ["math/bits.Add64", "math/bits.Sub64"], apart := false, narrowed := true }
def SealKnownUptoSaid : Prop := sealKnownUptoRow.holds Try.pinned (OpenSpec.upto sealKnownSpec)

end Rows
end Go.Proofs.Ytpemominnppmaaa
