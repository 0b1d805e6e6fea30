/-
  No cell of these rows narrows 'for every input' (looked for: loops, veiled, ifaces, maps, wideKeys, modest, calm, conditions, laid).
  DERIVED. THE GIVEN ROWS OF THIS SEAT. 7 by the template 'for every input the law returns true; each argument reads behind the call as it read before'; 0 by the template 'total and deterministic' (their statements: YthodgeekgpkieaaGreatTotals.lean).
  GIVEN WITH THE SEED: the statements are not yours to turn. If you find one false, say at which input.
  Laid BY PROGRAM, IN A SANDBOX (cutbox-rows.mjs): the forced cells as the released guide's own fill.sh prints them over the translation 0e835928dcc0ad3c… (all of the seat's roots in one cut). By AI agents, Wed Nov 11 2026. No macro, syntax, notation, axiom, sorry.
-/
import Derived.Test.YthodgeekgpkieaaGreatChecked
import GoSem.Claim
import GoSem.ClaimJoined
import GoSem.ClaimMapViews
import Derived.JoinedTies
import Derived.KernelRfl
namespace Go.Proofs.YthodgeekgpkieaaGreat
/- THE CELL 'sum', in the pinned program and in every row, IS THE sha256 OF THE DUMP (.gsa) THAT YthodgeekgpkieaaGreatProg.lean LOADS. Nothing in Lean hashes anything: it is a label: what it is worth is what the hold of that sum in a sandbox is worth. -/
noncomputable def Tryz.pinned : Pinned := { name := "ythodgeekgpkieaagreat", sum := "0e835928dcc0ad3c06186bc2e556135a8cb6c0a09b88573ab26cd038ac17c5f6", checked := Tryz.checked }
namespace Rows
def none {H : Type} : Left H := { results := [], args := [] }

/-- 'trysttop.TopPages': WHATEVER THE INPUT: true; the input reads as it did. -/
def topPagesSpec : ChangeSpec := { name := "topPages", fn := fun _ => fun
  | [d1, d2, d3] => { results := [.lit (.bool true)], args := [d1, d2, d3] }
  | _ => none }
def topPagesRow : OpenClaim := { program := "ythodgeekgpkieaagreat", sum := "0e835928dcc0ad3c06186bc2e556135a8cb6c0a09b88573ab26cd038ac17c5f6", func := "tryst/trysttop.TopPages", spec := "topPages", inPlace := ["math/bits.Add64", "math/bits.Sub64", "internal/reflectlite.TypeOf"], unfollowed := true, recurses := true, plainKeys := false, apart := false }
def TopPagesSaid : Prop := topPagesRow.holds Tryz.pinned (OpenSpec.ofChange topPagesSpec)

/-- ITS FALSE NEIGHBOUR: 'it returns false'. Refute it at one input. -/
def topPagesWrong : ChangeSpec := { name := "topPages", fn := fun _ => fun
  | [d1, d2, d3] => { results := [.lit (.bool false)], args := [d1, d2, d3] }
  | _ => none }
def TopPagesWrongFalsely : Prop := topPagesRow.holds Tryz.pinned (OpenSpec.ofChange topPagesWrong)

/-- 'trystlaw13.PagerHeads': WHATEVER THE INPUT: true; the input reads as it did. -/
def pagerHeadsSpec : ChangeSpec := { name := "pagerHeads", fn := fun _ => fun
  | [d] => { results := [.lit (.bool true)], args := [d] }
  | _ => none }
def pagerHeadsRow : OpenClaim := { program := "ythodgeekgpkieaagreat", sum := "0e835928dcc0ad3c06186bc2e556135a8cb6c0a09b88573ab26cd038ac17c5f6", func := "tryst/trystlaw13.PagerHeads", spec := "pagerHeads", inPlace := ["math/bits.Add64", "math/bits.Sub64", "internal/reflectlite.TypeOf"], unfollowed := true, recurses := true, plainKeys := false, apart := false }
def PagerHeadsSaid : Prop := pagerHeadsRow.holds Tryz.pinned (OpenSpec.ofChange pagerHeadsSpec)

/-- ITS FALSE NEIGHBOUR: 'it returns false'. Refute it at one input. -/
def pagerHeadsWrong : ChangeSpec := { name := "pagerHeads", fn := fun _ => fun
  | [d] => { results := [.lit (.bool false)], args := [d] }
  | _ => none }
def PagerHeadsWrongFalsely : Prop := pagerHeadsRow.holds Tryz.pinned (OpenSpec.ofChange pagerHeadsWrong)

/-- 'trystlaw13.PagerSpoilt': WHATEVER THE INPUT: true; the input reads as it did. -/
def pagerSpoiltSpec : ChangeSpec := { name := "pagerSpoilt", fn := fun _ => fun
  | [d] => { results := [.lit (.bool true)], args := [d] }
  | _ => none }
def pagerSpoiltRow : OpenClaim := { program := "ythodgeekgpkieaagreat", sum := "0e835928dcc0ad3c06186bc2e556135a8cb6c0a09b88573ab26cd038ac17c5f6", func := "tryst/trystlaw13.PagerSpoilt", spec := "pagerSpoilt", inPlace := ["math/bits.Add64", "math/bits.Sub64", "internal/reflectlite.TypeOf"], unfollowed := true, recurses := true, plainKeys := false, apart := false }
def PagerSpoiltSaid : Prop := pagerSpoiltRow.holds Tryz.pinned (OpenSpec.ofChange pagerSpoiltSpec)

/-- ITS FALSE NEIGHBOUR: 'it returns false'. Refute it at one input. -/
def pagerSpoiltWrong : ChangeSpec := { name := "pagerSpoilt", fn := fun _ => fun
  | [d] => { results := [.lit (.bool false)], args := [d] }
  | _ => none }
def PagerSpoiltWrongFalsely : Prop := pagerSpoiltRow.holds Tryz.pinned (OpenSpec.ofChange pagerSpoiltWrong)

/-- 'trystlaw13.PagerSees': WHATEVER THE INPUT: true; the input reads as it did. -/
def pagerSeesSpec : ChangeSpec := { name := "pagerSees", fn := fun _ => fun
  | [d1, d2, d3] => { results := [.lit (.bool true)], args := [d1, d2, d3] }
  | _ => none }
def pagerSeesRow : OpenClaim := { program := "ythodgeekgpkieaagreat", sum := "0e835928dcc0ad3c06186bc2e556135a8cb6c0a09b88573ab26cd038ac17c5f6", func := "tryst/trystlaw13.PagerSees", spec := "pagerSees", inPlace := ["math/bits.Add64", "math/bits.Sub64", "internal/reflectlite.TypeOf"], unfollowed := true, recurses := true, plainKeys := false, apart := false }
def PagerSeesSaid : Prop := pagerSeesRow.holds Tryz.pinned (OpenSpec.ofChange pagerSeesSpec)

/-- ITS FALSE NEIGHBOUR: 'it returns false'. Refute it at one input. -/
def pagerSeesWrong : ChangeSpec := { name := "pagerSees", fn := fun _ => fun
  | [d1, d2, d3] => { results := [.lit (.bool false)], args := [d1, d2, d3] }
  | _ => none }
def PagerSeesWrongFalsely : Prop := pagerSeesRow.holds Tryz.pinned (OpenSpec.ofChange pagerSeesWrong)

/-- 'trystlaw13.PagerKeeps': WHATEVER THE INPUT: true; the input reads as it did. -/
def pagerKeepsSpec : ChangeSpec := { name := "pagerKeeps", fn := fun _ => fun
  | [d] => { results := [.lit (.bool true)], args := [d] }
  | _ => none }
def pagerKeepsRow : OpenClaim := { program := "ythodgeekgpkieaagreat", sum := "0e835928dcc0ad3c06186bc2e556135a8cb6c0a09b88573ab26cd038ac17c5f6", func := "tryst/trystlaw13.PagerKeeps", spec := "pagerKeeps", inPlace := ["math/bits.Add64", "math/bits.Sub64", "internal/reflectlite.TypeOf"], unfollowed := true, recurses := true, plainKeys := false, apart := false }
def PagerKeepsSaid : Prop := pagerKeepsRow.holds Tryz.pinned (OpenSpec.ofChange pagerKeepsSpec)

/-- ITS FALSE NEIGHBOUR: 'it returns false'. Refute it at one input. -/
def pagerKeepsWrong : ChangeSpec := { name := "pagerKeeps", fn := fun _ => fun
  | [d] => { results := [.lit (.bool false)], args := [d] }
  | _ => none }
def PagerKeepsWrongFalsely : Prop := pagerKeepsRow.holds Tryz.pinned (OpenSpec.ofChange pagerKeepsWrong)

/-- 'trystlaw13.PagerPlays': WHATEVER THE INPUT: true; the input reads as it did. -/
def pagerPlaysSpec : ChangeSpec := { name := "pagerPlays", fn := fun _ => fun
  | [d] => { results := [.lit (.bool true)], args := [d] }
  | _ => none }
def pagerPlaysRow : OpenClaim := { program := "ythodgeekgpkieaagreat", sum := "0e835928dcc0ad3c06186bc2e556135a8cb6c0a09b88573ab26cd038ac17c5f6", func := "tryst/trystlaw13.PagerPlays", spec := "pagerPlays", inPlace := ["math/bits.Add64", "math/bits.Sub64", "internal/reflectlite.TypeOf"], unfollowed := true, recurses := true, plainKeys := false, apart := false }
def PagerPlaysSaid : Prop := pagerPlaysRow.holds Tryz.pinned (OpenSpec.ofChange pagerPlaysSpec)

/-- ITS FALSE NEIGHBOUR: 'it returns false'. Refute it at one input. -/
def pagerPlaysWrong : ChangeSpec := { name := "pagerPlays", fn := fun _ => fun
  | [d] => { results := [.lit (.bool false)], args := [d] }
  | _ => none }
def PagerPlaysWrongFalsely : Prop := pagerPlaysRow.holds Tryz.pinned (OpenSpec.ofChange pagerPlaysWrong)

/-- 'trystlaw13.PagerKnown': WHATEVER THE INPUT: true; the input reads as it did. -/
def pagerKnownSpec : ChangeSpec := { name := "pagerKnown", fn := fun _ => fun
  | [] => { results := [.lit (.bool true)], args := [] }
  | _ => none }
def pagerKnownRow : OpenClaim := { program := "ythodgeekgpkieaagreat", sum := "0e835928dcc0ad3c06186bc2e556135a8cb6c0a09b88573ab26cd038ac17c5f6", func := "tryst/trystlaw13.PagerKnown", spec := "pagerKnown", inPlace := ["math/bits.Add64", "math/bits.Sub64", "internal/reflectlite.TypeOf"], unfollowed := true, recurses := true, plainKeys := false, apart := false }
def PagerKnownSaid : Prop := pagerKnownRow.holds Tryz.pinned (OpenSpec.ofChange pagerKnownSpec)

/-- ITS FALSE NEIGHBOUR: 'it returns false'. Refute it at one input. -/
def pagerKnownWrong : ChangeSpec := { name := "pagerKnown", fn := fun _ => fun
  | [] => { results := [.lit (.bool false)], args := [] }
  | _ => none }
def PagerKnownWrongFalsely : Prop := pagerKnownRow.holds Tryz.pinned (OpenSpec.ofChange pagerKnownWrong)

/- THE SECOND FORM. 'bulk': how many values and letters a reading holds, each counted each time it is reached (what is shared counts as often as it is met; a slice's spare places count too). A statement '..UptoSaid' is the law's where the arguments, and the package variables that the reading takes, are together of bulk at most 1048576: NARROWER than '..Said'. Prove '..Said' where nothing that the law and all that it calls make is longer than what came in: it says more and counts as full. Else prove '..UptoSaid'. A law counts once. -/
mutual
def uptoBulk {H : Type} : DataW H → Nat
  | .lit (.string bytes) => bytes.length + 1
  | .lit _ => 1
  | .nil => 1
  | .ptr d => uptoBulk d + 1
  | .slice elems spare => uptoBulkAll elems + uptoBulkAll spare + 1
  | .agg parts => uptoBulkAll parts + 1
  | .iface _ d => uptoBulk d + 1
  | .map entries => uptoBulkEntries entries + 1
  | .held _ => 1
def uptoBulkAll {H : Type} : List (DataW H) → Nat
  | [] => 0
  | d :: r => uptoBulk d + uptoBulkAll r
def uptoBulkEntries {H : Type} : List (Lit × DataW H) → Nat
  | [] => 0
  | x :: r => uptoBulkEntry x + uptoBulkEntries r
def uptoBulkEntry {H : Type} : Lit × DataW H → Nat
  | (.string bytes, d) => bytes.length + uptoBulk d + 1
  | (_, d) => uptoBulk d + 1
 end
def uptoSmall : (H : Type) → List (DataW H) → Bool := fun _ ds => decide (uptoBulkAll ds ≤ 1048576)
def OpenSpec.upto (s : _root_.Go.ChangeSpec) : _root_.Go.OpenSpec := { _root_.Go.OpenSpec.ofChange s with cond := some uptoSmall }

/-- 'trysttop.TopPages', WHERE WHAT IT READS IS OF BULK AT MOST 1048576: true; the input reads as it did. -/
def topPagesUptoRow : OpenClaim := { program := "ythodgeekgpkieaagreat", sum := "0e835928dcc0ad3c06186bc2e556135a8cb6c0a09b88573ab26cd038ac17c5f6", func := "tryst/trysttop.TopPages", spec := "topPages", inPlace := ["math/bits.Add64", "math/bits.Sub64", "internal/reflectlite.TypeOf"], unfollowed := true, recurses := true, plainKeys := false, apart := false, narrowed := true }
def TopPagesUptoSaid : Prop := topPagesUptoRow.holds Tryz.pinned (OpenSpec.upto topPagesSpec)

/-- 'trystlaw13.PagerHeads', WHERE WHAT IT READS IS OF BULK AT MOST 1048576: true; the input reads as it did. -/
def pagerHeadsUptoRow : OpenClaim := { program := "ythodgeekgpkieaagreat", sum := "0e835928dcc0ad3c06186bc2e556135a8cb6c0a09b88573ab26cd038ac17c5f6", func := "tryst/trystlaw13.PagerHeads", spec := "pagerHeads", inPlace := ["math/bits.Add64", "math/bits.Sub64", "internal/reflectlite.TypeOf"], unfollowed := true, recurses := true, plainKeys := false, apart := false, narrowed := true }
def PagerHeadsUptoSaid : Prop := pagerHeadsUptoRow.holds Tryz.pinned (OpenSpec.upto pagerHeadsSpec)

/-- 'trystlaw13.PagerSpoilt', WHERE WHAT IT READS IS OF BULK AT MOST 1048576: true; the input reads as it did. -/
def pagerSpoiltUptoRow : OpenClaim := { program := "ythodgeekgpkieaagreat", sum := "0e835928dcc0ad3c06186bc2e556135a8cb6c0a09b88573ab26cd038ac17c5f6", func := "tryst/trystlaw13.PagerSpoilt", spec := "pagerSpoilt", inPlace := ["math/bits.Add64", "math/bits.Sub64", "internal/reflectlite.TypeOf"], unfollowed := true, recurses := true, plainKeys := false, apart := false, narrowed := true }
def PagerSpoiltUptoSaid : Prop := pagerSpoiltUptoRow.holds Tryz.pinned (OpenSpec.upto pagerSpoiltSpec)

/-- 'trystlaw13.PagerSees', WHERE WHAT IT READS IS OF BULK AT MOST 1048576: true; the input reads as it did. -/
def pagerSeesUptoRow : OpenClaim := { program := "ythodgeekgpkieaagreat", sum := "0e835928dcc0ad3c06186bc2e556135a8cb6c0a09b88573ab26cd038ac17c5f6", func := "tryst/trystlaw13.PagerSees", spec := "pagerSees", inPlace := ["math/bits.Add64", "math/bits.Sub64", "internal/reflectlite.TypeOf"], unfollowed := true, recurses := true, plainKeys := false, apart := false, narrowed := true }
def PagerSeesUptoSaid : Prop := pagerSeesUptoRow.holds Tryz.pinned (OpenSpec.upto pagerSeesSpec)

/-- 'trystlaw13.PagerKeeps', WHERE WHAT IT READS IS OF BULK AT MOST 1048576: true; the input reads as it did. -/
def pagerKeepsUptoRow : OpenClaim := { program := "ythodgeekgpkieaagreat", sum := "0e835928dcc0ad3c06186bc2e556135a8cb6c0a09b88573ab26cd038ac17c5f6", func := "tryst/trystlaw13.PagerKeeps", spec := "pagerKeeps", inPlace := ["math/bits.Add64", "math/bits.Sub64", "internal/reflectlite.TypeOf"], unfollowed := true, recurses := true, plainKeys := false, apart := false, narrowed := true }
def PagerKeepsUptoSaid : Prop := pagerKeepsUptoRow.holds Tryz.pinned (OpenSpec.upto pagerKeepsSpec)

/-- 'trystlaw13.PagerPlays', WHERE WHAT IT READS IS OF BULK AT MOST 1048576: true; the input reads as it did. -/
def pagerPlaysUptoRow : OpenClaim := { program := "ythodgeekgpkieaagreat", sum := "0e835928dcc0ad3c06186bc2e556135a8cb6c0a09b88573ab26cd038ac17c5f6", func := "tryst/trystlaw13.PagerPlays", spec := "pagerPlays", inPlace := ["math/bits.Add64", "math/bits.Sub64", "internal/reflectlite.TypeOf"], unfollowed := true, recurses := true, plainKeys := false, apart := false, narrowed := true }
def PagerPlaysUptoSaid : Prop := pagerPlaysUptoRow.holds Tryz.pinned (OpenSpec.upto pagerPlaysSpec)

/-- 'trystlaw13.PagerKnown', WHERE WHAT IT READS IS OF BULK AT MOST 1048576: true; the input reads as it did. -/
def pagerKnownUptoRow : OpenClaim := { program := "ythodgeekgpkieaagreat", sum := "0e835928dcc0ad3c06186bc2e556135a8cb6c0a09b88573ab26cd038ac17c5f6", func := "tryst/trystlaw13.PagerKnown", spec := "pagerKnown", inPlace := ["math/bits.Add64", "math/bits.Sub64", "internal/reflectlite.TypeOf"], unfollowed := true, recurses := true, plainKeys := false, apart := false, narrowed := true }
def PagerKnownUptoSaid : Prop := pagerKnownUptoRow.holds Tryz.pinned (OpenSpec.upto pagerKnownSpec)

end Rows
end Go.Proofs.YthodgeekgpkieaaGreat
