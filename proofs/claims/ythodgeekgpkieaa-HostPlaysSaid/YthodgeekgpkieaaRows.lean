/-
  No cell of these rows narrows 'for every input' (looked for: loops, veiled, ifaces, maps, wideKeys, modest, calm, conditions, laid).
  DERIVED. THE GIVEN ROWS OF THIS SEAT. 4 by the template 'for every input the law returns true; each argument reads behind the call as it read before'; 0 by the template 'total and deterministic' (their statements: YthodgeekgpkieaaTotals.lean).
  GIVEN WITH THE SEED: the statements are not yours to turn. If you find one false, say at which input.
  Laid BY PROGRAM, IN A SANDBOX (cutbox-rows.mjs): the forced cells as the released guide's own fill.sh prints them over the translation 52040f6ed2b14a00… (all of the seat's roots in one cut). By AI agents, Wed Nov 11 2026. No macro, syntax, notation, axiom, sorry.
-/
import Derived.Test.YthodgeekgpkieaaChecked
import GoSem.Claim
import GoSem.ClaimJoined
import GoSem.ClaimMapViews
import Derived.JoinedTies
import Derived.KernelRfl
namespace Go.Proofs.Ythodgeekgpkieaa
/- THE CELL 'sum', in the pinned program and in every row, IS THE sha256 OF THE DUMP (.gsa) THAT YthodgeekgpkieaaProg.lean LOADS. Nothing in Lean hashes anything: it is a label: what it is worth is what the hold of that sum in a sandbox is worth. -/
noncomputable def Try.pinned : Pinned := { name := "ythodgeekgpkieaa", sum := "52040f6ed2b14a00cb826ff5a7e53640f6106da0928800babb882f0121288713", checked := Try.checked }
namespace Rows
def none {H : Type} : Left H := { results := [], args := [] }

/-- 'trystlaw11.HostTampers': WHATEVER THE INPUT: true; the input reads as it did. -/
def hostTampersSpec : ChangeSpec := { name := "hostTampers", fn := fun _ => fun
  | [d] => { results := [.lit (.bool true)], args := [d] }
  | _ => none }
def hostTampersRow : OpenClaim := { program := "ythodgeekgpkieaa", sum := "52040f6ed2b14a00cb826ff5a7e53640f6106da0928800babb882f0121288713", func := "tryst/trystlaw11.HostTampers", spec := "hostTampers", unfollowed := true, recurses := true, apart := false }
def HostTampersSaid : Prop := hostTampersRow.holds Try.pinned (OpenSpec.ofChange hostTampersSpec)

/-- ITS FALSE NEIGHBOUR: 'it returns false'. Refute it at one input. -/
def hostTampersWrong : ChangeSpec := { name := "hostTampers", fn := fun _ => fun
  | [d] => { results := [.lit (.bool false)], args := [d] }
  | _ => none }
def HostTampersWrongFalsely : Prop := hostTampersRow.holds Try.pinned (OpenSpec.ofChange hostTampersWrong)

/-- 'trystlaw11.HostBlind': WHATEVER THE INPUT: true; the input reads as it did. -/
def hostBlindSpec : ChangeSpec := { name := "hostBlind", fn := fun _ => fun
  | [d1, d2, d3] => { results := [.lit (.bool true)], args := [d1, d2, d3] }
  | _ => none }
def hostBlindRow : OpenClaim := { program := "ythodgeekgpkieaa", sum := "52040f6ed2b14a00cb826ff5a7e53640f6106da0928800babb882f0121288713", func := "tryst/trystlaw11.HostBlind", spec := "hostBlind", unfollowed := true, recurses := true, apart := false }
def HostBlindSaid : Prop := hostBlindRow.holds Try.pinned (OpenSpec.ofChange hostBlindSpec)

/-- ITS FALSE NEIGHBOUR: 'it returns false'. Refute it at one input. -/
def hostBlindWrong : ChangeSpec := { name := "hostBlind", fn := fun _ => fun
  | [d1, d2, d3] => { results := [.lit (.bool false)], args := [d1, d2, d3] }
  | _ => none }
def HostBlindWrongFalsely : Prop := hostBlindRow.holds Try.pinned (OpenSpec.ofChange hostBlindWrong)

/-- 'trystlaw11.HostFresh': WHATEVER THE INPUT: true; the input reads as it did. -/
def hostFreshSpec : ChangeSpec := { name := "hostFresh", fn := fun _ => fun
  | [d1, d2] => { results := [.lit (.bool true)], args := [d1, d2] }
  | _ => none }
def hostFreshRow : OpenClaim := { program := "ythodgeekgpkieaa", sum := "52040f6ed2b14a00cb826ff5a7e53640f6106da0928800babb882f0121288713", func := "tryst/trystlaw11.HostFresh", spec := "hostFresh", unfollowed := true, recurses := true, apart := false }
def HostFreshSaid : Prop := hostFreshRow.holds Try.pinned (OpenSpec.ofChange hostFreshSpec)

/-- ITS FALSE NEIGHBOUR: 'it returns false'. Refute it at one input. -/
def hostFreshWrong : ChangeSpec := { name := "hostFresh", fn := fun _ => fun
  | [d1, d2] => { results := [.lit (.bool false)], args := [d1, d2] }
  | _ => none }
def HostFreshWrongFalsely : Prop := hostFreshRow.holds Try.pinned (OpenSpec.ofChange hostFreshWrong)

/-- 'trystlaw11.HostPlays': WHATEVER THE INPUT: true; the input reads as it did. -/
def hostPlaysSpec : ChangeSpec := { name := "hostPlays", fn := fun _ => fun
  | [d1, d2] => { results := [.lit (.bool true)], args := [d1, d2] }
  | _ => none }
def hostPlaysRow : OpenClaim := { program := "ythodgeekgpkieaa", sum := "52040f6ed2b14a00cb826ff5a7e53640f6106da0928800babb882f0121288713", func := "tryst/trystlaw11.HostPlays", spec := "hostPlays", unfollowed := true, recurses := true, apart := false }
def HostPlaysSaid : Prop := hostPlaysRow.holds Try.pinned (OpenSpec.ofChange hostPlaysSpec)

/-- ITS FALSE NEIGHBOUR: 'it returns false'. Refute it at one input. -/
def hostPlaysWrong : ChangeSpec := { name := "hostPlays", fn := fun _ => fun
  | [d1, d2] => { results := [.lit (.bool false)], args := [d1, d2] }
  | _ => none }
def HostPlaysWrongFalsely : Prop := hostPlaysRow.holds Try.pinned (OpenSpec.ofChange hostPlaysWrong)

/- THE SECOND FORM. 'bulk': how many values and letters a reading holds, each counted each time it is reached (what is shared counts as often as it is met; a slice's spare places count too). A statement '..UptoSaid' is the law's where the arguments, and the package variables that the reading takes, are together of bulk at most 1048576: NARROWER than '..Said'. Prove '..Said' where nothing that the law and all that it calls make is longer than what came in: it says more and counts as full. Else prove '..UptoSaid'. A law counts once. -/
mutual
def uptoBulk {H : Type} : DataW H → Nat
  | .lit (.string bytes) => bytes.length + 1
  | .lit _ => 1
  | .nil => 1
  | .ptr d => uptoBulk d + 1
  | .slice elems spare => uptoBulkAll elems + uptoBulkAll spare + 1
  | .agg parts => uptoBulkAll parts + 1
  | .iface _ d => uptoBulk d + 1
  | .map entries => uptoBulkEntries entries + 1
  | .held _ => 1
def uptoBulkAll {H : Type} : List (DataW H) → Nat
  | [] => 0
  | d :: r => uptoBulk d + uptoBulkAll r
def uptoBulkEntries {H : Type} : List (Lit × DataW H) → Nat
  | [] => 0
  | x :: r => uptoBulkEntry x + uptoBulkEntries r
def uptoBulkEntry {H : Type} : Lit × DataW H → Nat
  | (.string bytes, d) => bytes.length + uptoBulk d + 1
  | (_, d) => uptoBulk d + 1
 end
def uptoSmall : (H : Type) → List (DataW H) → Bool := fun _ ds => decide (uptoBulkAll ds ≤ 1048576)
def OpenSpec.upto (s : _root_.Go.ChangeSpec) : _root_.Go.OpenSpec := { _root_.Go.OpenSpec.ofChange s with cond := some uptoSmall }

/-- 'trystlaw11.HostTampers', WHERE WHAT IT READS IS OF BULK AT MOST 1048576: true; the input reads as it did. -/
def hostTampersUptoRow : OpenClaim := { program := "ythodgeekgpkieaa", sum := "52040f6ed2b14a00cb826ff5a7e53640f6106da0928800babb882f0121288713", func := "tryst/trystlaw11.HostTampers", spec := "hostTampers", unfollowed := true, recurses := true, apart := false, narrowed := true }
def HostTampersUptoSaid : Prop := hostTampersUptoRow.holds Try.pinned (OpenSpec.upto hostTampersSpec)

/-- 'trystlaw11.HostBlind', WHERE WHAT IT READS IS OF BULK AT MOST 1048576: true; the input reads as it did. -/
def hostBlindUptoRow : OpenClaim := { program := "ythodgeekgpkieaa", sum := "52040f6ed2b14a00cb826ff5a7e53640f6106da0928800babb882f0121288713", func := "tryst/trystlaw11.HostBlind", spec := "hostBlind", unfollowed := true, recurses := true, apart := false, narrowed := true }
def HostBlindUptoSaid : Prop := hostBlindUptoRow.holds Try.pinned (OpenSpec.upto hostBlindSpec)

/-- 'trystlaw11.HostFresh', WHERE WHAT IT READS IS OF BULK AT MOST 1048576: true; the input reads as it did. -/
def hostFreshUptoRow : OpenClaim := { program := "ythodgeekgpkieaa", sum := "52040f6ed2b14a00cb826ff5a7e53640f6106da0928800babb882f0121288713", func := "tryst/trystlaw11.HostFresh", spec := "hostFresh", unfollowed := true, recurses := true, apart := false, narrowed := true }
def HostFreshUptoSaid : Prop := hostFreshUptoRow.holds Try.pinned (OpenSpec.upto hostFreshSpec)

/-- 'trystlaw11.HostPlays', WHERE WHAT IT READS IS OF BULK AT MOST 1048576: true; the input reads as it did. -/
def hostPlaysUptoRow : OpenClaim := { program := "ythodgeekgpkieaa", sum := "52040f6ed2b14a00cb826ff5a7e53640f6106da0928800babb882f0121288713", func := "tryst/trystlaw11.HostPlays", spec := "hostPlays", unfollowed := true, recurses := true, apart := false, narrowed := true }
def HostPlaysUptoSaid : Prop := hostPlaysUptoRow.holds Try.pinned (OpenSpec.upto hostPlaysSpec)

end Rows
end Go.Proofs.Ythodgeekgpkieaa
