/-
  No cell of these rows narrows 'for every input' (looked for: loops, veiled, ifaces, maps, wideKeys, modest, calm, conditions, laid).
  DERIVED. THE GIVEN ROWS OF THIS SEAT. 8 by the template 'for every input the law returns true; each argument reads behind the call as it read before'; 0 by the template 'total and deterministic' (their statements: YtiebmodokjaokaaTotals.lean).
  GIVEN WITH THE SEED: the statements are not yours to turn. If you find one false, say at which input.
  Laid BY PROGRAM, IN A SANDBOX (cutbox-rows.mjs): the forced cells as the released guide's own fill.sh prints them over the translation 2aadc98cae595e15… (all of the seat's roots in one cut). By AI agents, Wed Nov 11 2026. No macro, syntax, notation, axiom, sorry.
-/
import Derived.Test.YtiebmodokjaokaaChecked
import GoSem.Claim
import GoSem.ClaimJoined
import GoSem.ClaimMapViews
import Derived.JoinedTies
import Derived.KernelRfl
namespace Go.Proofs.Ytiebmodokjaokaa
/- THE CELL 'sum', in the pinned program and in every row, IS THE sha256 OF THE DUMP (.gsa) THAT YtiebmodokjaokaaProg.lean LOADS. Nothing in Lean hashes anything: it is a label: what it is worth is what the hold of that sum in a sandbox is worth. -/
noncomputable def Try.pinned : Pinned := { name := "ytiebmodokjaokaa", sum := "2aadc98cae595e15ab6c2ca2ed8c11802caae887006a0265485822ac09c00590", checked := Try.checked }
namespace Rows
def none {H : Type} : Left H := { results := [], args := [] }

/-- 'trystlaw11.HostPower': WHATEVER THE INPUT: true; the input reads as it did. -/
def hostPowerSpec : ChangeSpec := { name := "hostPower", fn := fun _ => fun
  | [d1, d2, d3] => { results := [.lit (.bool true)], args := [d1, d2, d3] }
  | _ => none }
def hostPowerRow : OpenClaim := { program := "ytiebmodokjaokaa", sum := "2aadc98cae595e15ab6c2ca2ed8c11802caae887006a0265485822ac09c00590", func := "tryst/trystlaw11.HostPower", spec := "hostPower", unfollowed := true, recurses := true, apart := false }
def HostPowerSaid : Prop := hostPowerRow.holds Try.pinned (OpenSpec.ofChange hostPowerSpec)

/-- ITS FALSE NEIGHBOUR: 'it returns false'. Refute it at one input. -/
def hostPowerWrong : ChangeSpec := { name := "hostPower", fn := fun _ => fun
  | [d1, d2, d3] => { results := [.lit (.bool false)], args := [d1, d2, d3] }
  | _ => none }
def HostPowerWrongFalsely : Prop := hostPowerRow.holds Try.pinned (OpenSpec.ofChange hostPowerWrong)

/-- 'trystlaw11.HostNames': WHATEVER THE INPUT: true; the input reads as it did. -/
def hostNamesSpec : ChangeSpec := { name := "hostNames", fn := fun _ => fun
  | [] => { results := [.lit (.bool true)], args := [] }
  | _ => none }
def hostNamesRow : OpenClaim := { program := "ytiebmodokjaokaa", sum := "2aadc98cae595e15ab6c2ca2ed8c11802caae887006a0265485822ac09c00590", func := "tryst/trystlaw11.HostNames", spec := "hostNames", unfollowed := true, recurses := true, apart := false }
def HostNamesSaid : Prop := hostNamesRow.holds Try.pinned (OpenSpec.ofChange hostNamesSpec)

/-- ITS FALSE NEIGHBOUR: 'it returns false'. Refute it at one input. -/
def hostNamesWrong : ChangeSpec := { name := "hostNames", fn := fun _ => fun
  | [] => { results := [.lit (.bool false)], args := [] }
  | _ => none }
def HostNamesWrongFalsely : Prop := hostNamesRow.holds Try.pinned (OpenSpec.ofChange hostNamesWrong)

/-- 'trystlaw11.HostTampers': WHATEVER THE INPUT: true; the input reads as it did. -/
def hostTampersSpec : ChangeSpec := { name := "hostTampers", fn := fun _ => fun
  | [d] => { results := [.lit (.bool true)], args := [d] }
  | _ => none }
def hostTampersRow : OpenClaim := { program := "ytiebmodokjaokaa", sum := "2aadc98cae595e15ab6c2ca2ed8c11802caae887006a0265485822ac09c00590", func := "tryst/trystlaw11.HostTampers", spec := "hostTampers", unfollowed := true, recurses := true, apart := false }
def HostTampersSaid : Prop := hostTampersRow.holds Try.pinned (OpenSpec.ofChange hostTampersSpec)

/-- ITS FALSE NEIGHBOUR: 'it returns false'. Refute it at one input. -/
def hostTampersWrong : ChangeSpec := { name := "hostTampers", fn := fun _ => fun
  | [d] => { results := [.lit (.bool false)], args := [d] }
  | _ => none }
def HostTampersWrongFalsely : Prop := hostTampersRow.holds Try.pinned (OpenSpec.ofChange hostTampersWrong)

/-- 'trystlaw11.HostBlind': WHATEVER THE INPUT: true; the input reads as it did. -/
def hostBlindSpec : ChangeSpec := { name := "hostBlind", fn := fun _ => fun
  | [d1, d2, d3] => { results := [.lit (.bool true)], args := [d1, d2, d3] }
  | _ => none }
def hostBlindRow : OpenClaim := { program := "ytiebmodokjaokaa", sum := "2aadc98cae595e15ab6c2ca2ed8c11802caae887006a0265485822ac09c00590", func := "tryst/trystlaw11.HostBlind", spec := "hostBlind", unfollowed := true, recurses := true, apart := false }
def HostBlindSaid : Prop := hostBlindRow.holds Try.pinned (OpenSpec.ofChange hostBlindSpec)

/-- ITS FALSE NEIGHBOUR: 'it returns false'. Refute it at one input. -/
def hostBlindWrong : ChangeSpec := { name := "hostBlind", fn := fun _ => fun
  | [d1, d2, d3] => { results := [.lit (.bool false)], args := [d1, d2, d3] }
  | _ => none }
def HostBlindWrongFalsely : Prop := hostBlindRow.holds Try.pinned (OpenSpec.ofChange hostBlindWrong)

/-- 'trystlaw11.HostFresh': WHATEVER THE INPUT: true; the input reads as it did. -/
def hostFreshSpec : ChangeSpec := { name := "hostFresh", fn := fun _ => fun
  | [d1, d2] => { results := [.lit (.bool true)], args := [d1, d2] }
  | _ => none }
def hostFreshRow : OpenClaim := { program := "ytiebmodokjaokaa", sum := "2aadc98cae595e15ab6c2ca2ed8c11802caae887006a0265485822ac09c00590", func := "tryst/trystlaw11.HostFresh", spec := "hostFresh", unfollowed := true, recurses := true, apart := false }
def HostFreshSaid : Prop := hostFreshRow.holds Try.pinned (OpenSpec.ofChange hostFreshSpec)

/-- ITS FALSE NEIGHBOUR: 'it returns false'. Refute it at one input. -/
def hostFreshWrong : ChangeSpec := { name := "hostFresh", fn := fun _ => fun
  | [d1, d2] => { results := [.lit (.bool false)], args := [d1, d2] }
  | _ => none }
def HostFreshWrongFalsely : Prop := hostFreshRow.holds Try.pinned (OpenSpec.ofChange hostFreshWrong)

/-- 'trystlaw11.HostPlays': WHATEVER THE INPUT: true; the input reads as it did. -/
def hostPlaysSpec : ChangeSpec := { name := "hostPlays", fn := fun _ => fun
  | [d1, d2] => { results := [.lit (.bool true)], args := [d1, d2] }
  | _ => none }
def hostPlaysRow : OpenClaim := { program := "ytiebmodokjaokaa", sum := "2aadc98cae595e15ab6c2ca2ed8c11802caae887006a0265485822ac09c00590", func := "tryst/trystlaw11.HostPlays", spec := "hostPlays", unfollowed := true, recurses := true, apart := false }
def HostPlaysSaid : Prop := hostPlaysRow.holds Try.pinned (OpenSpec.ofChange hostPlaysSpec)

/-- ITS FALSE NEIGHBOUR: 'it returns false'. Refute it at one input. -/
def hostPlaysWrong : ChangeSpec := { name := "hostPlays", fn := fun _ => fun
  | [d1, d2] => { results := [.lit (.bool false)], args := [d1, d2] }
  | _ => none }
def HostPlaysWrongFalsely : Prop := hostPlaysRow.holds Try.pinned (OpenSpec.ofChange hostPlaysWrong)

/-- 'trystlaw11.HostHonest': WHATEVER THE INPUT: true; the input reads as it did. -/
def hostHonestSpec : ChangeSpec := { name := "hostHonest", fn := fun _ => fun
  | [d] => { results := [.lit (.bool true)], args := [d] }
  | _ => none }
def hostHonestRow : OpenClaim := { program := "ytiebmodokjaokaa", sum := "2aadc98cae595e15ab6c2ca2ed8c11802caae887006a0265485822ac09c00590", func := "tryst/trystlaw11.HostHonest", spec := "hostHonest", unfollowed := true, recurses := true, apart := false }
def HostHonestSaid : Prop := hostHonestRow.holds Try.pinned (OpenSpec.ofChange hostHonestSpec)

/-- ITS FALSE NEIGHBOUR: 'it returns false'. Refute it at one input. -/
def hostHonestWrong : ChangeSpec := { name := "hostHonest", fn := fun _ => fun
  | [d] => { results := [.lit (.bool false)], args := [d] }
  | _ => none }
def HostHonestWrongFalsely : Prop := hostHonestRow.holds Try.pinned (OpenSpec.ofChange hostHonestWrong)

/-- 'trystlaw11.HostNil': WHATEVER THE INPUT: true; the input reads as it did. -/
def hostNilSpec : ChangeSpec := { name := "hostNil", fn := fun _ => fun
  | [] => { results := [.lit (.bool true)], args := [] }
  | _ => none }
def hostNilRow : OpenClaim := { program := "ytiebmodokjaokaa", sum := "2aadc98cae595e15ab6c2ca2ed8c11802caae887006a0265485822ac09c00590", func := "tryst/trystlaw11.HostNil", spec := "hostNil", unfollowed := true, recurses := true, apart := false }
def HostNilSaid : Prop := hostNilRow.holds Try.pinned (OpenSpec.ofChange hostNilSpec)

/-- ITS FALSE NEIGHBOUR: 'it returns false'. Refute it at one input. -/
def hostNilWrong : ChangeSpec := { name := "hostNil", fn := fun _ => fun
  | [] => { results := [.lit (.bool false)], args := [] }
  | _ => none }
def HostNilWrongFalsely : Prop := hostNilRow.holds Try.pinned (OpenSpec.ofChange hostNilWrong)

/- THE SECOND FORM. 'bulk': how many values and letters a reading holds, each counted each time it is reached (what is shared counts as often as it is met; a slice's spare places count too). A statement '..UptoSaid' is the law's where the arguments, and the package variables that the reading takes, are together of bulk at most 1048576: NARROWER than '..Said'. Prove '..Said' where nothing that the law and all that it calls make is longer than what came in: it says more and counts as full. Else prove '..UptoSaid'. A law counts once. -/
mutual
def uptoBulk {H : Type} : DataW H → Nat
  | .lit (.string bytes) => bytes.length + 1
  | .lit _ => 1
  | .nil => 1
  | .ptr d => uptoBulk d + 1
  | .slice elems spare => uptoBulkAll elems + uptoBulkAll spare + 1
  | .agg parts => uptoBulkAll parts + 1
  | .iface _ d => uptoBulk d + 1
  | .map entries => uptoBulkEntries entries + 1
  | .held _ => 1
def uptoBulkAll {H : Type} : List (DataW H) → Nat
  | [] => 0
  | d :: r => uptoBulk d + uptoBulkAll r
def uptoBulkEntries {H : Type} : List (Lit × DataW H) → Nat
  | [] => 0
  | x :: r => uptoBulkEntry x + uptoBulkEntries r
def uptoBulkEntry {H : Type} : Lit × DataW H → Nat
  | (.string bytes, d) => bytes.length + uptoBulk d + 1
  | (_, d) => uptoBulk d + 1
 end
def uptoSmall : (H : Type) → List (DataW H) → Bool := fun _ ds => decide (uptoBulkAll ds ≤ 1048576)
def OpenSpec.upto (s : _root_.Go.ChangeSpec) : _root_.Go.OpenSpec := { _root_.Go.OpenSpec.ofChange s with cond := some uptoSmall }

/-- 'trystlaw11.HostPower', WHERE WHAT IT READS IS OF BULK AT MOST 1048576: true; the input reads as it did. -/
def hostPowerUptoRow : OpenClaim := { program := "ytiebmodokjaokaa", sum := "2aadc98cae595e15ab6c2ca2ed8c11802caae887006a0265485822ac09c00590", func := "tryst/trystlaw11.HostPower", spec := "hostPower", unfollowed := true, recurses := true, apart := false, narrowed := true }
def HostPowerUptoSaid : Prop := hostPowerUptoRow.holds Try.pinned (OpenSpec.upto hostPowerSpec)

/-- 'trystlaw11.HostNames', WHERE WHAT IT READS IS OF BULK AT MOST 1048576: true; the input reads as it did. -/
def hostNamesUptoRow : OpenClaim := { program := "ytiebmodokjaokaa", sum := "2aadc98cae595e15ab6c2ca2ed8c11802caae887006a0265485822ac09c00590", func := "tryst/trystlaw11.HostNames", spec := "hostNames", unfollowed := true, recurses := true, apart := false, narrowed := true }
def HostNamesUptoSaid : Prop := hostNamesUptoRow.holds Try.pinned (OpenSpec.upto hostNamesSpec)

/-- 'trystlaw11.HostTampers', WHERE WHAT IT READS IS OF BULK AT MOST 1048576: true; the input reads as it did. -/
def hostTampersUptoRow : OpenClaim := { program := "ytiebmodokjaokaa", sum := "2aadc98cae595e15ab6c2ca2ed8c11802caae887006a0265485822ac09c00590", func := "tryst/trystlaw11.HostTampers", spec := "hostTampers", unfollowed := true, recurses := true, apart := false, narrowed := true }
def HostTampersUptoSaid : Prop := hostTampersUptoRow.holds Try.pinned (OpenSpec.upto hostTampersSpec)

/-- 'trystlaw11.HostBlind', WHERE WHAT IT READS IS OF BULK AT MOST 1048576: true; the input reads as it did. -/
def hostBlindUptoRow : OpenClaim := { program := "ytiebmodokjaokaa", sum := "2aadc98cae595e15ab6c2ca2ed8c11802caae887006a0265485822ac09c00590", func := "tryst/trystlaw11.HostBlind", spec := "hostBlind", unfollowed := true, recurses := true, apart := false, narrowed := true }
def HostBlindUptoSaid : Prop := hostBlindUptoRow.holds Try.pinned (OpenSpec.upto hostBlindSpec)

/-- 'trystlaw11.HostFresh', WHERE WHAT IT READS IS OF BULK AT MOST 1048576: true; the input reads as it did. -/
def hostFreshUptoRow : OpenClaim := { program := "ytiebmodokjaokaa", sum := "2aadc98cae595e15ab6c2ca2ed8c11802caae887006a0265485822ac09c00590", func := "tryst/trystlaw11.HostFresh", spec := "hostFresh", unfollowed := true, recurses := true, apart := false, narrowed := true }
def HostFreshUptoSaid : Prop := hostFreshUptoRow.holds Try.pinned (OpenSpec.upto hostFreshSpec)

/-- 'trystlaw11.HostPlays', WHERE WHAT IT READS IS OF BULK AT MOST 1048576: true; the input reads as it did. -/
def hostPlaysUptoRow : OpenClaim := { program := "ytiebmodokjaokaa", sum := "2aadc98cae595e15ab6c2ca2ed8c11802caae887006a0265485822ac09c00590", func := "tryst/trystlaw11.HostPlays", spec := "hostPlays", unfollowed := true, recurses := true, apart := false, narrowed := true }
def HostPlaysUptoSaid : Prop := hostPlaysUptoRow.holds Try.pinned (OpenSpec.upto hostPlaysSpec)

/-- 'trystlaw11.HostHonest', WHERE WHAT IT READS IS OF BULK AT MOST 1048576: true; the input reads as it did. -/
def hostHonestUptoRow : OpenClaim := { program := "ytiebmodokjaokaa", sum := "2aadc98cae595e15ab6c2ca2ed8c11802caae887006a0265485822ac09c00590", func := "tryst/trystlaw11.HostHonest", spec := "hostHonest", unfollowed := true, recurses := true, apart := false, narrowed := true }
def HostHonestUptoSaid : Prop := hostHonestUptoRow.holds Try.pinned (OpenSpec.upto hostHonestSpec)

/-- 'trystlaw11.HostNil', WHERE WHAT IT READS IS OF BULK AT MOST 1048576: true; the input reads as it did. -/
def hostNilUptoRow : OpenClaim := { program := "ytiebmodokjaokaa", sum := "2aadc98cae595e15ab6c2ca2ed8c11802caae887006a0265485822ac09c00590", func := "tryst/trystlaw11.HostNil", spec := "hostNil", unfollowed := true, recurses := true, apart := false, narrowed := true }
def HostNilUptoSaid : Prop := hostNilUptoRow.holds Try.pinned (OpenSpec.upto hostNilSpec)

end Rows
end Go.Proofs.Ytiebmodokjaokaa
