/- the law SorterBlind, proved: what the sorter does hangs on no record: two slots with other records, sorted and brought back, write the same logs. -/
import Derived.Test.YtkifhflakdkemaaGreatLawSorterBlindM0
import Derived.Test.YtkifhflakdkemaaGreatLawSorterBlindM1
import Derived.Test.YtkifhflakdkemaaGreatLawSorterBlindM2
import Derived.Test.YtkifhflakdkemaaGreatLawSorterBlindM3
import Derived.Test.YtkifhflakdkemaaGreatLawSorterBlindM4
import Derived.Test.YtkifhflakdkemaaGreatRows
import Derived.SizedLaws
import Derived.Carry
set_option linter.unusedVariables false
namespace Go.Proofs.YtkifhflakdkemaaGreat.sorterBlind
open Go Go.ChangeShapes Go.WideShapes Go.ChangeAt Go.RowKit Go.Sl
attribute [local irreducible] cl pt Sl.own old den denOps denS Calls PV Con
theorem own : ownKnob Tryz.prog.godebug = none := by kernel_rfl
theorem laid : laidOutB Tryz.prog = true := by kernel_rfl
set_option maxRecDepth 100000 in
theorem lifted (os : Os) (started : os.Started) (H : Type) (enc : TypeId × Value → H) :
    ReturnsInHanded {} Tryz.checked os 11 .any (Rows.sorterBlindSpec.pre6 enc Tryz.prog Tryz.f11 Rows.sorterBlindRow.domain false) (Rows.sorterBlindSpec.post enc Tryz.prog Tryz.f11 false true false false) := by
  refine returnsInHanded_of_change_sized (C := Tryz.checked) own started (by kernel_rfl) Tryz.func11
    (ChangeSpec.witness6 (enc := enc) (C := Tryz.checked) false ⟨#[], #[.agg #[.int .i64 0, .int .i64 0, .int .i64 0, .int .u8 0, .int .u8 0, .int .u8 0, .int .u8 0, .int .u8 0, .int .u8 0, .int .u8 0, .int .u8 0, .int .u8 0, .int .u8 0, .int .u8 0, .int .u8 0, .int .u8 0, .int .u8 0, .int .u8 0, .int .u8 0, .int .u8 0, .int .u8 0, .int .u8 0, .int .u8 0, .int .u8 0, .int .u8 0, .int .u8 0, .int .u8 0, .int .u8 0, .int .u8 0, .int .u8 0, .int .u8 0, .int .u8 0, .int .u8 0, .int .u8 0, .int .u8 0, .int .u64 0, .slice none 0 0, .slice none 0 0, .slice none 0 0], .slice none 0 0], []⟩ 8 (by kernel_rfl) (by kernel_rfl) (by kernel_rfl) (by kernel_rfl)) ?_
  intro W base args ds gs before hval0 hW hcnd hsz0 _
  have hW' := hW
  obtain ⟨p, q, hA0, hV, rfl, hfz, hnd⟩ := hW
  have hA : DataW.TrodAll enc Tryz.prog W 0 (fun _ => true) true Tryz.f11.params.toList args.toList ds p := hA0
  rw [Tryz.params11] at hA
  have hval : ∀ (j : Nat) t v, Tryz.f11.params[j]? = some t → args[j]? = some v → Value.okWide Tryz.prog W .any base t v := hval0
  rw [Tryz.params11] at hval
  obtain ⟨v0, v1, d0, d1, p0, p1, rfl, rfl, rfl, h0, h1⟩ := trodAll_two hA
  obtain ⟨rfl, rfl⟩ := trodVars_none hV
  have hsm0 : Small Tryz.prog 84 d0 := by
    intro n hn
    have := List.all_eq_true.1 hsz0 n (DataW.weights_mem_each (j := 0) (by rw [Tryz.params11]; rfl) rfl n hn)
    exact of_decide_eq_true this
  obtain ⟨cs0, rfl, _⟩ := okWide_struct Tryz.underlying84 (hval 0 84 v0 rfl rfl)
  obtain ⟨fuel0, hf0⟩ := h0
  obtain ⟨x0, hx0, ok0⟩ := open_SoWorldV hf0 hsm0
  obtain rfl : cs0 = x0.cells.toArray := by
    have : cs0.toList = x0.cells := hx0
    rw [← this]
  have hsm1 : Small Tryz.prog 66 d1 := by
    intro n hn
    have := List.all_eq_true.1 hsz0 n (DataW.weights_mem_each (j := 1) (by rw [Tryz.params11]; rfl) rfl n hn)
    exact of_decide_eq_true this
  obtain ⟨l1, hin1⟩ := arg_bs Tryz.underlying66 Tryz.underlying5 (by kernel_rfl) (by kernel_rfl) (hval 1 66 v1 rfl rfl) h1 hsm1
  refine (con_law (soTblind_w W x0 ok0 v1 l1 hin1)).mono fun e W' ⟨he, hb⟩ => ?_
  subst he
  exact ⟨_, rfl, law_post laid (of_decide_eq_true (by kernel_rfl)) rfl Tryz.underlying4 rfl hW' rfl hb⟩
theorem inPlace_ : (Rows.sorterBlindRow.inPlace == Tryz.prog.inPlace 11) = true := by kernel_rfl
theorem unfollowed_ : (Rows.sorterBlindRow.unfollowed == Tryz.prog.unfollowed 11) = true := by kernel_rfl
theorem recurses_ : (Rows.sorterBlindRow.recurses == Tryz.prog.recurses 11) = true := by kernel_rfl
theorem named_ : (Rows.sorterBlindRow.named == Tryz.prog.varsNamed 11) = true := by kernel_rfl
theorem rowed : mapsRowed Tryz.prog = true := by kernel_rfl
theorem closed : joinedFacts Tryz.prog 11 Tryz.f11 Rows.sorterBlindSpec Rows.sorterBlindRow = true := by
  unfold joinedFacts
  rw [laid, rowed, inPlace_, unfollowed_, recurses_, named_]
  kernel_rfl
theorem proved : Rows.SorterBlindSaid :=
  OpenClaim.holds_of_wide 11 Tryz.f11 rfl rfl rfl rfl rfl rfl rfl ⟨rfl, rfl, rfl, rfl, rfl⟩ rfl rfl rfl rfl rfl (by kernel_rfl) Tryz.func11 closed
    (of_decide_eq_true (by kernel_rfl)) (by unfold Func.isWrapper; first|(rw [if_pos (by decide +kernel)]; kernel_rfl)|(rw [if_neg (by decide +kernel)]; exact ⟨rfl, rfl⟩))
    (fun os started H enc _ => lifted os started H enc)
end Go.Proofs.YtkifhflakdkemaaGreat.sorterBlind
