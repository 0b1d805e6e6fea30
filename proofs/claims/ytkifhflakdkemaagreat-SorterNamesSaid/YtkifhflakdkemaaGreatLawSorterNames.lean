/- the law SorterNames, proved: the numbers of the layer; slots that are not there (closed). -/
import Derived.Test.YtkifhflakdkemaaGreatLawSorterNamesM0
import Derived.Test.YtkifhflakdkemaaGreatLawSorterNamesM1
import Derived.Test.YtkifhflakdkemaaGreatLawSorterNamesM2
import Derived.Test.YtkifhflakdkemaaGreatLawSorterNamesM3
import Derived.Test.YtkifhflakdkemaaGreatLawSorterNamesM4
import Derived.Test.YtkifhflakdkemaaGreatRows
import Derived.SizedLaws
import Derived.Carry
set_option linter.unusedVariables false
namespace Go.Proofs.YtkifhflakdkemaaGreat.sorterNames
open Go Go.ChangeShapes Go.WideShapes Go.ChangeAt Go.RowKit Go.Sl
attribute [local irreducible] cl pt Sl.own old den denOps denS Calls PV Con
theorem own : ownKnob Tryz.prog.godebug = none := by kernel_rfl
theorem laid : laidOutB Tryz.prog = true := by kernel_rfl
set_option maxRecDepth 100000 in
theorem lifted (os : Os) (started : os.Started) (H : Type) (enc : TypeId × Value → H) :
    ReturnsInHanded {} Tryz.checked os 9 .any (Rows.sorterNamesSpec.pre6 enc Tryz.prog Tryz.f9 Rows.sorterNamesRow.domain false) (Rows.sorterNamesSpec.post enc Tryz.prog Tryz.f9 false true false false) := by
  refine returnsInHanded_of_change_sized (C := Tryz.checked) own started (by kernel_rfl) Tryz.func9
    (ChangeSpec.witness6 (enc := enc) (C := Tryz.checked) false ⟨#[], #[], []⟩ 8 (by kernel_rfl) (by kernel_rfl) (by kernel_rfl) (by kernel_rfl)) ?_
  intro W base args ds gs before hval0 hW hcnd hsz0 _
  have hW' := hW
  obtain ⟨p, q, hA0, hV, rfl, hfz, hnd⟩ := hW
  have hA : DataW.TrodAll enc Tryz.prog W 0 (fun _ => true) true Tryz.f9.params.toList args.toList ds p := hA0
  rw [Tryz.params9] at hA
  have hval : ∀ (j : Nat) t v, Tryz.f9.params[j]? = some t → args[j]? = some v → Value.okWide Tryz.prog W .any base t v := hval0
  rw [Tryz.params9] at hval
  obtain ⟨rfl, rfl, rfl⟩ := trodAll_none hA
  obtain ⟨rfl, rfl⟩ := trodVars_none hV
  refine (con_law (soNames_w W)).mono fun e W' ⟨he, hb⟩ => ?_
  subst he
  exact ⟨_, rfl, law_post laid (of_decide_eq_true (by kernel_rfl)) rfl Tryz.underlying4 rfl hW' rfl hb⟩
theorem inPlace_ : (Rows.sorterNamesRow.inPlace == Tryz.prog.inPlace 9) = true := by kernel_rfl
theorem unfollowed_ : (Rows.sorterNamesRow.unfollowed == Tryz.prog.unfollowed 9) = true := by kernel_rfl
theorem recurses_ : (Rows.sorterNamesRow.recurses == Tryz.prog.recurses 9) = true := by kernel_rfl
theorem named_ : (Rows.sorterNamesRow.named == Tryz.prog.varsNamed 9) = true := by kernel_rfl
theorem rowed : mapsRowed Tryz.prog = true := by kernel_rfl
theorem closed : joinedFacts Tryz.prog 9 Tryz.f9 Rows.sorterNamesSpec Rows.sorterNamesRow = true := by
  unfold joinedFacts
  rw [laid, rowed, inPlace_, unfollowed_, recurses_, named_]
  kernel_rfl
theorem proved : Rows.SorterNamesSaid :=
  OpenClaim.holds_of_wide 9 Tryz.f9 rfl rfl rfl rfl rfl rfl rfl ⟨rfl, rfl, rfl, rfl, rfl⟩ rfl rfl rfl rfl rfl (by kernel_rfl) Tryz.func9 closed
    (of_decide_eq_true (by kernel_rfl)) (by unfold Func.isWrapper; first|(rw [if_pos (by decide +kernel)]; kernel_rfl)|(rw [if_neg (by decide +kernel)]; exact ⟨rfl, rfl⟩))
    (fun os started H enc _ => lifted os started H enc)
end Go.Proofs.YtkifhflakdkemaaGreat.sorterNames
