/- the law SorterSorts, proved: the gates sort: behind Sort by group, by index or by the first byte no record stands ahead of the one ahead of it, and the records are those of before; what lies behind stays. -/
import Derived.Test.YtkifhflakdkemaaGreatLawSorterSortsM0
import Derived.Test.YtkifhflakdkemaaGreatLawSorterSortsM1
import Derived.Test.YtkifhflakdkemaaGreatLawSorterSortsM2
import Derived.Test.YtkifhflakdkemaaGreatLawSorterSortsM3
import Derived.Test.YtkifhflakdkemaaGreatLawSorterSortsM4
import Derived.Test.YtkifhflakdkemaaGreatRows
import Derived.SizedLaws
import Derived.Carry
set_option linter.unusedVariables false
namespace Go.Proofs.YtkifhflakdkemaaGreat.sorterSorts
open Go Go.ChangeShapes Go.WideShapes Go.ChangeAt Go.RowKit Go.Sl
attribute [local irreducible] cl pt Sl.own old den denOps denS Calls PV Con
theorem own : ownKnob Tryz.prog.godebug = none := by kernel_rfl
theorem laid : laidOutB Tryz.prog = true := by kernel_rfl
set_option maxRecDepth 100000 in
theorem lifted (os : Os) (started : os.Started) (H : Type) (enc : TypeId × Value → H) :
    ReturnsInHanded {} Tryz.checked os 7 .any (Rows.sorterSortsSpec.pre6 enc Tryz.prog Tryz.f7 Rows.sorterSortsRow.domain false) (Rows.sorterSortsSpec.post enc Tryz.prog Tryz.f7 false true false false) := by
  refine returnsInHanded_of_change_sized (C := Tryz.checked) own started (by kernel_rfl) Tryz.func7
    (ChangeSpec.witness6 (enc := enc) (C := Tryz.checked) false ⟨#[], #[.agg #[.int .i64 0, .int .i64 0, .int .i64 0, .int .u8 0, .int .u8 0, .int .u8 0, .int .u8 0, .int .u8 0, .int .u8 0, .int .u8 0, .int .u8 0, .int .u8 0, .int .u8 0, .int .u8 0, .int .u8 0, .int .u8 0, .int .u8 0, .int .u8 0, .int .u8 0, .int .u8 0, .int .u8 0, .int .u8 0, .int .u8 0, .int .u8 0, .int .u8 0, .int .u8 0, .int .u8 0, .int .u8 0, .int .u8 0, .int .u8 0, .int .u8 0, .int .u8 0, .int .u8 0, .int .u8 0, .int .u8 0, .int .u64 0, .slice none 0 0, .slice none 0 0, .slice none 0 0], .int .i64 0], []⟩ 8 (by kernel_rfl) (by kernel_rfl) (by kernel_rfl) (by kernel_rfl)) ?_
  intro W base args ds gs before hval0 hW hcnd hsz0 _
  have hW' := hW
  obtain ⟨p, q, hA0, hV, rfl, hfz, hnd⟩ := hW
  have hA : DataW.TrodAll enc Tryz.prog W 0 (fun _ => true) true Tryz.f7.params.toList args.toList ds p := hA0
  rw [Tryz.params7] at hA
  have hval : ∀ (j : Nat) t v, Tryz.f7.params[j]? = some t → args[j]? = some v → Value.okWide Tryz.prog W .any base t v := hval0
  rw [Tryz.params7] at hval
  obtain ⟨v0, v1, d0, d1, p0, p1, rfl, rfl, rfl, h0, h1⟩ := trodAll_two hA
  obtain ⟨rfl, rfl⟩ := trodVars_none hV
  have hsm0 : Small Tryz.prog 84 d0 := by
    intro n hn
    have := List.all_eq_true.1 hsz0 n (DataW.weights_mem_each (j := 0) (by rw [Tryz.params7]; rfl) rfl n hn)
    exact of_decide_eq_true this
  obtain ⟨cs0, rfl, _⟩ := okWide_struct Tryz.underlying84 (hval 0 84 v0 rfl rfl)
  obtain ⟨fuel0, hf0⟩ := h0
  obtain ⟨x0, hx0, ok0⟩ := open_SoWorldV hf0 hsm0
  obtain rfl : cs0 = x0.cells.toArray := by
    have : cs0.toList = x0.cells := hx0
    rw [← this]
  obtain ⟨x1, rfl, _, _, wn1⟩ := open_int Tryz.underlying3 (hval 1 3 v1 rfl rfl) h1
  refine (con_law (sorts_w W x0 ok0 x1 wn1)).mono fun e W' ⟨he, hb⟩ => ?_
  subst he
  exact ⟨_, rfl, law_post laid (of_decide_eq_true (by kernel_rfl)) rfl Tryz.underlying4 rfl hW' rfl hb⟩
theorem inPlace_ : (Rows.sorterSortsRow.inPlace == Tryz.prog.inPlace 7) = true := by kernel_rfl
theorem unfollowed_ : (Rows.sorterSortsRow.unfollowed == Tryz.prog.unfollowed 7) = true := by kernel_rfl
theorem recurses_ : (Rows.sorterSortsRow.recurses == Tryz.prog.recurses 7) = true := by kernel_rfl
theorem named_ : (Rows.sorterSortsRow.named == Tryz.prog.varsNamed 7) = true := by kernel_rfl
theorem rowed : mapsRowed Tryz.prog = true := by kernel_rfl
theorem closed : joinedFacts Tryz.prog 7 Tryz.f7 Rows.sorterSortsSpec Rows.sorterSortsRow = true := by
  unfold joinedFacts
  rw [laid, rowed, inPlace_, unfollowed_, recurses_, named_]
  kernel_rfl
theorem proved : Rows.SorterSortsSaid :=
  OpenClaim.holds_of_wide 7 Tryz.f7 rfl rfl rfl rfl rfl rfl rfl ⟨rfl, rfl, rfl, rfl, rfl⟩ rfl rfl rfl rfl rfl (by kernel_rfl) Tryz.func7 closed
    (of_decide_eq_true (by kernel_rfl)) (by unfold Func.isWrapper; first|(rw [if_pos (by decide +kernel)]; kernel_rfl)|(rw [if_neg (by decide +kernel)]; exact ⟨rfl, rfl⟩))
    (fun os started H enc _ => lifted os started H enc)
end Go.Proofs.YtkifhflakdkemaaGreat.sorterSorts
