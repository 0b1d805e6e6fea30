/- the law SlotsList, proved: without faults slots are a list: each Get tells what was laid there last, and no slot changes another one. Condition: the argument is of a bulk of at most 1048576 (the Upto form). -/
import Derived.Test.YtkifhflakdkemaaGreatLawSlotsListM0
import Derived.Test.YtkifhflakdkemaaGreatLawSlotsListM1
import Derived.Test.YtkifhflakdkemaaGreatLawSlotsListM2
import Derived.Test.YtkifhflakdkemaaGreatLawSlotsListM3
import Derived.Deep.CondSized
import Derived.Test.YtkifhflakdkemaaGreatRows
import Derived.SizedLaws
import Derived.Carry
set_option linter.unusedVariables false
namespace Go.Proofs.YtkifhflakdkemaaGreat.slotsList
open Go Go.ChangeShapes Go.WideShapes Go.ChangeAt Go.RowKit Go.Sl
attribute [local irreducible] cl pt Sl.own old den denOps denS Calls PV Con
theorem own : ownKnob Tryz.prog.godebug = none := by kernel_rfl
theorem laid : laidOutB Tryz.prog = true := by kernel_rfl
set_option maxRecDepth 100000 in
theorem lifted (os : Os) (started : os.Started) (H : Type) (enc : TypeId × Value → H) (F : Stop.Interp) :
    ReturnsInHanded {} Tryz.checked os 5 .any ((Rows.OpenSpec.upto Rows.slotsListSpec).pre6 enc Tryz.prog Tryz.f5 Rows.slotsListUptoRow.domain false) (((Rows.OpenSpec.upto Rows.slotsListSpec).at F).post enc Tryz.prog Tryz.f5 false true false false) := by
  refine returnsInHanded_of_cond_sized (C := Tryz.checked) (s := Rows.OpenSpec.upto Rows.slotsListSpec) (k := Rows.uptoSmall) rfl own started (by kernel_rfl) Tryz.func5
    (OpenSpec.witness (enc := enc) (C := Tryz.checked) (s := Rows.OpenSpec.upto Rows.slotsListSpec) (k := Rows.uptoSmall) rfl false ⟨#[], #[.agg #[.int .i64 0, .int .i64 0, .int .i64 0, .int .u8 0, .int .u8 0, .int .u8 0, .int .u8 0, .int .u8 0, .int .u8 0, .int .u8 0, .int .u8 0, .int .u8 0, .int .u8 0, .int .u8 0, .int .u8 0, .int .u8 0, .int .u8 0, .int .u8 0, .int .u8 0, .int .u8 0, .int .u8 0, .int .u8 0, .int .u8 0, .int .u8 0, .int .u8 0, .int .u8 0, .int .u8 0, .int .u8 0, .int .u8 0, .int .u8 0, .int .u8 0, .int .u8 0, .int .u8 0, .int .u8 0, .int .u8 0, .int .u64 0, .slice none 0 0, .int .i64 0, .int .i64 0, .int .i64 0, .int .i64 0, .int .i64 0, .int .i64 0, .slice none 0 0]], []⟩ 8 (by kernel_rfl) (by kernel_rfl) (by kernel_rfl)
      (x := ([.agg [.lit (.int .i64 0), .lit (.int .i64 0), .lit (.int .i64 0), .agg (List.replicate 32 (.lit (.int .u8 0))), .lit (.int .u64 0), .nil, .agg (List.replicate 2 (.lit (.int .i64 0))), .agg (List.replicate 2 (.lit (.int .i64 0))), .agg (List.replicate 2 (.lit (.int .i64 0))), .nil]], [], [])) (by kernel_rfl) rfl (by kernel_rfl)) ?_
  intro W base args ds gs before hval0 hW hcnd hkb hsz0 _
  have hW' := hW
  obtain ⟨p, q, hA0, hV, rfl, hfz, hnd⟩ := hW
  have hA : DataW.TrodAll enc Tryz.prog W 0 (fun _ => true) true Tryz.f5.params.toList args.toList ds p := hA0
  rw [Tryz.params5] at hA
  have hval : ∀ (j : Nat) t v, Tryz.f5.params[j]? = some t → args[j]? = some v → Value.okWide Tryz.prog W .any base t v := hval0
  rw [Tryz.params5] at hval
  obtain ⟨v0, d0, rfl, rfl, h0⟩ := trodAll_one hA
  obtain ⟨rfl, rfl⟩ := trodVars_none hV
  have hsm0 : Small Tryz.prog 62 d0 := by
    intro n hn
    have := List.all_eq_true.1 hsz0 n (DataW.weights_mem_each (j := 0) (by rw [Tryz.params5]; rfl) rfl n hn)
    exact of_decide_eq_true this
  obtain ⟨cs0, rfl, _⟩ := okWide_struct Tryz.underlying62 (hval 0 62 v0 rfl rfl)
  obtain ⟨fuel0, hf0⟩ := h0
  obtain ⟨x0, hx0, ok0⟩ := open_WorldV hf0 hsm0
  obtain rfl : cs0 = x0.cells.toArray := by
    have : cs0.toList = x0.cells := hx0
    rw [← this]
  have hkb2 : Rows.uptoBulkAll ([d0] ++ []) ≤ 1048576 := of_decide_eq_true hkb
  simp only [List.append_nil, Rows.uptoBulkAll] at hkb2
  have hb0 := bulk_world hf0 hx0 ok0
  dsimp only at hb0
  refine (con_law (list_w W x0 ok0 (by omega))).mono fun e W' ⟨he, hb⟩ => ?_
  subst he
  exact ⟨_, rfl, law_post laid (of_decide_eq_true (by kernel_rfl)) rfl Tryz.underlying4 rfl hW' rfl hb⟩
theorem inPlace_ : (Rows.slotsListUptoRow.inPlace == Tryz.prog.inPlace 5) = true := by kernel_rfl
theorem unfollowed_ : (Rows.slotsListUptoRow.unfollowed == Tryz.prog.unfollowed 5) = true := by kernel_rfl
theorem recurses_ : (Rows.slotsListUptoRow.recurses == Tryz.prog.recurses 5) = true := by kernel_rfl
theorem named_ : (Rows.slotsListUptoRow.named == Tryz.prog.varsNamed 5) = true := by kernel_rfl
theorem rowed : mapsRowed Tryz.prog = true := by kernel_rfl
theorem closed : joinedFacts Tryz.prog 5 Tryz.f5 (Rows.OpenSpec.upto Rows.slotsListSpec).bare Rows.slotsListUptoRow = true := by
  unfold joinedFacts
  rw [laid, rowed, inPlace_, unfollowed_, recurses_, named_]
  kernel_rfl
theorem proved : Rows.SlotsListUptoSaid :=
  OpenClaim.holds_of_cond 5 Tryz.f5 rfl rfl rfl rfl rfl rfl rfl ⟨rfl, rfl, rfl, rfl, rfl⟩ rfl rfl rfl rfl rfl (by kernel_rfl) Tryz.func5 closed
    (of_decide_eq_true (by kernel_rfl)) (by unfold Func.isWrapper; first|(rw [if_pos (by decide +kernel)]; kernel_rfl)|(rw [if_neg (by decide +kernel)]; exact ⟨rfl, rfl⟩))
    (fun os started H enc _ F => lifted os started H enc F)
end Go.Proofs.YtkifhflakdkemaaGreat.slotsList
