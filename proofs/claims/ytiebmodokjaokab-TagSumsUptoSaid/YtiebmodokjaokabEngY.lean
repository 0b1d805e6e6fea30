/- the bridge from a contract to a row. -/
import Derived.Test.YtiebmodokjaokabEngW
import Derived.Test.YtiebmodokjaokabEngP
import Derived.Test.YtiebmodokjaokabEngQ
namespace Go.Sl
open Go Go.ChangeShapes Go.WideShapes Go.ChangeAt Go.RowKit
theorem con_law {P : Program} {f : FuncId} {args : List Value} {W : World} (h : Con P f args [old W] (fun v M => v = .bool true ∧ [old W] = M)) : Calls P f args.toArray W (fun e w' => e = .returned (.bool true) ∧ Below W.heap.size W w') := by
  have H : St W W (pur True :: [old W]) := (St.start W).pur_mk trivial
  refine (h W _ W H).mono ?_
  rintro e w' ⟨v, he, M', H', hv, rfl⟩
  exact ⟨by rw [he, hv], H'.below (.there .here)⟩
/-- A contract that needs nothing, among whatever pieces. -/
theorem Con.frame {P : Program} {F : FuncId} {args : List Value} {M L : List Asrt} {Φ : Value → List Asrt → Prop} (h : Con P F args M Φ) : Con P F args (M ++ L) (fun v N => ∃ M', Φ v M' ∧ M' ++ L = N) := by
  intro w0 Fr w H
  have H2 : St w0 w (all (Fr :: L) :: M) := by
    refine H.ent ((Imp.cons Imp.comm).trans ?_)
    exact Imp.app (L := Fr :: L) (M := M)
  refine (h w0 _ w H2).mono (Ret.mono ?_)
  rintro v w' ⟨M', H', hφ⟩
  exact ⟨M' ++ L, H'.ent (Imp.unapp.trans (Imp.cons Imp.comm)), M', hφ, rfl⟩
end Go.Sl
