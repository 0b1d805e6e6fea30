/- Parts of the proof, joined: EngU, EngV, EngW, EngY, EngZ, EngAc, Ty, TyB, RefA, RefB, EngK, EngL, SrtA, SrtL, EngX, EngJ, EngAe, SrtB, EngAd, EngAa, EngAb, OctN, PgrA. -/
import Derived.Test.YthodgeekgpkieaaGreatLawPagerKeepsM0
import Derived.Laws.Bits64
import Derived.Laws.BitsLemmas
import Derived.Laws.BitsAllLaws
import Derived.OpenShut
import Derived.Test.YthodgeekgpkieaaGreatProg
import Derived.Test.YthodgeekgpkieaaGreatRows
import Derived.RangeFuncBox
import Derived.RangeFuncLeaves
import Derived.Shelf.Abstract
import Derived.WalkKit
import Derived.OwnWalkIn
import Derived.TacticsInMore
import Derived.LoopNIn
import Derived.LoopIn
import Derived.Maps.AppendAt
import Derived.Shelf.SlIterI.Sorted
import Derived.Shelf.SortM.Plain
import Derived.Shelf.SortM.SortNone
import Derived.Ground.SlgmProg
import Derived.Test.YthodgeekgpkieaaGreatChecked
import Derived.Below
import Derived.Stop.Asserts
import Derived.Stop.IfaceNil
import Derived.Lib.IfaceEq
import Derived.Laws.Externs
/- The engine over pieces alone: regions whose order is drawn. What only reads comes as soon as it may, what makes a block of its own as late as it may; of what does more, one at a time, or both orders. -/
set_option linter.unusedVariables false
set_option linter.unusedSimpArgs false
namespace Go.Sl
open Go

inductive Ord
  | nil
  | q (i : Nat) (r : Ord)
  | r (i : Nat) (r : Ord)
  | e (i : Nat) (n : Bool) (r : Ord)
  | a (i : Nat) (r : Ord)
  | alt (x y : Ord)

section
variable {P : Program} {ops : Array Oper} {w0 : World} {F0 : Asrt} {SM : List Asrt} {KW : Env → World → Prop}
def SMw (w0 : World) (SM : List Asrt) (w : World) : Prop := ∃ F, St w0 w (F :: SM)
def CX (P : Program) (w0 : World) (F0 : Asrt) (ops : Array Oper) (SM : List Asrt) (KW : Env → World → Prop) : Ord → Env → List Asrt → Prop
  | .nil, ρ, M => ∀ w, St w0 w (F0 :: M) → KW ρ w
  | .q i r, ρ, M => ∃ o v, ops[i]? = some o ∧ YS P ops (fun _ => True) o ρ v ∧ CX P w0 F0 ops SM KW r (put ρ o.dst v) M
  | .r i r, ρ, M => ∃ o v, ops[i]? = some o ∧ YS P ops (SMw w0 SM) o ρ v ∧ CX P w0 F0 ops SM KW r (put ρ o.dst v) M
  | .e i n r, ρ, M => ∃ o, ops[i]? = some o ∧ ∀ F w, St w0 w (F :: M) → denI P ops o ρ w (fun ρ' w' => ∃ M', St w0 w' (F :: M') ∧ (n = true → Imp M' SM) ∧ CX P w0 F0 ops SM KW r ρ' M')
  | .a i r, ρ, M => ∃ d T ty pos z, ops[i]? = some ⟨some d, .alloc T, ty, pos, #[], none⟩ ∧ (∃ n by', TyI P T n by' z) ∧ ∀ b, CX P w0 F0 ops SM KW r (put ρ (some d) (.pointer (some ⟨b, 0, none⟩))) (cl b z.cells T :: M)
  | .alt x y, ρ, M => CX P w0 F0 ops SM KW x ρ M ∧ CX P w0 F0 ops SM KW y ρ M

theorem CX_mono : ∀ (r : Ord) {ρ : Env} {M N : List Asrt}, Imp N M → CX P w0 F0 ops SM KW r ρ M → CX P w0 F0 ops SM KW r ρ N
  | .nil, ρ, M, N, hi, h => fun w H => h w (H.enx hi)
  | .q i r, ρ, M, N, hi, h => by obtain ⟨o, v, h1, h2, h3⟩ := h; exact ⟨o, v, h1, h2, CX_mono r hi h3⟩
  | .r i r, ρ, M, N, hi, h => by obtain ⟨o, v, h1, h2, h3⟩ := h; exact ⟨o, v, h1, h2, CX_mono r hi h3⟩
  | .e i n r, ρ, M, N, hi, h => by obtain ⟨o, h1, h2⟩ := h; exact ⟨o, h1, fun F w H => h2 F w (H.enx hi)⟩
  | .a i r, ρ, M, N, hi, h => by obtain ⟨d, T, ty, pos, z, h1, h2, h3⟩ := h; exact ⟨d, T, ty, pos, z, h1, h2, fun b => CX_mono r hi.cons (h3 b)⟩
  | .alt x y, ρ, M, N, hi, h => ⟨CX_mono x hi h.1, CX_mono y hi h.2⟩

theorem denI_apart' {o : Oper} {ρ : Env} {w : World} {d : Option Nat} {v : Value} {X : Env → World → Prop} (hs : ∀ cs b, o.op ≠ .select cs b) (h1 : ∀ k, d = some k → k ∉ o.looksAt ops) (h2 : ∀ k, d = some k → o.dst ≠ some k)
    (h : denI P ops o ρ w (fun ρ' w' => X (put ρ' d v) w')) : denI P ops o (put ρ d v) w X := by
  unfold denI at *
  rw [wanted_apart h1]
  split
  · rename_i hw
    rw [if_pos hw] at h
    unfold opW at *
    rw [exec_apart hs h1]
    cases hr : (execOp (ev ρ) o).run P w with
    | halt x w' => rw [hr] at h; exact h.elim
    | ok x w' =>
      rw [hr] at h
      cases x <;> simp only [After] at h ⊢ <;> first
        | (rw [put_comm h2]; exact h)
        | (refine Calls.mono h (Ret.mono fun u w'' hq => ?_)
           rw [put_comm h2]; exact hq)
        | exact h.elim
  · rename_i hw
    rw [if_neg hw] at h
    rw [put_comm h2]; exact h

theorem YS.apart' {S : World → Prop} {o : Oper} {ρ : Env} {v u : Value} {d : Option Nat} (hs : ∀ cs b, o.op ≠ .select cs b) (h1 : ∀ k, d = some k → k ∉ o.looksAt ops) (h : YS P ops S o ρ v) : YS P ops S o (put ρ d u) v := by
  unfold YS at *
  rw [wanted_apart h1, exec_apart hs h1]
  exact h
theorem TyI.zero_eq {T n n' by' by2 : Nat} {z z' : Value} (h : TyI P T n by' z) (h' : TyI P T n' by2 z') : z = z' := by
  obtain ⟨i, hi, _, _, hz⟩ := h.out
  obtain ⟨j, hj, _, _, hz'⟩ := h'.out
  rw [hi] at hj; cases hj
  rw [hz] at hz'; cases hz'; rfl

def del (a : Nat) : Ord → Ord
  | .nil => .nil
  | .q i r => .q i (del a r)
  | .r i r => .r i (del a r)
  | .e i n r => .e i n (del a r)
  | .a i r => bif Nat.beq i a then r else .a i (del a r)
  | .alt x y => .alt (del a x) (del a y)
/-- Nothing ahead of the making of a looks at its slot d, or writes it. -/
def apO (ops : Array Oper) (d i : Nat) : Bool := match ops[i]? with
  | some o => noSel o && !((o.looksAt ops).contains d) && (o.dst != some d)
  | none => false
def apA (ops : Array Oper) (d a : Nat) : Ord → Bool
  | .nil => false
  | .q i r => apO ops d i && apA ops d a r
  | .r i r => apO ops d i && apA ops d a r
  | .e i _ r => apO ops d i && apA ops d a r
  | .a i r => bif Nat.beq i a then true else (apO ops d i && apA ops d a r)
  | .alt x y => apA ops d a x && apA ops d a y
theorem apO_spec {d i : Nat} {o : Oper} (ho : ops[i]? = some o) (h : apO ops d i = true) : (∀ cs b, o.op ≠ .select cs b) ∧ (∀ k, some d = some k → k ∉ o.looksAt ops) ∧ (∀ k, some d = some k → o.dst ≠ some k) := by
  unfold apO at h
  rw [ho] at h
  simp only [Bool.and_eq_true, Bool.not_eq_true', bne_iff_ne, ne_eq] at h
  refine ⟨noSel_spec h.1.1, fun k hk => ?_, fun k hk => ?_⟩
  · cases hk; have := h.1.2; simpa using this
  · cases hk; exact h.2
theorem early {a d T : Nat} {ty : TypeId} {pos : String} {z : Value} {n by' : Nat} (ho : ops[a]? = some ⟨some d, .alloc T, ty, pos, #[], none⟩) (hz : TyI P T n by' z) (b : Nat) : ∀ (r : Ord) {ρ : Env} {M : List Asrt}, apA ops d a r = true →
    CX P w0 F0 ops SM KW r ρ M → CX P w0 F0 ops SM KW (del a r) (put ρ (some d) (.pointer (some ⟨b, 0, none⟩))) (cl b z.cells T :: M)
  | .nil, ρ, M, ha, h => by simp [apA] at ha
  | .q i r, ρ, M, ha, h => by
    simp only [apA, Bool.and_eq_true] at ha
    obtain ⟨o, v, h1, h2, h3⟩ := h
    obtain ⟨s1, s2, s3⟩ := apO_spec h1 ha.1
    refine ⟨o, v, h1, h2.apart' s1 s2, ?_⟩
    rw [put_comm s3]
    exact early ho hz b r ha.2 h3
  | .r i r, ρ, M, ha, h => by
    simp only [apA, Bool.and_eq_true] at ha
    obtain ⟨o, v, h1, h2, h3⟩ := h
    obtain ⟨s1, s2, s3⟩ := apO_spec h1 ha.1
    refine ⟨o, v, h1, h2.apart' s1 s2, ?_⟩
    rw [put_comm s3]
    exact early ho hz b r ha.2 h3
  | .e i m r, ρ, M, ha, h => by
    simp only [apA, Bool.and_eq_true] at ha
    obtain ⟨o, h1, h2⟩ := h
    obtain ⟨s1, s2, s3⟩ := apO_spec h1 ha.1
    refine ⟨o, h1, fun F w H => denI_apart' s1 s2 s3 ?_⟩
    have H2 : St w0 w (all [F, cl b z.cells T] :: M) := H.ent (Imp.app (L := [F, cl b z.cells T]))
    refine denI_mono ?_ (h2 _ w H2)
    rintro v w' ⟨M', H', hn, hk⟩
    exact ⟨cl b z.cells T :: M', H'.ent Imp.unapp, fun e => Imp.tail.trans (hn e), early ho hz b r ha.2 hk⟩
  | .a i r, ρ, M, ha, h => by
    obtain ⟨d', T', ty', pos', z', h1, h2, h3⟩ := h
    simp only [apA, del] at ha ⊢
    cases hia : Nat.beq i a with
    | true =>
      have e := Nat.eq_of_beq_eq_true hia
      subst e
      rw [ho] at h1
      cases h1
      obtain ⟨n', by2, hz'⟩ := h2
      have e := hz.zero_eq hz'
      subst e
      exact h3 b
    | false =>
      rw [hia] at ha
      simp only [cond_false, Bool.and_eq_true] at ha ⊢
      obtain ⟨s1, s2, s3⟩ := apO_spec h1 ha.1
      refine ⟨d', T', ty', pos', z', h1, h2, fun b' => ?_⟩
      have s3' : ∀ k, some d = some k → some d' ≠ some k := s3
      rw [put_comm s3']
      exact CX_mono _ Imp.swap (early ho hz b r ha.2 (h3 b'))
  | .alt x y, ρ, M, ha, h => by
    simp only [apA, Bool.and_eq_true] at ha
    exact ⟨early ho hz b x ha.1 h.1, early ho hz b y ha.2 h.2⟩

/-- i may be taken now: all that could come ahead of it leaves its slots alone. -/
def takeP (ops : Array Oper) (bef : Array Nat) (listed : Array Bool) (i : Nat) : Bool :=
  (List.range ops.size).all fun j => listed.getD j true || j == i || (bef.getD j 0).testBit i ||
    ((match ops[i]?, ops[j]? with|some oi, some oj => noSel oi && noSel oj && oi.apart ops oj|_, _ => false))
theorem takeP_set {bef : Array Nat} {listed : Array Bool} {i j : Nat} (h : takeP ops bef listed i = true) : takeP ops bef (listed.setIfInBounds j true) i = true := by
  refine List.all_eq_true.2 fun k hk => ?_
  have := List.all_eq_true.1 h k hk
  simp only [Bool.or_eq_true] at this ⊢
  rw [getD_set]
  split
  · exact .inl (.inl (.inl rfl))
  · exact this
variable {S : World → Prop} {need : Nat → Bool} {K : Env → World → Prop}
theorem denN_takeP {bef : Array Nat} (hb : befOk ops bef = true) {i : Nat} {o : Oper} {v : Value} (ho : ops[i]? = some o) : ∀ (f : Nat) (listed : Array Bool) (ρ : Env) (w : World), listed.size = ops.size → closed ops bef listed →
    i ∈ Region.ready .any ops listed → takeP ops bef listed i = true → (need i = true → ∀ w, S w) ∨ need i = false → YS P ops (fun _ => True) o ρ v → denN P ops S need f (listed.setIfInBounds i true) (put ρ o.dst v) w K → denN P ops S need (f + 1) listed ρ w K := by
  intro f
  induction f with
  | zero =>
    intro listed ρ w hsz hc hi ht hnd hy h
    refine ⟨fun e => (by rw [e] at hi; cases hi), fun j hj oj hoj => ?_⟩
    by_cases hji : j = i
    · subst hji
      rw [ho] at hoj; cases hoj
      have hS : need j = true → S w := fun e => by
        rcases hnd with h|h
        · exact h e w
        · rw [h] at e; cases e
      unfold denI
      cases hw : Region.wanted o (yl ops ρ) with
      | true =>
        rw [if_pos rfl]; unfold opW
        rw [hy.1 hw w trivial]
        exact ⟨hS, h⟩
      | false =>
        rw [if_neg (by simp)]
        rw [← hy.2 hw]
        exact ⟨hS, h⟩
    · have := ready_set (i := j) (j := i) hj (fun e => hji e.symm)
      rw [h.1] at this; cases this
  | succ f ih =>
    intro listed ρ w hsz hc hi ht hnd hy h
    refine ⟨fun e => (by rw [e] at hi; cases hi), fun j hj oj hoj => ?_⟩
    by_cases hji : j = i
    · subst hji
      rw [ho] at hoj; cases hoj
      have hS : need j = true → S w := fun e => by
        rcases hnd with h|h
        · exact h e w
        · rw [h] at e; cases e
      unfold denI
      cases hw : Region.wanted o (yl ops ρ) with
      | true =>
        rw [if_pos rfl]; unfold opW
        rw [hy.1 hw w trivial]
        exact ⟨hS, h⟩
      | false =>
        rw [if_neg (by simp)]
        rw [← hy.2 hw]
        exact ⟨hS, h⟩
    · have hjr := ready_spec hj
      have hir := ready_spec hi
      have htj := List.all_eq_true.1 ht j (by simpa using hjr.1)
      have hbj := closed_ready hsz hb hc hj hir.1 hir.2.1
      rw [hjr.2.1, hbj, ho, hoj] at htj
      simp only [Bool.false_or, Bool.or_eq_true, beq_iff_eq, hji, false_or, Bool.and_eq_true, Bool.false_eq_true, or_false] at htj
      obtain ⟨⟨hsi, hsj⟩, hap⟩ := htj
      have hap := Oper.apart_spec hap
      have hh := h.2 j (ready_set hj (fun e => hji e.symm)) oj hoj
      refine denI_mono ?_ (denI_apart (noSel_spec hsj) hap.1 hap.2.1 hh)
      intro u w' ⟨hSw, hk⟩
      refine ⟨hSw, ?_⟩
      refine ih (listed.setIfInBounds j true) (put ρ oj.dst u) w' (by simpa using hsz) (closed_set hsz hb hc hj) (ready_set hi hji) (takeP_set ht) hnd (hy.apart (noSel_spec hsi) hap.2.2) ?_
      rw [Array.setIfInBounds_comm _ _ hji]
      exact hk

def isFl (ops : Array Oper) (j : Nat) : Option Nat := match ops[j]? with
  | some ⟨some d, .alloc _, _, _, after, none⟩ => if after.size = 0 then some d else none
  | _ => none
def heads : Ord → List Nat
  | .e i _ _ => [i]
  | .a i _ => [i]
  | .alt x y => heads x ++ heads y
  | _ => []
def brs (ops : Array Oper) (nd : List Nat) (ck : Bool → Ord → Array Bool → Bool) (s : Bool) : Ord → Array Bool → Bool
  | .e i n r, listed => (nd.contains i == n) && ck n r (listed.setIfInBounds i true)
  | .a i r, listed => (isFl ops i).isSome && (!nd.contains i || s) && ck s r (listed.setIfInBounds i true)
  | .alt x y, listed => brs ops nd ck s x listed && brs ops nd ck s y listed
  | _, _ => false
/-- The order serves: nd tells behind which operations S holds, s whether it holds now. -/
def chkX (ops : Array Oper) (bef : Array Nat) (nd : List Nat) : Nat → Bool → Ord → Array Bool → Bool
  | 0, _, .nil, listed => (Region.ready .any ops listed).isEmpty
  | 0, _, _, _ => false
  | _ + 1, _, .nil, _ => false
  | f + 1, s, .q i r, listed => (Region.ready .any ops listed).contains i && takeP ops bef listed i && !nd.contains i && chkX ops bef nd f s r (listed.setIfInBounds i true)
  | f + 1, s, .r i r, listed => (Region.ready .any ops listed).contains i && s && takeOk ops bef nd.contains listed i && chkX ops bef nd f s r (listed.setIfInBounds i true)
  | f + 1, s, o, listed =>
    ((Region.ready .any ops listed).all fun j => (heads o).contains j || (match isFl ops j with
        | some d => apA ops d j o && (!nd.contains j || s) && chkX ops bef nd f s (del j o) (listed.setIfInBounds j true)
        | none => false)) &&
      !(Region.ready .any ops listed).isEmpty && brs ops nd (chkX ops bef nd f) s o listed
theorem isFl_spec {j d : Nat} (h : isFl ops j = some d) : ∃ T ty pos, ops[j]? = some ⟨some d, .alloc T, ty, pos, #[], none⟩ := by
  unfold isFl at h
  split at h
  · rename_i d' T ty pos after ho
    split at h
    · rename_i hz
      cases h
      have : after = #[] := Array.eq_empty_of_size_eq_zero hz
      subst this
      exact ⟨T, ty, pos, ho⟩
    · cases h
  · cases h
theorem brs_head {nd : List Nat} {ck : Bool → Ord → Array Bool → Bool} {s : Bool} {listed : Array Bool} {j : Nat} : ∀ (r : Ord) {ρ : Env} {M : List Asrt}, brs ops nd ck s r listed = true → (heads r).contains j = true → CX P w0 F0 ops SM KW r ρ M →
    (∃ n r', (nd.contains j == n) = true ∧ ck n r' (listed.setIfInBounds j true) = true ∧ CX P w0 F0 ops SM KW (.e j n r') ρ M) ∨
    (∃ r', (isFl ops j).isSome = true ∧ (!nd.contains j || s) = true ∧ ck s r' (listed.setIfInBounds j true) = true ∧ CX P w0 F0 ops SM KW (.a j r') ρ M)
  | .nil, ρ, M, hb, hj, h => by simp [heads] at hj
  | .q i r, ρ, M, hb, hj, h => by simp [heads] at hj
  | .r i r, ρ, M, hb, hj, h => by simp [heads] at hj
  | .e i n r, ρ, M, hb, hj, h => by
    simp only [heads, List.contains_cons, List.contains_nil, Bool.or_false, beq_iff_eq] at hj
    subst hj
    simp only [brs, Bool.and_eq_true] at hb
    exact .inl ⟨n, r, hb.1, hb.2, h⟩
  | .a i r, ρ, M, hb, hj, h => by
    simp only [heads, List.contains_cons, List.contains_nil, Bool.or_false, beq_iff_eq] at hj
    subst hj
    simp only [brs, Bool.and_eq_true] at hb
    exact .inr ⟨r, hb.1.1, hb.1.2, hb.2, h⟩
  | .alt x y, ρ, M, hb, hj, h => by
    simp only [brs, Bool.and_eq_true] at hb
    simp only [heads, List.contains_eq_mem, List.mem_append, decide_eq_true_eq] at hj
    rcases hj with hj|hj
    · exact brs_head x hb.1 (by simpa using hj) h.1
    · exact brs_head y hb.2 (by simpa using hj) h.2
theorem alloc_den {T d : Nat} {ty : TypeId} {pos : String} {z : Value} {n by' : Nat} {ρ : Env} {w : World} {L : List Asrt} {K : Env → World → Prop} (hz : TyI P T n by' z) (H : St w0 w L)
    (k : ∀ w' b, St w0 w' (cl b z.cells T :: L) → K (put ρ (some d) (.pointer (some ⟨b, 0, none⟩))) w') : denI P ops ⟨some d, .alloc T, ty, pos, #[], none⟩ ρ w K := by
  have h : denOps P ops [⟨some d, .alloc T, ty, pos, #[], none⟩] ρ w K := Zdi (hi := hz) H (fun w' b H' => Zcx (k w' b H'))
  exact h
/-- All blocks that a region makes for itself have a type with a zero. -/
def zOk (P : Program) (ops : Array Oper) : Prop := ∀ (j d : Nat), isFl ops j = some d → ∀ T ty pos, ops[j]? = some ⟨some d, .alloc T, ty, pos, #[], none⟩ → ∃ n by' z, TyI P T n by' z
theorem CX_sound {bef : Array Nat} {nd : List Nat} (hb : befOk ops bef = true) (hz : zOk P ops) : ∀ (f : Nat) (s : Bool) (r : Ord) (listed : Array Bool) (ρ : Env) (w : World) (M : List Asrt), listed.size = ops.size → closed ops bef listed →
    chkX ops bef nd f s r listed = true → (s = true → Imp M SM) → St w0 w (F0 :: M) → CX P w0 F0 ops SM KW r ρ M → denN P ops (SMw w0 SM) nd.contains f listed ρ w KW := by
  intro f
  induction f with
  | zero =>
    intro s r listed ρ w M hsz hcl hc hs H h
    cases r <;> simp only [chkX, Bool.false_eq_true] at hc
    exact ⟨by simpa using hc, h w H⟩
  | succ f ih =>
    intro s r listed ρ w M hsz hcl hc hs H h
    have key : ∀ o : Ord, (((Region.ready .any ops listed).all fun j => (heads o).contains j || (match isFl ops j with
        | some d => apA ops d j o && (!nd.contains j || s) && chkX ops bef nd f s (del j o) (listed.setIfInBounds j true)
        | none => false)) &&
      !(Region.ready .any ops listed).isEmpty && brs ops nd (chkX ops bef nd f) s o listed) = true → CX P w0 F0 ops SM KW o ρ M → denN P ops (SMw w0 SM) nd.contains (f + 1) listed ρ w KW := by
      intro o hc h
      simp only [Bool.and_eq_true] at hc
      obtain ⟨⟨hall, hne⟩, hbr⟩ := hc
      refine ⟨fun e => (by rw [e] at hne; simp at hne), fun j hj oj hoj => ?_⟩
      have hcl' := closed_set hsz hb hcl hj
      have hsz' : (listed.setIfInBounds j true).size = ops.size := by simpa using hsz
      have hjc := List.all_eq_true.1 hall j hj
      by_cases hh : (heads o).contains j = true
      · rcases brs_head o hbr hh h with ⟨n, r', h1, h2, o', h3, h4⟩|⟨r', h1, h2, h3, d, T, ty, pos, z, h4, ⟨n', by', h5⟩, h6⟩
        · rw [hoj] at h3; cases h3
          refine denI_mono ?_ (h4 F0 w H)
          rintro u w' ⟨M', H', hn, hk⟩
          refine ⟨fun e => ⟨F0, H'.enx (hn ?_)⟩, ih n r' _ _ _ M' hsz' hcl' h2 hn H' hk⟩
          have := eq_of_beq h1
          rw [← this]; exact e
        · rw [hoj] at h4; cases h4
          refine alloc_den h5 H ?_
          intro w' b H'
          have H2 := H'.swap
          have hs' : s = true → Imp (cl b z.cells T :: M) SM := fun e => Imp.tail.trans (hs e)
          refine ⟨fun e => ⟨F0, H2.enx (hs' ?_)⟩, ih s r' _ _ _ _ hsz' hcl' h3 hs' H2 (h6 b)⟩
          rw [e] at h2; simpa using h2
      · rw [Bool.or_eq_true] at hjc
        rcases hjc with hjc|hjc
        · exact absurd hjc hh
        · split at hjc
          · rename_i d hd
            obtain ⟨T, ty, pos, ho⟩ := isFl_spec hd
            rw [hoj] at ho; cases ho
            simp only [Bool.and_eq_true] at hjc
            obtain ⟨⟨ha, hnd⟩, hck⟩ := hjc
            obtain ⟨n', by', z, h5⟩ := hz j d hd T ty pos hoj
            refine alloc_den h5 H ?_
            intro w' b H'
            have H2 := H'.swap
            have hs' : s = true → Imp (cl b z.cells T :: M) SM := fun e => Imp.tail.trans (hs e)
            refine ⟨fun e => ⟨F0, H2.enx (hs' ?_)⟩, ih s (del j o) _ _ _ _ hsz' hcl' hck hs' H2 (early hoj h5 b o ha h)⟩
            rw [e] at hnd; simpa using hnd
          · cases hjc
    cases r with
    | nil => simp [chkX] at hc
    | q i r =>
      simp only [chkX, Bool.and_eq_true, List.contains_iff_mem] at hc
      obtain ⟨⟨⟨hi, ht⟩, hn⟩, hr⟩ := hc
      obtain ⟨o, v, ho, hy, h⟩ := h
      exact denN_takeP hb ho f listed ρ w hsz hcl hi ht (.inr (by simpa using hn)) hy (ih s r _ _ w M (by simpa using hsz) (closed_set hsz hb hcl hi) hr hs H h)
    | r i r =>
      simp only [chkX, Bool.and_eq_true, List.contains_iff_mem] at hc
      obtain ⟨⟨⟨hi, hsT⟩, ht⟩, hr⟩ := hc
      obtain ⟨o, v, ho, hy, h⟩ := h
      exact denN_take hb ho f listed ρ w hsz hcl hi ht hy ⟨F0, H.enx (hs hsT)⟩ (ih s r _ _ w M (by simpa using hsz) (closed_set hsz hb hcl hi) hr hs H h)
    | e i n r => exact key _ (by simpa only [chkX] using hc) h
    | a i r => exact key _ (by simpa only [chkX] using hc) h
    | alt x y => exact key _ (by simpa only [chkX] using hc) h

def drawX (ops : Array Oper) (nd : List Nat) (r : Ord) : Bool :=
  befOk ops (Region.before ops) && chkX ops (Region.before ops) nd ops.size true r (Array.replicate ops.size false)
/-- A region whose order is drawn, along one order, or some. -/
def cX (P : Program) (w0 : World) (ops : Array Oper) (SM : List Asrt) (r : Ord) (ρ : Env) (M : List Asrt) (K : XK) : Prop :=
  ∀ F0, CX P w0 F0 ops SM (fun ρ' w' => ∃ M', St w0 w' (F0 :: M') ∧ K ρ' M') r ρ M
def zOkB (P : Program) (ops : Array Oper) : Bool := (List.range ops.size).all fun j => match ops[j]? with
  | some ⟨some _, .alloc T, _, _, _, none⟩ => match P.info? T with
    | some i => match i.zero with
      | some z => z.cells.size == i.size
      | none => false
    | none => false
  | _ => true
theorem zOk_of (h : zOkB P ops = true) : zOk P ops := by
  intro j d hj T ty pos ho
  have hlt : j < ops.size := (Array.getElem?_eq_some_iff.1 ho).1
  have := List.all_eq_true.1 h j (by simpa using hlt)
  rw [ho] at this
  simp only [] at this
  cases hi : P.info? T with
  | none => rw [hi] at this; cases this
  | some i =>
    rw [hi] at this
    simp only [] at this
    cases hz : i.zero with
    | none => rw [hz] at this; cases this
    | some z =>
      rw [hz] at this
      exact ⟨i.size, i.bytes, z, by rw [hi]; simp [hz], by simpa using this⟩
theorem Zij {id : Nat} {ρ : Env} {M : List Asrt} {Q : XQ} (SM : List Asrt) (nd : List Nat) (r : Ord) (hz : zOkB P ops = true) (hchk : drawX ops nd r = true) (hS : Imp M SM) (h : cX P w0 ops SM r ρ M (fun ρ' M' => Q .normal ρ' M')) : xC P w0 (.region id ops true) ρ M Q := by
  intro F w H
  simp only [drawX, Bool.and_eq_true] at hchk
  refine denN_sound (S := SMw w0 SM) (need := nd.contains) _ _ _ _ (CX_sound hchk.1 (zOk_of hz) ops.size true r _ ρ _ M (by simp) ?_ hchk.2 (fun _ => hS) (H.drawn _) (h F))
  intro p hp hlp
  simp [hp] at hlp
end
section
variable {P : Program} {w0 : World} {ops : Array Oper} {SM M N : List Asrt} {r : Ord} {ρ : Env} {K : XK} {i : Nat} {dst : Option Nat} {op : Op} {ty T : TypeId} {pos : String} {after : Array Edge} {x : Operand}
theorem Zik (h : K ρ M) : cX P w0 ops SM .nil ρ M K := fun F0 w H => ⟨M, H, h⟩
theorem Zim {v : Value} (ho : ops[i]? = some ⟨dst, op, ty, pos, after, none⟩) (h : PV P op ρ v) (k : cX P w0 ops SM r (put ρ dst v) M K) : cX P w0 ops SM (.q i r) ρ M K :=
  fun F0 => ⟨_, v, ho, ⟨fun _ w _ => h _ w rfl, fun e => by simp [Region.wanted] at e⟩, k F0⟩
theorem Zin {v : Value} {j : Nat} {b : Bool} (ho : ops[i]? = some ⟨dst, op, ty, pos, after, some (j, b)⟩) (hg : yl ops ρ j = some b) (h : PV P op ρ v) (k : cX P w0 ops SM r (put ρ dst v) M K) : cX P w0 ops SM (.q i r) ρ M K :=
  fun F0 => ⟨_, v, ho, ⟨fun _ w _ => h _ w rfl, fun e => by simp [Region.wanted, hg] at e⟩, k F0⟩
theorem Zio {j : Nat} {b : Bool} (ho : ops[i]? = some ⟨dst, op, ty, pos, after, some (j, b)⟩) (hg : yl ops ρ j = some (!b)) (k : cX P w0 ops SM r (put ρ dst undef) M K) : cX P w0 ops SM (.q i r) ρ M K :=
  fun F0 => ⟨_, undef, ho, ⟨fun e => by simp [Region.wanted, hg] at e, fun _ => rfl⟩, k F0⟩
theorem Zip {j : Nat} {b : Bool} (ho : ops[i]? = some ⟨dst, op, ty, pos, after, some (j, b)⟩) (hg : yl ops ρ j = none) (k : cX P w0 ops SM r (put ρ dst undef) M K) : cX P w0 ops SM (.q i r) ρ M K :=
  fun F0 => ⟨_, undef, ho, ⟨fun e => by simp [Region.wanted, hg] at e, fun _ => rfl⟩, k F0⟩
theorem Ziq {o : Oper} {n : Bool} (ho : ops[i]? = some o) (h : xOps P w0 ops [o] ρ M (fun ρ' M' => (n = true → Imp M' SM) ∧ cX P w0 ops SM r ρ' M' K)) : cX P w0 ops SM (.e i n r) ρ M K := by
  intro F0
  refine ⟨o, ho, fun F w H => ?_⟩
  refine denI_mono (K := fun ρ' w' => ∃ M', St w0 w' (F :: M') ∧ (n = true → Imp M' SM) ∧ cX P w0 ops SM r ρ' M' K) ?_ (h F w H)
  rintro v w' ⟨M', H', hn, hk⟩
  exact ⟨M', H', hn, hk F0⟩
theorem Zir {d n by' : Nat} {z : Value} {cs : Array Value} [hi : TyI P T n by' z] (ho : ops[i]? = some ⟨some d, .alloc T, ty, pos, #[], none⟩) (hz : z.cells = cs) (k : ∀ b, cX P w0 ops SM r (put ρ (some d) (.pointer (some ⟨b, 0, none⟩))) (cl b cs T :: M) K) : cX P w0 ops SM (.a i r) ρ M K := by
  subst hz; exact fun F0 => ⟨d, T, ty, pos, z, ho, ⟨n, by', hi⟩, fun b => k b F0⟩
/-- What only reads. -/
theorem Zit {v : Value} (ho : ops[i]? = some ⟨dst, op, ty, pos, after, none⟩) (h : ∀ (F : Asrt) w, St w0 w (F :: SM) → (execOp (ev ρ) ⟨dst, op, ty, pos, after, none⟩).run P w = .ok (.value v) w) (k : cX P w0 ops SM r (put ρ dst v) M K) : cX P w0 ops SM (.r i r) ρ M K :=
  fun F0 => ⟨_, v, ho, ⟨fun _ w ⟨F, H⟩ => h F w H, fun e => by simp [Region.wanted] at e⟩, k F0⟩
theorem Ziu {v : Value} {j : Nat} {b : Bool} (ho : ops[i]? = some ⟨dst, op, ty, pos, after, some (j, b)⟩) (hg : yl ops ρ j = some b) (h : ∀ (F : Asrt) w, St w0 w (F :: SM) → (execOp (ev ρ) ⟨dst, op, ty, pos, after, some (j, b)⟩).run P w = .ok (.value v) w) (k : cX P w0 ops SM r (put ρ dst v) M K) : cX P w0 ops SM (.r i r) ρ M K :=
  fun F0 => ⟨_, v, ho, ⟨fun _ w ⟨F, H⟩ => h F w H, fun e => by simp [Region.wanted, hg] at e⟩, k F0⟩
theorem run_ld {b o E : Nat} {c : Array Value} {v : Value} {w : World} {oo : Oper} {M' : List Asrt} [hs : TyScal P T] (hoo : oo.op = .load T x) (hx : ev ρ x = .pointer (some ⟨b, o, none⟩)) (hm : Has SM (cl b c E) M') (hv : c[o]? = some v) {F : Asrt} (H : St w0 w (F :: SM)) : (execOp (ev ρ) oo).run P w = .ok (.value v) w := by
  have hr : (Instr.loadAt T (ev ρ x)).run P w = .ok v w := by
    rw [hx]; unfold Instr.loadAt
    rw [run_bind P _ _ w w _ rfl]; unfold loadVar
    rw [run_bind P _ _ w w _ (run_isAgg hs.h)]
    exact run_load1 ((H.pick (.there hm)).cl_get) hv
  unfold execOp; rw [hoo]
  exact op_run_value hr
theorem Ziv {b o E : Nat} {c : Array Value} {v : Value} {M' : List Asrt} [hs : TyScal P T] (ho : ops[i]? = some ⟨dst, .load T x, ty, pos, after, none⟩) (hx : ev ρ x = .pointer (some ⟨b, o, none⟩)) (hm : Has SM (cl b c E) M') (hv : c[o]? = some v) (k : cX P w0 ops SM r (put ρ dst v) M K) : cX P w0 ops SM (.r i r) ρ M K :=
  Zit ho (fun F w H => run_ld rfl hx hm hv H) k
theorem Ziw {b o E j : Nat} {t : Bool} {c : Array Value} {v : Value} {M' : List Asrt} [hs : TyScal P T] (ho : ops[i]? = some ⟨dst, .load T x, ty, pos, after, some (j, t)⟩) (hg : yl ops ρ j = some t) (hx : ev ρ x = .pointer (some ⟨b, o, none⟩)) (hm : Has SM (cl b c E) M') (hv : c[o]? = some v) (k : cX P w0 ops SM r (put ρ dst v) M K) : cX P w0 ops SM (.r i r) ρ M K :=
  Ziu ho hg (fun F w H => run_ld rfl hx hm hv H) k
theorem run_lda {b o E n by' : Nat} {z : Value} {c cs : Array Value} {w : World} {oo : Oper} {M' : List Asrt} [hs : TyAggr P T] [hi : TyI P T n by' z] (hoo : oo.op = .load T x) (hx : ev ρ x = .pointer (some ⟨b, o, none⟩)) (hm : Has SM (cl b c E) M') (hv : o + n ≤ c.size) (hc : c.extract o (o + n) = cs) {F : Asrt} (H : St w0 w (F :: SM)) : (execOp (ev ρ) oo).run P w = .ok (.value (.agg cs)) w := by
  have hr := run_loadAgg (P := P) (ρ := ρ) (x := x) (T := T) (n := n) ((H.pick (.there hm)).cl_get) hv hx
  rw [hc] at hr
  unfold execOp; rw [hoo]
  exact op_run_value hr
theorem Zix {b o E n by' : Nat} {z : Value} {c cs : Array Value} {M' : List Asrt} [hs : TyAggr P T] [hi : TyI P T n by' z] (ho : ops[i]? = some ⟨dst, .load T x, ty, pos, after, none⟩) (hx : ev ρ x = .pointer (some ⟨b, o, none⟩)) (hm : Has SM (cl b c E) M') (hv : o + n ≤ c.size) (hc : c.extract o (o + n) = cs) (k : cX P w0 ops SM r (put ρ dst (.agg cs)) M K) : cX P w0 ops SM (.r i r) ρ M K :=
  Zit ho (fun F w H => run_lda rfl hx hm hv hc H) k
theorem Ziy {b E n by' : Nat} {z : Value} {c : Array Value} {M' : List Asrt} [hs : TyAggr P T] [hi : TyI P T n by' z] (ho : ops[i]? = some ⟨dst, .load T x, ty, pos, after, none⟩) (hx : ev ρ x = .pointer (some ⟨b, 0, none⟩)) (hm : Has SM (cl b c E) M') (hv : c.size = n) (k : cX P w0 ops SM r (put ρ dst (.agg c)) M K) : cX P w0 ops SM (.r i r) ρ M K :=
  Zix ho hx hm (by omega) (by rw [Nat.zero_add, ← hv]; simp) k
theorem Ziz {v : Value} (ho : ops[i]? = some ⟨dst, op, ty, pos, after, none⟩) (h : PV P op ρ v) (k : cX P w0 ops SM r (put ρ dst v) M K) : cX P w0 ops SM (.r i r) ρ M K :=
  fun F0 => ⟨_, v, ho, ⟨fun _ w _ => h _ w rfl, fun e => by simp [Region.wanted] at e⟩, k F0⟩
theorem Zi0 {v : Value} {j : Nat} {b : Bool} (ho : ops[i]? = some ⟨dst, op, ty, pos, after, some (j, b)⟩) (hg : yl ops ρ j = some b) (h : PV P op ρ v) (k : cX P w0 ops SM r (put ρ dst v) M K) : cX P w0 ops SM (.r i r) ρ M K :=
  fun F0 => ⟨_, v, ho, ⟨fun _ w _ => h _ w rfl, fun e => by simp [Region.wanted, hg] at e⟩, k F0⟩
theorem Zi1 {j : Nat} {b : Bool} (ho : ops[i]? = some ⟨dst, op, ty, pos, after, some (j, b)⟩) (hg : yl ops ρ j = some (!b)) (k : cX P w0 ops SM r (put ρ dst undef) M K) : cX P w0 ops SM (.r i r) ρ M K :=
  fun F0 => ⟨_, undef, ho, ⟨fun e => by simp [Region.wanted, hg] at e, fun _ => rfl⟩, k F0⟩
theorem Zi2 {j : Nat} {b : Bool} (ho : ops[i]? = some ⟨dst, op, ty, pos, after, some (j, b)⟩) (hg : yl ops ρ j = none) (k : cX P w0 ops SM r (put ρ dst undef) M K) : cX P w0 ops SM (.r i r) ρ M K :=
  fun F0 => ⟨_, undef, ho, ⟨fun e => by simp [Region.wanted, hg] at e, fun _ => rfl⟩, k F0⟩
theorem Zi3 {b o E n by' j : Nat} {t : Bool} {z : Value} {c cs : Array Value} {M' : List Asrt} [hs : TyAggr P T] [hi : TyI P T n by' z] (ho : ops[i]? = some ⟨dst, .load T x, ty, pos, after, some (j, t)⟩) (hg : yl ops ρ j = some t) (hx : ev ρ x = .pointer (some ⟨b, o, none⟩)) (hm : Has SM (cl b c E) M') (hv : o + n ≤ c.size) (hc : c.extract o (o + n) = cs) (k : cX P w0 ops SM r (put ρ dst (.agg cs)) M K) : cX P w0 ops SM (.r i r) ρ M K :=
  Ziu ho hg (fun F w H => run_lda rfl hx hm hv hc H) k
theorem Zi4 {b E n by' j : Nat} {t : Bool} {z : Value} {c : Array Value} {M' : List Asrt} [hs : TyAggr P T] [hi : TyI P T n by' z] (ho : ops[i]? = some ⟨dst, .load T x, ty, pos, after, some (j, t)⟩) (hg : yl ops ρ j = some t) (hx : ev ρ x = .pointer (some ⟨b, 0, none⟩)) (hm : Has SM (cl b c E) M') (hv : c.size = n) (k : cX P w0 ops SM r (put ρ dst (.agg c)) M K) : cX P w0 ops SM (.r i r) ρ M K :=
  Zi3 ho hg hx hm (by omega) (by rw [Nat.zero_add, ← hv]; simp) k
theorem Zi5 (d : Nat) {t : Bool} (hd : ρ d = .bool t) (e : t = true) (h : cX P w0 ops SM r (put ρ (some d) (.bool true)) M K) : cX P w0 ops SM r ρ M K := by
  subst e; rwa [put_self hd] at h
theorem Zi6 (d : Nat) {t : Bool} (hd : ρ d = .bool t) (e : t = false) (h : cX P w0 ops SM r (put ρ (some d) (.bool false)) M K) : cX P w0 ops SM r ρ M K := by
  subst e; rwa [put_self hd] at h
theorem Zi8 {b o m kk j : Nat} {xs : List Value} {v : Value} [hs : TyScal P T] (ho : ops[i]? = some ⟨dst, .load T x, ty, pos, after, none⟩) (hx : ev ρ x = .pointer (some ⟨b, o + j, none⟩)) (HS : Rd SM 1 (.slice (some ⟨b, o, none⟩) m kk) m xs) (hj : j < m) (hv : xs[j]? = some v) (k : cX P w0 ops SM r (put ρ dst v) M K) : cX P w0 ops SM (.r i r) ρ M K := by
  refine Zit ho (fun F w H => ?_) k
  obtain ⟨c, E, fr, hb, hc⟩ := (HS _ _ _ H).cellAt hj
  have hr : (Instr.loadAt T (ev ρ x)).run P w = .ok v w := by
    rw [hx]; unfold Instr.loadAt
    rw [run_bind P _ _ w w _ rfl]; unfold loadVar
    rw [run_bind P _ _ w w _ (run_isAgg hs.h)]
    exact run_load1 hb (hc.trans hv)
  exact op_run_value hr
end
end Go.Sl

/- The engine: whole numbers without a sign, as bits. -/
set_option linter.unusedVariables false
set_option linter.unusedSimpArgs false
namespace Go.Sl
open Go
theorem uwrap {k : IntKind} (hk : k.signed = false) (n : Int) : k.wrap n = ((BitVec.ofInt k.bits n).toNat : Int) := by
  have h : (2 ^ k.bits : Int) = ((2 ^ k.bits : Nat) : Int) := by push_cast; rfl
  have hp : (0 : Int) < ((2 ^ k.bits : Nat) : Int) := by exact_mod_cast Nat.two_pow_pos k.bits
  unfold IntKind.wrap
  rw [hk, BitVec.toNat_ofInt, h]
  simp only [Bool.false_and, Bool.false_eq_true, if_false]
  rw [Int.toNat_of_nonneg (Int.emod_nonneg _ (by omega))]
theorem ofInt_nat {w : Nat} (x : BitVec w) : BitVec.ofInt w (x.toNat : Int) = x := by
  apply BitVec.eq_of_toNat_eq
  rw [BitVec.toNat_ofInt, ← Int.natCast_emod]
  simp [Nat.mod_eq_of_lt x.isLt]
theorem uwrap_nat {k : IntKind} (hk : k.signed = false) (x : BitVec k.bits) : k.wrap (x.toNat : Int) = (x.toNat : Int) := by rw [uwrap hk, ofInt_nat]
section
variable {P : Program} {ρ : Env} {T T' : Nat} {a b : Operand} {k : IntKind} {x y : BitVec k.bits}
theorem pvu_add (hk : k.signed = false) (hx : ev ρ a = .int k x.toNat) (hy : ev ρ b = .int k y.toNat) : PV P (.binOp .add T a b T') ρ (.int k (x + y).toNat) := by
  have h := Zbd (P := P) (T := T) (T' := T') hx hy
  have e : BitVec.ofInt k.bits ((x.toNat : Int) + y.toNat) = x + y := by rw [BitVec.ofInt_add, ofInt_nat, ofInt_nat]
  rwa [uwrap hk, e] at h
theorem pvu_sub (hk : k.signed = false) (hx : ev ρ a = .int k x.toNat) (hy : ev ρ b = .int k y.toNat) : PV P (.binOp .sub T a b T') ρ (.int k (x - y).toNat) := by
  have h := Zbe (P := P) (T := T) (T' := T') hx hy
  have e : BitVec.ofInt k.bits ((x.toNat : Int) - y.toNat) = x - y := by rw [Int.sub_eq_add_neg, BitVec.ofInt_add, ofInt_nat, BitVec.ofInt_neg, ofInt_nat, BitVec.sub_eq_add_neg]
  rwa [uwrap hk, e] at h
theorem pvu_mul (hk : k.signed = false) (hx : ev ρ a = .int k x.toNat) (hy : ev ρ b = .int k y.toNat) : PV P (.binOp .mul T a b T') ρ (.int k (x * y).toNat) := by
  have h := Zbf (P := P) (T := T) (T' := T') hx hy
  have e : BitVec.ofInt k.bits ((x.toNat : Int) * y.toNat) = x * y := by rw [BitVec.ofInt_mul, ofInt_nat, ofInt_nat]
  rwa [uwrap hk, e] at h
theorem pvu_and (hk : k.signed = false) (hx : ev ρ a = .int k x.toNat) (hy : ev ρ b = .int k y.toNat) : PV P (.binOp .and T a b T') ρ (.int k (x &&& y).toNat) := by
  have h := Zbu (P := P) (T := T) (T' := T') hx hy
  rwa [ofInt_nat, ofInt_nat, uwrap_nat hk] at h
theorem pvu_or (hk : k.signed = false) (hx : ev ρ a = .int k x.toNat) (hy : ev ρ b = .int k y.toNat) : PV P (.binOp .or T a b T') ρ (.int k (x ||| y).toNat) := by
  have h := Zbv (P := P) (T := T) (T' := T') hx hy
  rwa [ofInt_nat, ofInt_nat, uwrap_nat hk] at h
theorem pvu_xor (hk : k.signed = false) (hx : ev ρ a = .int k x.toNat) (hy : ev ρ b = .int k y.toNat) : PV P (.binOp .xor T a b T') ρ (.int k (x ^^^ y).toNat) := by
  have h := Zbw (P := P) (T := T) (T' := T') hx hy
  rwa [ofInt_nat, ofInt_nat, uwrap_nat hk] at h
theorem pvu_andNot (hk : k.signed = false) (hx : ev ρ a = .int k x.toNat) (hy : ev ρ b = .int k y.toNat) : PV P (.binOp .andNot T a b T') ρ (.int k (x &&& ~~~ y).toNat) := by
  have h := Zbx (P := P) (T := T) (T' := T') hx hy
  rwa [ofInt_nat, ofInt_nat, uwrap_nat hk] at h
theorem pvu_shl {k' : IntKind} {m : Nat} (hk : k.signed = false) (hx : ev ρ a = .int k x.toNat) (hy : ev ρ b = .int k' (m : Int)) : PV P (.binOp .shl T a b T') ρ (.int k (x <<< m).toNat) := by
  have h := Zby (P := P) (T := T) (T' := T') hx hy (by omega)
  have e : BitVec.ofInt k.bits ((x.toNat : Int) * 2 ^ (min m k.bits)) = x <<< m := by
    apply BitVec.eq_of_toNat_eq
    rw [BitVec.toNat_shiftLeft, BitVec.toNat_ofInt, show ((x.toNat : Int) * 2 ^ (min m k.bits)) = ((x.toNat * 2 ^ (min m k.bits) : Nat) : Int) by push_cast; rfl, ← Int.natCast_emod, Int.toNat_natCast, Nat.shiftLeft_eq]
    rcases Nat.le_total m k.bits with hle|hle
    · rw [Nat.min_eq_left hle]
    · rw [Nat.min_eq_right hle]
      obtain ⟨d, rfl⟩ := Nat.exists_eq_add_of_le hle
      rw [Nat.pow_add, ← Nat.mul_assoc, Nat.mul_mod_left, Nat.mul_right_comm, Nat.mul_mod_left]
  rw [uwrap hk, Int.toNat_natCast, e] at h
  exact h
theorem pvu_shr {k' : IntKind} {m : Nat} (hk : k.signed = false) (hx : ev ρ a = .int k x.toNat) (hy : ev ρ b = .int k' (m : Int)) : PV P (.binOp .shr T a b T') ρ (.int k (x >>> m).toNat) := by
  have h := Zbz (P := P) (T := T) (T' := T') hx hy (by omega)
  have e : (x.toNat : Int).fdiv (2 ^ (min m k.bits)) = ((x >>> m).toNat : Int) := by
    have hp : (0 : Int) ≤ 2 ^ (min m k.bits) := by
      rw [show ((2 : Int) ^ (min m k.bits)) = ((2 ^ (min m k.bits) : Nat) : Int) by push_cast; rfl]
      exact Int.natCast_nonneg _
    rw [Int.fdiv_eq_ediv_of_nonneg _ hp, BitVec.toNat_ushiftRight, Nat.shiftRight_eq_div_pow]
    rcases Nat.le_total m k.bits with hle|hle
    · rw [Nat.min_eq_left hle]; push_cast; rfl
    · rw [Nat.min_eq_right hle]
      have h1 : x.toNat / 2 ^ k.bits = 0 := Nat.div_eq_of_lt x.isLt
      have h2 : x.toNat / 2 ^ m = 0 := Nat.div_eq_of_lt (Nat.lt_of_lt_of_le x.isLt (Nat.pow_le_pow_right (by omega) hle))
      rw [h2]
      have h3 : ((x.toNat : Int) / 2 ^ k.bits) = ((x.toNat / 2 ^ k.bits : Nat) : Int) := by push_cast; rfl
      rw [h3, h1]
  rw [Int.toNat_natCast, e] at h
  exact h
theorem pvu_not (hk : k.signed = false) (hx : ev ρ a = .int k x.toNat) : PV P (.unOp .xor T a) ρ (.int k (~~~ x).toNat) := by
  have h := Zb3 (P := P) (T := T) hx
  have e : BitVec.ofInt k.bits (if k.signed then -1 else k.max) = BitVec.allOnes k.bits := by
    rw [hk]; simp only [Bool.false_eq_true, if_false, IntKind.max, hk]
    apply BitVec.eq_of_toNat_eq
    have hp := Nat.two_pow_pos k.bits
    rw [BitVec.toNat_ofInt, BitVec.toNat_allOnes, show (2 ^ k.bits - 1 : Int) = ((2 ^ k.bits - 1 : Nat) : Int) by push_cast [Nat.one_le_two_pow]; rfl, ← Int.natCast_emod, Int.toNat_natCast, Nat.mod_eq_of_lt (by omega)]
  rw [e, ofInt_nat, uwrap_nat hk, BitVec.allOnes_xor] at h
  exact h
theorem pvu_neg (hk : k.signed = false) (hx : ev ρ a = .int k x.toNat) : PV P (.unOp .neg T a) ρ (.int k (- x).toNat) := by
  have h := Zb2 (P := P) (T := T) hx
  have e : BitVec.ofInt k.bits (0 - (x.toNat : Int)) = - x := by rw [Int.zero_sub, BitVec.ofInt_neg, ofInt_nat]
  rwa [uwrap hk, e] at h
theorem pvu_eql (hx : ev ρ a = .int k x.toNat) (hy : ev ρ b = .int k y.toNat) : PV P (.binOp .eql T a b T') ρ (.bool (decide (x = y))) := by
  have h := Zbr (P := P) (T := T) (T' := T') hx hy
  have e : decide ((x.toNat : Int) = y.toNat) = decide (x = y) := decide_eq_decide.2 ⟨fun h => BitVec.eq_of_toNat_eq (by omega), fun h => by rw [h]⟩
  rwa [e] at h
theorem pvu_neq (hx : ev ρ a = .int k x.toNat) (hy : ev ρ b = .int k y.toNat) : PV P (.binOp .neq T a b T') ρ (.bool (decide (x ≠ y))) := by
  have h := Zbs (P := P) (T := T) (T' := T') hx hy
  have e : decide ((x.toNat : Int) ≠ y.toNat) = decide (x ≠ y) := decide_eq_decide.2 ⟨fun h e => h (by rw [e]), fun h e => h (BitVec.eq_of_toNat_eq (by omega))⟩
  rwa [e] at h
theorem pvu_gtr (hx : ev ρ a = .int k x.toNat) (hy : ev ρ b = .int k y.toNat) : PV P (.binOp .gtr T a b T') ρ (.bool (decide (y.toNat < x.toNat))) := by
  have h := Zbp (P := P) (T := T) (T' := T') hx hy
  rwa [show decide ((y.toNat : Int) < x.toNat) = decide (y.toNat < x.toNat) from decide_eq_decide.2 (by omega)] at h
theorem pvu_quo (hk : k.signed = false) (hx : ev ρ a = .int k x.toNat) (hy : ev ρ b = .int k y.toNat) (h0 : 0 < y.toNat) : PV P (.binOp .quo T a b T') ρ (.int k (x / y).toNat) := by
  have e : ((x.toNat : Int) / y.toNat) = ((x / y).toNat : Int) := by rw [BitVec.toNat_udiv]; push_cast; rfl
  have h := Zbm (P := P) (T := T) (T' := T') hx hy hk ⟨by omega, by omega, by rw [e, uwrap_nat hk]⟩
  rwa [e] at h
theorem pvu_rem (hx : ev ρ a = .int k x.toNat) (hy : ev ρ b = .int k y.toNat) (h0 : 0 < y.toNat) : PV P (.binOp .rem T a b T') ρ (.int k (x % y).toNat) := by
  have h := Zbk (P := P) (T := T) (T' := T') hx hy (by omega)
  have e : ((x.toNat : Int)).tmod y.toNat = ((x % y).toNat : Int) := by rw [BitVec.toNat_umod]; rfl
  rwa [e] at h
theorem pvu_conv {S D : Nat} {k' : IntKind} [hs : TyInt P S k] [hd : TyInt P D k'] (hk' : k'.signed = false) (hx : ev ρ a = .int k x.toNat) : PV P (.convert S D a) ρ (.int k' (x.setWidth k'.bits).toNat) := by
  have h := Zb4 (P := P) (S := S) (D := D) hx
  have e : BitVec.ofInt k'.bits (x.toNat : Int) = x.setWidth k'.bits := by
    apply BitVec.eq_of_toNat_eq
    rw [BitVec.toNat_ofInt, BitVec.toNat_setWidth, ← Int.natCast_emod, Int.toNat_natCast]
  rwa [uwrap hk', e] at h
theorem pvu_convI {S D : Nat} {k0 : IntKind} {n : Int} [hs : TyInt P S k0] [hd : TyInt P D k] (hk : k.signed = false) (hx : ev ρ a = .int k0 n) : PV P (.convert S D a) ρ (.int k (BitVec.ofInt k.bits n).toNat) := by
  have h := Zb4 (P := P) (S := S) (D := D) hx
  rwa [uwrap hk] at h
end

section
variable {P : Program} {ρ : Env} {T T' : Nat} {a b : Operand} {x y : BitVec 8}
theorem Zi9 (hx : ev ρ a = .int .u8 x.toNat) (hy : ev ρ b = .int .u8 y.toNat) : PV P (.binOp .add T a b T') ρ (.int .u8 (x + y).toNat) := pvu_add (k := .u8) rfl hx hy
theorem Zjc (hx : ev ρ a = .int .u8 x.toNat) (hy : ev ρ b = .int .u8 y.toNat) : PV P (.binOp .and T a b T') ρ (.int .u8 (x &&& y).toNat) := pvu_and (k := .u8) rfl hx hy
theorem Zjd (hx : ev ρ a = .int .u8 x.toNat) (hy : ev ρ b = .int .u8 y.toNat) : PV P (.binOp .or T a b T') ρ (.int .u8 (x ||| y).toNat) := pvu_or (k := .u8) rfl hx hy
theorem Zje (hx : ev ρ a = .int .u8 x.toNat) (hy : ev ρ b = .int .u8 y.toNat) : PV P (.binOp .xor T a b T') ρ (.int .u8 (x ^^^ y).toNat) := pvu_xor (k := .u8) rfl hx hy
theorem Zjl (hx : ev ρ a = .int .u8 x.toNat) (hy : ev ρ b = .int .u8 y.toNat) : PV P (.binOp .neq T a b T') ρ (.bool (decide (x ≠ y))) := pvu_neq (k := .u8) hx hy
theorem Zjw {S D : Nat} [hs : TyInt P S .u8] [hd : TyInt P D .u32] (hx : ev ρ a = .int .u8 x.toNat) : PV P (.convert S D a) ρ (.int .u32 (x.setWidth 32).toNat) := pvu_conv (k := .u8) (k' := .u32) rfl hx
theorem Zjx {S D : Nat} [hs : TyInt P S .u8] [hd : TyInt P D .u64] (hx : ev ρ a = .int .u8 x.toNat) : PV P (.convert S D a) ρ (.int .u64 (x.setWidth 64).toNat) := pvu_conv (k := .u8) (k' := .u64) rfl hx
end
abbrev u8b (x : BitVec 8) : Value := .int .u8 x.toNat
section
variable {P : Program} {ρ : Env} {T T' : Nat} {a b : Operand} {x y : BitVec 16}
end
section
variable {P : Program} {ρ : Env} {T T' : Nat} {a b : Operand} {x y : BitVec 32}
theorem Zkn (hx : ev ρ a = .int .u32 x.toNat) (hy : ev ρ b = .int .u32 y.toNat) : PV P (.binOp .add T a b T') ρ (.int .u32 (x + y).toNat) := pvu_add (k := .u32) rfl hx hy
theorem Zkq (hx : ev ρ a = .int .u32 x.toNat) (hy : ev ρ b = .int .u32 y.toNat) : PV P (.binOp .and T a b T') ρ (.int .u32 (x &&& y).toNat) := pvu_and (k := .u32) rfl hx hy
theorem Zkr (hx : ev ρ a = .int .u32 x.toNat) (hy : ev ρ b = .int .u32 y.toNat) : PV P (.binOp .or T a b T') ρ (.int .u32 (x ||| y).toNat) := pvu_or (k := .u32) rfl hx hy
theorem Zks (hx : ev ρ a = .int .u32 x.toNat) (hy : ev ρ b = .int .u32 y.toNat) : PV P (.binOp .xor T a b T') ρ (.int .u32 (x ^^^ y).toNat) := pvu_xor (k := .u32) rfl hx hy
theorem Zku {k' : IntKind} {m : Nat} (hx : ev ρ a = .int .u32 x.toNat) (hy : ev ρ b = .int k' (m : Int)) : PV P (.binOp .shl T a b T') ρ (.int .u32 (x <<< m).toNat) := pvu_shl (k := .u32) rfl hx hy
theorem Zkv {k' : IntKind} {m : Nat} (hx : ev ρ a = .int .u32 x.toNat) (hy : ev ρ b = .int k' (m : Int)) : PV P (.binOp .shr T a b T') ρ (.int .u32 (x >>> m).toNat) := pvu_shr (k := .u32) rfl hx hy
theorem Zkw (hx : ev ρ a = .int .u32 x.toNat) : PV P (.unOp .xor T a) ρ (.int .u32 (~~~ x).toNat) := pvu_not (k := .u32) rfl hx
theorem Zky (hx : ev ρ a = .int .u32 x.toNat) (hy : ev ρ b = .int .u32 y.toNat) : PV P (.binOp .eql T a b T') ρ (.bool (decide (x = y))) := pvu_eql (k := .u32) hx hy
theorem Zkz (hx : ev ρ a = .int .u32 x.toNat) (hy : ev ρ b = .int .u32 y.toNat) : PV P (.binOp .neq T a b T') ρ (.bool (decide (x ≠ y))) := pvu_neq (k := .u32) hx hy
theorem Zk6 {S D : Nat} {n : Int} [hs : TyInt P S .i64] [hd : TyInt P D .u32] (hx : ev ρ a = .int .i64 n) : PV P (.convert S D a) ρ (.int .u32 (BitVec.ofInt 32 n).toNat) := pvu_convI (k := .u32) rfl hx
theorem Zk8 {S D : Nat} [hs : TyInt P S .u32] [hd : TyInt P D .u8] (hx : ev ρ a = .int .u32 x.toNat) : PV P (.convert S D a) ρ (.int .u8 (x.setWidth 8).toNat) := pvu_conv (k := .u32) (k' := .u8) rfl hx
theorem Zlb {S D : Nat} [hs : TyInt P S .u32] [hd : TyInt P D .u64] (hx : ev ρ a = .int .u32 x.toNat) : PV P (.convert S D a) ρ (.int .u64 (x.setWidth 64).toNat) := pvu_conv (k := .u32) (k' := .u64) rfl hx
end
abbrev u32b (x : BitVec 32) : Value := .int .u32 x.toNat
section
variable {P : Program} {ρ : Env} {T T' : Nat} {a b : Operand} {x y : BitVec 64}
theorem Zlc (hx : ev ρ a = .int .u64 x.toNat) (hy : ev ρ b = .int .u64 y.toNat) : PV P (.binOp .add T a b T') ρ (.int .u64 (x + y).toNat) := pvu_add (k := .u64) rfl hx hy
theorem Zld (hx : ev ρ a = .int .u64 x.toNat) (hy : ev ρ b = .int .u64 y.toNat) : PV P (.binOp .sub T a b T') ρ (.int .u64 (x - y).toNat) := pvu_sub (k := .u64) rfl hx hy
theorem Zle (hx : ev ρ a = .int .u64 x.toNat) (hy : ev ρ b = .int .u64 y.toNat) : PV P (.binOp .mul T a b T') ρ (.int .u64 (x * y).toNat) := pvu_mul (k := .u64) rfl hx hy
theorem Zlf (hx : ev ρ a = .int .u64 x.toNat) (hy : ev ρ b = .int .u64 y.toNat) : PV P (.binOp .and T a b T') ρ (.int .u64 (x &&& y).toNat) := pvu_and (k := .u64) rfl hx hy
theorem Zlg (hx : ev ρ a = .int .u64 x.toNat) (hy : ev ρ b = .int .u64 y.toNat) : PV P (.binOp .or T a b T') ρ (.int .u64 (x ||| y).toNat) := pvu_or (k := .u64) rfl hx hy
theorem Zlh (hx : ev ρ a = .int .u64 x.toNat) (hy : ev ρ b = .int .u64 y.toNat) : PV P (.binOp .xor T a b T') ρ (.int .u64 (x ^^^ y).toNat) := pvu_xor (k := .u64) rfl hx hy
theorem Zli (hx : ev ρ a = .int .u64 x.toNat) (hy : ev ρ b = .int .u64 y.toNat) : PV P (.binOp .andNot T a b T') ρ (.int .u64 (x &&& ~~~ y).toNat) := pvu_andNot (k := .u64) rfl hx hy
theorem Zlj {k' : IntKind} {m : Nat} (hx : ev ρ a = .int .u64 x.toNat) (hy : ev ρ b = .int k' (m : Int)) : PV P (.binOp .shl T a b T') ρ (.int .u64 (x <<< m).toNat) := pvu_shl (k := .u64) rfl hx hy
theorem Zlk {k' : IntKind} {m : Nat} (hx : ev ρ a = .int .u64 x.toNat) (hy : ev ρ b = .int k' (m : Int)) : PV P (.binOp .shr T a b T') ρ (.int .u64 (x >>> m).toNat) := pvu_shr (k := .u64) rfl hx hy
theorem Zll (hx : ev ρ a = .int .u64 x.toNat) : PV P (.unOp .xor T a) ρ (.int .u64 (~~~ x).toNat) := pvu_not (k := .u64) rfl hx
theorem Zlm (hx : ev ρ a = .int .u64 x.toNat) : PV P (.unOp .neg T a) ρ (.int .u64 (- x).toNat) := pvu_neg (k := .u64) rfl hx
theorem Zln (hx : ev ρ a = .int .u64 x.toNat) (hy : ev ρ b = .int .u64 y.toNat) : PV P (.binOp .eql T a b T') ρ (.bool (decide (x = y))) := pvu_eql (k := .u64) hx hy
theorem Zlo (hx : ev ρ a = .int .u64 x.toNat) (hy : ev ρ b = .int .u64 y.toNat) : PV P (.binOp .neq T a b T') ρ (.bool (decide (x ≠ y))) := pvu_neq (k := .u64) hx hy
theorem Zlr (hx : ev ρ a = .int .u64 x.toNat) (hy : ev ρ b = .int .u64 y.toNat) : PV P (.binOp .gtr T a b T') ρ (.bool (decide (y.toNat < x.toNat))) := pvu_gtr (k := .u64) hx hy
theorem Zlt (hx : ev ρ a = .int .u64 x.toNat) (hy : ev ρ b = .int .u64 y.toNat) (h0 : 0 < y.toNat := by first|omega|exact Nat.le_of_ble_eq_true rfl|(simp; done)|(simp; omega)|decide) : PV P (.binOp .quo T a b T') ρ (.int .u64 (x / y).toNat) := pvu_quo (k := .u64) rfl hx hy h0
theorem Zlu (hx : ev ρ a = .int .u64 x.toNat) (hy : ev ρ b = .int .u64 y.toNat) (h0 : 0 < y.toNat := by first|omega|exact Nat.le_of_ble_eq_true rfl|(simp; done)|(simp; omega)|decide) : PV P (.binOp .rem T a b T') ρ (.int .u64 (x % y).toNat) := pvu_rem (k := .u64) hx hy h0
theorem Zlv {S D : Nat} {n : Int} [hs : TyInt P S .i64] [hd : TyInt P D .u64] (hx : ev ρ a = .int .i64 n) : PV P (.convert S D a) ρ (.int .u64 (BitVec.ofInt 64 n).toNat) := pvu_convI (k := .u64) rfl hx
theorem Zlx {S D : Nat} [hs : TyInt P S .u64] [hd : TyInt P D .u8] (hx : ev ρ a = .int .u64 x.toNat) : PV P (.convert S D a) ρ (.int .u8 (x.setWidth 8).toNat) := pvu_conv (k := .u64) (k' := .u8) rfl hx
theorem Zlz {S D : Nat} [hs : TyInt P S .u64] [hd : TyInt P D .u32] (hx : ev ρ a = .int .u64 x.toNat) : PV P (.convert S D a) ρ (.int .u32 (x.setWidth 32).toNat) := pvu_conv (k := .u64) (k' := .u32) rfl hx
end
abbrev u64b (x : BitVec 64) : Value := .int .u64 x.toNat

section
variable {P : Program} {ρ : Env} {x y : Operand} {k : IntKind} {S E by' bb o l c n : Nat} {z : Value}
theorem Zl1 [hs : TySlice P S E] [hi : TyI P E 1 by' z] (hx : ev ρ x = .slice (some ⟨bb, o, none⟩) l c) (hy : ev ρ y = .int k (n : Int)) (h : n < l := by first|omega|exact Nat.le_of_ble_eq_true rfl|(simp; done)|(simp; omega)|decide) : PV P (.indexAddr S x y) ρ (.pointer (some ⟨bb, o + n, none⟩)) := by
  have := Zcg (P := P) (S := S) hx hy h
  simpa using this
theorem Zl2 {sz : Nat} [hs : TyArr P S l E] [hi : TyI P E sz by' z] (hx : ev ρ x = .pointer (some ⟨bb, o, none⟩)) (hy : ev ρ y = .int k (n : Int)) (h : n < l := by first|omega|exact Nat.le_of_ble_eq_true rfl|(simp; done)|(simp; omega)|decide) : PV P (.indexAddr S x y) ρ (.pointer (some ⟨bb, o + n * sz, none⟩)) := by
  have := Zch (P := P) (S := S) hx hy ⟨by omega, by omega⟩
  simpa using this
theorem Zl3 [hs : TyArr P S l E] [hi : TyI P E 1 by' z] (hx : ev ρ x = .pointer (some ⟨bb, o, none⟩)) (hy : ev ρ y = .int k (n : Int)) (h : n < l := by first|omega|exact Nat.le_of_ble_eq_true rfl|(simp; done)|(simp; omega)|decide) : PV P (.indexAddr S x y) ρ (.pointer (some ⟨bb, o + n, none⟩)) := by
  have := Zl2 (P := P) (S := S) hx hy h
  simpa using this
theorem Zl4 [hs : TySlice P S E] [hi : TyI P E 1 by' z] (hx : ev ρ x = .slice (some ⟨bb, 0, none⟩) l c) (hy : ev ρ y = .int k (n : Int)) (h : n < l := by first|omega|exact Nat.le_of_ble_eq_true rfl|(simp; done)|(simp; omega)|decide) : PV P (.indexAddr S x y) ρ (.pointer (some ⟨bb, n, none⟩)) := by
  have := Zl1 (P := P) (S := S) hx hy h
  rwa [Nat.zero_add] at this
theorem Zl5 [hs : TyArr P S l E] [hi : TyI P E 1 by' z] (hx : ev ρ x = .pointer (some ⟨bb, 0, none⟩)) (hy : ev ρ y = .int k (n : Int)) (h : n < l := by first|omega|exact Nat.le_of_ble_eq_true rfl|(simp; done)|(simp; omega)|decide) : PV P (.indexAddr S x y) ρ (.pointer (some ⟨bb, n, none⟩)) := by
  have := Zl3 (P := P) (S := S) hx hy h
  rwa [Nat.zero_add] at this
theorem Zl6 {sz : Nat} [hs : TySlice P S E] [hi : TyI P E sz by' z] (hx : ev ρ x = .slice (some ⟨bb, 0, none⟩) l c) (hy : ev ρ y = .int k (n : Int)) (h : n < l := by first|omega|exact Nat.le_of_ble_eq_true rfl|(simp; done)|(simp; omega)|decide) : PV P (.indexAddr S x y) ρ (.pointer (some ⟨bb, n * sz, none⟩)) := by
  have := Zcg (P := P) (S := S) hx hy h
  rwa [Nat.zero_add] at this
theorem Zl7 {sz : Nat} [hs : TyArr P S l E] [hi : TyI P E sz by' z] (hx : ev ρ x = .pointer (some ⟨bb, 0, none⟩)) (hy : ev ρ y = .int k (n : Int)) (h : n < l := by first|omega|exact Nat.le_of_ble_eq_true rfl|(simp; done)|(simp; omega)|decide) : PV P (.indexAddr S x y) ρ (.pointer (some ⟨bb, n * sz, none⟩)) := by
  have := Zl2 (P := P) (S := S) hx hy h
  rwa [Nat.zero_add] at this
theorem Zl8 {S i off F sz : Nat} [hf : Fld P S i off F] [hi : TyI P F sz by' z] (hx : ev ρ x = .pointer (some ⟨bb, 0, none⟩)) (h0 : sz ≠ 0 := by first|omega|exact Nat.le_of_ble_eq_true rfl|(simp; done)|(simp; omega)|decide) : PV P (.fieldAddr S x i) ρ (.pointer (some ⟨bb, off, none⟩)) := by
  have := Zce (P := P) (S := S) (i := i) (F := F) (off := off) hx h0
  rwa [Nat.zero_add] at this
theorem Zl9 {A m : Nat} [hs : TyArr P A m E] (hx : ev ρ x = .slice (some ⟨bb, o, none⟩) l c) (h : m ≤ l := by first|omega|exact Nat.le_of_ble_eq_true rfl|(simp; done)|(simp; omega)|decide) : PV P (.sliceToArrayPointer A x) ρ (.pointer (some ⟨bb, o, none⟩)) := by
  intro oo w ho; unfold execOp; rw [ho]; refine op_run_value ?_; rw [hx]
  unfold Instr.arrayAt
  rw [run_bind P _ _ w w _ (run_under hs.h)]
  simp only []
  rw [if_neg (by omega)]
  rfl
end
section
variable {P : Program} {ρ : Env} {T T' : Nat} {x y : Operand} {a b : Nat}
theorem Zma (hx : ev ρ x = .int .i64 (a : Int)) (hy : ev ρ y = .int .i64 (b : Int)) (h : a + b ≤ 9223372036854775807 := by first|omega|exact Nat.le_of_ble_eq_true rfl|(simp; done)|(simp; omega)|decide) : PV P (.binOp .add T x y T') ρ (.int .i64 ((a + b : Nat) : Int)) := by
  have := Zbg (P := P) (T := T) (T' := T') hx hy ⟨by omega, by omega⟩
  rwa [← Int.natCast_add] at this
theorem Zmb (hx : ev ρ x = .int .i64 (a : Int)) (hy : ev ρ y = .int .i64 (b : Int)) (h : b ≤ a := by first|omega|exact Nat.le_of_ble_eq_true rfl|(simp; done)|(simp; omega)|decide) (ha : a ≤ 9223372036854775807 := by first|omega|exact Nat.le_of_ble_eq_true rfl|(simp; done)|(simp; omega)|decide) : PV P (.binOp .sub T x y T') ρ (.int .i64 ((a - b : Nat) : Int)) := by
  have := Zbh (P := P) (T := T) (T' := T') hx hy ⟨by omega, by omega⟩
  rwa [← Int.natCast_sub h] at this
theorem Zmc (hx : ev ρ x = .int .i64 (a : Int)) (hy : ev ρ y = .int .i64 (b : Int)) (h : a * b ≤ 9223372036854775807 := by first|omega|exact Nat.le_of_ble_eq_true rfl|(simp; done)|(simp; omega)|decide) : PV P (.binOp .mul T x y T') ρ (.int .i64 ((a * b : Nat) : Int)) := by
  have e : ((a : Int) * b) = ((a * b : Nat) : Int) := (Int.natCast_mul a b).symm
  have := Zbi (P := P) (T := T) (T' := T') hx hy (by rw [e]; exact ⟨by omega, by omega⟩)
  rwa [e] at this
theorem Zmd (hx : ev ρ x = .int .i64 (a : Int)) (hy : ev ρ y = .int .i64 (b : Int)) (h : 0 < b := by first|omega|exact Nat.le_of_ble_eq_true rfl|(simp; done)|(simp; omega)|decide) (ha : a ≤ 9223372036854775807 := by first|omega|exact Nat.le_of_ble_eq_true rfl|(simp; done)|(simp; omega)|decide) : PV P (.binOp .quo T x y T') ρ (.int .i64 ((a / b : Nat) : Int)) := by
  have := Zbj (P := P) (T := T) (T' := T') hx hy ⟨by omega, by omega, by omega⟩
  rwa [show ((a : Int) / b) = ((a / b : Nat) : Int) from by push_cast; rfl] at this
theorem Zme (hx : ev ρ x = .int .i64 (a : Int)) (hy : ev ρ y = .int .i64 (b : Int)) (h : 0 < b := by first|omega|exact Nat.le_of_ble_eq_true rfl|(simp; done)|(simp; omega)|decide) : PV P (.binOp .rem T x y T') ρ (.int .i64 ((a % b : Nat) : Int)) := by
  have := Zbl (P := P) (T := T) (T' := T') hx hy ⟨by omega, by omega⟩
  rwa [show ((a : Int) % b) = ((a % b : Nat) : Int) from by push_cast; rfl] at this
theorem Zmf {k : IntKind} (hx : ev ρ x = .int k (a : Int)) (hy : ev ρ y = .int k (b : Int)) : PV P (.binOp .lss T x y T') ρ (.bool (decide (a < b))) := by
  have := Zbn (P := P) (T := T) (T' := T') hx hy
  rwa [show decide ((a : Int) < b) = decide (a < b) from decide_eq_decide.2 (by omega)] at this
theorem Zmg {k : IntKind} (hx : ev ρ x = .int k (a : Int)) (hy : ev ρ y = .int k (b : Int)) : PV P (.binOp .leq T x y T') ρ (.bool (decide (a ≤ b))) := by
  have := Zbo (P := P) (T := T) (T' := T') hx hy
  rwa [show decide ((a : Int) ≤ b) = decide (a ≤ b) from decide_eq_decide.2 (by omega)] at this
theorem Zmh {k : IntKind} (hx : ev ρ x = .int k (a : Int)) (hy : ev ρ y = .int k (b : Int)) : PV P (.binOp .gtr T x y T') ρ (.bool (decide (b < a))) := by
  have := Zbp (P := P) (T := T) (T' := T') hx hy
  rwa [show decide ((b : Int) < a) = decide (b < a) from decide_eq_decide.2 (by omega)] at this
theorem Zmi {k : IntKind} (hx : ev ρ x = .int k (a : Int)) (hy : ev ρ y = .int k (b : Int)) : PV P (.binOp .geq T x y T') ρ (.bool (decide (b ≤ a))) := by
  have := Zbq (P := P) (T := T) (T' := T') hx hy
  rwa [show decide ((b : Int) ≤ a) = decide (b ≤ a) from decide_eq_decide.2 (by omega)] at this
theorem Zmj {k : IntKind} (hx : ev ρ x = .int k (a : Int)) (hy : ev ρ y = .int k (b : Int)) : PV P (.binOp .eql T x y T') ρ (.bool (decide (a = b))) := by
  have := Zbr (P := P) (T := T) (T' := T') hx hy
  rwa [show decide ((a : Int) = b) = decide (a = b) from decide_eq_decide.2 (by omega)] at this
theorem Zmk {k : IntKind} (hx : ev ρ x = .int k (a : Int)) (hy : ev ρ y = .int k (b : Int)) : PV P (.binOp .neq T x y T') ρ (.bool (decide (a ≠ b))) := by
  have := Zbs (P := P) (T := T) (T' := T') hx hy
  rwa [show decide ((a : Int) ≠ b) = decide (a ≠ b) from decide_eq_decide.2 (by omega)] at this
theorem Zmm {t : Array Value} (h : ev ρ x = .tuple t) : PV P (.move x) ρ (.tuple t) := Zar h
theorem Zmn {t : Option Nat} (h : ev ρ x = .map t) : PV P (.move x) ρ (.map t) := Zar h
theorem Zmo {t : ByteArray} (h : ev ρ x = .string t) : PV P (.move x) ρ (.string t) := Zar h
theorem Zmp {t : Nat} {v : Value} (h : ev ρ x = .iface t v) : PV P (.move x) ρ (.iface t v) := Zar h
theorem Zmq {t : Option Nat} (h : ev ρ x = .map t) : PV P (.assign x) ρ (.map t) := Zas h
theorem Zmr {t : ByteArray} (h : ev ρ x = .string t) : PV P (.assign x) ρ (.string t) := Zas h
theorem Zms {t : Nat} {v : Value} (h : ev ρ x = .iface t v) : PV P (.assign x) ρ (.iface t v) := Zas h
theorem Zmt {t : Array Value} (h : ev ρ x = .tuple t) : PV P (.assign x) ρ (.tuple t) := Zas h
theorem Zmu {f : Fn} {a b : Array Value} (h : ev ρ x = .func f a b) : PV P (.assign x) ρ (.func f a b) := Zas h
/-- A piece of an array, or of a slice. -/
theorem Zmv {S E sz by' bb o n : Nat} {z : Value} {lo hi : Option Operand} {l h : Nat} [hs : TyArr P S n E] [hi' : TyI P E sz by' z] (hx : ev ρ x = .pointer (some ⟨bb, o, none⟩))
    (hl : optB ρ 0 lo = some (l : Int)) (hh : optB ρ n hi = some (h : Int)) (hle : l ≤ h := by first|omega|exact Nat.le_of_ble_eq_true rfl|(simp; done)|(simp; omega)|decide) (hc : h ≤ n := by first|omega|exact Nat.le_of_ble_eq_true rfl|(simp; done)|(simp; omega)|decide) (hn : l < n := by first|omega|exact Nat.le_of_ble_eq_true rfl|(simp; done)|(simp; omega)|decide) : PV P (.slice S x lo hi none) ρ (.slice (some ⟨bb, o + l * sz, none⟩) (h - l) (n - l)) := by
  have := Zck (P := P) (S := S) (bb := bb) (o := o) hx hl hh ⟨by omega, by omega⟩ (by omega)
  simp only [Int.toNat_natCast, cutOff, if_neg (show ¬ n = l by omega)] at this
  exact this
theorem Zmw {S E sz by' bb o n c : Nat} {z : Value} {lo hi : Option Operand} {l h : Nat} [hs : TySlice P S E] [hi' : TyI P E sz by' z] (hx : ev ρ x = .slice (some ⟨bb, o, none⟩) n c)
    (hl : optB ρ 0 lo = some (l : Int)) (hh : optB ρ n hi = some (h : Int)) (hle : l ≤ h := by first|omega|exact Nat.le_of_ble_eq_true rfl|(simp; done)|(simp; omega)|decide) (hc : h ≤ c := by first|omega|exact Nat.le_of_ble_eq_true rfl|(simp; done)|(simp; omega)|decide) (hn : l < c := by first|omega|exact Nat.le_of_ble_eq_true rfl|(simp; done)|(simp; omega)|decide) : PV P (.slice S x lo hi none) ρ (.slice (some ⟨bb, o + l * sz, none⟩) (h - l) (c - l)) := by
  have := Zci (P := P) (S := S) (bb := bb) (o := o) hx hl hh ⟨by omega, by omega⟩ (by omega)
  simp only [Int.toNat_natCast, cutOff, if_neg (show ¬ c = l by omega)] at this
  exact this
theorem Zmx {S E by' bb o n : Nat} {z : Value} {lo hi : Option Operand} {l h : Nat} [hs : TyArr P S n E] [hi' : TyI P E 1 by' z] (hx : ev ρ x = .pointer (some ⟨bb, o, none⟩))
    (hl : optB ρ 0 lo = some (l : Int)) (hh : optB ρ n hi = some (h : Int)) (hle : l ≤ h := by first|omega|exact Nat.le_of_ble_eq_true rfl|(simp; done)|(simp; omega)|decide) (hc : h ≤ n := by first|omega|exact Nat.le_of_ble_eq_true rfl|(simp; done)|(simp; omega)|decide) (hn : l < n := by first|omega|exact Nat.le_of_ble_eq_true rfl|(simp; done)|(simp; omega)|decide) : PV P (.slice S x lo hi none) ρ (.slice (some ⟨bb, o + l, none⟩) (h - l) (n - l)) := by
  have := Zmv (P := P) (S := S) hx hl hh hle hc hn
  rwa [Nat.mul_one] at this
theorem Zmy {S E by' bb o n : Nat} {z : Value} {hi : Option Operand} {h : Nat} [hs : TyArr P S n E] [hi' : TyI P E 1 by' z] (hx : ev ρ x = .pointer (some ⟨bb, o, none⟩))
    (hh : optB ρ n hi = some (h : Int)) (hc : h ≤ n := by first|omega|exact Nat.le_of_ble_eq_true rfl|(simp; done)|(simp; omega)|decide) (hn : 0 < n := by first|omega|exact Nat.le_of_ble_eq_true rfl|(simp; done)|(simp; omega)|decide) : PV P (.slice S x none hi none) ρ (.slice (some ⟨bb, o, none⟩) h n) := by
  have := Zmx (P := P) (S := S) (lo := none) (l := 0) hx rfl hh (by omega) hc hn
  simpa using this
theorem Zmz {S E by' bb o n c : Nat} {z : Value} {lo hi : Option Operand} {l h : Nat} [hs : TySlice P S E] [hi' : TyI P E 1 by' z] (hx : ev ρ x = .slice (some ⟨bb, o, none⟩) n c)
    (hl : optB ρ 0 lo = some (l : Int)) (hh : optB ρ n hi = some (h : Int)) (hle : l ≤ h := by first|omega|exact Nat.le_of_ble_eq_true rfl|(simp; done)|(simp; omega)|decide) (hc : h ≤ c := by first|omega|exact Nat.le_of_ble_eq_true rfl|(simp; done)|(simp; omega)|decide) (hn : l < c := by first|omega|exact Nat.le_of_ble_eq_true rfl|(simp; done)|(simp; omega)|decide) : PV P (.slice S x lo hi none) ρ (.slice (some ⟨bb, o + l, none⟩) (h - l) (c - l)) := by
  have := Zmw (P := P) (S := S) hx hl hh hle hc hn
  rwa [Nat.mul_one] at this
/-- From the beginning on. -/
theorem Zm0 {S E sz by' bb o n c : Nat} {z : Value} {hi : Option Operand} {h : Nat} [hs : TySlice P S E] [hi' : TyI P E sz by' z] (hx : ev ρ x = .slice (some ⟨bb, o, none⟩) n c)
    (hh : optB ρ n hi = some (h : Int)) (hc : h ≤ c := by first|omega|exact Nat.le_of_ble_eq_true rfl|(simp; done)|(simp; omega)|decide) : PV P (.slice S x none hi none) ρ (.slice (some ⟨bb, o, none⟩) h c) := by
  have := Zci (P := P) (S := S) (bb := bb) (o := o) (lo := none) (l := 0) hx rfl hh ⟨by omega, by omega⟩ (by omega)
  have e : cutOff o (0 : Int).toNat c sz = o := by simp [cutOff]
  rw [e] at this
  simpa using this
/-- Whatever its address. -/
theorem Zm1 {S E sz by' n c : Nat} {a : Option Addr} {z : Value} {lo hi : Option Operand} {l h : Nat} [hs : TySlice P S E] [hi' : TyI P E sz by' z] (hx : ev ρ x = .slice a n c)
    (hl : optB ρ 0 lo = some (l : Int)) (hh : optB ρ n hi = some (h : Int)) (hle : l ≤ h) (hc : h ≤ c) : PV P (.slice S x lo hi none) ρ (.slice (if c = l then a else a.map (·.add (l * sz))) (h - l) (c - l)) := by
  intro oo w ho; unfold execOp; rw [ho]; refine op_run_value ?_; rw [hx]
  unfold Instr.sliceAt
  rw [run_bind P _ _ w w _ (run_under hs.h)]
  simp only []
  unfold Instr.slice
  rw [run_bind P _ _ w w _ (run_under hs.h)]
  simp only [Option.map_none]
  rw [run_bind P _ _ w w _ (run_bounds hl hh ⟨by omega, by omega⟩ (by omega)), run_bind P _ _ w w _ (run_size hi')]
  show (Result.ok (Value.slice _ _ _) w : Result Value) = _
  rw [Int.toNat_natCast, Int.toNat_natCast]
end
theorem Rd.cut {M : List Asrt} {a : Option Addr} {n c l : Nat} {xs : List Value} (h : Rd M 1 (.slice a n c) n xs) (hl : l ≤ n) (hc : n ≤ c) : Rd M 1 (.slice (if c = l then a else a.map (·.add (l * 1))) (n - l) (c - l)) (n - l) (xs.drop l) := by
  intro w0 F w H
  obtain ⟨h1, h2⟩ := h w0 F w H
  refine ⟨by simp [h1], ?_⟩
  by_cases hn : n = l
  · exact .inl ⟨_, _, rfl, by omega⟩
  · rcases h2 with ⟨a, k, _, h0⟩|⟨b, o, k, cc, E, fr, hv, hb, hle, hx⟩
    · omega
    · simp only [Value.slice.injEq] at hv
      obtain ⟨rfl, _, rfl⟩ := hv
      rw [if_neg (by omega)]
      refine .inr ⟨b, o + l, c - l, cc, E, fr, ?_, hb, by omega, ?_⟩
      · simp [Option.map, addr_add]
      · rw [← hx]
        simp only [Array.toList_extract, List.extract_eq_take_drop, List.drop_take, List.drop_drop]
        congr 1
        omega
theorem Zm2 {P : Program} {ρ : Env} {T : Nat} {x : Operand} {k kk : IntKind} {n : Int} [hs : TyInt P T kk] (hx : ev ρ x = .int k n) : PV P (.makeInterface T x) ρ (.iface T (.int k n)) := by
  intro oo w ho; unfold execOp; rw [ho]; refine op_run_value ?_; rw [hx]
  unfold Instr.makeInterface
  rw [run_bind P _ _ w w _ (run_under hs.h)]; rfl
theorem int_eq {k : IntKind} {a b : Int} (h : a = b) : Value.int k a = .int k b := by rw [h]
section
variable {P : Program} {w0 : World} {ops : Array Oper} {dst : Option Nat} {ty T E : TypeId} {pos : String} {after : Array Edge} {rest : List Oper} {ρ : Env} {K : XK} {M : List Asrt} {x y : Operand}
/-- A made slice of cells that are alike. -/
theorem Zm3 {α : Type} {by' : Nat} {z : Value} {f : α → Value} {a : α} {len cap : Nat} [hs : TySlice P T E] [hi : TyI P E 1 by' z] (hl : ev ρ x = .int .i64 len) (hc : ev ρ y = .int .i64 cap) (hz : z.cells = #[f a]) (hle : len ≤ cap) (hcap : cap ≤ 9223372036854775807) (hb : cap * by' ≤ 281474976710656)
    (k : ∀ b, xOps P w0 ops rest (put ρ dst (.slice (some ⟨b, 0, none⟩) len cap)) (cl b ((List.replicate cap a).map f).toArray E :: M) K) :
    xOps P w0 ops (⟨dst, .makeSlice T x y, ty, pos, after, none⟩ :: rest) ρ M K := by
  refine Zh6 hl hc hle hcap hb (by omega) ?_
  intro b
  have e : (List.replicate cap z.cells.toList).flatten = (List.replicate cap a).map f := by
    rw [hz]; show (List.replicate cap [f a]).flatten = _
    rw [zeros1]; simp
  rw [e]; exact k b
end
theorem getL {α : Type} {f : α → Value} {l : List α} {i : Nat} (h : i < l.length) : ((l.map f).toArray)[i]? = some (f l[i]) := by simp [h]
theorem getM {α : Type} {f : α → Value} {l : List α} {i : Nat} (h : i < l.length) : (l.map f)[i]? = some (f l[i]) := by simp [h]
theorem setL {α : Type} {f : α → Value} {l : List α} {i : Nat} {x : α} : ((l.map f).toArray).setIfInBounds i (f x) = ((l.set i x).map f).toArray := by simp
theorem szL {α : Type} {f : α → Value} {l : List α} : ((l.map f).toArray).size = l.length := by simp
theorem oneL_u8 (l : List (BitVec 8)) : ((l.map u8b).toArray).toList.all oneC = true := by simp [oneC]
theorem oneM_u8 (l : List (BitVec 8)) : (l.map u8b).all oneC = true := by simp [oneC]
end Go.Sl

/- The engine over pieces alone: arrays of bytes compared; slices of bytes, of slices of bytes; many pieces as one. -/
set_option linter.unusedVariables false
set_option linter.unusedSimpArgs false
namespace Go.Sl
open Go
abbrev Byte := BitVec 8
/-- An array type of n bytes. -/
class TyBA (P : Program) (T : Nat) (n : outParam Nat) : Prop where
  ex : ∃ E, P.underlying T = some (.array n E) ∧ P.underlying E = some (.int .u8) ∧ P.cellsOf E = 1
  ct : P.cellsOf T = n
  key : P.keyTypeAt 4 T = true
  g : P.eqGuardType P.depth T = false
section
variable {P : Program} {ρ : Env} {x y : Operand} {T T' n : Nat}
end
/-- Among the pieces M the slice v holds the bytes l. -/
structure Bs (M : List Asrt) (v : Value) (l : List Byte) : Prop where
  rd : Rd M 1 v l.length (l.map u8b)
  sh : ∀ w0 F w, St w0 w (F :: M) → ∃ a c, v = .slice a l.length c ∧ l.length ≤ c ∧ c ≤ 9223372036854775807
theorem Bs.imp {M N : List Asrt} {v : Value} {l : List Byte} (h : Bs N v l) (hi : Imp M N) : Bs M v l := ⟨h.rd.imp hi, fun w0 F w H => h.sh w0 F w (H.enx hi)⟩
theorem own_shape {E size n : Nat} {v : Value} {xs : List Value} {w0 w : World} {L : List Asrt} (H : St w0 w (own E size v n xs :: L)) : ∃ a c, v = .slice a n c ∧ n ≤ c ∧ c ≤ 9223372036854775807 := by
  rcases H.own_get with ⟨rfl, rfl, rfl, _⟩|⟨g, cap, cur, rfl, h2, h3, h4, h5, h6, H⟩
  · exact ⟨none, 0, rfl, by omega, by omega⟩
  · exact ⟨_, cap, rfl, h2, h3⟩
theorem Bs.own {M M' : List Asrt} {E : Nat} {v : Value} {l : List Byte} (hm : Has M (own E 1 v l.length (l.map u8b)) M') : Bs M v l :=
  ⟨Rd.own hm, fun w0 F w H => own_shape (H.pick (.there hm))⟩
theorem Bs.old {M M' : List Asrt} {W : World} {v : Value} {l : List Byte} (hm : Has M (old W) M') (h : SlW W 1 v l.length (l.map u8b)) (hs : ∃ a c, v = .slice a l.length c ∧ l.length ≤ c ∧ c ≤ 9223372036854775807) : Bs M v l :=
  ⟨Rd.old hm h, fun _ _ _ _ => hs⟩
theorem Bs.cl {M M' : List Asrt} {b o c E : Nat} {cc : Array Value} {l : List Byte} (hm : Has M (cl b cc E) M') (hle : o + l.length ≤ cc.size) (h : (cc.extract o (o + l.length)).toList = l.map u8b) (hc : l.length ≤ c) (hcm : c ≤ 9223372036854775807) :
    Bs M (.slice (some ⟨b, o, none⟩) l.length c) l :=
  ⟨Rd.cl hm (by simp) (by omega) (by rw [Nat.mul_one]; exact h), fun _ _ _ _ => ⟨_, _, rfl, hc, hcm⟩⟩
theorem Bs.nil {M : List Asrt} : Bs M (.slice none 0 0) [] := ⟨Rd.nil, fun _ _ _ _ => ⟨none, 0, rfl, by simp, by omega⟩⟩
theorem Bs.some {M : List Asrt} {a : Option Addr} {n c : Nat} {l : List Byte} {w0 w : World} {F : Asrt} (h : Bs M (.slice a n c) l) (hn : 0 < l.length) (H : St w0 w (F :: M)) : ∃ b o, a = some ⟨b, o, none⟩ := by
  obtain ⟨a', c', hv, _, _⟩ := h.sh _ _ _ H
  simp only [Value.slice.injEq] at hv
  obtain ⟨rfl, rfl, rfl⟩ := hv
  exact h.rd.someAt hn H
/-- ... a slice of slices of bytes: each with its value. -/
structure Rs (M : List Asrt) (v : Value) (ps : List (Value × List Byte)) : Prop where
  rd : Rd M 1 v ps.length (ps.map (·.1))
  sh : ∀ w0 F w, St w0 w (F :: M) → ∃ a c, v = .slice a ps.length c ∧ ps.length ≤ c ∧ c ≤ 9223372036854775807
  el : ∀ x ∈ ps, Bs M x.1 x.2
theorem Rs.imp {M N : List Asrt} {v : Value} {ps : List (Value × List Byte)} (h : Rs N v ps) (hi : Imp M N) : Rs M v ps := ⟨h.rd.imp hi, fun w0 F w H => h.sh w0 F w (H.enx hi), fun x hx => (h.el x hx).imp hi⟩
theorem Rs.own {M M' : List Asrt} {E : Nat} {v : Value} {ps : List (Value × List Byte)} (hm : Has M (Sl.own E 1 v ps.length (ps.map (·.1))) M') (h : ∀ x ∈ ps, Bs M x.1 x.2) : Rs M v ps :=
  ⟨Rd.own hm, fun w0 F w H => own_shape (H.pick (.there hm)), h⟩
theorem Rs.cl {M M' : List Asrt} {b o c E : Nat} {cc : Array Value} {ps : List (Value × List Byte)} (hm : Has M (Sl.cl b cc E) M') (hle : o + ps.length ≤ cc.size) (h : (cc.extract o (o + ps.length)).toList = ps.map (·.1)) (hc : ps.length ≤ c) (hcm : c ≤ 9223372036854775807) (he : ∀ x ∈ ps, Bs M x.1 x.2) :
    Rs M (.slice (some ⟨b, o, none⟩) ps.length c) ps :=
  ⟨Rd.cl hm (by simp) (by omega) (by rw [Nat.mul_one]; exact h), fun _ _ _ _ => ⟨_, _, rfl, hc, hcm⟩, he⟩

theorem Imp.own_mk {E size n cap g : Nat} {cur : Array Value} {xs : List Value} {M : List Asrt} (h1 : n ≤ cap) (h2 : cap ≤ 9223372036854775807) (h3 : cur.size = cap * size) (h4 : cur.toList.take (n * size) = xs) :
    Imp (Sl.cl g cur E :: M) (Sl.own E size (.slice (some ⟨g, 0, none⟩) n cap) n xs :: M) :=
  Imp.head fun h hg => ⟨by rw [← h4, List.length_take, Array.length_toList, h3]; exact Nat.min_eq_left (Nat.mul_le_mul_right _ h1), .inr ⟨g, cap, cur, rfl, hg, h1, h2, h3, h4⟩⟩
theorem Imp.own_nil {E size : Nat} {M : List Asrt} : Imp M (Sl.own E size (.slice none 0 0) 0 [] :: M) :=
  fun h hs => ⟨fun _ => none, h, ⟨by simp, .inl ⟨rfl, rfl⟩⟩, hs, Frag.none_disj _, Frag.none_sub _, Frag.sub_refl _⟩
theorem own_some {E n c : Nat} {a : Option Addr} {xs : List Value} {w0 w : World} {F : Asrt} {M M' : List Asrt} (hm : Has M (Sl.own E 1 (.slice a n c) n xs) M') (hn : 0 < n) (H : St w0 w (F :: M)) : ∃ g, a = some ⟨g, 0, none⟩ := by
  rcases (H.pick (.there hm)).own_get with ⟨hv, rfl, _⟩|⟨g, cap, cur, hv, _⟩
  · omega
  · simp only [Value.slice.injEq] at hv
    exact ⟨g, hv.1⟩
/-- Many pieces as one. -/
def star {α : Type} (A : α → Asrt) (l : List α) : Asrt := all (l.map A)
theorem star_nil {α : Type} {A : α → Asrt} {M : List Asrt} : Imp M (star A [] :: M) := by
  have := Imp.app (L := []) (M := M)
  exact this
theorem star_cons {α : Type} {A : α → Asrt} {x : α} {l : List α} {M : List Asrt} : Imp (A x :: star A l :: M) (star A (x :: l) :: M) := by
  have h : Imp (A x :: star A l :: M) (A x :: (l.map A ++ M)) := Imp.cons Imp.unapp
  exact h.trans (Imp.app (L := A x :: l.map A))
theorem star_uncons {α : Type} {A : α → Asrt} {x : α} {l : List α} {M : List Asrt} : Imp (star A (x :: l) :: M) (A x :: star A l :: M) := by
  have h : Imp (star A (x :: l) :: M) (A x :: (l.map A ++ M)) := Imp.unapp (L := A x :: l.map A)
  exact h.trans (Imp.cons Imp.app)
theorem star_app {α : Type} {A : α → Asrt} {l l2 : List α} {M : List Asrt} : Imp (star A l :: star A l2 :: M) (star A (l ++ l2) :: M) := by
  induction l with
  | nil => exact Imp.tail
  | cons x l ih =>
    refine (star_uncons (M := star A l2 :: M)).trans ?_
    exact (Imp.cons ih).trans star_cons
theorem star_unapp {α : Type} {A : α → Asrt} {l l2 : List α} {M : List Asrt} : Imp (star A (l ++ l2) :: M) (star A l :: star A l2 :: M) := by
  induction l with
  | nil => exact star_nil
  | cons x l ih =>
    refine (star_uncons (M := M)).trans ?_
    exact (Imp.cons ih).trans (star_cons (M := star A l2 :: M))
theorem star_snoc {α : Type} {A : α → Asrt} {x : α} {l : List α} {M : List Asrt} : Imp (A x :: star A l :: M) (star A (l ++ [x]) :: M) := by
  have h1 : Imp (A x :: star A l :: M) (star A [x] :: star A l :: M) := by
    have := star_cons (A := A) (x := x) (l := []) (M := star A l :: M)
    exact (Imp.cons star_nil).trans this
  exact h1.trans (Imp.swap.trans star_app)
/-- One of them, and the others. -/
theorem star_at {α : Type} {A : α → Asrt} {l : List α} {i : Nat} (h : i < l.length) {M : List Asrt} : Imp (star A l :: M) (A l[i] :: star A (l.eraseIdx i) :: M) := by
  have e : l = l.take i ++ l[i] :: l.drop (i + 1) := by rw [← List.drop_eq_getElem_cons h, List.take_append_drop]
  have e2 : l.eraseIdx i = l.take i ++ l.drop (i + 1) := List.eraseIdx_eq_take_drop_succ ..
  have h1 : Imp (star A l :: M) (star A (l.take i) :: star A (l[i] :: l.drop (i + 1)) :: M) := by
    have := star_unapp (A := A) (l := l.take i) (l2 := l[i] :: l.drop (i + 1)) (M := M)
    rwa [← e] at this
  rw [e2]
  refine h1.trans ((Imp.cons star_uncons).trans ?_)
  exact Imp.swap.trans (Imp.cons star_app)
theorem star_back {α : Type} {A : α → Asrt} {l : List α} {i : Nat} (h : i < l.length) (y : α) {M : List Asrt} : Imp (A y :: star A (l.eraseIdx i) :: M) (star A (l.set i y) :: M) := by
  have e2 : l.eraseIdx i = l.take i ++ l.drop (i + 1) := List.eraseIdx_eq_take_drop_succ ..
  rw [e2, List.set_eq_take_append_cons_drop, if_pos h]
  refine (Imp.cons star_unapp).trans ?_
  refine Imp.swap.trans ?_
  exact (Imp.cons star_cons).trans star_app
class NeB (a b : Nat) : Prop where h : Nat.beq a b = false
instance NeB.l {n : Nat} : NeB (n + 1) 0 := ⟨rfl⟩
instance NeB.r {n : Nat} : NeB 0 (n + 1) := ⟨rfl⟩
instance NeB.s {n m : Nat} [i : NeB n m] : NeB (n + 1) (m + 1) := ⟨i.h⟩
class Ct (A : Prop) (B : outParam Prop) : Prop where o : B → A
section
variable {P : Program} {w0 : World} {x y c : Code} {ρ : Env} {M : List Asrt} {Q : XQ} {k : XK} {id id' : Nat} {B : Prop}
instance (priority := low) Ct.iz {A : Prop} : Ct A A := ⟨fun h => h⟩
instance Ct.ja [i : Ct (xC P w0 x ρ M (xthen (fun ρ' M' => xC P w0 y ρ' M' Q) Q)) B] : Ct (xC P w0 (.seq x y) ρ M Q) B := ⟨fun h => zA (i.o h)⟩
instance Ct.jb [i : Ct (Q .normal ρ M) B] : Ct (xC P w0 .skip ρ M Q) B := ⟨fun h => zB (i.o h)⟩
instance Ct.jc [i : Ct (xC P w0 c ρ M (xblk id Q)) B] : Ct (xC P w0 (.block id c) ρ M Q) B := ⟨fun h => zC (i.o h)⟩
instance Ct.jd [i : Ct (Q .normal ρ M) B] : Ct (xC P w0 (.label id) ρ M Q) B := ⟨fun h => zD (i.o h)⟩
instance Ct.je [i : Ct (Q (.exit id) ρ M) B] : Ct (xC P w0 (.exit id) ρ M Q) B := ⟨fun h => zE (i.o h)⟩
instance Ct.jf [i : Ct (Q .ret ρ M) B] : Ct (xC P w0 .ret ρ M Q) B := ⟨fun h => zF (i.o h)⟩
instance Ct.jg [i : Ct (k ρ M) B] : Ct (xthen k Q .normal ρ M) B := ⟨fun h => zG (i.o h)⟩
instance Ct.jh [i : Ct (Q (.exit id) ρ M) B] : Ct (xthen k Q (.exit id) ρ M) B := ⟨fun h => zH (i.o h)⟩
instance Ct.ji [i : Ct (Q .ret ρ M) B] : Ct (xthen k Q .ret ρ M) B := ⟨fun h => zI (i.o h)⟩
instance Ct.jj [i : Ct (Q .normal ρ M) B] : Ct (xblk id Q .normal ρ M) B := ⟨fun h => zJ (i.o h)⟩
instance Ct.jk [i : Ct (Q .normal ρ M) B] : Ct (xblk id Q (.exit id) ρ M) B := ⟨fun h => zK (i.o h)⟩
instance Ct.jl [i : Ct (Q .ret ρ M) B] : Ct (xblk id Q .ret ρ M) B := ⟨fun h => zL (i.o h)⟩
instance (priority := 900) Ct.im [j : NeB id' id] [i : Ct (Q (.exit id') ρ M) B] : Ct (xblk id Q (.exit id') ρ M) B := ⟨fun h => zM j.h (i.o h)⟩
instance Ct.js {l : Nat} [i : Ct (Q (.goto l) ρ M) B] : Ct (xC P w0 (.goto l) ρ M Q) B := ⟨fun h => Znd (i.o h)⟩
instance Ct.jt {l : Nat} [i : Ct (Q (.goto l) ρ M) B] : Ct (xthen k Q (.goto l) ρ M) B := ⟨fun h => Zne (i.o h)⟩
instance Ct.ju {l : Nat} [i : Ct (Q (.goto l) ρ M) B] : Ct (xblk id Q (.goto l) ρ M) B := ⟨fun h => Znf (i.o h)⟩
instance Ct.jv [i : Ct (Q .normal ρ M) B] : Ct (xng Q .normal ρ M) B := ⟨fun h => Zng (i.o h)⟩
instance Ct.jw [i : Ct (Q (.exit id) ρ M) B] : Ct (xng Q (.exit id) ρ M) B := ⟨fun h => Znh (i.o h)⟩
instance Ct.jx [i : Ct (Q .ret ρ M) B] : Ct (xng Q .ret ρ M) B := ⟨fun h => Zni (i.o h)⟩
section
variable {S : Type} {I : S → Prop} {Mf : S → List Asrt} {U : S → List (Nat × Value)} {μ : S → Nat} {m : Nat}
instance Ct.k1 {l : Nat} [i : Ct (Q .normal ρ M) B] : Ct (xgo l I Mf U Q .normal ρ M) B := ⟨fun h => Znj (i.o h)⟩
instance Ct.k2 {l : Nat} [i : Ct (Q (.exit id) ρ M) B] : Ct (xgo l I Mf U Q (.exit id) ρ M) B := ⟨fun h => Znk (i.o h)⟩
instance Ct.k3 {l : Nat} [i : Ct (Q .ret ρ M) B] : Ct (xgo l I Mf U Q .ret ρ M) B := ⟨fun h => Znl (i.o h)⟩
instance Ct.jn [i : Ct (Q (.exit id) ρ M) B] : Ct (xcut I Mf U Q (.exit id) ρ M) B := ⟨fun h => zN (i.o h)⟩
instance Ct.jp [i : Ct (Q .ret ρ M) B] : Ct (xcut I Mf U Q .ret ρ M) B := ⟨fun h => zO (i.o h)⟩
instance Ct.jq [i : Ct (Q (.exit id) ρ M) B] : Ct (xloop I Mf U μ m Q (.exit id) ρ M) B := ⟨fun h => zP (i.o h)⟩
instance Ct.jr [i : Ct (Q .ret ρ M) B] : Ct (xloop I Mf U μ m Q .ret ρ M) B := ⟨fun h => zQ (i.o h)⟩
end
end
/-! short names for what a walk proves again and again -/
theorem qH {L L' : List Asrt} {A : Asrt} (h : Has L A L' := by repeat constructor) : Has L A L' := h
theorem qR {L L' : List Asrt} {A B : Asrt} (h : Repl L A B L' := by repeat constructor) : Repl L A B L' := h
theorem qT {L M R : List Asrt} (h : Take L M R := by repeat (first|exact Take.nil|exact Take.all|(apply Take.cons; (next => (repeat constructor); done))|apply Take.skip)) : Take L M R := h
theorem qA {L M R : List Asrt} (h : App L M R := by repeat (first|exact App.nil|apply App.cons|(apply App.flip; first|exact App.nil|apply App.cons)|exact App.any)) : App L M R := h
theorem qV {L M : List Asrt} (h : Arr L M := by repeat (first|exact Arr.nil|exact Arr.stop|refine Arr.cons (by repeat constructor) ?_|refine Arr.skip ?_)) : Arr L M := h
theorem qI {L M : List Asrt} (h : Arr L M := by repeat (first|exact Arr.nil|exact Arr.stop|refine Arr.cons (by repeat constructor) ?_|refine Arr.skip ?_)) : Imp L M := Imp.arr h
theorem qZ {p : Prop} (h : p := by first|omega|(rw [szL]; omega)|rfl|exact Nat.le_of_ble_eq_true rfl|(simp; done)|(simp; omega)) : p := h
theorem qS {p : Prop} (h : p := by first|omega|exact Nat.le_of_ble_eq_true rfl|(simp; done)|(simp; omega)|decide) : p := h
theorem qO {p : Prop} (h : p := by first|omega|(dsimp only; omega)|(simp only []; omega)) : p := h
theorem qF {p : Prop} (h : p := by first|rfl|exact fill_one rfl rfl) : p := h
theorem qB {p : Prop} (h : p := by first|rfl|(simp [optB]; done)|(simp [optB]; omega)) : p := h
theorem qN {p : Prop} (h : p := by first|rfl|exact oneM_u8 _|exact oneL_u8 _|(simp [oneC]; done)) : p := h
end Go.Sl

/- the bridge from a contract to a row. -/
namespace Go.Sl
open Go Go.ChangeShapes Go.WideShapes Go.ChangeAt Go.RowKit
theorem con_law {P : Program} {f : FuncId} {args : List Value} {W : World} (h : Con P f args [old W] (fun v M => v = .bool true ∧ [old W] = M)) : Calls P f args.toArray W (fun e w' => e = .returned (.bool true) ∧ Below W.heap.size W w') := by
  have H : St W W (pur True :: [old W]) := (St.start W).pur_mk trivial
  refine (h W _ W H).mono ?_
  rintro e w' ⟨v, he, M', H', hv, rfl⟩
  exact ⟨by rw [he, hv], H'.below (.there .here)⟩
/-- A contract that needs nothing, among whatever pieces. -/
theorem Con.frame {P : Program} {F : FuncId} {args : List Value} {M L : List Asrt} {Φ : Value → List Asrt → Prop} (h : Con P F args M Φ) : Con P F args (M ++ L) (fun v N => ∃ M', Φ v M' ∧ M' ++ L = N) := by
  intro w0 Fr w H
  have H2 : St w0 w (all (Fr :: L) :: M) := by
    refine H.ent ((Imp.cons Imp.comm).trans ?_)
    exact Imp.app (L := Fr :: L) (M := M)
  refine (h w0 _ w H2).mono (Ret.mono ?_)
  rintro v w' ⟨M', H', hφ⟩
  exact ⟨M' ++ L, H'.ent (Imp.unapp.trans (Imp.cons Imp.comm)), M', hφ, rfl⟩
end Go.Sl

/- what comes in, opened: arrays of bytes, bytes, slices of bytes. -/
set_option linter.unusedVariables false
set_option linter.unusedSimpArgs false
namespace Go.Sl
open Go Go.ChangeShapes Go.WideShapes Go.ChangeAt Go.RowKit
variable {H : Type} {enc : TypeId × Value → H} {P : Program} {w : World} {base : Nat} {spare : Nat → Bool} {held : Bool}
theorem byte_of {n : Int} (hw : (Lit.int .u8 n).wf = true) : ∃ b : Byte, Value.int .u8 n = u8b b := by
  simp only [Lit.wf, Bool.and_eq_true, decide_eq_true_eq] at hw
  have hlo : IntKind.u8.min = 0 := by decide
  have hhi : IntKind.u8.max = 255 := by decide
  refine ⟨BitVec.ofNat 8 n.toNat, ?_⟩
  show Value.int .u8 n = .int .u8 _
  rw [BitVec.toNat_ofNat]
  congr 1
  omega
theorem list_bytes {cs : List Value} (h : ∀ v ∈ cs, ∃ b : Byte, v = u8b b) : ∃ l : List Byte, cs = l.map u8b := by
  induction cs with
  | nil => exact ⟨[], rfl⟩
  | cons v cs ih =>
    obtain ⟨b, hb⟩ := h v (.head _)
    obtain ⟨l, hl⟩ := ih (fun x hx => h x (.tail _ hx))
    exact ⟨b :: l, by rw [hb, hl]; rfl⟩
/-- An array of bytes. -/
theorem open_ba {T n fuel : Nat} {cs : List Value} {x : DataW H × List MemPlace} [ht : TyBA P T n] (h : DataW.trod enc P w base spare held fuel T cs = some x) : ∃ l : List Byte, cs = l.map u8b ∧ l.length = n := by
  obtain ⟨E, h1, h2, h3⟩ := ht.ex
  obtain ⟨xs, m, _, _, hl, hxl, hel⟩ := DataW.trod_array h1 h
  rw [ht.ct] at hl
  have hb : ∀ v ∈ cs, ∃ b : Byte, v = u8b b := by
    intro v hv
    obtain ⟨i, hi, rfl⟩ := List.getElem_of_mem hv
    have h4 := hel i (by omega)
    rw [h3, Nat.mul_one] at h4
    rw [List.getElem?_eq_getElem (show i < xs.length by omega)] at h4
    have e : (cs.drop i).take 1 = [cs[i]] := by rw [List.drop_eq_getElem_cons hi]; rfl
    rw [e] at h4
    obtain ⟨k, hk, _, hw⟩ := DataW.trod_int h2 h4
    simp only [List.cons.injEq, and_true] at hk
    rw [hk]
    exact byte_of hw
  obtain ⟨l, rfl⟩ := list_bytes hb
  exact ⟨l, rfl, by simpa using hl⟩
theorem slice_shape {t e fuel : Nat} {cs : List Value} {x : DataW H × List MemPlace} (ht : P.underlying t = some (.slice e)) (h : DataW.trod enc P w base spare held fuel t cs = some x) :
    ∃ a len cap, cs = [.slice a len cap] ∧ len ≤ cap ∧ cap ≤ 9223372036854775807 := by
  rcases DataW.trod_slice ht h with ⟨rfl, _⟩|⟨a, len, cap, elems, rest, n, _, rfl, hx, hb, hl, hm, _⟩
  · exact ⟨none, 0, 0, rfl, by omega, by omega⟩
  · exact ⟨some a, len, cap, rfl, hl, by unfold Go.maxLen at hm; omega⟩
/-- What a slice of bytes is when it comes in. -/
structure InB (W : World) (v : Value) (l : List Byte) : Prop where
  sl : SlW W 1 v l.length (l.map u8b)
  sh : ∃ a c, v = .slice a l.length c ∧ l.length ≤ c ∧ c ≤ 9223372036854775807
  len : l.length ≤ 140737488351232
theorem InB.bs {W : World} {v : Value} {l : List Byte} {M M' : List Asrt} (h : InB W v l) (hm : Has M (old W) M') : Bs M v l := Bs.old hm h.sl h.sh
theorem open_bs {t e fuel : Nat} {cs : List Value} {x : DataW H × List MemPlace} (ht : P.underlying t = some (.slice e)) (he : P.underlying e = some (.int .u8)) (hc : P.cellsOf e = 1) (hby : P.bytesOf e = 1) (h : DataW.trod enc P w base spare held fuel t cs = some x) (hs : Small P t x.1) :
    ∃ (v : Value) (l : List Byte), cs = [v] ∧ InB w v l := by
  obtain ⟨v, l, h1, h2, h3, h4⟩ := open_bytess ht he hc hby h hs
  obtain ⟨a, len, cap, h5, h6, h7⟩ := slice_shape ht h
  rw [h1] at h5
  simp only [List.cons.injEq, and_true] at h5
  have hb : ∀ u ∈ l.map u8v, ∃ b : Byte, u = u8b b := by
    intro u hu
    obtain ⟨n, hn, rfl⟩ := List.mem_map.1 hu
    exact byte_of (h3 n hn)
  obtain ⟨lb, hlb⟩ := list_bytes hb
  have hll : l.length = lb.length := by have := congrArg List.length hlb; simpa using this
  rw [hlb, hll] at h2
  obtain ⟨a', k', hv⟩ := h2.len
  rw [h5] at hv
  simp only [Value.slice.injEq] at hv
  obtain ⟨rfl, rfl, rfl⟩ := hv
  exact ⟨v, lb, h1, ⟨h2, ⟨a, cap, h5, h6, h7⟩, by omega⟩⟩
/-- ... a slice of them. -/
structure InR (W : World) (v : Value) (ps : List (Value × List Byte)) : Prop where
  sl : SlW W 1 v ps.length (ps.map (·.1))
  sh : ∃ a c, v = .slice a ps.length c ∧ ps.length ≤ c ∧ c ≤ 9223372036854775807
  el : ∀ x ∈ ps, InB W x.1 x.2
  len : ps.length * 24 ≤ 140737488351232
theorem InR.rs {W : World} {v : Value} {ps : List (Value × List Byte)} {M M' : List Asrt} (h : InR W v ps) (hm : Has M (old W) M') : Rs M v ps :=
  ⟨Rd.old hm h.sl, fun _ _ _ _ => h.sh, fun x hx => (h.el x hx).bs hm⟩
end Go.Sl

/- The engine over pieces alone: runs of operations, each by its rule. -/
set_option linter.unusedVariables false
set_option linter.unusedSimpArgs false
namespace Go.Sl
open Go
section
variable {P : Program} {ρ : Env} {x y : Operand} {T T' : Nat} {a n : Nat}
theorem Zn1 (hx : ev ρ x = .int .i64 (a : Int)) (hy : ev ρ y = .int .i64 (OfNat.ofNat n)) (h : a + (OfNat.ofNat n : Nat) ≤ 9223372036854775807 := by first|omega|exact Nat.le_of_ble_eq_true rfl|(simp; done)|(simp; omega)|decide) : PV P (.binOp .add T x y T') ρ (.int .i64 ((a + OfNat.ofNat n : Nat) : Int)) := Zma (b := OfNat.ofNat n) hx hy h
theorem Zn2 (hx : ev ρ x = .int .i64 (a : Int)) (hy : ev ρ y = .int .i64 (OfNat.ofNat n)) (h : (OfNat.ofNat n : Nat) ≤ a := by first|omega|exact Nat.le_of_ble_eq_true rfl|(simp; done)|(simp; omega)|decide) (ha : a ≤ 9223372036854775807 := by first|omega|exact Nat.le_of_ble_eq_true rfl|(simp; done)|(simp; omega)|decide) : PV P (.binOp .sub T x y T') ρ (.int .i64 ((a - OfNat.ofNat n : Nat) : Int)) := Zmb (b := OfNat.ofNat n) hx hy h ha
theorem Zn3 (hx : ev ρ x = .int .i64 (a : Int)) (hy : ev ρ y = .int .i64 (OfNat.ofNat n)) (h : a * (OfNat.ofNat n : Nat) ≤ 9223372036854775807 := by first|omega|exact Nat.le_of_ble_eq_true rfl|(simp; done)|(simp; omega)|decide) : PV P (.binOp .mul T x y T') ρ (.int .i64 ((a * OfNat.ofNat n : Nat) : Int)) := Zmc (b := OfNat.ofNat n) hx hy h
theorem Zn4 (hx : ev ρ x = .int .i64 (a : Int)) (hy : ev ρ y = .int .i64 (OfNat.ofNat n)) (h : 0 < (OfNat.ofNat n : Nat) := by first|omega|exact Nat.le_of_ble_eq_true rfl|(simp; done)|(simp; omega)|decide) (ha : a ≤ 9223372036854775807 := by first|omega|exact Nat.le_of_ble_eq_true rfl|(simp; done)|(simp; omega)|decide) : PV P (.binOp .quo T x y T') ρ (.int .i64 ((a / OfNat.ofNat n : Nat) : Int)) := Zmd (b := OfNat.ofNat n) hx hy h ha
theorem Zn5 (hx : ev ρ x = .int .i64 (a : Int)) (hy : ev ρ y = .int .i64 (OfNat.ofNat n)) (h : 0 < (OfNat.ofNat n : Nat) := by first|omega|exact Nat.le_of_ble_eq_true rfl|(simp; done)|(simp; omega)|decide) : PV P (.binOp .rem T x y T') ρ (.int .i64 ((a % OfNat.ofNat n : Nat) : Int)) := Zme (b := OfNat.ofNat n) hx hy h
theorem Zn6 {k : IntKind} (hx : ev ρ x = .int k (a : Int)) (hy : ev ρ y = .int k (OfNat.ofNat n)) : PV P (.binOp .lss T x y T') ρ (.bool (decide (a < OfNat.ofNat n))) := Zmf (b := OfNat.ofNat n) hx hy
theorem Zn7 {k : IntKind} (hx : ev ρ x = .int k (a : Int)) (hy : ev ρ y = .int k (OfNat.ofNat n)) : PV P (.binOp .leq T x y T') ρ (.bool (decide (a ≤ OfNat.ofNat n))) := Zmg (b := OfNat.ofNat n) hx hy
theorem Zn8 {k : IntKind} (hx : ev ρ x = .int k (a : Int)) (hy : ev ρ y = .int k (OfNat.ofNat n)) : PV P (.binOp .gtr T x y T') ρ (.bool (decide (OfNat.ofNat n < a))) := Zmh (b := OfNat.ofNat n) hx hy
theorem Zn9 {k : IntKind} (hx : ev ρ x = .int k (a : Int)) (hy : ev ρ y = .int k (OfNat.ofNat n)) : PV P (.binOp .geq T x y T') ρ (.bool (decide (OfNat.ofNat n ≤ a))) := Zmi (b := OfNat.ofNat n) hx hy
theorem Zoa {k : IntKind} (hx : ev ρ x = .int k (a : Int)) (hy : ev ρ y = .int k (OfNat.ofNat n)) : PV P (.binOp .eql T x y T') ρ (.bool (decide (a = OfNat.ofNat n))) := Zmj (b := OfNat.ofNat n) hx hy
theorem Zob {k : IntKind} (hx : ev ρ x = .int k (a : Int)) (hy : ev ρ y = .int k (OfNat.ofNat n)) : PV P (.binOp .neq T x y T') ρ (.bool (decide (a ≠ OfNat.ofNat n))) := Zmk (b := OfNat.ofNat n) hx hy
end
attribute [local irreducible] cl pt own old pur ex all den denOps denS xOps xC cX CX xthen xblk xcut xloop xgo xng retX resX Calls PV Rd Con
/-- The rule of a pure operation. -/
theorem pvA {p : Prop} (h : p := by
    first
    | (guard_target =~ PV _ (.move _) _ _; first|exact Zat rfl|exact Zax rfl|exact Zaw rfl|exact Zav rfl|exact Zau rfl|exact Zmo rfl|exact Zmp rfl|exact Zmn rfl|exact Zmm rfl|exact Zay rfl|exact Zar rfl)
    | (guard_target =~ PV _ (.assign _) _ _; first|exact Zaz rfl|exact Za3 rfl|exact Za2 rfl|exact Za1 rfl|exact Za0 rfl|exact Zmr rfl|exact Zms rfl|exact Zmq rfl|exact Zmt rfl|exact Zmu rfl|exact Zas rfl)
    | (guard_target =~ PV _ (.call _) _ _; first|exact Zcr rfl|exact Zct|exact Zcu rfl|exact Zcv rfl rfl|exact Zcw rfl rfl)
    | (guard_target =~ PV _ (.fieldAddr _ _ _) _ _; first|exact Zl8 rfl|exact Zce rfl qS)
    | (guard_target =~ PV _ (.pick _ _ _) _ _; first|exact Zdz rfl rfl|exact Zd0 rfl rfl|exact Za8 rfl rfl|exact Za9 rfl rfl|exact Za6 rfl rfl|exact Za7 rfl rfl)
    | (guard_target =~ PV _ (.nilCheck _) _ _; first|exact Zba rfl)
    | (guard_target =~ PV _ (.extract _ _) _ _; first|exact Zco rfl rfl)
    | (guard_target =~ PV _ (.binOp .lss _ _ (.const _) _) _ _; first|exact Zn6 rfl rfl)
    | (guard_target =~ PV _ (.binOp .eql _ _ (.const _) _) _ _; first|exact Zoa rfl rfl)
    | (guard_target =~ PV _ (.binOp .neq _ _ (.const _) _) _ _; first|exact Zob rfl rfl)
    | (guard_target =~ PV _ (.binOp .geq _ _ (.const _) _) _ _; first|exact Zn9 rfl rfl)
    | (guard_target =~ PV _ (.binOp .gtr _ _ (.const _) _) _ _; first|exact Zn8 rfl rfl)
    | (guard_target =~ PV _ (.binOp .leq _ _ (.const _) _) _ _; first|exact Zn7 rfl rfl)
    | (guard_target =~ PV _ (.binOp .add _ _ (.const _) _) _ _; first|exact Zn1 rfl rfl)
    | (guard_target =~ PV _ (.binOp .sub _ _ (.const _) _) _ _; first|exact Zn2 rfl rfl)
    | (guard_target =~ PV _ (.binOp .mul _ _ (.const _) _) _ _; first|exact Zn3 rfl rfl)
    | (guard_target =~ PV _ (.binOp .quo _ _ (.const _) _) _ _; first|exact Zn4 rfl rfl)
    | (guard_target =~ PV _ (.binOp .rem _ _ (.const _) _) _ _; first|exact Zn5 rfl rfl)
    | (guard_target =~ PV _ (.binOp .lss _ _ _ _) _ _; first|exact Zmf rfl rfl|exact Zbn rfl rfl)
    | (guard_target =~ PV _ (.binOp .eql _ _ _ _) _ _; first|exact Zmj rfl rfl|exact Zbr rfl rfl|exact Zca rfl rfl|exact Zcc rfl rfl|exact Zb7 rfl rfl)
    | (guard_target =~ PV _ (.binOp .neq _ _ _ _) _ _; first|exact Zmk rfl rfl|exact Zbs rfl rfl|exact Zcb rfl rfl|exact Zcd rfl rfl|exact Zb8 rfl rfl)
    | (guard_target =~ PV _ (.binOp .geq _ _ _ _) _ _; first|exact Zmi rfl rfl|exact Zbq rfl rfl)
    | (guard_target =~ PV _ (.binOp .gtr _ _ _ _) _ _; first|exact Zmh rfl rfl|exact Zbp rfl rfl)
    | (guard_target =~ PV _ (.binOp .leq _ _ _ _) _ _; first|exact Zmg rfl rfl|exact Zbo rfl rfl)
    | (guard_target =~ PV _ (.binOp .add _ _ _ _) _ _; first|exact Zma rfl rfl|exact Zbg rfl rfl|exact Zkn rfl rfl|exact Zi9 rfl rfl|exact Zlc rfl rfl)
    | (guard_target =~ PV _ (.binOp .sub _ _ _ _) _ _; first|exact Zmb rfl rfl|exact Zbh rfl rfl)
    | (guard_target =~ PV _ (.binOp .mul _ _ _ _) _ _; first|exact Zmc rfl rfl|exact Zbi rfl rfl)
    | (guard_target =~ PV _ (.binOp .quo _ _ _ _) _ _; first|exact Zmd rfl rfl|exact Zbj rfl rfl)
    | (guard_target =~ PV _ (.binOp .rem _ _ _ _) _ _; first|exact Zme rfl rfl|exact Zbl rfl rfl)
    | (guard_target =~ PV _ (.binOp .xor _ _ _ _) _ _; first|exact Zks rfl rfl|exact Zje rfl rfl|exact Zlh rfl rfl)
    | (guard_target =~ PV _ (.binOp .or _ _ _ _) _ _; first|exact Zkr rfl rfl|exact Zjd rfl rfl|exact Zlg rfl rfl)
    | (guard_target =~ PV _ (.binOp .and _ _ _ _) _ _; first|exact Zkq rfl rfl|exact Zjc rfl rfl|exact Zlf rfl rfl)
    | (guard_target =~ PV _ (.indexAddr _ _ _) _ _; first|exact Zl4 rfl rfl|exact Zl1 rfl rfl|exact Zl6 rfl rfl|exact Zcg rfl rfl qS|exact Zl5 rfl rfl|exact Zl3 rfl rfl|exact Zl7 rfl rfl|exact Zl2 rfl rfl)
    | (guard_target =~ PV _ (.unOp _ _ _) _ _; first|exact Zb1 rfl|exact Zb0 rfl)
    | (guard_target =~ PV _ (.field _ _ _) _ _; first|exact Zcl rfl rfl|exact Zcm rfl rfl)
    | (guard_target =~ PV _ (.makeFunc _ _ _) _ _; first|exact Zf3)
    | (guard_target =~ PV _ (.makeInterface _ _) _ _; first|exact Zm2 rfl)) : p := h
/-- What is still to be shown, hidden from the tactics. -/
structure Wr0 (A : Prop) : Prop where
  o : A
/-- An operation whose guard is down. -/
theorem Y0 {A B : Prop} (k : A) (h : Wr0 A → B := by
    intro k
    first
    | exact Zhi rfl k.o
    | exact Zhj rfl k.o) : B := h ⟨k⟩
/-- An operation without a guard. -/
theorem Yu {A B : Prop} (k : A) (h : Wr0 A → B := by
    intro k
    first
    | (guard_target =~ xOps _ _ _ _ _ (_ ++ _) _; exact Zg2 (by repeat (first|exact App.nil|apply App.cons|(apply App.flip; first|exact App.nil|apply App.cons)|exact App.any)) k.o)
    | (guard_target =~ xOps _ _ _ [] _ _ _; exact Zg3 k.o)
    | (guard_target =~ xOps _ _ _ (⟨_, .load _ _, _, _, _, none⟩ :: _) _ _ _; first|exact Zhp rfl qH rfl k.o|exact Zhr rfl qH qZ k.o|exact Zhq rfl qH qZ rfl k.o)
    | (guard_target =~ xOps _ _ _ (⟨_, .store _ _ _, _, _, _, none⟩ :: _) _ _ _; first|exact Zht rfl rfl qR qZ rfl k.o|exact Zhw rfl rfl qR qZ rfl k.o|exact Zhv rfl rfl qR qZ rfl k.o|exact Zhu rfl rfl qR qZ rfl k.o)
    | (guard_target =~ xOps _ _ _ (⟨_, _, _, _, _, none⟩ :: _) _ _ _; exact Zhg pvA k.o)) : B := h ⟨k⟩
/-- One operation. -/
theorem Y1 {A B : Prop} (k : A) (h : Wr0 A → B := by
    intro k
    first
    | (guard_target =~ xOps _ _ _ (⟨_, _, _, _, _, some _⟩ :: _) _ _ _; first|exact Zhi rfl k.o|exact Zhj rfl k.o|(refine Zhh rfl ?_; exact Yu k.o))
    | (guard_target =~ xOps _ _ _ _ _ _ _; exact Yu k.o)
    | (refine Ct.o ?_; first
        | (guard_target =~ xC _ _ (.region _ _ _) _ _ _; exact Zgb k.o)
        | (guard_target =~ xC _ _ (.cond _ _ _) _ _ _; first|exact Zge rfl k.o|exact Zgf rfl k.o))) : B := h ⟨k⟩
theorem V1 {A B : Prop} (k : A) (h : Wr0 A → B := by intro k; refine Y1 ?_; exact Ct.o k.o) : B := h ⟨k⟩
/-- Has an operation no guard? -/
def gNone (ops : Array Oper) (i : Nat) : Bool := match ops[i]? with
  | some ⟨_, _, _, _, _, none⟩ => true
  | _ => false
theorem Wq {P : Program} {w0 : World} {ops : Array Oper} {SM : List Asrt} {i : Nat} {r : Ord} {ρ : Env} {M : List Asrt} {K : XK} (hg : gNone ops i = true) (h : cX P w0 ops SM (.q i r) ρ M K) : cX P w0 ops SM (.q i r) ρ M K := h
theorem Wr {P : Program} {w0 : World} {ops : Array Oper} {SM : List Asrt} {i : Nat} {r : Ord} {ρ : Env} {M : List Asrt} {K : XK} (hg : gNone ops i = true) (h : cX P w0 ops SM (.r i r) ρ M K) : cX P w0 ops SM (.r i r) ρ M K := h
/-- One operation in a drawn order. -/
theorem W1 {A B : Prop} (k : A) (h : Wr0 A → B := by
    intro k
    first
    | (guard_target =~ cX _ _ _ _ .nil _ _ _; exact Zik k.o)
    | (guard_target =~ cX _ _ _ _ (.q _ _) _ _ _; first|(refine Wq rfl ?_; exact Zim rfl pvA k.o)|exact Zio rfl rfl k.o|exact Zip rfl rfl k.o|exact Zin rfl rfl pvA k.o)
    | (guard_target =~ cX _ _ _ _ (.r _ _) _ _ _; first|(refine Wr rfl ?_; first|exact Ziv rfl rfl qH rfl k.o|exact Ziy rfl rfl qH qZ k.o|exact Zix rfl rfl qH qZ rfl k.o|exact Ziz rfl pvA k.o)|exact Zi1 rfl rfl k.o|exact Zi2 rfl rfl k.o|exact Ziw rfl rfl rfl qH rfl k.o|exact Zi4 rfl rfl rfl qH qZ k.o|exact Zi3 rfl rfl rfl qH qZ rfl k.o|exact Zi0 rfl rfl pvA k.o)) : B := h ⟨k⟩
theorem Y2 {A B : Prop} (k : A) (h : Wr0 A → B := by intro k; (iterate 2 refine Y1 ?_); exact k.o) : B := h ⟨k⟩
theorem Y3 {A B : Prop} (k : A) (h : Wr0 A → B := by intro k; (iterate 3 refine Y1 ?_); exact k.o) : B := h ⟨k⟩
theorem Y4 {A B : Prop} (k : A) (h : Wr0 A → B := by intro k; (iterate 4 refine Y1 ?_); exact k.o) : B := h ⟨k⟩
theorem Y5 {A B : Prop} (k : A) (h : Wr0 A → B := by intro k; (iterate 5 refine Y1 ?_); exact k.o) : B := h ⟨k⟩
theorem Y6 {A B : Prop} (k : A) (h : Wr0 A → B := by intro k; (iterate 6 refine Y1 ?_); exact k.o) : B := h ⟨k⟩
theorem Y7 {A B : Prop} (k : A) (h : Wr0 A → B := by intro k; (iterate 7 refine Y1 ?_); exact k.o) : B := h ⟨k⟩
theorem Y8 {A B : Prop} (k : A) (h : Wr0 A → B := by intro k; (iterate 8 refine Y1 ?_); exact k.o) : B := h ⟨k⟩
theorem Y9 {A B : Prop} (k : A) (h : Wr0 A → B := by intro k; (iterate 9 refine Y1 ?_); exact k.o) : B := h ⟨k⟩
theorem Y10 {A B : Prop} (k : A) (h : Wr0 A → B := by intro k; (iterate 10 refine Y1 ?_); exact k.o) : B := h ⟨k⟩
theorem Y11 {A B : Prop} (k : A) (h : Wr0 A → B := by intro k; (iterate 11 refine Y1 ?_); exact k.o) : B := h ⟨k⟩
theorem Y12 {A B : Prop} (k : A) (h : Wr0 A → B := by intro k; (iterate 12 refine Y1 ?_); exact k.o) : B := h ⟨k⟩
theorem Y13 {A B : Prop} (k : A) (h : Wr0 A → B := by intro k; (iterate 13 refine Y1 ?_); exact k.o) : B := h ⟨k⟩
theorem Y15 {A B : Prop} (k : A) (h : Wr0 A → B := by intro k; (iterate 15 refine Y1 ?_); exact k.o) : B := h ⟨k⟩
theorem Y17 {A B : Prop} (k : A) (h : Wr0 A → B := by intro k; (iterate 17 refine Y1 ?_); exact k.o) : B := h ⟨k⟩
theorem Y20 {A B : Prop} (k : A) (h : Wr0 A → B := by intro k; (iterate 20 refine Y1 ?_); exact k.o) : B := h ⟨k⟩
theorem V2 {A B : Prop} (k : A) (h : Wr0 A → B := by intro k; (iterate 2 refine Y1 ?_); exact Ct.o k.o) : B := h ⟨k⟩
theorem V3 {A B : Prop} (k : A) (h : Wr0 A → B := by intro k; (iterate 3 refine Y1 ?_); exact Ct.o k.o) : B := h ⟨k⟩
theorem V4 {A B : Prop} (k : A) (h : Wr0 A → B := by intro k; (iterate 4 refine Y1 ?_); exact Ct.o k.o) : B := h ⟨k⟩
theorem V5 {A B : Prop} (k : A) (h : Wr0 A → B := by intro k; (iterate 5 refine Y1 ?_); exact Ct.o k.o) : B := h ⟨k⟩
theorem V6 {A B : Prop} (k : A) (h : Wr0 A → B := by intro k; (iterate 6 refine Y1 ?_); exact Ct.o k.o) : B := h ⟨k⟩
theorem V7 {A B : Prop} (k : A) (h : Wr0 A → B := by intro k; (iterate 7 refine Y1 ?_); exact Ct.o k.o) : B := h ⟨k⟩
theorem V8 {A B : Prop} (k : A) (h : Wr0 A → B := by intro k; (iterate 8 refine Y1 ?_); exact Ct.o k.o) : B := h ⟨k⟩
theorem V9 {A B : Prop} (k : A) (h : Wr0 A → B := by intro k; (iterate 9 refine Y1 ?_); exact Ct.o k.o) : B := h ⟨k⟩
theorem V10 {A B : Prop} (k : A) (h : Wr0 A → B := by intro k; (iterate 10 refine Y1 ?_); exact Ct.o k.o) : B := h ⟨k⟩
theorem V11 {A B : Prop} (k : A) (h : Wr0 A → B := by intro k; (iterate 11 refine Y1 ?_); exact Ct.o k.o) : B := h ⟨k⟩
theorem V13 {A B : Prop} (k : A) (h : Wr0 A → B := by intro k; (iterate 13 refine Y1 ?_); exact Ct.o k.o) : B := h ⟨k⟩
theorem V18 {A B : Prop} (k : A) (h : Wr0 A → B := by intro k; (iterate 18 refine Y1 ?_); exact Ct.o k.o) : B := h ⟨k⟩
theorem V23 {A B : Prop} (k : A) (h : Wr0 A → B := by intro k; (iterate 23 refine Y1 ?_); exact Ct.o k.o) : B := h ⟨k⟩
theorem V27 {A B : Prop} (k : A) (h : Wr0 A → B := by intro k; (iterate 27 refine Y1 ?_); exact Ct.o k.o) : B := h ⟨k⟩
theorem W2 {A B : Prop} (k : A) (h : Wr0 A → B := by intro k; (iterate 2 refine W1 ?_); exact k.o) : B := h ⟨k⟩
theorem W3 {A B : Prop} (k : A) (h : Wr0 A → B := by intro k; (iterate 3 refine W1 ?_); exact k.o) : B := h ⟨k⟩
theorem W4 {A B : Prop} (k : A) (h : Wr0 A → B := by intro k; (iterate 4 refine W1 ?_); exact k.o) : B := h ⟨k⟩
theorem W5 {A B : Prop} (k : A) (h : Wr0 A → B := by intro k; (iterate 5 refine W1 ?_); exact k.o) : B := h ⟨k⟩
theorem W6 {A B : Prop} (k : A) (h : Wr0 A → B := by intro k; (iterate 6 refine W1 ?_); exact k.o) : B := h ⟨k⟩
theorem W7 {A B : Prop} (k : A) (h : Wr0 A → B := by intro k; (iterate 7 refine W1 ?_); exact k.o) : B := h ⟨k⟩
theorem W8 {A B : Prop} (k : A) (h : Wr0 A → B := by intro k; (iterate 8 refine W1 ?_); exact k.o) : B := h ⟨k⟩
theorem W9 {A B : Prop} (k : A) (h : Wr0 A → B := by intro k; (iterate 9 refine W1 ?_); exact k.o) : B := h ⟨k⟩
end Go.Sl

/- What the engine's rules ask of this program's types (written by gentypes.py). -/
namespace Go.Sl
open Go Go.Proofs
theorem Tryz.mixed : Tryz.prog.follows .mixedOrders = true := by kernel_rfl
instance : TyScal Tryz.prog 1 := ⟨by kernel_rfl⟩
instance : TyI Tryz.prog 1 1 8 (.nilFunc) := ⟨by kernel_rfl, by kernel_rfl⟩
instance : TyScal Tryz.prog 2 := ⟨by kernel_rfl⟩
instance : TyI Tryz.prog 2 1 8 (.int .i64 0) := ⟨by kernel_rfl, by kernel_rfl⟩
instance : TyInt Tryz.prog 2 .i64 := ⟨by kernel_rfl⟩
instance : TyScal Tryz.prog 3 := ⟨by kernel_rfl⟩
instance : TyI Tryz.prog 3 1 8 (.int .i64 0) := ⟨by kernel_rfl, by kernel_rfl⟩
instance : TyInt Tryz.prog 3 .i64 := ⟨by kernel_rfl⟩
instance : TyScal Tryz.prog 4 := ⟨by kernel_rfl⟩
instance : TyI Tryz.prog 4 1 1 (.bool false) := ⟨by kernel_rfl, by kernel_rfl⟩
instance : TyBool Tryz.prog 4 := ⟨by kernel_rfl⟩
instance : TyScal Tryz.prog 5 := ⟨by kernel_rfl⟩
instance : TyI Tryz.prog 5 1 1 (.int .u8 0) := ⟨by kernel_rfl, by kernel_rfl⟩
instance : TyInt Tryz.prog 5 .u8 := ⟨by kernel_rfl⟩
instance : TyScal Tryz.prog 6 := ⟨by kernel_rfl⟩
instance : TyI Tryz.prog 6 1 1 (.int .u8 0) := ⟨by kernel_rfl, by kernel_rfl⟩
instance : TyInt Tryz.prog 6 .u8 := ⟨by kernel_rfl⟩
instance : TyAggr Tryz.prog 7 := ⟨by kernel_rfl⟩
instance : TyI Tryz.prog 7 4 24 (.agg #[.int .i64 0, .int .i64 0, .bool false, .int .u8 0]) := ⟨by kernel_rfl, by kernel_rfl⟩
instance : Fld Tryz.prog 7 0 0 2 := ⟨by kernel_rfl⟩
instance : Fld Tryz.prog 7 1 1 3 := ⟨by kernel_rfl⟩
instance : Fld Tryz.prog 7 2 2 4 := ⟨by kernel_rfl⟩
instance : Fld Tryz.prog 7 3 3 6 := ⟨by kernel_rfl⟩
instance : TyStruct Tryz.prog 7 #[(0, 1), (1, 1), (2, 1), (3, 1)] := ⟨by kernel_rfl⟩
instance : TyAggr Tryz.prog 8 := ⟨by kernel_rfl⟩
instance : TyI Tryz.prog 8 4 24 (.agg #[.int .i64 0, .int .i64 0, .bool false, .int .u8 0]) := ⟨by kernel_rfl, by kernel_rfl⟩
instance : Fld Tryz.prog 8 0 0 2 := ⟨by kernel_rfl⟩
instance : Fld Tryz.prog 8 1 1 3 := ⟨by kernel_rfl⟩
instance : Fld Tryz.prog 8 2 2 4 := ⟨by kernel_rfl⟩
instance : Fld Tryz.prog 8 3 3 6 := ⟨by kernel_rfl⟩
instance : TyStruct Tryz.prog 8 #[(0, 1), (1, 1), (2, 1), (3, 1)] := ⟨by kernel_rfl⟩
instance : TyScal Tryz.prog 9 := ⟨by kernel_rfl⟩
instance : TyI Tryz.prog 9 1 16 (.string ByteArray.empty) := ⟨by kernel_rfl, by kernel_rfl⟩
instance : TyStr Tryz.prog 9 := ⟨by kernel_rfl⟩
instance : TyScal Tryz.prog 10 := ⟨by kernel_rfl⟩
instance : TyI Tryz.prog 10 1 16 (.string ByteArray.empty) := ⟨by kernel_rfl, by kernel_rfl⟩
instance : TyStr Tryz.prog 10 := ⟨by kernel_rfl⟩
instance : TyScal Tryz.prog 11 := ⟨by kernel_rfl⟩
instance : TyI Tryz.prog 11 1 16 (.string ByteArray.empty) := ⟨by kernel_rfl, by kernel_rfl⟩
instance : TyStr Tryz.prog 11 := ⟨by kernel_rfl⟩
instance : TyScal Tryz.prog 12 := ⟨by kernel_rfl⟩
instance : TyI Tryz.prog 12 1 8 (.int .u64 0) := ⟨by kernel_rfl, by kernel_rfl⟩
instance : TyInt Tryz.prog 12 .u64 := ⟨by kernel_rfl⟩
instance : TyAggr Tryz.prog 13 := ⟨by kernel_rfl⟩
instance : TyI Tryz.prog 13 2 24 (.agg #[.string ByteArray.empty, .int .u64 0]) := ⟨by kernel_rfl, by kernel_rfl⟩
instance : Fld Tryz.prog 13 0 0 9 := ⟨by kernel_rfl⟩
instance : Fld Tryz.prog 13 1 1 12 := ⟨by kernel_rfl⟩
instance : TyStruct Tryz.prog 13 #[(0, 1), (1, 1)] := ⟨by kernel_rfl⟩
instance : TyAggr Tryz.prog 14 := ⟨by kernel_rfl⟩
instance : TyI Tryz.prog 14 2 24 (.agg #[.string ByteArray.empty, .int .u64 0]) := ⟨by kernel_rfl, by kernel_rfl⟩
instance : Fld Tryz.prog 14 0 0 9 := ⟨by kernel_rfl⟩
instance : Fld Tryz.prog 14 1 1 12 := ⟨by kernel_rfl⟩
instance : TyStruct Tryz.prog 14 #[(0, 1), (1, 1)] := ⟨by kernel_rfl⟩
instance : TyScal Tryz.prog 15 := ⟨by kernel_rfl⟩
instance : TyI Tryz.prog 15 1 8 (.pointer none) := ⟨by kernel_rfl, by kernel_rfl⟩
instance : TyPtr Tryz.prog 15 277 := ⟨by kernel_rfl⟩
instance : TyScal Tryz.prog 16 := ⟨by kernel_rfl⟩
instance : TyI Tryz.prog 16 1 8 (.pointer none) := ⟨by kernel_rfl, by kernel_rfl⟩
instance : TyPtr Tryz.prog 16 280 := ⟨by kernel_rfl⟩
instance : TyScal Tryz.prog 17 := ⟨by kernel_rfl⟩
instance : TyI Tryz.prog 17 1 8 (.pointer none) := ⟨by kernel_rfl, by kernel_rfl⟩
instance : TyPtr Tryz.prog 17 289 := ⟨by kernel_rfl⟩
instance : TyAggr Tryz.prog 18 := ⟨by kernel_rfl⟩
instance : TyI Tryz.prog 18 1 8 (.agg #[.pointer none]) := ⟨by kernel_rfl, by kernel_rfl⟩
instance : Fld Tryz.prog 18 0 0 17 := ⟨by kernel_rfl⟩
instance : TyStruct Tryz.prog 18 #[(0, 1)] := ⟨by kernel_rfl⟩
instance : TyAggr Tryz.prog 19 := ⟨by kernel_rfl⟩
instance : TyI Tryz.prog 19 1 8 (.agg #[.pointer none]) := ⟨by kernel_rfl, by kernel_rfl⟩
instance : Fld Tryz.prog 19 0 0 17 := ⟨by kernel_rfl⟩
instance : TyStruct Tryz.prog 19 #[(0, 1)] := ⟨by kernel_rfl⟩
instance : TyScal Tryz.prog 20 := ⟨by kernel_rfl⟩
instance : TyI Tryz.prog 20 1 16 (.nilIface) := ⟨by kernel_rfl, by kernel_rfl⟩
instance : TyScal Tryz.prog 21 := ⟨by kernel_rfl⟩
instance : TyI Tryz.prog 21 1 4 (.int .i32 0) := ⟨by kernel_rfl, by kernel_rfl⟩
instance : TyInt Tryz.prog 21 .i32 := ⟨by kernel_rfl⟩
instance : TyAggr Tryz.prog 22 := ⟨by kernel_rfl⟩
instance : TyI Tryz.prog 22 32 32 (.agg #[.int .u8 0, .int .u8 0, .int .u8 0, .int .u8 0, .int .u8 0, .int .u8 0, .int .u8 0, .int .u8 0, .int .u8 0, .int .u8 0, .int .u8 0, .int .u8 0, .int .u8 0, .int .u8 0, .int .u8 0, .int .u8 0, .int .u8 0, .int .u8 0, .int .u8 0, .int .u8 0, .int .u8 0, .int .u8 0, .int .u8 0, .int .u8 0, .int .u8 0, .int .u8 0, .int .u8 0, .int .u8 0, .int .u8 0, .int .u8 0, .int .u8 0, .int .u8 0]) := ⟨by kernel_rfl, by kernel_rfl⟩
instance : TyArr Tryz.prog 22 32 5 := ⟨by kernel_rfl⟩
instance : TyAggr Tryz.prog 23 := ⟨by kernel_rfl⟩
instance : TyI Tryz.prog 23 32 32 (.agg #[.int .u8 0, .int .u8 0, .int .u8 0, .int .u8 0, .int .u8 0, .int .u8 0, .int .u8 0, .int .u8 0, .int .u8 0, .int .u8 0, .int .u8 0, .int .u8 0, .int .u8 0, .int .u8 0, .int .u8 0, .int .u8 0, .int .u8 0, .int .u8 0, .int .u8 0, .int .u8 0, .int .u8 0, .int .u8 0, .int .u8 0, .int .u8 0, .int .u8 0, .int .u8 0, .int .u8 0, .int .u8 0, .int .u8 0, .int .u8 0, .int .u8 0, .int .u8 0]) := ⟨by kernel_rfl, by kernel_rfl⟩
instance : TyArr Tryz.prog 23 32 5 := ⟨by kernel_rfl⟩
instance : TyScal Tryz.prog 24 := ⟨by kernel_rfl⟩
instance : TyI Tryz.prog 24 1 8 (.int .u64 0) := ⟨by kernel_rfl, by kernel_rfl⟩
instance : TyInt Tryz.prog 24 .u64 := ⟨by kernel_rfl⟩
instance : TyAggr Tryz.prog 25 := ⟨by kernel_rfl⟩
instance : TyI Tryz.prog 25 36 64 (.agg #[.int .u8 0, .int .u8 0, .int .u8 0, .int .u8 0, .int .u8 0, .int .u8 0, .int .u8 0, .int .u8 0, .int .u8 0, .int .u8 0, .int .u8 0, .int .u8 0, .int .u8 0, .int .u8 0, .int .u8 0, .int .u8 0, .int .u8 0, .int .u8 0, .int .u8 0, .int .u8 0, .int .u8 0, .int .u8 0, .int .u8 0, .int .u8 0, .int .u8 0, .int .u8 0, .int .u8 0, .int .u8 0, .int .u8 0, .int .u8 0, .int .u8 0, .int .u8 0, .int .u64 0, .int .i64 0, .int .i64 0, .int .i64 0]) := ⟨by kernel_rfl, by kernel_rfl⟩
instance : Fld Tryz.prog 25 0 0 23 := ⟨by kernel_rfl⟩
instance : Fld Tryz.prog 25 1 32 24 := ⟨by kernel_rfl⟩
instance : Fld Tryz.prog 25 2 33 3 := ⟨by kernel_rfl⟩
instance : Fld Tryz.prog 25 3 34 3 := ⟨by kernel_rfl⟩
instance : Fld Tryz.prog 25 4 35 3 := ⟨by kernel_rfl⟩
instance : TyStruct Tryz.prog 25 #[(0, 32), (32, 1), (33, 1), (34, 1), (35, 1)] := ⟨by kernel_rfl⟩
instance : TyAggr Tryz.prog 26 := ⟨by kernel_rfl⟩
instance : TyI Tryz.prog 26 36 64 (.agg #[.int .u8 0, .int .u8 0, .int .u8 0, .int .u8 0, .int .u8 0, .int .u8 0, .int .u8 0, .int .u8 0, .int .u8 0, .int .u8 0, .int .u8 0, .int .u8 0, .int .u8 0, .int .u8 0, .int .u8 0, .int .u8 0, .int .u8 0, .int .u8 0, .int .u8 0, .int .u8 0, .int .u8 0, .int .u8 0, .int .u8 0, .int .u8 0, .int .u8 0, .int .u8 0, .int .u8 0, .int .u8 0, .int .u8 0, .int .u8 0, .int .u8 0, .int .u8 0, .int .u64 0, .int .i64 0, .int .i64 0, .int .i64 0]) := ⟨by kernel_rfl, by kernel_rfl⟩
instance : Fld Tryz.prog 26 0 0 23 := ⟨by kernel_rfl⟩
instance : Fld Tryz.prog 26 1 32 24 := ⟨by kernel_rfl⟩
instance : Fld Tryz.prog 26 2 33 3 := ⟨by kernel_rfl⟩
instance : Fld Tryz.prog 26 3 34 3 := ⟨by kernel_rfl⟩
instance : Fld Tryz.prog 26 4 35 3 := ⟨by kernel_rfl⟩
instance : TyStruct Tryz.prog 26 #[(0, 32), (32, 1), (33, 1), (34, 1), (35, 1)] := ⟨by kernel_rfl⟩
instance : TyScal Tryz.prog 27 := ⟨by kernel_rfl⟩
instance : TyI Tryz.prog 27 1 24 (.slice none 0 0) := ⟨by kernel_rfl, by kernel_rfl⟩
instance : TySlice Tryz.prog 27 35 := ⟨by kernel_rfl⟩
instance : TyScal Tryz.prog 28 := ⟨by kernel_rfl⟩
instance : TyI Tryz.prog 28 1 8 (.pointer none) := ⟨by kernel_rfl, by kernel_rfl⟩
instance : TyPtr Tryz.prog 28 117 := ⟨by kernel_rfl⟩
instance : TyScal Tryz.prog 29 := ⟨by kernel_rfl⟩
instance : TyI Tryz.prog 29 1 8 (.pointer none) := ⟨by kernel_rfl, by kernel_rfl⟩
instance : TyPtr Tryz.prog 29 102 := ⟨by kernel_rfl⟩
instance : TyScal Tryz.prog 31 := ⟨by kernel_rfl⟩
instance : TyI Tryz.prog 31 1 8 (.nilFunc) := ⟨by kernel_rfl, by kernel_rfl⟩
instance : TyScal Tryz.prog 32 := ⟨by kernel_rfl⟩
instance : TyI Tryz.prog 32 1 24 (.slice none 0 0) := ⟨by kernel_rfl, by kernel_rfl⟩
instance : TySlice Tryz.prog 32 33 := ⟨by kernel_rfl⟩
instance : TyScal Tryz.prog 33 := ⟨by kernel_rfl⟩
instance : TyI Tryz.prog 33 1 24 (.slice none 0 0) := ⟨by kernel_rfl, by kernel_rfl⟩
instance : TySlice Tryz.prog 33 5 := ⟨by kernel_rfl⟩
instance : TyAggr Tryz.prog 34 := ⟨by kernel_rfl⟩
instance : TyI Tryz.prog 34 3 40 (.agg #[.bool false, .int .i64 0, .slice none 0 0]) := ⟨by kernel_rfl, by kernel_rfl⟩
instance : Fld Tryz.prog 34 0 0 4 := ⟨by kernel_rfl⟩
instance : Fld Tryz.prog 34 1 1 3 := ⟨by kernel_rfl⟩
instance : Fld Tryz.prog 34 2 2 33 := ⟨by kernel_rfl⟩
instance : TyStruct Tryz.prog 34 #[(0, 1), (1, 1), (2, 1)] := ⟨by kernel_rfl⟩
instance : TyAggr Tryz.prog 35 := ⟨by kernel_rfl⟩
instance : TyI Tryz.prog 35 3 40 (.agg #[.bool false, .int .i64 0, .slice none 0 0]) := ⟨by kernel_rfl, by kernel_rfl⟩
instance : Fld Tryz.prog 35 0 0 4 := ⟨by kernel_rfl⟩
instance : Fld Tryz.prog 35 1 1 3 := ⟨by kernel_rfl⟩
instance : Fld Tryz.prog 35 2 2 33 := ⟨by kernel_rfl⟩
instance : TyStruct Tryz.prog 35 #[(0, 1), (1, 1), (2, 1)] := ⟨by kernel_rfl⟩
instance : TyScal Tryz.prog 36 := ⟨by kernel_rfl⟩
instance : TyI Tryz.prog 36 1 8 (.nilFunc) := ⟨by kernel_rfl, by kernel_rfl⟩
instance : TyScal Tryz.prog 37 := ⟨by kernel_rfl⟩
instance : TyI Tryz.prog 37 1 8 (.int .i64 0) := ⟨by kernel_rfl, by kernel_rfl⟩
instance : TyInt Tryz.prog 37 .i64 := ⟨by kernel_rfl⟩
instance : TyScal Tryz.prog 38 := ⟨by kernel_rfl⟩
instance : TyI Tryz.prog 38 1 8 (.nilFunc) := ⟨by kernel_rfl, by kernel_rfl⟩
instance : TyScal Tryz.prog 39 := ⟨by kernel_rfl⟩
instance : TyI Tryz.prog 39 1 8 (.nilFunc) := ⟨by kernel_rfl, by kernel_rfl⟩
instance : TyScal Tryz.prog 41 := ⟨by kernel_rfl⟩
instance : TyI Tryz.prog 41 1 8 (.nilFunc) := ⟨by kernel_rfl, by kernel_rfl⟩
instance : TyScal Tryz.prog 42 := ⟨by kernel_rfl⟩
instance : TyI Tryz.prog 42 1 8 (.nilFunc) := ⟨by kernel_rfl, by kernel_rfl⟩
instance : TyScal Tryz.prog 43 := ⟨by kernel_rfl⟩
instance : TyI Tryz.prog 43 1 24 (.slice none 0 0) := ⟨by kernel_rfl, by kernel_rfl⟩
instance : TySlice Tryz.prog 43 3 := ⟨by kernel_rfl⟩
instance : TyScal Tryz.prog 44 := ⟨by kernel_rfl⟩
instance : TyI Tryz.prog 44 1 8 (.nilFunc) := ⟨by kernel_rfl, by kernel_rfl⟩
instance : TyScal Tryz.prog 45 := ⟨by kernel_rfl⟩
instance : TyI Tryz.prog 45 1 8 (.nilFunc) := ⟨by kernel_rfl, by kernel_rfl⟩
instance : TyScal Tryz.prog 46 := ⟨by kernel_rfl⟩
instance : TyI Tryz.prog 46 1 8 (.nilFunc) := ⟨by kernel_rfl, by kernel_rfl⟩
instance : TyScal Tryz.prog 47 := ⟨by kernel_rfl⟩
instance : TyI Tryz.prog 47 1 8 (.nilFunc) := ⟨by kernel_rfl, by kernel_rfl⟩
instance : TyScal Tryz.prog 48 := ⟨by kernel_rfl⟩
instance : TyI Tryz.prog 48 1 24 (.slice none 0 0) := ⟨by kernel_rfl, by kernel_rfl⟩
instance : TySlice Tryz.prog 48 65 := ⟨by kernel_rfl⟩
instance : TyScal Tryz.prog 49 := ⟨by kernel_rfl⟩
instance : TyI Tryz.prog 49 1 8 (.nilFunc) := ⟨by kernel_rfl, by kernel_rfl⟩
instance : TyScal Tryz.prog 50 := ⟨by kernel_rfl⟩
instance : TyI Tryz.prog 50 1 4 (.int .u32 0) := ⟨by kernel_rfl, by kernel_rfl⟩
instance : TyInt Tryz.prog 50 .u32 := ⟨by kernel_rfl⟩
instance : TyScal Tryz.prog 51 := ⟨by kernel_rfl⟩
instance : TyI Tryz.prog 51 1 8 (.nilFunc) := ⟨by kernel_rfl, by kernel_rfl⟩
instance : TyScal Tryz.prog 52 := ⟨by kernel_rfl⟩
instance : TyI Tryz.prog 52 1 8 (.nilFunc) := ⟨by kernel_rfl, by kernel_rfl⟩
instance : TyScal Tryz.prog 53 := ⟨by kernel_rfl⟩
instance : TyI Tryz.prog 53 1 8 (.nilFunc) := ⟨by kernel_rfl, by kernel_rfl⟩
instance : TyScal Tryz.prog 54 := ⟨by kernel_rfl⟩
instance : TyI Tryz.prog 54 1 8 (.nilFunc) := ⟨by kernel_rfl, by kernel_rfl⟩
instance : TyScal Tryz.prog 55 := ⟨by kernel_rfl⟩
instance : TyI Tryz.prog 55 1 24 (.slice none 0 0) := ⟨by kernel_rfl, by kernel_rfl⟩
instance : TySlice Tryz.prog 55 70 := ⟨by kernel_rfl⟩
instance : TyScal Tryz.prog 56 := ⟨by kernel_rfl⟩
instance : TyI Tryz.prog 56 1 24 (.slice none 0 0) := ⟨by kernel_rfl, by kernel_rfl⟩
instance : TySlice Tryz.prog 56 75 := ⟨by kernel_rfl⟩
instance : TyAggr Tryz.prog 57 := ⟨by kernel_rfl⟩
instance : TyI Tryz.prog 57 38 112 (.agg #[.int .i64 0, .int .i64 0, .int .i64 0, .int .u8 0, .int .u8 0, .int .u8 0, .int .u8 0, .int .u8 0, .int .u8 0, .int .u8 0, .int .u8 0, .int .u8 0, .int .u8 0, .int .u8 0, .int .u8 0, .int .u8 0, .int .u8 0, .int .u8 0, .int .u8 0, .int .u8 0, .int .u8 0, .int .u8 0, .int .u8 0, .int .u8 0, .int .u8 0, .int .u8 0, .int .u8 0, .int .u8 0, .int .u8 0, .int .u8 0, .int .u8 0, .int .u8 0, .int .u8 0, .int .u8 0, .int .u8 0, .int .u64 0, .slice none 0 0, .slice none 0 0]) := ⟨by kernel_rfl, by kernel_rfl⟩
instance : Fld Tryz.prog 57 0 0 3 := ⟨by kernel_rfl⟩
instance : Fld Tryz.prog 57 1 1 3 := ⟨by kernel_rfl⟩
instance : Fld Tryz.prog 57 2 2 3 := ⟨by kernel_rfl⟩
instance : Fld Tryz.prog 57 3 3 23 := ⟨by kernel_rfl⟩
instance : Fld Tryz.prog 57 4 35 24 := ⟨by kernel_rfl⟩
instance : Fld Tryz.prog 57 5 36 55 := ⟨by kernel_rfl⟩
instance : Fld Tryz.prog 57 6 37 56 := ⟨by kernel_rfl⟩
instance : TyStruct Tryz.prog 57 #[(0, 1), (1, 1), (2, 1), (3, 32), (35, 1), (36, 1), (37, 1)] := ⟨by kernel_rfl⟩
instance : TyAggr Tryz.prog 58 := ⟨by kernel_rfl⟩
instance : TyI Tryz.prog 58 38 112 (.agg #[.int .i64 0, .int .i64 0, .int .i64 0, .int .u8 0, .int .u8 0, .int .u8 0, .int .u8 0, .int .u8 0, .int .u8 0, .int .u8 0, .int .u8 0, .int .u8 0, .int .u8 0, .int .u8 0, .int .u8 0, .int .u8 0, .int .u8 0, .int .u8 0, .int .u8 0, .int .u8 0, .int .u8 0, .int .u8 0, .int .u8 0, .int .u8 0, .int .u8 0, .int .u8 0, .int .u8 0, .int .u8 0, .int .u8 0, .int .u8 0, .int .u8 0, .int .u8 0, .int .u8 0, .int .u8 0, .int .u8 0, .int .u64 0, .slice none 0 0, .slice none 0 0]) := ⟨by kernel_rfl, by kernel_rfl⟩
instance : Fld Tryz.prog 58 0 0 3 := ⟨by kernel_rfl⟩
instance : Fld Tryz.prog 58 1 1 3 := ⟨by kernel_rfl⟩
instance : Fld Tryz.prog 58 2 2 3 := ⟨by kernel_rfl⟩
instance : Fld Tryz.prog 58 3 3 23 := ⟨by kernel_rfl⟩
instance : Fld Tryz.prog 58 4 35 24 := ⟨by kernel_rfl⟩
instance : Fld Tryz.prog 58 5 36 55 := ⟨by kernel_rfl⟩
instance : Fld Tryz.prog 58 6 37 56 := ⟨by kernel_rfl⟩
instance : TyStruct Tryz.prog 58 #[(0, 1), (1, 1), (2, 1), (3, 32), (35, 1), (36, 1), (37, 1)] := ⟨by kernel_rfl⟩
instance : TyScal Tryz.prog 59 := ⟨by kernel_rfl⟩
instance : TyI Tryz.prog 59 1 8 (.nilFunc) := ⟨by kernel_rfl, by kernel_rfl⟩
instance : TyScal Tryz.prog 60 := ⟨by kernel_rfl⟩
instance : TyI Tryz.prog 60 1 8 (.nilFunc) := ⟨by kernel_rfl, by kernel_rfl⟩
instance : TyScal Tryz.prog 61 := ⟨by kernel_rfl⟩
instance : TyI Tryz.prog 61 1 8 (.nilFunc) := ⟨by kernel_rfl, by kernel_rfl⟩
instance : TyAggr Tryz.prog 62 := ⟨by kernel_rfl⟩
instance : TyI Tryz.prog 62 12 12 (.agg #[.int .u8 0, .int .u8 0, .int .u8 0, .int .u8 0, .int .u8 0, .int .u8 0, .int .u8 0, .int .u8 0, .int .u8 0, .int .u8 0, .int .u8 0, .int .u8 0]) := ⟨by kernel_rfl, by kernel_rfl⟩
instance : TyArr Tryz.prog 62 12 5 := ⟨by kernel_rfl⟩
instance : TyAggr Tryz.prog 63 := ⟨by kernel_rfl⟩
instance : TyI Tryz.prog 63 12 12 (.agg #[.int .u8 0, .int .u8 0, .int .u8 0, .int .u8 0, .int .u8 0, .int .u8 0, .int .u8 0, .int .u8 0, .int .u8 0, .int .u8 0, .int .u8 0, .int .u8 0]) := ⟨by kernel_rfl, by kernel_rfl⟩
instance : TyArr Tryz.prog 63 12 5 := ⟨by kernel_rfl⟩
instance : TyAggr Tryz.prog 64 := ⟨by kernel_rfl⟩
instance : TyI Tryz.prog 64 15 40 (.agg #[.int .i64 0, .int .i64 0, .int .i64 0, .int .u8 0, .int .u8 0, .int .u8 0, .int .u8 0, .int .u8 0, .int .u8 0, .int .u8 0, .int .u8 0, .int .u8 0, .int .u8 0, .int .u8 0, .int .u8 0]) := ⟨by kernel_rfl, by kernel_rfl⟩
instance : Fld Tryz.prog 64 0 0 3 := ⟨by kernel_rfl⟩
instance : Fld Tryz.prog 64 1 1 3 := ⟨by kernel_rfl⟩
instance : Fld Tryz.prog 64 2 2 3 := ⟨by kernel_rfl⟩
instance : Fld Tryz.prog 64 3 3 63 := ⟨by kernel_rfl⟩
instance : TyStruct Tryz.prog 64 #[(0, 1), (1, 1), (2, 1), (3, 12)] := ⟨by kernel_rfl⟩
instance : TyAggr Tryz.prog 65 := ⟨by kernel_rfl⟩
instance : TyI Tryz.prog 65 15 40 (.agg #[.int .i64 0, .int .i64 0, .int .i64 0, .int .u8 0, .int .u8 0, .int .u8 0, .int .u8 0, .int .u8 0, .int .u8 0, .int .u8 0, .int .u8 0, .int .u8 0, .int .u8 0, .int .u8 0, .int .u8 0]) := ⟨by kernel_rfl, by kernel_rfl⟩
instance : Fld Tryz.prog 65 0 0 3 := ⟨by kernel_rfl⟩
instance : Fld Tryz.prog 65 1 1 3 := ⟨by kernel_rfl⟩
instance : Fld Tryz.prog 65 2 2 3 := ⟨by kernel_rfl⟩
instance : Fld Tryz.prog 65 3 3 63 := ⟨by kernel_rfl⟩
instance : TyStruct Tryz.prog 65 #[(0, 1), (1, 1), (2, 1), (3, 12)] := ⟨by kernel_rfl⟩
instance : TyScal Tryz.prog 66 := ⟨by kernel_rfl⟩
instance : TyI Tryz.prog 66 1 8 (.nilFunc) := ⟨by kernel_rfl, by kernel_rfl⟩
instance : TyScal Tryz.prog 67 := ⟨by kernel_rfl⟩
instance : TyI Tryz.prog 67 1 8 (.nilFunc) := ⟨by kernel_rfl, by kernel_rfl⟩
instance : TyScal Tryz.prog 68 := ⟨by kernel_rfl⟩
instance : TyI Tryz.prog 68 1 8 (.nilFunc) := ⟨by kernel_rfl, by kernel_rfl⟩
instance : TyAggr Tryz.prog 69 := ⟨by kernel_rfl⟩
instance : TyI Tryz.prog 69 6 48 (.agg #[.int .i64 0, .int .i64 0, .int .i64 0, .int .i64 0, .int .u8 0, .int .i64 0]) := ⟨by kernel_rfl, by kernel_rfl⟩
instance : Fld Tryz.prog 69 0 0 3 := ⟨by kernel_rfl⟩
instance : Fld Tryz.prog 69 1 1 3 := ⟨by kernel_rfl⟩
instance : Fld Tryz.prog 69 2 2 3 := ⟨by kernel_rfl⟩
instance : Fld Tryz.prog 69 3 3 3 := ⟨by kernel_rfl⟩
instance : Fld Tryz.prog 69 4 4 5 := ⟨by kernel_rfl⟩
instance : Fld Tryz.prog 69 5 5 3 := ⟨by kernel_rfl⟩
instance : TyStruct Tryz.prog 69 #[(0, 1), (1, 1), (2, 1), (3, 1), (4, 1), (5, 1)] := ⟨by kernel_rfl⟩
instance : TyAggr Tryz.prog 70 := ⟨by kernel_rfl⟩
instance : TyI Tryz.prog 70 6 48 (.agg #[.int .i64 0, .int .i64 0, .int .i64 0, .int .i64 0, .int .u8 0, .int .i64 0]) := ⟨by kernel_rfl, by kernel_rfl⟩
instance : Fld Tryz.prog 70 0 0 3 := ⟨by kernel_rfl⟩
instance : Fld Tryz.prog 70 1 1 3 := ⟨by kernel_rfl⟩
instance : Fld Tryz.prog 70 2 2 3 := ⟨by kernel_rfl⟩
instance : Fld Tryz.prog 70 3 3 3 := ⟨by kernel_rfl⟩
instance : Fld Tryz.prog 70 4 4 5 := ⟨by kernel_rfl⟩
instance : Fld Tryz.prog 70 5 5 3 := ⟨by kernel_rfl⟩
instance : TyStruct Tryz.prog 70 #[(0, 1), (1, 1), (2, 1), (3, 1), (4, 1), (5, 1)] := ⟨by kernel_rfl⟩
instance : TyScal Tryz.prog 71 := ⟨by kernel_rfl⟩
instance : TyI Tryz.prog 71 1 8 (.nilFunc) := ⟨by kernel_rfl, by kernel_rfl⟩
instance : TyScal Tryz.prog 72 := ⟨by kernel_rfl⟩
instance : TyI Tryz.prog 72 1 8 (.nilFunc) := ⟨by kernel_rfl, by kernel_rfl⟩
instance : TyScal Tryz.prog 73 := ⟨by kernel_rfl⟩
instance : TyI Tryz.prog 73 1 24 (.slice none 0 0) := ⟨by kernel_rfl, by kernel_rfl⟩
instance : TySlice Tryz.prog 73 78 := ⟨by kernel_rfl⟩
instance : TyAggr Tryz.prog 74 := ⟨by kernel_rfl⟩
instance : TyI Tryz.prog 74 3 40 (.agg #[.int .i64 0, .int .i64 0, .slice none 0 0]) := ⟨by kernel_rfl, by kernel_rfl⟩
instance : Fld Tryz.prog 74 0 0 3 := ⟨by kernel_rfl⟩
instance : Fld Tryz.prog 74 1 1 3 := ⟨by kernel_rfl⟩
instance : Fld Tryz.prog 74 2 2 33 := ⟨by kernel_rfl⟩
instance : TyStruct Tryz.prog 74 #[(0, 1), (1, 1), (2, 1)] := ⟨by kernel_rfl⟩
instance : TyAggr Tryz.prog 75 := ⟨by kernel_rfl⟩
instance : TyI Tryz.prog 75 3 40 (.agg #[.int .i64 0, .int .i64 0, .slice none 0 0]) := ⟨by kernel_rfl, by kernel_rfl⟩
instance : Fld Tryz.prog 75 0 0 3 := ⟨by kernel_rfl⟩
instance : Fld Tryz.prog 75 1 1 3 := ⟨by kernel_rfl⟩
instance : Fld Tryz.prog 75 2 2 33 := ⟨by kernel_rfl⟩
instance : TyStruct Tryz.prog 75 #[(0, 1), (1, 1), (2, 1)] := ⟨by kernel_rfl⟩
instance : TyScal Tryz.prog 76 := ⟨by kernel_rfl⟩
instance : TyI Tryz.prog 76 1 8 (.nilFunc) := ⟨by kernel_rfl, by kernel_rfl⟩
instance : TyAggr Tryz.prog 77 := ⟨by kernel_rfl⟩
instance : TyI Tryz.prog 77 2 32 (.agg #[.int .i64 0, .slice none 0 0]) := ⟨by kernel_rfl, by kernel_rfl⟩
instance : Fld Tryz.prog 77 0 0 3 := ⟨by kernel_rfl⟩
instance : Fld Tryz.prog 77 1 1 33 := ⟨by kernel_rfl⟩
instance : TyStruct Tryz.prog 77 #[(0, 1), (1, 1)] := ⟨by kernel_rfl⟩
instance : TyAggr Tryz.prog 78 := ⟨by kernel_rfl⟩
instance : TyI Tryz.prog 78 2 32 (.agg #[.int .i64 0, .slice none 0 0]) := ⟨by kernel_rfl, by kernel_rfl⟩
instance : Fld Tryz.prog 78 0 0 3 := ⟨by kernel_rfl⟩
instance : Fld Tryz.prog 78 1 1 33 := ⟨by kernel_rfl⟩
instance : TyStruct Tryz.prog 78 #[(0, 1), (1, 1)] := ⟨by kernel_rfl⟩
instance : TyScal Tryz.prog 80 := ⟨by kernel_rfl⟩
instance : TyI Tryz.prog 80 1 8 (.nilFunc) := ⟨by kernel_rfl, by kernel_rfl⟩
instance : TyScal Tryz.prog 81 := ⟨by kernel_rfl⟩
instance : TyI Tryz.prog 81 1 8 (.pointer none) := ⟨by kernel_rfl, by kernel_rfl⟩
instance : TyPtr Tryz.prog 81 92 := ⟨by kernel_rfl⟩
instance : TyScal Tryz.prog 83 := ⟨by kernel_rfl⟩
instance : TyI Tryz.prog 83 1 8 (.nilFunc) := ⟨by kernel_rfl, by kernel_rfl⟩
instance : TyScal Tryz.prog 85 := ⟨by kernel_rfl⟩
instance : TyI Tryz.prog 85 1 8 (.nilFunc) := ⟨by kernel_rfl, by kernel_rfl⟩
instance : TyScal Tryz.prog 86 := ⟨by kernel_rfl⟩
instance : TyI Tryz.prog 86 1 8 (.pointer none) := ⟨by kernel_rfl, by kernel_rfl⟩
instance : TyPtr Tryz.prog 86 126 := ⟨by kernel_rfl⟩
instance : TyScal Tryz.prog 88 := ⟨by kernel_rfl⟩
instance : TyI Tryz.prog 88 1 8 (.nilFunc) := ⟨by kernel_rfl, by kernel_rfl⟩
instance : TyScal Tryz.prog 89 := ⟨by kernel_rfl⟩
instance : TyI Tryz.prog 89 1 8 (.nilFunc) := ⟨by kernel_rfl, by kernel_rfl⟩
instance : TyScal Tryz.prog 90 := ⟨by kernel_rfl⟩
instance : TyI Tryz.prog 90 1 24 (.slice none 0 0) := ⟨by kernel_rfl, by kernel_rfl⟩
instance : TySlice Tryz.prog 90 155 := ⟨by kernel_rfl⟩
instance : TyAggr Tryz.prog 91 := ⟨by kernel_rfl⟩
instance : TyI Tryz.prog 91 8 112 (.agg #[.int .i64 0, .int .i64 0, .slice none 0 0, .slice none 0 0, .int .u64 0, .int .i64 0, .slice none 0 0, .bool false]) := ⟨by kernel_rfl, by kernel_rfl⟩
instance : Fld Tryz.prog 91 0 0 3 := ⟨by kernel_rfl⟩
instance : Fld Tryz.prog 91 1 1 3 := ⟨by kernel_rfl⟩
instance : Fld Tryz.prog 91 2 2 55 := ⟨by kernel_rfl⟩
instance : Fld Tryz.prog 91 3 3 90 := ⟨by kernel_rfl⟩
instance : Fld Tryz.prog 91 4 4 24 := ⟨by kernel_rfl⟩
instance : Fld Tryz.prog 91 5 5 3 := ⟨by kernel_rfl⟩
instance : Fld Tryz.prog 91 6 6 48 := ⟨by kernel_rfl⟩
instance : Fld Tryz.prog 91 7 7 4 := ⟨by kernel_rfl⟩
instance : TyStruct Tryz.prog 91 #[(0, 1), (1, 1), (2, 1), (3, 1), (4, 1), (5, 1), (6, 1), (7, 1)] := ⟨by kernel_rfl⟩
instance : TyAggr Tryz.prog 92 := ⟨by kernel_rfl⟩
instance : TyI Tryz.prog 92 8 112 (.agg #[.int .i64 0, .int .i64 0, .slice none 0 0, .slice none 0 0, .int .u64 0, .int .i64 0, .slice none 0 0, .bool false]) := ⟨by kernel_rfl, by kernel_rfl⟩
instance : Fld Tryz.prog 92 0 0 3 := ⟨by kernel_rfl⟩
instance : Fld Tryz.prog 92 1 1 3 := ⟨by kernel_rfl⟩
instance : Fld Tryz.prog 92 2 2 55 := ⟨by kernel_rfl⟩
instance : Fld Tryz.prog 92 3 3 90 := ⟨by kernel_rfl⟩
instance : Fld Tryz.prog 92 4 4 24 := ⟨by kernel_rfl⟩
instance : Fld Tryz.prog 92 5 5 3 := ⟨by kernel_rfl⟩
instance : Fld Tryz.prog 92 6 6 48 := ⟨by kernel_rfl⟩
instance : Fld Tryz.prog 92 7 7 4 := ⟨by kernel_rfl⟩
instance : TyStruct Tryz.prog 92 #[(0, 1), (1, 1), (2, 1), (3, 1), (4, 1), (5, 1), (6, 1), (7, 1)] := ⟨by kernel_rfl⟩
instance : TyScal Tryz.prog 93 := ⟨by kernel_rfl⟩
instance : TyI Tryz.prog 93 1 8 (.nilFunc) := ⟨by kernel_rfl, by kernel_rfl⟩
instance : TyScal Tryz.prog 94 := ⟨by kernel_rfl⟩
instance : TyI Tryz.prog 94 1 8 (.nilFunc) := ⟨by kernel_rfl, by kernel_rfl⟩
instance : TyScal Tryz.prog 95 := ⟨by kernel_rfl⟩
instance : TyI Tryz.prog 95 1 8 (.nilFunc) := ⟨by kernel_rfl, by kernel_rfl⟩
instance : TyScal Tryz.prog 96 := ⟨by kernel_rfl⟩
instance : TyI Tryz.prog 96 1 8 (.nilFunc) := ⟨by kernel_rfl, by kernel_rfl⟩
instance : TyScal Tryz.prog 97 := ⟨by kernel_rfl⟩
instance : TyI Tryz.prog 97 1 16 (.nilIface) := ⟨by kernel_rfl, by kernel_rfl⟩
instance : TyScal Tryz.prog 98 := ⟨by kernel_rfl⟩
instance : TyI Tryz.prog 98 1 16 (.nilIface) := ⟨by kernel_rfl, by kernel_rfl⟩
instance : TyScal Tryz.prog 99 := ⟨by kernel_rfl⟩
instance : TyI Tryz.prog 99 1 8 (.map none) := ⟨by kernel_rfl, by kernel_rfl⟩
instance : TyMap Tryz.prog 99 3 103 := ⟨by kernel_rfl⟩
instance : TyScal Tryz.prog 100 := ⟨by kernel_rfl⟩
instance : TyI Tryz.prog 100 1 8 (.map none) := ⟨by kernel_rfl, by kernel_rfl⟩
instance : TyMap Tryz.prog 100 3 108 := ⟨by kernel_rfl⟩
instance : TyAggr Tryz.prog 101 := ⟨by kernel_rfl⟩
instance : TyI Tryz.prog 101 43 144 (.agg #[.nilIface, .int .u8 0, .int .u8 0, .int .u8 0, .int .u8 0, .int .u8 0, .int .u8 0, .int .u8 0, .int .u8 0, .int .u8 0, .int .u8 0, .int .u8 0, .int .u8 0, .int .u8 0, .int .u8 0, .int .u8 0, .int .u8 0, .int .u8 0, .int .u8 0, .int .u8 0, .int .u8 0, .int .u8 0, .int .u8 0, .int .u8 0, .int .u8 0, .int .u8 0, .int .u8 0, .int .u8 0, .int .u8 0, .int .u8 0, .int .u8 0, .int .u8 0, .int .u8 0, .int .u64 0, .int .i64 0, .int .i64 0, .int .i64 0, .map none, .slice none 0 0, .map none, .int .i64 0, .int .u32 0, .int .i64 0]) := ⟨by kernel_rfl, by kernel_rfl⟩
instance : Fld Tryz.prog 101 0 0 98 := ⟨by kernel_rfl⟩
instance : Fld Tryz.prog 101 1 1 23 := ⟨by kernel_rfl⟩
instance : Fld Tryz.prog 101 2 33 24 := ⟨by kernel_rfl⟩
instance : Fld Tryz.prog 101 3 34 3 := ⟨by kernel_rfl⟩
instance : Fld Tryz.prog 101 4 35 3 := ⟨by kernel_rfl⟩
instance : Fld Tryz.prog 101 5 36 3 := ⟨by kernel_rfl⟩
instance : Fld Tryz.prog 101 6 37 99 := ⟨by kernel_rfl⟩
instance : Fld Tryz.prog 101 7 38 43 := ⟨by kernel_rfl⟩
instance : Fld Tryz.prog 101 8 39 100 := ⟨by kernel_rfl⟩
instance : Fld Tryz.prog 101 9 40 3 := ⟨by kernel_rfl⟩
instance : Fld Tryz.prog 101 10 41 50 := ⟨by kernel_rfl⟩
instance : Fld Tryz.prog 101 11 42 37 := ⟨by kernel_rfl⟩
instance : TyStruct Tryz.prog 101 #[(0, 1), (1, 32), (33, 1), (34, 1), (35, 1), (36, 1), (37, 1), (38, 1), (39, 1), (40, 1), (41, 1), (42, 1)] := ⟨by kernel_rfl⟩
instance : TyAggr Tryz.prog 102 := ⟨by kernel_rfl⟩
instance : TyI Tryz.prog 102 43 144 (.agg #[.nilIface, .int .u8 0, .int .u8 0, .int .u8 0, .int .u8 0, .int .u8 0, .int .u8 0, .int .u8 0, .int .u8 0, .int .u8 0, .int .u8 0, .int .u8 0, .int .u8 0, .int .u8 0, .int .u8 0, .int .u8 0, .int .u8 0, .int .u8 0, .int .u8 0, .int .u8 0, .int .u8 0, .int .u8 0, .int .u8 0, .int .u8 0, .int .u8 0, .int .u8 0, .int .u8 0, .int .u8 0, .int .u8 0, .int .u8 0, .int .u8 0, .int .u8 0, .int .u8 0, .int .u64 0, .int .i64 0, .int .i64 0, .int .i64 0, .map none, .slice none 0 0, .map none, .int .i64 0, .int .u32 0, .int .i64 0]) := ⟨by kernel_rfl, by kernel_rfl⟩
instance : Fld Tryz.prog 102 0 0 98 := ⟨by kernel_rfl⟩
instance : Fld Tryz.prog 102 1 1 23 := ⟨by kernel_rfl⟩
instance : Fld Tryz.prog 102 2 33 24 := ⟨by kernel_rfl⟩
instance : Fld Tryz.prog 102 3 34 3 := ⟨by kernel_rfl⟩
instance : Fld Tryz.prog 102 4 35 3 := ⟨by kernel_rfl⟩
instance : Fld Tryz.prog 102 5 36 3 := ⟨by kernel_rfl⟩
instance : Fld Tryz.prog 102 6 37 99 := ⟨by kernel_rfl⟩
instance : Fld Tryz.prog 102 7 38 43 := ⟨by kernel_rfl⟩
instance : Fld Tryz.prog 102 8 39 100 := ⟨by kernel_rfl⟩
instance : Fld Tryz.prog 102 9 40 3 := ⟨by kernel_rfl⟩
instance : Fld Tryz.prog 102 10 41 50 := ⟨by kernel_rfl⟩
instance : Fld Tryz.prog 102 11 42 37 := ⟨by kernel_rfl⟩
instance : TyStruct Tryz.prog 102 #[(0, 1), (1, 32), (33, 1), (34, 1), (35, 1), (36, 1), (37, 1), (38, 1), (39, 1), (40, 1), (41, 1), (42, 1)] := ⟨by kernel_rfl⟩
instance : TyScal Tryz.prog 103 := ⟨by kernel_rfl⟩
instance : TyI Tryz.prog 103 1 8 (.pointer none) := ⟨by kernel_rfl, by kernel_rfl⟩
instance : TyPtr Tryz.prog 103 106 := ⟨by kernel_rfl⟩
instance : TyScal Tryz.prog 104 := ⟨by kernel_rfl⟩
instance : TyI Tryz.prog 104 1 8 (.nilFunc) := ⟨by kernel_rfl, by kernel_rfl⟩
instance : TyAggr Tryz.prog 105 := ⟨by kernel_rfl⟩
instance : TyI Tryz.prog 105 2 32 (.agg #[.slice none 0 0, .int .i64 0]) := ⟨by kernel_rfl, by kernel_rfl⟩
instance : Fld Tryz.prog 105 0 0 33 := ⟨by kernel_rfl⟩
instance : Fld Tryz.prog 105 1 1 3 := ⟨by kernel_rfl⟩
instance : TyStruct Tryz.prog 105 #[(0, 1), (1, 1)] := ⟨by kernel_rfl⟩
instance : TyAggr Tryz.prog 106 := ⟨by kernel_rfl⟩
instance : TyI Tryz.prog 106 2 32 (.agg #[.slice none 0 0, .int .i64 0]) := ⟨by kernel_rfl, by kernel_rfl⟩
instance : Fld Tryz.prog 106 0 0 33 := ⟨by kernel_rfl⟩
instance : Fld Tryz.prog 106 1 1 3 := ⟨by kernel_rfl⟩
instance : TyStruct Tryz.prog 106 #[(0, 1), (1, 1)] := ⟨by kernel_rfl⟩
instance : TyAggr Tryz.prog 107 := ⟨by kernel_rfl⟩
instance : TyI Tryz.prog 107 4 24 (.agg #[.int .u64 0, .int .u32 0, .int .u32 0, .int .u32 0]) := ⟨by kernel_rfl, by kernel_rfl⟩
instance : Fld Tryz.prog 107 0 0 24 := ⟨by kernel_rfl⟩
instance : Fld Tryz.prog 107 1 1 50 := ⟨by kernel_rfl⟩
instance : Fld Tryz.prog 107 2 2 50 := ⟨by kernel_rfl⟩
instance : Fld Tryz.prog 107 3 3 50 := ⟨by kernel_rfl⟩
instance : TyStruct Tryz.prog 107 #[(0, 1), (1, 1), (2, 1), (3, 1)] := ⟨by kernel_rfl⟩
instance : TyAggr Tryz.prog 108 := ⟨by kernel_rfl⟩
instance : TyI Tryz.prog 108 4 24 (.agg #[.int .u64 0, .int .u32 0, .int .u32 0, .int .u32 0]) := ⟨by kernel_rfl, by kernel_rfl⟩
instance : Fld Tryz.prog 108 0 0 24 := ⟨by kernel_rfl⟩
instance : Fld Tryz.prog 108 1 1 50 := ⟨by kernel_rfl⟩
instance : Fld Tryz.prog 108 2 2 50 := ⟨by kernel_rfl⟩
instance : Fld Tryz.prog 108 3 3 50 := ⟨by kernel_rfl⟩
instance : TyStruct Tryz.prog 108 #[(0, 1), (1, 1), (2, 1), (3, 1)] := ⟨by kernel_rfl⟩
instance : TyScal Tryz.prog 110 := ⟨by kernel_rfl⟩
instance : TyI Tryz.prog 110 1 8 (.nilFunc) := ⟨by kernel_rfl, by kernel_rfl⟩
instance : TyScal Tryz.prog 111 := ⟨by kernel_rfl⟩
instance : TyI Tryz.prog 111 1 8 (.nilFunc) := ⟨by kernel_rfl, by kernel_rfl⟩
instance : TyScal Tryz.prog 112 := ⟨by kernel_rfl⟩
instance : TyI Tryz.prog 112 1 8 (.nilFunc) := ⟨by kernel_rfl, by kernel_rfl⟩
instance : TyScal Tryz.prog 113 := ⟨by kernel_rfl⟩
instance : TyI Tryz.prog 113 1 8 (.map none) := ⟨by kernel_rfl, by kernel_rfl⟩
instance : TyMap Tryz.prog 113 63 3 := ⟨by kernel_rfl⟩
instance : TyScal Tryz.prog 114 := ⟨by kernel_rfl⟩
instance : TyI Tryz.prog 114 1 8 (.map none) := ⟨by kernel_rfl, by kernel_rfl⟩
instance : TyMap Tryz.prog 114 3 32 := ⟨by kernel_rfl⟩
instance : TyScal Tryz.prog 115 := ⟨by kernel_rfl⟩
instance : TyI Tryz.prog 115 1 8 (.map none) := ⟨by kernel_rfl, by kernel_rfl⟩
instance : TyMap Tryz.prog 115 3 55 := ⟨by kernel_rfl⟩
instance : TyAggr Tryz.prog 116 := ⟨by kernel_rfl⟩
instance : TyI Tryz.prog 116 8 80 (.agg #[.int .i64 0, .int .i64 0, .map none, .int .u64 0, .map none, .int .i64 0, .slice none 0 0, .int .i64 0]) := ⟨by kernel_rfl, by kernel_rfl⟩
instance : Fld Tryz.prog 116 0 0 3 := ⟨by kernel_rfl⟩
instance : Fld Tryz.prog 116 1 1 3 := ⟨by kernel_rfl⟩
instance : Fld Tryz.prog 116 2 2 114 := ⟨by kernel_rfl⟩
instance : Fld Tryz.prog 116 3 3 24 := ⟨by kernel_rfl⟩
instance : Fld Tryz.prog 116 4 4 115 := ⟨by kernel_rfl⟩
instance : Fld Tryz.prog 116 5 5 3 := ⟨by kernel_rfl⟩
instance : Fld Tryz.prog 116 6 6 48 := ⟨by kernel_rfl⟩
instance : Fld Tryz.prog 116 7 7 3 := ⟨by kernel_rfl⟩
instance : TyStruct Tryz.prog 116 #[(0, 1), (1, 1), (2, 1), (3, 1), (4, 1), (5, 1), (6, 1), (7, 1)] := ⟨by kernel_rfl⟩
instance : TyAggr Tryz.prog 117 := ⟨by kernel_rfl⟩
instance : TyI Tryz.prog 117 8 80 (.agg #[.int .i64 0, .int .i64 0, .map none, .int .u64 0, .map none, .int .i64 0, .slice none 0 0, .int .i64 0]) := ⟨by kernel_rfl, by kernel_rfl⟩
instance : Fld Tryz.prog 117 0 0 3 := ⟨by kernel_rfl⟩
instance : Fld Tryz.prog 117 1 1 3 := ⟨by kernel_rfl⟩
instance : Fld Tryz.prog 117 2 2 114 := ⟨by kernel_rfl⟩
instance : Fld Tryz.prog 117 3 3 24 := ⟨by kernel_rfl⟩
instance : Fld Tryz.prog 117 4 4 115 := ⟨by kernel_rfl⟩
instance : Fld Tryz.prog 117 5 5 3 := ⟨by kernel_rfl⟩
instance : Fld Tryz.prog 117 6 6 48 := ⟨by kernel_rfl⟩
instance : Fld Tryz.prog 117 7 7 3 := ⟨by kernel_rfl⟩
instance : TyStruct Tryz.prog 117 #[(0, 1), (1, 1), (2, 1), (3, 1), (4, 1), (5, 1), (6, 1), (7, 1)] := ⟨by kernel_rfl⟩
instance : TyScal Tryz.prog 118 := ⟨by kernel_rfl⟩
instance : TyI Tryz.prog 118 1 8 (.nilFunc) := ⟨by kernel_rfl, by kernel_rfl⟩
instance : TyScal Tryz.prog 119 := ⟨by kernel_rfl⟩
instance : TyI Tryz.prog 119 1 8 (.nilFunc) := ⟨by kernel_rfl, by kernel_rfl⟩
instance : TyScal Tryz.prog 120 := ⟨by kernel_rfl⟩
instance : TyI Tryz.prog 120 1 8 (.nilFunc) := ⟨by kernel_rfl, by kernel_rfl⟩
instance : TyScal Tryz.prog 121 := ⟨by kernel_rfl⟩
instance : TyI Tryz.prog 121 1 8 (.nilFunc) := ⟨by kernel_rfl, by kernel_rfl⟩
instance : TyScal Tryz.prog 122 := ⟨by kernel_rfl⟩
instance : TyI Tryz.prog 122 1 8 (.nilFunc) := ⟨by kernel_rfl, by kernel_rfl⟩
instance : TyScal Tryz.prog 123 := ⟨by kernel_rfl⟩
instance : TyI Tryz.prog 123 1 24 (.slice none 0 0) := ⟨by kernel_rfl, by kernel_rfl⟩
instance : TySlice Tryz.prog 123 129 := ⟨by kernel_rfl⟩
instance : TyScal Tryz.prog 124 := ⟨by kernel_rfl⟩
instance : TyI Tryz.prog 124 1 24 (.slice none 0 0) := ⟨by kernel_rfl, by kernel_rfl⟩
instance : TySlice Tryz.prog 124 150 := ⟨by kernel_rfl⟩
instance : TyAggr Tryz.prog 125 := ⟨by kernel_rfl⟩
instance : TyI Tryz.prog 125 43 152 (.agg #[.pointer none, .int .u8 0, .int .u8 0, .int .u8 0, .int .u8 0, .int .u8 0, .int .u8 0, .int .u8 0, .int .u8 0, .int .u8 0, .int .u8 0, .int .u8 0, .int .u8 0, .int .u8 0, .int .u8 0, .int .u8 0, .int .u8 0, .int .u8 0, .int .u8 0, .int .u8 0, .int .u8 0, .int .u8 0, .int .u8 0, .int .u8 0, .int .u8 0, .int .u8 0, .int .u8 0, .int .u8 0, .int .u8 0, .int .u8 0, .int .u8 0, .int .u8 0, .int .u8 0, .int .u64 0, .int .i64 0, .int .i64 0, .int .i64 0, .slice none 0 0, .slice none 0 0, .int .i64 0, .int .i64 0, .int .i64 0, .bool false]) := ⟨by kernel_rfl, by kernel_rfl⟩
instance : Fld Tryz.prog 125 0 0 81 := ⟨by kernel_rfl⟩
instance : Fld Tryz.prog 125 1 1 23 := ⟨by kernel_rfl⟩
instance : Fld Tryz.prog 125 2 33 24 := ⟨by kernel_rfl⟩
instance : Fld Tryz.prog 125 3 34 3 := ⟨by kernel_rfl⟩
instance : Fld Tryz.prog 125 4 35 3 := ⟨by kernel_rfl⟩
instance : Fld Tryz.prog 125 5 36 3 := ⟨by kernel_rfl⟩
instance : Fld Tryz.prog 125 6 37 123 := ⟨by kernel_rfl⟩
instance : Fld Tryz.prog 125 7 38 124 := ⟨by kernel_rfl⟩
instance : Fld Tryz.prog 125 8 39 3 := ⟨by kernel_rfl⟩
instance : Fld Tryz.prog 125 9 40 3 := ⟨by kernel_rfl⟩
instance : Fld Tryz.prog 125 10 41 37 := ⟨by kernel_rfl⟩
instance : Fld Tryz.prog 125 11 42 4 := ⟨by kernel_rfl⟩
instance : TyStruct Tryz.prog 125 #[(0, 1), (1, 32), (33, 1), (34, 1), (35, 1), (36, 1), (37, 1), (38, 1), (39, 1), (40, 1), (41, 1), (42, 1)] := ⟨by kernel_rfl⟩
instance : TyAggr Tryz.prog 126 := ⟨by kernel_rfl⟩
instance : TyI Tryz.prog 126 43 152 (.agg #[.pointer none, .int .u8 0, .int .u8 0, .int .u8 0, .int .u8 0, .int .u8 0, .int .u8 0, .int .u8 0, .int .u8 0, .int .u8 0, .int .u8 0, .int .u8 0, .int .u8 0, .int .u8 0, .int .u8 0, .int .u8 0, .int .u8 0, .int .u8 0, .int .u8 0, .int .u8 0, .int .u8 0, .int .u8 0, .int .u8 0, .int .u8 0, .int .u8 0, .int .u8 0, .int .u8 0, .int .u8 0, .int .u8 0, .int .u8 0, .int .u8 0, .int .u8 0, .int .u8 0, .int .u64 0, .int .i64 0, .int .i64 0, .int .i64 0, .slice none 0 0, .slice none 0 0, .int .i64 0, .int .i64 0, .int .i64 0, .bool false]) := ⟨by kernel_rfl, by kernel_rfl⟩
instance : Fld Tryz.prog 126 0 0 81 := ⟨by kernel_rfl⟩
instance : Fld Tryz.prog 126 1 1 23 := ⟨by kernel_rfl⟩
instance : Fld Tryz.prog 126 2 33 24 := ⟨by kernel_rfl⟩
instance : Fld Tryz.prog 126 3 34 3 := ⟨by kernel_rfl⟩
instance : Fld Tryz.prog 126 4 35 3 := ⟨by kernel_rfl⟩
instance : Fld Tryz.prog 126 5 36 3 := ⟨by kernel_rfl⟩
instance : Fld Tryz.prog 126 6 37 123 := ⟨by kernel_rfl⟩
instance : Fld Tryz.prog 126 7 38 124 := ⟨by kernel_rfl⟩
instance : Fld Tryz.prog 126 8 39 3 := ⟨by kernel_rfl⟩
instance : Fld Tryz.prog 126 9 40 3 := ⟨by kernel_rfl⟩
instance : Fld Tryz.prog 126 10 41 37 := ⟨by kernel_rfl⟩
instance : Fld Tryz.prog 126 11 42 4 := ⟨by kernel_rfl⟩
instance : TyStruct Tryz.prog 126 #[(0, 1), (1, 32), (33, 1), (34, 1), (35, 1), (36, 1), (37, 1), (38, 1), (39, 1), (40, 1), (41, 1), (42, 1)] := ⟨by kernel_rfl⟩
instance : TyScal Tryz.prog 127 := ⟨by kernel_rfl⟩
instance : TyI Tryz.prog 127 1 8 (.nilFunc) := ⟨by kernel_rfl, by kernel_rfl⟩
instance : TyAggr Tryz.prog 128 := ⟨by kernel_rfl⟩
instance : TyI Tryz.prog 128 3 40 (.agg #[.int .i64 0, .slice none 0 0, .bool false]) := ⟨by kernel_rfl, by kernel_rfl⟩
instance : Fld Tryz.prog 128 0 0 3 := ⟨by kernel_rfl⟩
instance : Fld Tryz.prog 128 1 1 33 := ⟨by kernel_rfl⟩
instance : Fld Tryz.prog 128 2 2 4 := ⟨by kernel_rfl⟩
instance : TyStruct Tryz.prog 128 #[(0, 1), (1, 1), (2, 1)] := ⟨by kernel_rfl⟩
instance : TyAggr Tryz.prog 129 := ⟨by kernel_rfl⟩
instance : TyI Tryz.prog 129 3 40 (.agg #[.int .i64 0, .slice none 0 0, .bool false]) := ⟨by kernel_rfl, by kernel_rfl⟩
instance : Fld Tryz.prog 129 0 0 3 := ⟨by kernel_rfl⟩
instance : Fld Tryz.prog 129 1 1 33 := ⟨by kernel_rfl⟩
instance : Fld Tryz.prog 129 2 2 4 := ⟨by kernel_rfl⟩
instance : TyStruct Tryz.prog 129 #[(0, 1), (1, 1), (2, 1)] := ⟨by kernel_rfl⟩
instance : TyScal Tryz.prog 130 := ⟨by kernel_rfl⟩
instance : TyI Tryz.prog 130 1 8 (.nilFunc) := ⟨by kernel_rfl, by kernel_rfl⟩
instance : TyScal Tryz.prog 131 := ⟨by kernel_rfl⟩
instance : TyI Tryz.prog 131 1 8 (.nilFunc) := ⟨by kernel_rfl, by kernel_rfl⟩
instance : TyScal Tryz.prog 133 := ⟨by kernel_rfl⟩
instance : TyI Tryz.prog 133 1 8 (.nilFunc) := ⟨by kernel_rfl, by kernel_rfl⟩
instance : TyScal Tryz.prog 134 := ⟨by kernel_rfl⟩
instance : TyI Tryz.prog 134 1 8 (.nilFunc) := ⟨by kernel_rfl, by kernel_rfl⟩
instance : TyScal Tryz.prog 135 := ⟨by kernel_rfl⟩
instance : TyI Tryz.prog 135 1 24 (.slice none 0 0) := ⟨by kernel_rfl, by kernel_rfl⟩
instance : TySlice Tryz.prog 135 43 := ⟨by kernel_rfl⟩
instance : TyScal Tryz.prog 136 := ⟨by kernel_rfl⟩
instance : TyI Tryz.prog 136 1 8 (.nilFunc) := ⟨by kernel_rfl, by kernel_rfl⟩
instance : TyScal Tryz.prog 137 := ⟨by kernel_rfl⟩
instance : TyI Tryz.prog 137 1 8 (.nilFunc) := ⟨by kernel_rfl, by kernel_rfl⟩
instance : TyScal Tryz.prog 138 := ⟨by kernel_rfl⟩
instance : TyI Tryz.prog 138 1 8 (.nilFunc) := ⟨by kernel_rfl, by kernel_rfl⟩
instance : TyScal Tryz.prog 139 := ⟨by kernel_rfl⟩
instance : TyI Tryz.prog 139 1 8 (.nilFunc) := ⟨by kernel_rfl, by kernel_rfl⟩
instance : TyScal Tryz.prog 140 := ⟨by kernel_rfl⟩
instance : TyI Tryz.prog 140 1 8 (.nilFunc) := ⟨by kernel_rfl, by kernel_rfl⟩
instance : TyScal Tryz.prog 142 := ⟨by kernel_rfl⟩
instance : TyI Tryz.prog 142 1 8 (.nilFunc) := ⟨by kernel_rfl, by kernel_rfl⟩
instance : TyScal Tryz.prog 143 := ⟨by kernel_rfl⟩
instance : TyI Tryz.prog 143 1 8 (.nilFunc) := ⟨by kernel_rfl, by kernel_rfl⟩
instance : TyScal Tryz.prog 144 := ⟨by kernel_rfl⟩
instance : TyI Tryz.prog 144 1 8 (.nilFunc) := ⟨by kernel_rfl, by kernel_rfl⟩
instance : TyScal Tryz.prog 145 := ⟨by kernel_rfl⟩
instance : TyI Tryz.prog 145 1 8 (.nilFunc) := ⟨by kernel_rfl, by kernel_rfl⟩
instance : TyScal Tryz.prog 146 := ⟨by kernel_rfl⟩
instance : TyI Tryz.prog 146 1 8 (.nilFunc) := ⟨by kernel_rfl, by kernel_rfl⟩
instance : TyScal Tryz.prog 147 := ⟨by kernel_rfl⟩
instance : TyI Tryz.prog 147 1 8 (.nilFunc) := ⟨by kernel_rfl, by kernel_rfl⟩
instance : TyScal Tryz.prog 148 := ⟨by kernel_rfl⟩
instance : TyI Tryz.prog 148 1 8 (.nilFunc) := ⟨by kernel_rfl, by kernel_rfl⟩
instance : TyAggr Tryz.prog 149 := ⟨by kernel_rfl⟩
instance : TyI Tryz.prog 149 4 24 (.agg #[.int .u64 0, .int .u32 0, .int .u32 0, .int .u32 0]) := ⟨by kernel_rfl, by kernel_rfl⟩
instance : Fld Tryz.prog 149 0 0 108 := ⟨by kernel_rfl⟩
instance : TyStruct Tryz.prog 149 #[(0, 4)] := ⟨by kernel_rfl⟩
instance : TyAggr Tryz.prog 150 := ⟨by kernel_rfl⟩
instance : TyI Tryz.prog 150 4 24 (.agg #[.int .u64 0, .int .u32 0, .int .u32 0, .int .u32 0]) := ⟨by kernel_rfl, by kernel_rfl⟩
instance : Fld Tryz.prog 150 0 0 108 := ⟨by kernel_rfl⟩
instance : TyStruct Tryz.prog 150 #[(0, 4)] := ⟨by kernel_rfl⟩
instance : TyScal Tryz.prog 151 := ⟨by kernel_rfl⟩
instance : TyI Tryz.prog 151 1 8 (.nilFunc) := ⟨by kernel_rfl, by kernel_rfl⟩
instance : TyScal Tryz.prog 152 := ⟨by kernel_rfl⟩
instance : TyI Tryz.prog 152 1 8 (.nilFunc) := ⟨by kernel_rfl, by kernel_rfl⟩
instance : TyScal Tryz.prog 153 := ⟨by kernel_rfl⟩
instance : TyI Tryz.prog 153 1 8 (.nilFunc) := ⟨by kernel_rfl, by kernel_rfl⟩
instance : TyAggr Tryz.prog 154 := ⟨by kernel_rfl⟩
instance : TyI Tryz.prog 154 2 32 (.agg #[.int .i64 0, .slice none 0 0]) := ⟨by kernel_rfl, by kernel_rfl⟩
instance : Fld Tryz.prog 154 0 0 3 := ⟨by kernel_rfl⟩
instance : Fld Tryz.prog 154 1 1 33 := ⟨by kernel_rfl⟩
instance : TyStruct Tryz.prog 154 #[(0, 1), (1, 1)] := ⟨by kernel_rfl⟩
instance : TyAggr Tryz.prog 155 := ⟨by kernel_rfl⟩
instance : TyI Tryz.prog 155 2 32 (.agg #[.int .i64 0, .slice none 0 0]) := ⟨by kernel_rfl, by kernel_rfl⟩
instance : Fld Tryz.prog 155 0 0 3 := ⟨by kernel_rfl⟩
instance : Fld Tryz.prog 155 1 1 33 := ⟨by kernel_rfl⟩
instance : TyStruct Tryz.prog 155 #[(0, 1), (1, 1)] := ⟨by kernel_rfl⟩
instance : TyScal Tryz.prog 156 := ⟨by kernel_rfl⟩
instance : TyI Tryz.prog 156 1 8 (.pointer none) := ⟨by kernel_rfl, by kernel_rfl⟩
instance : TyPtr Tryz.prog 156 174 := ⟨by kernel_rfl⟩
instance : TyScal Tryz.prog 157 := ⟨by kernel_rfl⟩
instance : TyI Tryz.prog 157 1 8 (.nilFunc) := ⟨by kernel_rfl, by kernel_rfl⟩
instance : TyScal Tryz.prog 158 := ⟨by kernel_rfl⟩
instance : TyI Tryz.prog 158 1 8 (.nilFunc) := ⟨by kernel_rfl, by kernel_rfl⟩
instance : TyScal Tryz.prog 160 := ⟨by kernel_rfl⟩
instance : TyI Tryz.prog 160 1 8 (.nilFunc) := ⟨by kernel_rfl, by kernel_rfl⟩
instance : TyScal Tryz.prog 161 := ⟨by kernel_rfl⟩
instance : TyI Tryz.prog 161 1 8 (.nilFunc) := ⟨by kernel_rfl, by kernel_rfl⟩
instance : TyScal Tryz.prog 162 := ⟨by kernel_rfl⟩
instance : TyI Tryz.prog 162 1 8 (.nilFunc) := ⟨by kernel_rfl, by kernel_rfl⟩
instance : TyScal Tryz.prog 163 := ⟨by kernel_rfl⟩
instance : TyI Tryz.prog 163 1 16 (.nilIface) := ⟨by kernel_rfl, by kernel_rfl⟩
instance : TyScal Tryz.prog 164 := ⟨by kernel_rfl⟩
instance : TyI Tryz.prog 164 1 16 (.nilIface) := ⟨by kernel_rfl, by kernel_rfl⟩
instance : TyScal Tryz.prog 165 := ⟨by kernel_rfl⟩
instance : TyI Tryz.prog 165 1 8 (.nilFunc) := ⟨by kernel_rfl, by kernel_rfl⟩
instance : TyScal Tryz.prog 166 := ⟨by kernel_rfl⟩
instance : TyI Tryz.prog 166 1 8 (.nilFunc) := ⟨by kernel_rfl, by kernel_rfl⟩
instance : TyScal Tryz.prog 167 := ⟨by kernel_rfl⟩
instance : TyI Tryz.prog 167 1 8 (.nilFunc) := ⟨by kernel_rfl, by kernel_rfl⟩
instance : TyScal Tryz.prog 168 := ⟨by kernel_rfl⟩
instance : TyI Tryz.prog 168 1 8 (.nilFunc) := ⟨by kernel_rfl, by kernel_rfl⟩
instance : TyScal Tryz.prog 169 := ⟨by kernel_rfl⟩
instance : TyI Tryz.prog 169 1 8 (.int .u64 0) := ⟨by kernel_rfl, by kernel_rfl⟩
instance : TyInt Tryz.prog 169 .u64 := ⟨by kernel_rfl⟩
instance : TyScal Tryz.prog 170 := ⟨by kernel_rfl⟩
instance : TyI Tryz.prog 170 1 8 (.nilFunc) := ⟨by kernel_rfl, by kernel_rfl⟩
instance : TyScal Tryz.prog 172 := ⟨by kernel_rfl⟩
instance : TyI Tryz.prog 172 1 8 (.nilFunc) := ⟨by kernel_rfl, by kernel_rfl⟩
instance : TyAggr Tryz.prog 173 := ⟨by kernel_rfl⟩
instance : TyI Tryz.prog 173 2 32 (.agg #[.slice none 0 0, .int .i64 0]) := ⟨by kernel_rfl, by kernel_rfl⟩
instance : Fld Tryz.prog 173 0 0 33 := ⟨by kernel_rfl⟩
instance : Fld Tryz.prog 173 1 1 37 := ⟨by kernel_rfl⟩
instance : TyStruct Tryz.prog 173 #[(0, 1), (1, 1)] := ⟨by kernel_rfl⟩
instance : TyAggr Tryz.prog 174 := ⟨by kernel_rfl⟩
instance : TyI Tryz.prog 174 2 32 (.agg #[.slice none 0 0, .int .i64 0]) := ⟨by kernel_rfl, by kernel_rfl⟩
instance : Fld Tryz.prog 174 0 0 33 := ⟨by kernel_rfl⟩
instance : Fld Tryz.prog 174 1 1 37 := ⟨by kernel_rfl⟩
instance : TyStruct Tryz.prog 174 #[(0, 1), (1, 1)] := ⟨by kernel_rfl⟩
instance : TyScal Tryz.prog 175 := ⟨by kernel_rfl⟩
instance : TyI Tryz.prog 175 1 8 (.nilFunc) := ⟨by kernel_rfl, by kernel_rfl⟩
instance : TyScal Tryz.prog 176 := ⟨by kernel_rfl⟩
instance : TyI Tryz.prog 176 1 8 (.nilFunc) := ⟨by kernel_rfl, by kernel_rfl⟩
instance : TyAggr Tryz.prog 177 := ⟨by kernel_rfl⟩
instance : TyI Tryz.prog 177 16 16 (.agg #[.int .u8 0, .int .u8 0, .int .u8 0, .int .u8 0, .int .u8 0, .int .u8 0, .int .u8 0, .int .u8 0, .int .u8 0, .int .u8 0, .int .u8 0, .int .u8 0, .int .u8 0, .int .u8 0, .int .u8 0, .int .u8 0]) := ⟨by kernel_rfl, by kernel_rfl⟩
instance : TyArr Tryz.prog 177 16 5 := ⟨by kernel_rfl⟩
instance : TyAggr Tryz.prog 178 := ⟨by kernel_rfl⟩
instance : TyI Tryz.prog 178 16 16 (.agg #[.int .u8 0, .int .u8 0, .int .u8 0, .int .u8 0, .int .u8 0, .int .u8 0, .int .u8 0, .int .u8 0, .int .u8 0, .int .u8 0, .int .u8 0, .int .u8 0, .int .u8 0, .int .u8 0, .int .u8 0, .int .u8 0]) := ⟨by kernel_rfl, by kernel_rfl⟩
instance : TyArr Tryz.prog 178 16 5 := ⟨by kernel_rfl⟩
instance : TyScal Tryz.prog 179 := ⟨by kernel_rfl⟩
instance : TyI Tryz.prog 179 1 8 (.nilFunc) := ⟨by kernel_rfl, by kernel_rfl⟩
instance : TyScal Tryz.prog 180 := ⟨by kernel_rfl⟩
instance : TyI Tryz.prog 180 1 8 (.nilFunc) := ⟨by kernel_rfl, by kernel_rfl⟩
instance : TyScal Tryz.prog 181 := ⟨by kernel_rfl⟩
instance : TyI Tryz.prog 181 1 8 (.nilFunc) := ⟨by kernel_rfl, by kernel_rfl⟩
instance : TyScal Tryz.prog 182 := ⟨by kernel_rfl⟩
instance : TyI Tryz.prog 182 1 16 (.nilIface) := ⟨by kernel_rfl, by kernel_rfl⟩
instance : TyScal Tryz.prog 183 := ⟨by kernel_rfl⟩
instance : TyI Tryz.prog 183 1 16 (.nilIface) := ⟨by kernel_rfl, by kernel_rfl⟩
instance : TyScal Tryz.prog 184 := ⟨by kernel_rfl⟩
instance : TyI Tryz.prog 184 1 8 (.nilFunc) := ⟨by kernel_rfl, by kernel_rfl⟩
instance : TyScal Tryz.prog 185 := ⟨by kernel_rfl⟩
instance : TyI Tryz.prog 185 1 8 (.nilFunc) := ⟨by kernel_rfl, by kernel_rfl⟩
instance : TyScal Tryz.prog 186 := ⟨by kernel_rfl⟩
instance : TyI Tryz.prog 186 1 8 (.nilFunc) := ⟨by kernel_rfl, by kernel_rfl⟩
instance : TyScal Tryz.prog 187 := ⟨by kernel_rfl⟩
instance : TyI Tryz.prog 187 1 8 (.int .i64 0) := ⟨by kernel_rfl, by kernel_rfl⟩
instance : TyInt Tryz.prog 187 .i64 := ⟨by kernel_rfl⟩
instance : TyScal Tryz.prog 189 := ⟨by kernel_rfl⟩
instance : TyI Tryz.prog 189 1 8 (.nilFunc) := ⟨by kernel_rfl, by kernel_rfl⟩
instance : TyScal Tryz.prog 190 := ⟨by kernel_rfl⟩
instance : TyI Tryz.prog 190 1 8 (.nilFunc) := ⟨by kernel_rfl, by kernel_rfl⟩
instance : TyScal Tryz.prog 191 := ⟨by kernel_rfl⟩
instance : TyI Tryz.prog 191 1 8 (.nilFunc) := ⟨by kernel_rfl, by kernel_rfl⟩
instance : TyScal Tryz.prog 192 := ⟨by kernel_rfl⟩
instance : TyI Tryz.prog 192 1 8 (.nilFunc) := ⟨by kernel_rfl, by kernel_rfl⟩
instance : TyScal Tryz.prog 194 := ⟨by kernel_rfl⟩
instance : TyI Tryz.prog 194 1 8 (.nilFunc) := ⟨by kernel_rfl, by kernel_rfl⟩
instance : TyScal Tryz.prog 195 := ⟨by kernel_rfl⟩
instance : TyI Tryz.prog 195 1 8 (.nilFunc) := ⟨by kernel_rfl, by kernel_rfl⟩
instance : TyScal Tryz.prog 196 := ⟨by kernel_rfl⟩
instance : TyI Tryz.prog 196 1 8 (.nilFunc) := ⟨by kernel_rfl, by kernel_rfl⟩
instance : TyScal Tryz.prog 197 := ⟨by kernel_rfl⟩
instance : TyI Tryz.prog 197 1 8 (.nilFunc) := ⟨by kernel_rfl, by kernel_rfl⟩
instance : TyScal Tryz.prog 198 := ⟨by kernel_rfl⟩
instance : TyI Tryz.prog 198 1 8 (.nilFunc) := ⟨by kernel_rfl, by kernel_rfl⟩
instance : TyAggr Tryz.prog 199 := ⟨by kernel_rfl⟩
instance : TyI Tryz.prog 199 64 64 (.agg #[.int .u8 0, .int .u8 0, .int .u8 0, .int .u8 0, .int .u8 0, .int .u8 0, .int .u8 0, .int .u8 0, .int .u8 0, .int .u8 0, .int .u8 0, .int .u8 0, .int .u8 0, .int .u8 0, .int .u8 0, .int .u8 0, .int .u8 0, .int .u8 0, .int .u8 0, .int .u8 0, .int .u8 0, .int .u8 0, .int .u8 0, .int .u8 0, .int .u8 0, .int .u8 0, .int .u8 0, .int .u8 0, .int .u8 0, .int .u8 0, .int .u8 0, .int .u8 0, .int .u8 0, .int .u8 0, .int .u8 0, .int .u8 0, .int .u8 0, .int .u8 0, .int .u8 0, .int .u8 0, .int .u8 0, .int .u8 0, .int .u8 0, .int .u8 0, .int .u8 0, .int .u8 0, .int .u8 0, .int .u8 0, .int .u8 0, .int .u8 0, .int .u8 0, .int .u8 0, .int .u8 0, .int .u8 0, .int .u8 0, .int .u8 0, .int .u8 0, .int .u8 0, .int .u8 0, .int .u8 0, .int .u8 0, .int .u8 0, .int .u8 0, .int .u8 0]) := ⟨by kernel_rfl, by kernel_rfl⟩
instance : TyArr Tryz.prog 199 64 5 := ⟨by kernel_rfl⟩
instance : TyScal Tryz.prog 200 := ⟨by kernel_rfl⟩
instance : TyI Tryz.prog 200 1 8 (.nilFunc) := ⟨by kernel_rfl, by kernel_rfl⟩
instance : TyScal Tryz.prog 201 := ⟨by kernel_rfl⟩
instance : TyI Tryz.prog 201 1 8 (.pointer none) := ⟨by kernel_rfl, by kernel_rfl⟩
instance : TyPtr Tryz.prog 201 235 := ⟨by kernel_rfl⟩
instance : TyScal Tryz.prog 202 := ⟨by kernel_rfl⟩
instance : TyI Tryz.prog 202 1 8 (.nilFunc) := ⟨by kernel_rfl, by kernel_rfl⟩
instance : TyScal Tryz.prog 204 := ⟨by kernel_rfl⟩
instance : TyI Tryz.prog 204 1 8 (.nilFunc) := ⟨by kernel_rfl, by kernel_rfl⟩
instance : TyScal Tryz.prog 205 := ⟨by kernel_rfl⟩
instance : TyI Tryz.prog 205 1 8 (.nilFunc) := ⟨by kernel_rfl, by kernel_rfl⟩
instance : TyScal Tryz.prog 206 := ⟨by kernel_rfl⟩
instance : TyI Tryz.prog 206 1 8 (.nilFunc) := ⟨by kernel_rfl, by kernel_rfl⟩
instance : TyScal Tryz.prog 207 := ⟨by kernel_rfl⟩
instance : TyI Tryz.prog 207 1 8 (.pointer none) := ⟨by kernel_rfl, by kernel_rfl⟩
instance : TyPtr Tryz.prog 207 242 := ⟨by kernel_rfl⟩
instance : TyScal Tryz.prog 208 := ⟨by kernel_rfl⟩
instance : TyI Tryz.prog 208 1 8 (.nilFunc) := ⟨by kernel_rfl, by kernel_rfl⟩
instance : TyScal Tryz.prog 209 := ⟨by kernel_rfl⟩
instance : TyI Tryz.prog 209 1 8 (.nilFunc) := ⟨by kernel_rfl, by kernel_rfl⟩
instance : TyAggr Tryz.prog 210 := ⟨by kernel_rfl⟩
instance : TyI Tryz.prog 210 1 8 (.agg #[.pointer none]) := ⟨by kernel_rfl, by kernel_rfl⟩
instance : Fld Tryz.prog 210 0 0 17 := ⟨by kernel_rfl⟩
instance : TyStruct Tryz.prog 210 #[(0, 1)] := ⟨by kernel_rfl⟩
instance : TyAggr Tryz.prog 211 := ⟨by kernel_rfl⟩
instance : TyI Tryz.prog 211 1 8 (.agg #[.pointer none]) := ⟨by kernel_rfl, by kernel_rfl⟩
instance : Fld Tryz.prog 211 0 0 17 := ⟨by kernel_rfl⟩
instance : TyStruct Tryz.prog 211 #[(0, 1)] := ⟨by kernel_rfl⟩
instance : TyScal Tryz.prog 212 := ⟨by kernel_rfl⟩
instance : TyI Tryz.prog 212 1 8 (.pointer none) := ⟨by kernel_rfl, by kernel_rfl⟩
instance : TyPtr Tryz.prog 212 300 := ⟨by kernel_rfl⟩
instance : TyScal Tryz.prog 213 := ⟨by kernel_rfl⟩
instance : TyI Tryz.prog 213 1 16 (.nilIface) := ⟨by kernel_rfl, by kernel_rfl⟩
instance : TyScal Tryz.prog 215 := ⟨by kernel_rfl⟩
instance : TyI Tryz.prog 215 1 16 (.nilIface) := ⟨by kernel_rfl, by kernel_rfl⟩
instance : TyScal Tryz.prog 216 := ⟨by kernel_rfl⟩
instance : TyI Tryz.prog 216 1 8 (.nilFunc) := ⟨by kernel_rfl, by kernel_rfl⟩
instance : TyScal Tryz.prog 217 := ⟨by kernel_rfl⟩
instance : TyI Tryz.prog 217 1 16 (.nilIface) := ⟨by kernel_rfl, by kernel_rfl⟩
instance : TyScal Tryz.prog 218 := ⟨by kernel_rfl⟩
instance : TyI Tryz.prog 218 1 24 (.slice none 0 0) := ⟨by kernel_rfl, by kernel_rfl⟩
instance : TySlice Tryz.prog 218 164 := ⟨by kernel_rfl⟩
instance : TyScal Tryz.prog 219 := ⟨by kernel_rfl⟩
instance : TyI Tryz.prog 219 1 8 (.nilFunc) := ⟨by kernel_rfl, by kernel_rfl⟩
instance : TyScal Tryz.prog 220 := ⟨by kernel_rfl⟩
instance : TyI Tryz.prog 220 1 8 (.int .u64 0) := ⟨by kernel_rfl, by kernel_rfl⟩
instance : TyInt Tryz.prog 220 .u64 := ⟨by kernel_rfl⟩
instance : TyScal Tryz.prog 221 := ⟨by kernel_rfl⟩
instance : TyI Tryz.prog 221 1 8 (.nilFunc) := ⟨by kernel_rfl, by kernel_rfl⟩
instance : TyScal Tryz.prog 222 := ⟨by kernel_rfl⟩
instance : TyI Tryz.prog 222 1 8 (.nilFunc) := ⟨by kernel_rfl, by kernel_rfl⟩
instance : TyScal Tryz.prog 223 := ⟨by kernel_rfl⟩
instance : TyI Tryz.prog 223 1 8 (.pointer none) := ⟨by kernel_rfl, by kernel_rfl⟩
instance : TyPtr Tryz.prog 223 3 := ⟨by kernel_rfl⟩
instance : TyScal Tryz.prog 224 := ⟨by kernel_rfl⟩
instance : TyI Tryz.prog 224 1 8 (.nilFunc) := ⟨by kernel_rfl, by kernel_rfl⟩
instance : TyScal Tryz.prog 225 := ⟨by kernel_rfl⟩
instance : TyI Tryz.prog 225 1 8 (.nilFunc) := ⟨by kernel_rfl, by kernel_rfl⟩
instance : TyScal Tryz.prog 226 := ⟨by kernel_rfl⟩
instance : TyI Tryz.prog 226 1 8 (.pointer none) := ⟨by kernel_rfl, by kernel_rfl⟩
instance : TyPtr Tryz.prog 226 254 := ⟨by kernel_rfl⟩
instance : TyScal Tryz.prog 227 := ⟨by kernel_rfl⟩
instance : TyI Tryz.prog 227 1 8 (.nilFunc) := ⟨by kernel_rfl, by kernel_rfl⟩
instance : TyScal Tryz.prog 228 := ⟨by kernel_rfl⟩
instance : TyI Tryz.prog 228 1 8 (.nilFunc) := ⟨by kernel_rfl, by kernel_rfl⟩
instance : TyAggr Tryz.prog 229 := ⟨by kernel_rfl⟩
instance : TyI Tryz.prog 229 16 64 (.agg #[.int .u32 0, .int .u32 0, .int .u32 0, .int .u32 0, .int .u32 0, .int .u32 0, .int .u32 0, .int .u32 0, .int .u32 0, .int .u32 0, .int .u32 0, .int .u32 0, .int .u32 0, .int .u32 0, .int .u32 0, .int .u32 0]) := ⟨by kernel_rfl, by kernel_rfl⟩
instance : TyArr Tryz.prog 229 16 50 := ⟨by kernel_rfl⟩
instance : TyScal Tryz.prog 230 := ⟨by kernel_rfl⟩
instance : TyI Tryz.prog 230 1 8 (.nilFunc) := ⟨by kernel_rfl, by kernel_rfl⟩
instance : TyScal Tryz.prog 231 := ⟨by kernel_rfl⟩
instance : TyI Tryz.prog 231 1 8 (.nilFunc) := ⟨by kernel_rfl, by kernel_rfl⟩
instance : TyAggr Tryz.prog 232 := ⟨by kernel_rfl⟩
instance : TyI Tryz.prog 232 2 16 (.agg #[.int .u64 0, .int .u64 0]) := ⟨by kernel_rfl, by kernel_rfl⟩
instance : TyArr Tryz.prog 232 2 24 := ⟨by kernel_rfl⟩
instance : TyAggr Tryz.prog 233 := ⟨by kernel_rfl⟩
instance : TyI Tryz.prog 233 3 24 (.agg #[.int .u64 0, .int .u64 0, .int .u64 0]) := ⟨by kernel_rfl, by kernel_rfl⟩
instance : TyArr Tryz.prog 233 3 24 := ⟨by kernel_rfl⟩
instance : TyAggr Tryz.prog 234 := ⟨by kernel_rfl⟩
instance : TyI Tryz.prog 234 24 80 (.agg #[.int .u64 0, .int .u64 0, .int .u64 0, .int .u64 0, .int .u64 0, .int .u64 0, .int .u64 0, .int .u8 0, .int .u8 0, .int .u8 0, .int .u8 0, .int .u8 0, .int .u8 0, .int .u8 0, .int .u8 0, .int .u8 0, .int .u8 0, .int .u8 0, .int .u8 0, .int .u8 0, .int .u8 0, .int .u8 0, .int .u8 0, .int .i64 0]) := ⟨by kernel_rfl, by kernel_rfl⟩
instance : Fld Tryz.prog 234 0 0 232 := ⟨by kernel_rfl⟩
instance : Fld Tryz.prog 234 1 2 232 := ⟨by kernel_rfl⟩
instance : Fld Tryz.prog 234 2 4 233 := ⟨by kernel_rfl⟩
instance : Fld Tryz.prog 234 3 7 177 := ⟨by kernel_rfl⟩
instance : Fld Tryz.prog 234 4 23 3 := ⟨by kernel_rfl⟩
instance : TyStruct Tryz.prog 234 #[(0, 2), (2, 2), (4, 3), (7, 16), (23, 1)] := ⟨by kernel_rfl⟩
instance : TyAggr Tryz.prog 235 := ⟨by kernel_rfl⟩
instance : TyI Tryz.prog 235 24 80 (.agg #[.int .u64 0, .int .u64 0, .int .u64 0, .int .u64 0, .int .u64 0, .int .u64 0, .int .u64 0, .int .u8 0, .int .u8 0, .int .u8 0, .int .u8 0, .int .u8 0, .int .u8 0, .int .u8 0, .int .u8 0, .int .u8 0, .int .u8 0, .int .u8 0, .int .u8 0, .int .u8 0, .int .u8 0, .int .u8 0, .int .u8 0, .int .i64 0]) := ⟨by kernel_rfl, by kernel_rfl⟩
instance : Fld Tryz.prog 235 0 0 232 := ⟨by kernel_rfl⟩
instance : Fld Tryz.prog 235 1 2 232 := ⟨by kernel_rfl⟩
instance : Fld Tryz.prog 235 2 4 233 := ⟨by kernel_rfl⟩
instance : Fld Tryz.prog 235 3 7 177 := ⟨by kernel_rfl⟩
instance : Fld Tryz.prog 235 4 23 3 := ⟨by kernel_rfl⟩
instance : TyStruct Tryz.prog 235 #[(0, 2), (2, 2), (4, 3), (7, 16), (23, 1)] := ⟨by kernel_rfl⟩
instance : TyScal Tryz.prog 236 := ⟨by kernel_rfl⟩
instance : TyI Tryz.prog 236 1 8 (.nilFunc) := ⟨by kernel_rfl, by kernel_rfl⟩
instance : TyAggr Tryz.prog 237 := ⟨by kernel_rfl⟩
instance : TyI Tryz.prog 237 8 8 (.agg #[.int .u8 0, .int .u8 0, .int .u8 0, .int .u8 0, .int .u8 0, .int .u8 0, .int .u8 0, .int .u8 0]) := ⟨by kernel_rfl, by kernel_rfl⟩
instance : TyArr Tryz.prog 237 8 5 := ⟨by kernel_rfl⟩
instance : TyScal Tryz.prog 238 := ⟨by kernel_rfl⟩
instance : TyI Tryz.prog 238 1 8 (.nilFunc) := ⟨by kernel_rfl, by kernel_rfl⟩
instance : TyScal Tryz.prog 240 := ⟨by kernel_rfl⟩
instance : TyI Tryz.prog 240 1 8 (.nilFunc) := ⟨by kernel_rfl, by kernel_rfl⟩
instance : TyAggr Tryz.prog 241 := ⟨by kernel_rfl⟩
instance : TyI Tryz.prog 241 45 56 (.agg #[.int .u8 0, .int .u8 0, .int .u8 0, .int .u8 0, .int .u8 0, .int .u8 0, .int .u8 0, .int .u8 0, .int .u8 0, .int .u8 0, .int .u8 0, .int .u8 0, .int .u8 0, .int .u8 0, .int .u8 0, .int .u8 0, .int .u8 0, .int .u8 0, .int .u8 0, .int .u8 0, .int .u8 0, .int .u8 0, .int .u8 0, .int .u8 0, .int .u8 0, .int .u8 0, .int .u8 0, .int .u8 0, .int .u8 0, .int .u8 0, .int .u8 0, .int .u8 0, .int .u8 0, .int .u8 0, .int .u8 0, .int .u8 0, .int .u8 0, .int .u8 0, .int .u8 0, .int .u8 0, .int .u8 0, .int .u8 0, .int .u8 0, .int .u8 0, .int .u64 0]) := ⟨by kernel_rfl, by kernel_rfl⟩
instance : Fld Tryz.prog 241 0 0 23 := ⟨by kernel_rfl⟩
instance : Fld Tryz.prog 241 1 32 63 := ⟨by kernel_rfl⟩
instance : Fld Tryz.prog 241 2 44 24 := ⟨by kernel_rfl⟩
instance : TyStruct Tryz.prog 241 #[(0, 32), (32, 12), (44, 1)] := ⟨by kernel_rfl⟩
instance : TyAggr Tryz.prog 242 := ⟨by kernel_rfl⟩
instance : TyI Tryz.prog 242 45 56 (.agg #[.int .u8 0, .int .u8 0, .int .u8 0, .int .u8 0, .int .u8 0, .int .u8 0, .int .u8 0, .int .u8 0, .int .u8 0, .int .u8 0, .int .u8 0, .int .u8 0, .int .u8 0, .int .u8 0, .int .u8 0, .int .u8 0, .int .u8 0, .int .u8 0, .int .u8 0, .int .u8 0, .int .u8 0, .int .u8 0, .int .u8 0, .int .u8 0, .int .u8 0, .int .u8 0, .int .u8 0, .int .u8 0, .int .u8 0, .int .u8 0, .int .u8 0, .int .u8 0, .int .u8 0, .int .u8 0, .int .u8 0, .int .u8 0, .int .u8 0, .int .u8 0, .int .u8 0, .int .u8 0, .int .u8 0, .int .u8 0, .int .u8 0, .int .u8 0, .int .u64 0]) := ⟨by kernel_rfl, by kernel_rfl⟩
instance : Fld Tryz.prog 242 0 0 23 := ⟨by kernel_rfl⟩
instance : Fld Tryz.prog 242 1 32 63 := ⟨by kernel_rfl⟩
instance : Fld Tryz.prog 242 2 44 24 := ⟨by kernel_rfl⟩
instance : TyStruct Tryz.prog 242 #[(0, 32), (32, 12), (44, 1)] := ⟨by kernel_rfl⟩
instance : TyScal Tryz.prog 243 := ⟨by kernel_rfl⟩
instance : TyI Tryz.prog 243 1 8 (.pointer none) := ⟨by kernel_rfl, by kernel_rfl⟩
instance : TyPtr Tryz.prog 243 220 := ⟨by kernel_rfl⟩
instance : TyScal Tryz.prog 245 := ⟨by kernel_rfl⟩
instance : TyI Tryz.prog 245 1 8 (.nilFunc) := ⟨by kernel_rfl, by kernel_rfl⟩
instance : TyScal Tryz.prog 246 := ⟨by kernel_rfl⟩
instance : TyI Tryz.prog 246 1 24 (.slice none 0 0) := ⟨by kernel_rfl, by kernel_rfl⟩
instance : TySlice Tryz.prog 246 24 := ⟨by kernel_rfl⟩
instance : TyScal Tryz.prog 247 := ⟨by kernel_rfl⟩
instance : TyI Tryz.prog 247 1 8 (.nilFunc) := ⟨by kernel_rfl, by kernel_rfl⟩
instance : TyAggr Tryz.prog 248 := ⟨by kernel_rfl⟩
instance : TyI Tryz.prog 248 4 32 (.agg #[.int .u64 0, .int .u64 0, .int .u64 0, .int .u64 0]) := ⟨by kernel_rfl, by kernel_rfl⟩
instance : TyArr Tryz.prog 248 4 24 := ⟨by kernel_rfl⟩
instance : TyScal Tryz.prog 249 := ⟨by kernel_rfl⟩
instance : TyI Tryz.prog 249 1 8 (.nilFunc) := ⟨by kernel_rfl, by kernel_rfl⟩
instance : TyScal Tryz.prog 250 := ⟨by kernel_rfl⟩
instance : TyI Tryz.prog 250 1 8 (.nilFunc) := ⟨by kernel_rfl, by kernel_rfl⟩
instance : TyScal Tryz.prog 251 := ⟨by kernel_rfl⟩
instance : TyI Tryz.prog 251 1 8 (.nilFunc) := ⟨by kernel_rfl, by kernel_rfl⟩
instance : TyScal Tryz.prog 252 := ⟨by kernel_rfl⟩
instance : TyI Tryz.prog 252 1 8 (.nilFunc) := ⟨by kernel_rfl, by kernel_rfl⟩
instance : TyAggr Tryz.prog 253 := ⟨by kernel_rfl⟩
instance : TyI Tryz.prog 253 45 56 (.agg #[.int .u8 0, .int .u8 0, .int .u8 0, .int .u8 0, .int .u8 0, .int .u8 0, .int .u8 0, .int .u8 0, .int .u8 0, .int .u8 0, .int .u8 0, .int .u8 0, .int .u8 0, .int .u8 0, .int .u8 0, .int .u8 0, .int .u8 0, .int .u8 0, .int .u8 0, .int .u8 0, .int .u8 0, .int .u8 0, .int .u8 0, .int .u8 0, .int .u8 0, .int .u8 0, .int .u8 0, .int .u8 0, .int .u8 0, .int .u8 0, .int .u8 0, .int .u8 0, .int .u8 0, .int .u8 0, .int .u8 0, .int .u8 0, .int .u8 0, .int .u8 0, .int .u8 0, .int .u8 0, .int .u8 0, .int .u8 0, .int .u8 0, .int .u8 0, .int .u64 0]) := ⟨by kernel_rfl, by kernel_rfl⟩
instance : Fld Tryz.prog 253 0 0 23 := ⟨by kernel_rfl⟩
instance : Fld Tryz.prog 253 1 32 63 := ⟨by kernel_rfl⟩
instance : Fld Tryz.prog 253 2 44 24 := ⟨by kernel_rfl⟩
instance : TyStruct Tryz.prog 253 #[(0, 32), (32, 12), (44, 1)] := ⟨by kernel_rfl⟩
instance : TyAggr Tryz.prog 254 := ⟨by kernel_rfl⟩
instance : TyI Tryz.prog 254 45 56 (.agg #[.int .u8 0, .int .u8 0, .int .u8 0, .int .u8 0, .int .u8 0, .int .u8 0, .int .u8 0, .int .u8 0, .int .u8 0, .int .u8 0, .int .u8 0, .int .u8 0, .int .u8 0, .int .u8 0, .int .u8 0, .int .u8 0, .int .u8 0, .int .u8 0, .int .u8 0, .int .u8 0, .int .u8 0, .int .u8 0, .int .u8 0, .int .u8 0, .int .u8 0, .int .u8 0, .int .u8 0, .int .u8 0, .int .u8 0, .int .u8 0, .int .u8 0, .int .u8 0, .int .u8 0, .int .u8 0, .int .u8 0, .int .u8 0, .int .u8 0, .int .u8 0, .int .u8 0, .int .u8 0, .int .u8 0, .int .u8 0, .int .u8 0, .int .u8 0, .int .u64 0]) := ⟨by kernel_rfl, by kernel_rfl⟩
instance : Fld Tryz.prog 254 0 0 23 := ⟨by kernel_rfl⟩
instance : Fld Tryz.prog 254 1 32 63 := ⟨by kernel_rfl⟩
instance : Fld Tryz.prog 254 2 44 24 := ⟨by kernel_rfl⟩
instance : TyStruct Tryz.prog 254 #[(0, 32), (32, 12), (44, 1)] := ⟨by kernel_rfl⟩
instance : TyScal Tryz.prog 256 := ⟨by kernel_rfl⟩
instance : TyI Tryz.prog 256 1 8 (.nilFunc) := ⟨by kernel_rfl, by kernel_rfl⟩
instance : TyScal Tryz.prog 257 := ⟨by kernel_rfl⟩
instance : TyI Tryz.prog 257 1 8 (.nilFunc) := ⟨by kernel_rfl, by kernel_rfl⟩
instance : TyScal Tryz.prog 258 := ⟨by kernel_rfl⟩
instance : TyI Tryz.prog 258 1 8 (.nilFunc) := ⟨by kernel_rfl, by kernel_rfl⟩
instance : TyAggr Tryz.prog 259 := ⟨by kernel_rfl⟩
instance : TyI Tryz.prog 259 4 32 (.agg #[.int .i64 0, .int .i64 0, .int .i64 0, .int .i64 0]) := ⟨by kernel_rfl, by kernel_rfl⟩
instance : TyArr Tryz.prog 259 4 3 := ⟨by kernel_rfl⟩
instance : TyScal Tryz.prog 260 := ⟨by kernel_rfl⟩
instance : TyI Tryz.prog 260 1 8 (.nilFunc) := ⟨by kernel_rfl, by kernel_rfl⟩
instance : TyScal Tryz.prog 261 := ⟨by kernel_rfl⟩
instance : TyI Tryz.prog 261 1 8 (.nilFunc) := ⟨by kernel_rfl, by kernel_rfl⟩
instance : TyScal Tryz.prog 262 := ⟨by kernel_rfl⟩
instance : TyI Tryz.prog 262 1 8 (.nilFunc) := ⟨by kernel_rfl, by kernel_rfl⟩
instance : TyScal Tryz.prog 264 := ⟨by kernel_rfl⟩
instance : TyI Tryz.prog 264 1 8 (.nilFunc) := ⟨by kernel_rfl, by kernel_rfl⟩
instance : TyScal Tryz.prog 265 := ⟨by kernel_rfl⟩
instance : TyI Tryz.prog 265 1 8 (.nilFunc) := ⟨by kernel_rfl, by kernel_rfl⟩
instance : TyAggr Tryz.prog 266 := ⟨by kernel_rfl⟩
instance : TyI Tryz.prog 266 2 16 (.agg #[.int .u64 0, .int .u64 0]) := ⟨by kernel_rfl, by kernel_rfl⟩
instance : Fld Tryz.prog 266 0 0 24 := ⟨by kernel_rfl⟩
instance : Fld Tryz.prog 266 1 1 24 := ⟨by kernel_rfl⟩
instance : TyStruct Tryz.prog 266 #[(0, 1), (1, 1)] := ⟨by kernel_rfl⟩
instance : TyAggr Tryz.prog 267 := ⟨by kernel_rfl⟩
instance : TyI Tryz.prog 267 2 16 (.agg #[.int .u64 0, .int .u64 0]) := ⟨by kernel_rfl, by kernel_rfl⟩
instance : Fld Tryz.prog 267 0 0 24 := ⟨by kernel_rfl⟩
instance : Fld Tryz.prog 267 1 1 24 := ⟨by kernel_rfl⟩
instance : TyStruct Tryz.prog 267 #[(0, 1), (1, 1)] := ⟨by kernel_rfl⟩
instance : TyScal Tryz.prog 268 := ⟨by kernel_rfl⟩
instance : TyI Tryz.prog 268 1 8 (.nilFunc) := ⟨by kernel_rfl, by kernel_rfl⟩
instance : TyScal Tryz.prog 269 := ⟨by kernel_rfl⟩
instance : TyI Tryz.prog 269 1 8 (.nilFunc) := ⟨by kernel_rfl, by kernel_rfl⟩
instance : TyScal Tryz.prog 270 := ⟨by kernel_rfl⟩
instance : TyI Tryz.prog 270 1 8 (.nilFunc) := ⟨by kernel_rfl, by kernel_rfl⟩
instance : TyScal Tryz.prog 271 := ⟨by kernel_rfl⟩
instance : TyI Tryz.prog 271 1 8 (.nilFunc) := ⟨by kernel_rfl, by kernel_rfl⟩
instance : TyScal Tryz.prog 272 := ⟨by kernel_rfl⟩
instance : TyI Tryz.prog 272 1 8 (.nilFunc) := ⟨by kernel_rfl, by kernel_rfl⟩
instance : TyScal Tryz.prog 274 := ⟨by kernel_rfl⟩
instance : TyI Tryz.prog 274 1 8 (.nilFunc) := ⟨by kernel_rfl, by kernel_rfl⟩
instance : TyScal Tryz.prog 275 := ⟨by kernel_rfl⟩
instance : TyI Tryz.prog 275 1 8 (.nilFunc) := ⟨by kernel_rfl, by kernel_rfl⟩
instance : TyAggr Tryz.prog 276 := ⟨by kernel_rfl⟩
instance : TyI Tryz.prog 276 4 40 (.agg #[.pointer none, .pointer none, .pointer none, .string ByteArray.empty]) := ⟨by kernel_rfl, by kernel_rfl⟩
instance : Fld Tryz.prog 276 0 0 17 := ⟨by kernel_rfl⟩
instance : Fld Tryz.prog 276 1 1 17 := ⟨by kernel_rfl⟩
instance : Fld Tryz.prog 276 2 2 17 := ⟨by kernel_rfl⟩
instance : Fld Tryz.prog 276 3 3 9 := ⟨by kernel_rfl⟩
instance : TyStruct Tryz.prog 276 #[(0, 1), (1, 1), (2, 1), (3, 1)] := ⟨by kernel_rfl⟩
instance : TyAggr Tryz.prog 277 := ⟨by kernel_rfl⟩
instance : TyI Tryz.prog 277 4 40 (.agg #[.pointer none, .pointer none, .pointer none, .string ByteArray.empty]) := ⟨by kernel_rfl, by kernel_rfl⟩
instance : Fld Tryz.prog 277 0 0 17 := ⟨by kernel_rfl⟩
instance : Fld Tryz.prog 277 1 1 17 := ⟨by kernel_rfl⟩
instance : Fld Tryz.prog 277 2 2 17 := ⟨by kernel_rfl⟩
instance : Fld Tryz.prog 277 3 3 9 := ⟨by kernel_rfl⟩
instance : TyStruct Tryz.prog 277 #[(0, 1), (1, 1), (2, 1), (3, 1)] := ⟨by kernel_rfl⟩
instance : TyAggr Tryz.prog 278 := ⟨by kernel_rfl⟩
instance : TyI Tryz.prog 278 0 0 (.agg #[]) := ⟨by kernel_rfl, by kernel_rfl⟩
instance : TyArr Tryz.prog 278 0 16 := ⟨by kernel_rfl⟩
instance : TyAggr Tryz.prog 279 := ⟨by kernel_rfl⟩
instance : TyI Tryz.prog 279 0 0 (.agg #[]) := ⟨by kernel_rfl, by kernel_rfl⟩
instance : Fld Tryz.prog 279 0 0 278 := ⟨by kernel_rfl⟩
instance : TyStruct Tryz.prog 279 #[(0, 0)] := ⟨by kernel_rfl⟩
instance : TyAggr Tryz.prog 280 := ⟨by kernel_rfl⟩
instance : TyI Tryz.prog 280 0 0 (.agg #[]) := ⟨by kernel_rfl, by kernel_rfl⟩
instance : Fld Tryz.prog 280 0 0 278 := ⟨by kernel_rfl⟩
instance : TyStruct Tryz.prog 280 #[(0, 0)] := ⟨by kernel_rfl⟩
instance : TyScal Tryz.prog 281 := ⟨by kernel_rfl⟩
instance : TyI Tryz.prog 281 1 8 (.nilFunc) := ⟨by kernel_rfl, by kernel_rfl⟩
instance : TyScal Tryz.prog 282 := ⟨by kernel_rfl⟩
instance : TyI Tryz.prog 282 1 1 (.int .u8 0) := ⟨by kernel_rfl, by kernel_rfl⟩
instance : TyInt Tryz.prog 282 .u8 := ⟨by kernel_rfl⟩
instance : TyScal Tryz.prog 283 := ⟨by kernel_rfl⟩
instance : TyI Tryz.prog 283 1 1 (.int .u8 0) := ⟨by kernel_rfl, by kernel_rfl⟩
instance : TyInt Tryz.prog 283 .u8 := ⟨by kernel_rfl⟩
instance : TyScal Tryz.prog 284 := ⟨by kernel_rfl⟩
instance : TyI Tryz.prog 284 1 8 (.nilFunc) := ⟨by kernel_rfl, by kernel_rfl⟩
instance : TyScal Tryz.prog 285 := ⟨by kernel_rfl⟩
instance : TyI Tryz.prog 285 1 8 (.pointer none) := ⟨by kernel_rfl, by kernel_rfl⟩
instance : TyPtr Tryz.prog 285 5 := ⟨by kernel_rfl⟩
instance : TyScal Tryz.prog 286 := ⟨by kernel_rfl⟩
instance : TyI Tryz.prog 286 1 4 (.int .i32 0) := ⟨by kernel_rfl, by kernel_rfl⟩
instance : TyInt Tryz.prog 286 .i32 := ⟨by kernel_rfl⟩
instance : TyScal Tryz.prog 287 := ⟨by kernel_rfl⟩
instance : TyI Tryz.prog 287 1 4 (.int .i32 0) := ⟨by kernel_rfl, by kernel_rfl⟩
instance : TyInt Tryz.prog 287 .i32 := ⟨by kernel_rfl⟩
instance : TyAggr Tryz.prog 288 := ⟨by kernel_rfl⟩
instance : TyI Tryz.prog 288 11 48 (.agg #[.int .u64 0, .int .u64 0, .int .u32 0, .int .u8 0, .int .u8 0, .int .u8 0, .int .u8 0, .nilFunc, .pointer none, .int .i32 0, .int .i32 0]) := ⟨by kernel_rfl, by kernel_rfl⟩
instance : Fld Tryz.prog 288 0 0 12 := ⟨by kernel_rfl⟩
instance : Fld Tryz.prog 288 1 1 12 := ⟨by kernel_rfl⟩
instance : Fld Tryz.prog 288 2 2 50 := ⟨by kernel_rfl⟩
instance : Fld Tryz.prog 288 3 3 282 := ⟨by kernel_rfl⟩
instance : Fld Tryz.prog 288 4 4 5 := ⟨by kernel_rfl⟩
instance : Fld Tryz.prog 288 5 5 5 := ⟨by kernel_rfl⟩
instance : Fld Tryz.prog 288 6 6 283 := ⟨by kernel_rfl⟩
instance : Fld Tryz.prog 288 7 7 284 := ⟨by kernel_rfl⟩
instance : Fld Tryz.prog 288 8 8 285 := ⟨by kernel_rfl⟩
instance : Fld Tryz.prog 288 9 9 286 := ⟨by kernel_rfl⟩
instance : Fld Tryz.prog 288 10 10 287 := ⟨by kernel_rfl⟩
instance : TyStruct Tryz.prog 288 #[(0, 1), (1, 1), (2, 1), (3, 1), (4, 1), (5, 1), (6, 1), (7, 1), (8, 1), (9, 1), (10, 1)] := ⟨by kernel_rfl⟩
instance : TyAggr Tryz.prog 289 := ⟨by kernel_rfl⟩
instance : TyI Tryz.prog 289 11 48 (.agg #[.int .u64 0, .int .u64 0, .int .u32 0, .int .u8 0, .int .u8 0, .int .u8 0, .int .u8 0, .nilFunc, .pointer none, .int .i32 0, .int .i32 0]) := ⟨by kernel_rfl, by kernel_rfl⟩
instance : Fld Tryz.prog 289 0 0 12 := ⟨by kernel_rfl⟩
instance : Fld Tryz.prog 289 1 1 12 := ⟨by kernel_rfl⟩
instance : Fld Tryz.prog 289 2 2 50 := ⟨by kernel_rfl⟩
instance : Fld Tryz.prog 289 3 3 282 := ⟨by kernel_rfl⟩
instance : Fld Tryz.prog 289 4 4 5 := ⟨by kernel_rfl⟩
instance : Fld Tryz.prog 289 5 5 5 := ⟨by kernel_rfl⟩
instance : Fld Tryz.prog 289 6 6 283 := ⟨by kernel_rfl⟩
instance : Fld Tryz.prog 289 7 7 284 := ⟨by kernel_rfl⟩
instance : Fld Tryz.prog 289 8 8 285 := ⟨by kernel_rfl⟩
instance : Fld Tryz.prog 289 9 9 286 := ⟨by kernel_rfl⟩
instance : Fld Tryz.prog 289 10 10 287 := ⟨by kernel_rfl⟩
instance : TyStruct Tryz.prog 289 #[(0, 1), (1, 1), (2, 1), (3, 1), (4, 1), (5, 1), (6, 1), (7, 1), (8, 1), (9, 1), (10, 1)] := ⟨by kernel_rfl⟩
instance : TyScal Tryz.prog 290 := ⟨by kernel_rfl⟩
instance : TyI Tryz.prog 290 1 8 (.nilFunc) := ⟨by kernel_rfl, by kernel_rfl⟩
instance : TyScal Tryz.prog 291 := ⟨by kernel_rfl⟩
instance : TyI Tryz.prog 291 1 8 (.nilFunc) := ⟨by kernel_rfl, by kernel_rfl⟩
instance : TyScal Tryz.prog 292 := ⟨by kernel_rfl⟩
instance : TyI Tryz.prog 292 1 8 (.nilFunc) := ⟨by kernel_rfl, by kernel_rfl⟩
instance : TyScal Tryz.prog 293 := ⟨by kernel_rfl⟩
instance : TyI Tryz.prog 293 1 8 (.nilFunc) := ⟨by kernel_rfl, by kernel_rfl⟩
instance : TyScal Tryz.prog 294 := ⟨by kernel_rfl⟩
instance : TyI Tryz.prog 294 1 8 (.nilFunc) := ⟨by kernel_rfl, by kernel_rfl⟩
instance : TyScal Tryz.prog 295 := ⟨by kernel_rfl⟩
instance : TyI Tryz.prog 295 1 8 (.nilFunc) := ⟨by kernel_rfl, by kernel_rfl⟩
instance : TyScal Tryz.prog 296 := ⟨by kernel_rfl⟩
instance : TyI Tryz.prog 296 1 8 (.nilFunc) := ⟨by kernel_rfl, by kernel_rfl⟩
instance : TyScal Tryz.prog 297 := ⟨by kernel_rfl⟩
instance : TyI Tryz.prog 297 1 8 (.nilFunc) := ⟨by kernel_rfl, by kernel_rfl⟩
instance : TyScal Tryz.prog 298 := ⟨by kernel_rfl⟩
instance : TyI Tryz.prog 298 1 8 (.nilFunc) := ⟨by kernel_rfl, by kernel_rfl⟩
instance : TyAggr Tryz.prog 299 := ⟨by kernel_rfl⟩
instance : TyI Tryz.prog 299 2 24 (.agg #[.string ByteArray.empty, .int .u8 0]) := ⟨by kernel_rfl, by kernel_rfl⟩
instance : Fld Tryz.prog 299 0 0 9 := ⟨by kernel_rfl⟩
instance : Fld Tryz.prog 299 1 1 283 := ⟨by kernel_rfl⟩
instance : TyStruct Tryz.prog 299 #[(0, 1), (1, 1)] := ⟨by kernel_rfl⟩
instance : TyAggr Tryz.prog 300 := ⟨by kernel_rfl⟩
instance : TyI Tryz.prog 300 2 24 (.agg #[.string ByteArray.empty, .int .u8 0]) := ⟨by kernel_rfl, by kernel_rfl⟩
instance : Fld Tryz.prog 300 0 0 9 := ⟨by kernel_rfl⟩
instance : Fld Tryz.prog 300 1 1 283 := ⟨by kernel_rfl⟩
instance : TyStruct Tryz.prog 300 #[(0, 1), (1, 1)] := ⟨by kernel_rfl⟩
instance : TyScal Tryz.prog 302 := ⟨by kernel_rfl⟩
instance : TyI Tryz.prog 302 1 8 (.pointer none) := ⟨by kernel_rfl, by kernel_rfl⟩
instance : TyPtr Tryz.prog 302 306 := ⟨by kernel_rfl⟩
instance : TyScal Tryz.prog 303 := ⟨by kernel_rfl⟩
instance : TyI Tryz.prog 303 1 8 (.nilFunc) := ⟨by kernel_rfl, by kernel_rfl⟩
instance : TyScal Tryz.prog 304 := ⟨by kernel_rfl⟩
instance : TyI Tryz.prog 304 1 2 (.int .u16 0) := ⟨by kernel_rfl, by kernel_rfl⟩
instance : TyInt Tryz.prog 304 .u16 := ⟨by kernel_rfl⟩
instance : TyAggr Tryz.prog 305 := ⟨by kernel_rfl⟩
instance : TyI Tryz.prog 305 5 16 (.agg #[.int .i32 0, .int .u16 0, .int .u16 0, .int .u32 0, .int .u32 0]) := ⟨by kernel_rfl, by kernel_rfl⟩
instance : Fld Tryz.prog 305 0 0 286 := ⟨by kernel_rfl⟩
instance : Fld Tryz.prog 305 1 1 304 := ⟨by kernel_rfl⟩
instance : Fld Tryz.prog 305 2 2 304 := ⟨by kernel_rfl⟩
instance : Fld Tryz.prog 305 3 3 50 := ⟨by kernel_rfl⟩
instance : Fld Tryz.prog 305 4 4 50 := ⟨by kernel_rfl⟩
instance : TyStruct Tryz.prog 305 #[(0, 1), (1, 1), (2, 1), (3, 1), (4, 1)] := ⟨by kernel_rfl⟩
instance : TyAggr Tryz.prog 306 := ⟨by kernel_rfl⟩
instance : TyI Tryz.prog 306 5 16 (.agg #[.int .i32 0, .int .u16 0, .int .u16 0, .int .u32 0, .int .u32 0]) := ⟨by kernel_rfl, by kernel_rfl⟩
instance : Fld Tryz.prog 306 0 0 286 := ⟨by kernel_rfl⟩
instance : Fld Tryz.prog 306 1 1 304 := ⟨by kernel_rfl⟩
instance : Fld Tryz.prog 306 2 2 304 := ⟨by kernel_rfl⟩
instance : Fld Tryz.prog 306 3 3 50 := ⟨by kernel_rfl⟩
instance : Fld Tryz.prog 306 4 4 50 := ⟨by kernel_rfl⟩
instance : TyStruct Tryz.prog 306 #[(0, 1), (1, 1), (2, 1), (3, 1), (4, 1)] := ⟨by kernel_rfl⟩
instance : TyScal Tryz.prog 307 := ⟨by kernel_rfl⟩
instance : TyI Tryz.prog 307 1 24 (.slice none 0 0) := ⟨by kernel_rfl, by kernel_rfl⟩
instance : TySlice Tryz.prog 307 310 := ⟨by kernel_rfl⟩
instance : TyScal Tryz.prog 308 := ⟨by kernel_rfl⟩
instance : TyI Tryz.prog 308 1 4 (.int .i32 0) := ⟨by kernel_rfl, by kernel_rfl⟩
instance : TyInt Tryz.prog 308 .i32 := ⟨by kernel_rfl⟩
instance : TyAggr Tryz.prog 309 := ⟨by kernel_rfl⟩
instance : TyI Tryz.prog 309 4 16 (.agg #[.int .i32 0, .int .i32 0, .int .i32 0, .int .i32 0]) := ⟨by kernel_rfl, by kernel_rfl⟩
instance : Fld Tryz.prog 309 0 0 286 := ⟨by kernel_rfl⟩
instance : Fld Tryz.prog 309 1 1 287 := ⟨by kernel_rfl⟩
instance : Fld Tryz.prog 309 2 2 308 := ⟨by kernel_rfl⟩
instance : Fld Tryz.prog 309 3 3 308 := ⟨by kernel_rfl⟩
instance : TyStruct Tryz.prog 309 #[(0, 1), (1, 1), (2, 1), (3, 1)] := ⟨by kernel_rfl⟩
instance : TyAggr Tryz.prog 310 := ⟨by kernel_rfl⟩
instance : TyI Tryz.prog 310 4 16 (.agg #[.int .i32 0, .int .i32 0, .int .i32 0, .int .i32 0]) := ⟨by kernel_rfl, by kernel_rfl⟩
instance : Fld Tryz.prog 310 0 0 286 := ⟨by kernel_rfl⟩
instance : Fld Tryz.prog 310 1 1 287 := ⟨by kernel_rfl⟩
instance : Fld Tryz.prog 310 2 2 308 := ⟨by kernel_rfl⟩
instance : Fld Tryz.prog 310 3 3 308 := ⟨by kernel_rfl⟩
instance : TyStruct Tryz.prog 310 #[(0, 1), (1, 1), (2, 1), (3, 1)] := ⟨by kernel_rfl⟩
end Go.Sl

/- Array types of bytes (written by gentypes.py). -/
namespace Go.Sl
open Go Go.Proofs
instance : TyBA Tryz.prog 22 32 := ⟨⟨5, by kernel_rfl, by kernel_rfl, by kernel_rfl⟩, by kernel_rfl, by kernel_rfl, by kernel_rfl⟩
instance : TyBA Tryz.prog 23 32 := ⟨⟨5, by kernel_rfl, by kernel_rfl, by kernel_rfl⟩, by kernel_rfl, by kernel_rfl, by kernel_rfl⟩
instance : TyBA Tryz.prog 62 12 := ⟨⟨5, by kernel_rfl, by kernel_rfl, by kernel_rfl⟩, by kernel_rfl, by kernel_rfl, by kernel_rfl⟩
instance : TyBA Tryz.prog 63 12 := ⟨⟨5, by kernel_rfl, by kernel_rfl, by kernel_rfl⟩, by kernel_rfl, by kernel_rfl, by kernel_rfl⟩
instance : TyBA Tryz.prog 177 16 := ⟨⟨5, by kernel_rfl, by kernel_rfl, by kernel_rfl⟩, by kernel_rfl, by kernel_rfl, by kernel_rfl⟩
instance : TyBA Tryz.prog 178 16 := ⟨⟨5, by kernel_rfl, by kernel_rfl, by kernel_rfl⟩, by kernel_rfl, by kernel_rfl, by kernel_rfl⟩
instance : TyBA Tryz.prog 199 64 := ⟨⟨5, by kernel_rfl, by kernel_rfl, by kernel_rfl⟩, by kernel_rfl, by kernel_rfl, by kernel_rfl⟩
instance : TyBA Tryz.prog 237 8 := ⟨⟨5, by kernel_rfl, by kernel_rfl, by kernel_rfl⟩, by kernel_rfl, by kernel_rfl, by kernel_rfl⟩
end Go.Sl

/- the statements' small helpers: lists of bytes compared, copied, joined. -/
set_option maxHeartbeats 4000000
set_option maxRecDepth 10000
set_option linter.unusedVariables false
set_option linter.unusedSimpArgs false
namespace Go.Sl
open Go Go.Proofs
attribute [local irreducible] cl pt own old pur ex all den denOps denS xOps xC cX CX xthen xblk xcut xloop xgo xng retX resX Calls PV Rd Con
theorem eqBytes_x {L : List Asrt} {va vb : Value} {a b : List Byte} (ha : Bs L va a) (hb : Bs L vb b) : Con Tryz.prog 29 [va, vb] L (fun v M => v = .bool (decide (a = b)) ∧ L = M) := by
  refine Con.get (fun w0 w F H => ha.sh _ _ _ H) ?_
  rintro ⟨aa, ac, rfl, hac, hacm⟩
  refine Con.get (fun w0 w F H => hb.sh _ _ _ H) ?_
  rintro ⟨ba, bc, rfl, hbc, hbcm⟩
  refine fn_x Tryz.func29 rfl rfl rfl Tryz.mixed (by kernel_rfl) ?_
  intro w0
  refine V10 ?_
  refine Zgg rfl (fun hB => ?_) (fun hB => ?_)
  · refine V3 ?_
    refine rx1 (Zha rfl (Zg7)) ?_
    exact ⟨_, ⟨by rw [decide_eq_false (fun h => hB (by rw [h]))], rfl⟩, by exact Imp.arr (by repeat (first|exact Arr.nil|exact Arr.stop|refine Arr.cons (by repeat constructor) ?_|refine Arr.skip ?_))⟩
  have hlen : a.length = b.length := by omega
  refine V3 ?_
  refine Zgo [(4, 5), (11, 25)] (by kernel_rfl) (fun i : Nat => i ≤ a.length ∧ a.take i = b.take i) (fun _ => L) (fun i => [(5, .int .i64 (i : Int))]) (fun i => a.length - i) 0 ⟨by omega, rfl⟩ (Imp.refl _) ⟨rfl, trivial⟩ ?_
  rintro i u ⟨hi, he⟩
  refine V6 ?_
  refine Zgg rfl (fun hB => ?_) (fun hB => ?_)
  · have hib : i < b.length := by omega
    refine Zgt (fun F w H => ha.some (by omega) H) ?_
    rintro ⟨a1, a2, rfl⟩
    refine Zgt (fun F w H => hb.some (by omega) H) ?_
    rintro ⟨b1, b2, rfl⟩
    refine Ct.o ?_
    refine Zij (_) [7] (.q 0 (.q 1 (.q 2 (.q 4 (.q 5 (.q 6 (.r 3 (.r 7 (.q 8 .nil))))))))) (by kernel_rfl) (by kernel_rfl) (Imp.refl _) ?_
    refine W6 ?_
    refine Zi8 (j := i) rfl rfl ha.rd hB (getM (f := u8b) hB) ?_
    refine Zi8 (j := i) rfl rfl hb.rd hib (getM (f := u8b) hib) ?_
    refine Zim rfl (Zjl rfl rfl) ?_
    refine Zik ?_
    refine Ct.o ?_
    refine Zgg rfl (fun hB2 => ?_) (fun hB2 => ?_)
    · refine V3 ?_
      refine rx1 (Zha rfl (Zg7)) ?_
      refine ⟨_, ⟨?_, rfl⟩, by exact Imp.arr (by repeat (first|exact Arr.nil|exact Arr.stop|refine Arr.cons (by repeat constructor) ?_|refine Arr.skip ?_))⟩
      rw [decide_eq_false]
      rintro rfl
      exact hB2 rfl
    · refine V5 ?_
      have hB2 : a[i] = b[i] := by simpa using hB2
      exact Zgl (i + 1) qO ⟨by omega, by rw [List.take_succ_eq_append_getElem hB, List.take_succ_eq_append_getElem hib, he, hB2]⟩ qI ⟨rfl, trivial⟩
  · have hie : i = a.length := by omega
    subst hie
    rw [List.take_length, hlen, List.take_length] at he
    refine V3 ?_
    refine rx1 (Zha rfl (Zg7)) ?_
    exact ⟨_, ⟨by rw [decide_eq_true he], rfl⟩, by exact Imp.arr (by repeat (first|exact Arr.nil|exact Arr.stop|refine Arr.cons (by repeat constructor) ?_|refine Arr.skip ?_))⟩
end Go.Sl

/- the statements' small helpers: lists joined. -/
set_option maxHeartbeats 4000000
set_option maxRecDepth 10000
set_option linter.unusedVariables false
set_option linter.unusedSimpArgs false
namespace Go.Sl
open Go Go.Proofs
attribute [local irreducible] cl pt own old pur ex all den denOps denS xOps xC cX CX xthen xblk xcut xloop xgo xng retX resX Calls PV Rd Con
end Go.Sl

/- what the bound of an '..UptoSaid' gives: lengths. -/
set_option linter.unusedVariables false
set_option linter.unusedSimpArgs false
namespace Go.Sl
open Go Go.Proofs Go.ChangeShapes Go.WideShapes Go.ChangeAt Go.RowKit
open YthodgeekgpkieaaGreat (Rows.uptoBulk Rows.uptoBulkAll)
variable {H : Type} {enc : TypeId × Value → H} {P : Program} {w : World} {base : Nat} {spare : Nat → Bool} {held : Bool}
theorem bulk_pos (d : DataW H) : 1 ≤ YthodgeekgpkieaaGreat.Rows.uptoBulk d := by
  cases d with
  | lit l => cases l <;> simp [YthodgeekgpkieaaGreat.Rows.uptoBulk]
  | nil => simp [YthodgeekgpkieaaGreat.Rows.uptoBulk]
  | ptr d => simp [YthodgeekgpkieaaGreat.Rows.uptoBulk]
  | slice elems spare => simp [YthodgeekgpkieaaGreat.Rows.uptoBulk]
  | agg parts => simp [YthodgeekgpkieaaGreat.Rows.uptoBulk]
  | iface t d => simp [YthodgeekgpkieaaGreat.Rows.uptoBulk]
  | map entries => simp [YthodgeekgpkieaaGreat.Rows.uptoBulk]
  | held h => simp [YthodgeekgpkieaaGreat.Rows.uptoBulk]
theorem bulk_len (l : List (DataW H)) : l.length ≤ YthodgeekgpkieaaGreat.Rows.uptoBulkAll l := by
  induction l with
  | nil => simp [YthodgeekgpkieaaGreat.Rows.uptoBulkAll]
  | cons x r ih => have := bulk_pos x; simp only [YthodgeekgpkieaaGreat.Rows.uptoBulkAll, List.length_cons]; omega
end Go.Sl

/- what comes in, opened: numbers. -/
set_option linter.unusedVariables false
namespace Go.Sl
open Go Go.ChangeShapes Go.WideShapes Go.ChangeAt Go.RowKit
theorem Imp.pur_mk {p : Prop} {M : List Asrt} (hp : p) : Imp M (pur p :: M) := fun h hs => ⟨fun _ => none, h, hp, hs, Frag.none_disj _, Frag.none_sub _, Frag.sub_refl _⟩
theorem i64_of {n : Int} (h : (Lit.int .i64 n).wf = true) : -9223372036854775808 ≤ n ∧ n ≤ 9223372036854775807 := by
  simp only [Lit.wf, Bool.and_eq_true, decide_eq_true_eq] at h
  have hlo : IntKind.i64.min = -9223372036854775808 := by decide
  have hhi : IntKind.i64.max = 9223372036854775807 := by decide
  omega
theorem u8_of {n : Int} (hw : (Lit.int .u8 n).wf = true) : ∃ b : BitVec 8, Value.int .u8 n = u8b b := byte_of hw
theorem u64_of {n : Int} (hw : (Lit.int .u64 n).wf = true) : ∃ b : BitVec 64, Value.int .u64 n = u64b b := by
  simp only [Lit.wf, Bool.and_eq_true, decide_eq_true_eq] at hw
  have hlo : IntKind.u64.min = 0 := by decide
  have hhi : IntKind.u64.max = 18446744073709551615 := by decide
  refine ⟨BitVec.ofNat 64 n.toNat, ?_⟩
  show Value.int .u64 n = .int .u64 _
  rw [BitVec.toNat_ofNat]; congr 1; omega
end Go.Sl

/- slices.Values and slices.AppendSeq over it, at ints: a new slice that holds what the old one holds. -/
set_option linter.unusedVariables false
set_option linter.unusedSimpArgs false
namespace Go.Sl
open Go Go.Proofs Go.RowKit Go.Shelf
attribute [local go_sem] Oper.semAt_some
/-- What has come when k rounds are over. -/
def comeV {α : Type} (f : Nat → α) (k : Nat) : List α := (List.range k).map f
theorem comeV_succ {α : Type} (f : Nat → α) (k : Nat) : comeV f (k + 1) = comeV f k ++ [f k] := by simp [comeV, List.range_succ]
theorem comeV_length {α : Type} (f : Nat → α) (k : Nat) : (comeV f k).length = k := by simp [comeV]
theorem comeV_all (zs : List Int) : comeV (fun j => zs[j]?.getD 0) zs.length = zs := by
  apply List.ext_getElem
  · simp [comeV]
  · intro i h1 h2
    simp [comeV, h2]
set_option maxRecDepth 100000 in
set_option maxHeartbeats 2000000 in
theorem values1_in (F : Fence) (n : Nat) (h7 : F.fn 87) (hro : F.round = none) (hn : 1 ≤ n) (l Bs n₀ b off len cap : Nat) (zs : List Int) (hreach : len * 8 ≤ 140737488351232) (hb : b < n₀) (J Jx : List Int → World → Prop)
    (hY : ∀ pre x W, J pre W → pre.length < len → YieldAt F (n - 1) Tryz.prog l #[.int .i64 x] W fun e W' =>
      (e = .returned (.bool true) ∧ J (pre ++ [x]) W' ∧ Below n₀ W W') ∨ (e = .returned (.bool false) ∧ Jx (pre ++ [x]) W'))
    (W : World) (hBs : W.cell? ⟨Bs, 0, none⟩ = some (.slice (some ⟨b, off, none⟩) len cap)) (hc : ∀ j, j < len → W.cell? ⟨b, off + j, none⟩ = some (.int .i64 (zs[j]?.getD 0))) (h0 : J [] W) :
    CallsIn F n Tryz.prog 87 #[.func (.yield l) #[] #[], .pointer (some ⟨Bs, 0, none⟩)] W fun e W' => (∃ v, e = .returned v) ∧
      ((∃ ys, ys = comeV (fun j => zs[j]?.getD 0) len ∧ J ys W') ∨ (∃ pre, (∃ k, k ≤ len ∧ pre = comeV (fun j => zs[j]?.getD 0) k) ∧ Jx pre W')) := by
  refine callsIn_of_wp Tryz.func87 rfl h7 ?_ hro
  simp only [Tryz.ntmps87, List.size_toArray, List.length_cons, List.length_nil, Nat.reduceAdd, Nat.reduceSub, Array.replicate_succ, Array.replicate_zero, List.push_toArray, List.append_toArray, List.nil_append, List.cons_append]
  gi_wp2
  gi_loopw [7] (fun i wr => ∃ k : Nat, k ≤ len ∧ i = .int .i64 k ∧ J (comeV (fun j => zs[j]?.getD 0) k) wr ∧ Below n₀ W wr)
    (fun i _ => len - (match i with|Value.int _ q => q.toNat|_ => 0))
  case atStart => exact ⟨0, Nat.zero_le _, rfl, h0, Below.refl _ _⟩
  case round =>
    obtain ⟨k, hk, rfl, hJs, hnx⟩ := hrel
    have hcx : k < len → wr.cell? ⟨b, off + k, none⟩ = some (.int .i64 (zs[k]?.getD 0)) := fun h => (hnx.cell (p := ⟨b, off + k, none⟩) hb).trans (hc k h)
    by_cases hlt : k < len
    · obtain ⟨fn, tmps, assign, body, hy, hR⟩ := hY _ (zs[k]?.getD 0) wr hJs (by rw [comeV_length]; exact hlt)
      have hcx' := hcx hlt
      gi_wp2
      refine hR.mono ?_
      rintro e W3 (⟨rfl, hJ3, hk3⟩|⟨rfl, hJx3⟩)
      · gi_wp2
        go_roundw
        case rel => exact ⟨k + 1, by omega, by simp, by rw [comeV_succ]; exact hJ3, hnx.trans hk3⟩
        case measure => simp; omega
      · gi_wp2
        refine bodyPost_ret (results_none rfl _ _ _) rfl ?_
        exact ⟨⟨_, rfl⟩, .inr ⟨_, ⟨k + 1, by omega, (comeV_succ _ _).symm⟩, hJx3⟩⟩
    · obtain rfl : k = len := by omega
      gi_wp2
      go_end0
      exact ⟨⟨_, rfl⟩, .inl ⟨_, rfl, hJs⟩⟩
theorem comeV_take (zs : List Int) {k : Nat} (hk : k ≤ zs.length) : comeV (fun j => zs[j]?.getD 0) k = zs.take k := by
  apply List.ext_getElem
  · simp [comeV, hk]
  · intro i h1 h2
    have : i < zs.length := by simp [comeV] at h1; omega
    simp [comeV, this]
/-- The slice value sv holds the ints zs, in a block below n₀; or it is nil and there are none. -/
def Ints (n₀ : Nat) (W : World) (sv : Value) (zs : List Int) : Prop :=
  (sv = .slice none 0 0 ∧ zs = []) ∨ ∃ b off cap, sv = .slice (some ⟨b, off, none⟩) zs.length cap ∧ b < n₀ ∧ ∀ j, j < zs.length → W.cell? ⟨b, off + j, none⟩ = some (.int .i64 (zs[j]?.getD 0))
theorem Ints.below {n₀ : Nat} {A B : World} (h : Below n₀ A B) {sv : Value} {zs : List Int} : Ints n₀ A sv zs → Ints n₀ B sv zs
  | .inl e => .inl e
  | .inr ⟨b, off, cap, e, hb, hc⟩ => .inr ⟨b, off, cap, e, hb, fun j hj => (h.cell (p := ⟨b, off + j, none⟩) hb).trans (hc j hj)⟩
set_option maxRecDepth 100000 in
set_option maxHeartbeats 1000000 in
theorem values1_nil_in (F : Fence) (n : Nat) (h7 : F.fn 87) (hro : F.round = none) (l Bs : Nat) (J : List Int → World → Prop) (W : World) (hBs : W.cell? ⟨Bs, 0, none⟩ = some (.slice none 0 0)) (h0 : J [] W) :
    CallsIn F n Tryz.prog 87 #[.func (.yield l) #[] #[], .pointer (some ⟨Bs, 0, none⟩)] W fun e W' => (∃ v, e = .returned v) ∧ J [] W' := by
  refine callsIn_of_wp Tryz.func87 rfl h7 ?_ hro
  simp only [Tryz.ntmps87, List.size_toArray, List.length_cons, List.length_nil, Nat.reduceAdd, Nat.reduceSub, Array.replicate_succ, Array.replicate_zero, List.push_toArray, List.append_toArray, List.nil_append, List.cons_append]
  gi_wp2
  gi_loopw [7] (fun i wr => i = .int .i64 0 ∧ J [] wr) (fun _ _ => 0)
  case atStart => exact ⟨rfl, h0⟩
  case round =>
    obtain ⟨rfl, hJs⟩ := hrel
    gi_wp2
    go_end0
    exact ⟨⟨_, rfl⟩, hJs⟩
theorem values_stops (F : Fence) (n : Nat) (h7 : F.fn 87) (hro : F.round = none) (hn : 1 ≤ n) (Bs n₀ : Nat) (sv : Value) (zs : List Int) (hreach : zs.length * 8 ≤ 140737488351232) (w : World) (hBs : Bs < w.heap.size) (hn₀ : n₀ ≤ w.heap.size)
    (hc : w.cell? ⟨Bs, 0, none⟩ = some sv) (hI : Ints n₀ w sv zs) :
    SeqStopsK F n Tryz.prog 87 #[.pointer (some ⟨Bs, 0, none⟩)] (fun x : Int => #[Value.int .i64 x]) (Below n₀) (fun ys => ys = zs) (fun pre => pre <+: zs) zs.length w := fun l J Jx W hW _ _ hY h0 => by
  have hc' := (hW.cell (p := ⟨Bs, 0, none⟩) hBs).trans hc
  rcases hI.below (hW.mono hn₀) with ⟨rfl, rfl⟩|⟨b, off, cap, rfl, hb, hcs⟩
  · exact (values1_nil_in F n h7 hro l Bs J W hc' h0).mono fun e W' ⟨he, hj⟩ => ⟨he, .inl ⟨_, rfl, hj⟩⟩
  · refine (values1_in F n h7 hro hn l Bs n₀ b off zs.length cap zs hreach hb J Jx hY W hc' hcs h0).mono ?_
    rintro e W' ⟨he, ⟨ys, rfl, hj⟩|⟨pre, ⟨k, hk, rfl⟩, hj⟩⟩
    · exact ⟨he, .inl ⟨_, comeV_all zs, hj⟩⟩
    · exact ⟨he, .inr ⟨_, by rw [comeV_take zs hk]; exact List.take_prefix _ _, hj⟩⟩
theorem info_int : (Tryz.prog.info? 3).map (fun i => (i.zero, i.size, i.bytes)) = some (some (.int .i64 0), 1, 8) := by kernel_rfl
set_option maxRecDepth 100000 in
set_option maxHeartbeats 2000000 in
/-- slices.AppendSeq(nil, slices.Values(s)). -/
theorem appendSeq_in (F : Fence) (n : Nat) (h3 : F.fn 107) (h5 : F.fn 87) (hro : F.round = none) (hn : 3 ≤ n) (Bx : Nat) (sv : Value) (xs : List Int) (hreach : xs.length * 8 ≤ 140737488351232) (w : World) (hBx : Bx < w.heap.size)
    (hc : w.cell? ⟨Bx, 0, none⟩ = some sv) (hI : Ints w.heap.size w sv xs) :
    CallsIn F n Tryz.prog 107 #[.slice none 0 0, .func (.func 87) #[] #[.pointer (some ⟨Bx, 0, none⟩)]] w fun e W' => ∃ v, e = .returned v ∧ W'.ownsRow w.heap.size 3 1 v xs.length (xs.map (Value.int .i64)) ∧ Below w.heap.size w W' := by
  have h1 : 1 ≤ n := by omega
  obtain ⟨i0, hi, hz0, hz1, hz2⟩ := info_parts info_int
  refine callsIn_of_wp_marks Tryz.func107 rfl h3 ?_ hro
  simp only [Tryz.ntmps107, List.size_toArray, List.length_cons, List.length_nil, Nat.reduceAdd, Nat.reduceSub, Array.replicate_succ, Array.replicate_zero, List.push_toArray, List.append_toArray, List.nil_append, List.cons_append]
  gi_wp2
  have bO := Boxed.new w 43 (.slice none 0 0)
  have hB0 : Below w.heap.size w (w.alloc (.cells #[.slice none 0 0] 43)) := (Below.refl _ w).alloc (Nat.le_refl _) _
  refine wpIn_rangeFunc_ownG hro h1 (gf := 87) (lb := #[.pointer (some ⟨Bx, 0, none⟩)]) rfl h5 (enters_of Tryz.func87 (by kernel_rfl) rfl)
    (values_stops F (n - 1) h5 hro (by omega) Bx w.heap.size sv xs hreach (w.alloc (.cells #[.slice none 0 0] 43)) (by simp; omega) (by simp) ((hB0.cell (p := ⟨Bx, 0, none⟩) hBx).trans hc) (hI.below hB0)) belowK_t (belowK_b (by simp)) (Below.refl _ _) (fun _ => rfl)
    (fun (pre : List Int) W => (∃ v, Boxed W w.heap.size 43 v ∧ W.ownsRow w.heap.size 3 1 v pre.length (pre.map (Value.int .i64)) ∧ True) ∧ Below w.heap.size w W)
    (fun _ _ _ => False)
    (OwnFrom.and (Own.from (holdsRow_own w.heap.size w.heap.size 43 3 1 (fun pre : List Int => pre.length) (fun pre : List Int => pre.map (Value.int .i64)) (fun _ _ => True)) _) (ownFrom_below (Nat.le_refl _) (by simp)))
    (fun _ _ _ _ _ hs _ _ => hs)
    ⟨⟨_, bO, World.ownsRow_nil _ _ _ _, trivial⟩, hB0⟩
    (fun x => { tmps := #[.slice none 0 0, .func (.func 87) #[] #[.pointer (some ⟨Bx, 0, none⟩)], .pointer (some ⟨w.heap.size, 0, none⟩), undef, .slice none 0 0, .int .i64 x, .func (.func 87) #[] #[.pointer (some ⟨Bx, 0, none⟩)], .int .i64 x, undef, undef, undef, undef, undef], defers := [] }) ?assign ?body ?done ?stop
  case assign =>
    intro l x W K hK
    gi_wp2
    exact hK
  case body =>
    rintro l pre x W ⟨⟨v, hv, hrow, hnil⟩, hB⟩ hlt
    have hc := hv.cell
    gi_wp2_with (gi_at_builtin; refine wpListIn_append_own _ rfl _ _ 43 rfl w.heap.size 3 i0 (.int .i64 0) 1 8 Tryz.underlying43 hi hz0 hz1 hz2 rfl (by decide) _ _ _ rfl (hrow.alloc _) ⟨W.heap.size, 0, none⟩ 1 1 [.int .i64 x] rfl rfl (cell_one_new _ _ _) (by simp [Value.oneCell']) (by unfold maxLen; omega) (by omega) (by have := hB.size; simp; omega) ?_; intro v' w1 hown' hgrow _; obtain ⟨g', cap', rfl⟩ := ownsRow_succ hown'; obtain ⟨hv1, hv2, hr2, hk2, hb2⟩ := hv.appended (by decide) hrow hB.size (Nat.le_refl _) hown' hgrow; have hc1 := hv1.cell; have hf1 := hv1.frozen)
    exact ⟨hk2.from _, hb2, ⟨_, hv2, by simpa using hr2, trivial⟩, hB.trans hb2⟩
  case done =>
    rintro D ys W hD rfl ⟨⟨v, hv, hrow, hnil⟩, hB⟩ hK
    have hc := hv.cell
    gi_wp2
    refine ⟨by simp, .inl ⟨_, _, rfl, run_takeDeferred hK, ?_⟩⟩
    exact ⟨_, results_tmp rfl _ _ _, v, rfl, ownsRow_putObj hrow _ hK rfl, hB.trans (belowK_b (w := w) (Nat.le_refl _) W D _ _ (by simp at hD; omega) hK rfl rfl)⟩
  case stop =>
    rintro D c pre W _ _ h _
    exact h.elim
end Go.Sl

/- slices.Sort's contract at this dump, laid in plain words by the kit's program. -/
namespace Go.Proofs
open Go.Shelf
def Tryz.sortA_ren : Go.Shelf.Ren := ⟨fun | 5 => 86 | 8 => 109 | 7 => 108 | 19 => 134 | 20 => 135 | 10 => 125 | 11 => 126 | 12 => 127 | 13 => 128 | 14 => 129 | 15 => 130 | 16 => 131 | 17 => 132 | 18 => 133 | 30 => 147 | 31 => 148 | 32 => 149 | 33 => 150 | 34 => 151 | 35 => 152 | 40 => 165 | n => n, fun | 23 => 43 | 25 => 3 | 3 => 3 | 32 => 169 | 22 => 43 | 0 => 0 | 44 => 50 | 46 => 24 | 4 => 4 | 36 => 188 | 35 => 187 | 41 => 193 | 5 => 5 | 9 => 9 | 53 => 220 | 57 => 223 | 63 => 243 | 64 => 244 | n => n, fun | n => n⟩
theorem Tryz.sortA : Go.Proofs.SlLaysM.n5 Tryz.prog Tryz.sortA_ren := {
  mixed := by kernel_rfl
  f5 := ⟨Tryz.f86.name, by decide, Tryz.func86.trans (congrArg some (by kernel_rfl))⟩
  f7 := ⟨Tryz.f108.name, by decide, Tryz.func108.trans (congrArg some (by kernel_rfl))⟩
  f8 := Tryz.func109.trans (congrArg some (by kernel_rfl))
  f10 := ⟨Tryz.f125.name, by decide, Tryz.func125.trans (congrArg some (by kernel_rfl))⟩
  f11 := ⟨Tryz.f126.name, by decide, Tryz.func126.trans (congrArg some (by kernel_rfl))⟩
  f12 := ⟨Tryz.f127.name, by decide, Tryz.func127.trans (congrArg some (by kernel_rfl))⟩
  f13 := ⟨Tryz.f128.name, by decide, Tryz.func128.trans (congrArg some (by kernel_rfl))⟩
  f14 := ⟨Tryz.f129.name, by decide, Tryz.func129.trans (congrArg some (by kernel_rfl))⟩
  f15 := ⟨Tryz.f130.name, by decide, Tryz.func130.trans (congrArg some (by kernel_rfl))⟩
  f16 := ⟨Tryz.f131.name, by decide, Tryz.func131.trans (congrArg some (by kernel_rfl))⟩
  f17 := ⟨Tryz.f132.name, by decide, Tryz.func132.trans (congrArg some (by kernel_rfl))⟩
  f18 := ⟨Tryz.f133.name, by decide, Tryz.func133.trans (congrArg some (by kernel_rfl))⟩
  f19 := Tryz.func134.trans (congrArg some (by kernel_rfl))
  f20 := Tryz.func135.trans (congrArg some (by kernel_rfl))
  f30 := ⟨Tryz.f147.name, by decide, Tryz.func147.trans (congrArg some (by kernel_rfl))⟩
  f31 := Tryz.func148.trans (congrArg some (by kernel_rfl))
  f32 := Tryz.func149.trans (congrArg some (by kernel_rfl))
  f33 := ⟨Tryz.f150.name, by decide, Tryz.func150.trans (congrArg some (by kernel_rfl))⟩
  f34 := ⟨Tryz.f151.name, by decide, Tryz.func151.trans (congrArg some (by kernel_rfl))⟩
  f35 := ⟨Tryz.f152.name, by decide, Tryz.func152.trans (congrArg some (by kernel_rfl))⟩
  f40 := ⟨Tryz.f165.name, by decide, Tryz.func165.trans (congrArg some (by kernel_rfl))⟩
  t0 := Tryz.underlying0
  a0 := Tryz.isAgg0
  z0 := Tryz.sizeOf0
  v0 := Tryz.zeroValue0
  t3 := Tryz.underlying3
  a3 := Tryz.isAgg3
  z3 := Tryz.sizeOf3
  v3 := Tryz.zeroValue3
  t4 := Tryz.underlying4
  a4 := Tryz.isAgg4
  z4 := Tryz.sizeOf4
  v4 := Tryz.zeroValue4
  t5 := Tryz.underlying5
  a5 := Tryz.isAgg5
  z5 := Tryz.sizeOf5
  v5 := Tryz.zeroValue5
  t9 := Tryz.underlying9
  a9 := Tryz.isAgg9
  z9 := Tryz.sizeOf9
  v9 := Tryz.zeroValue9
  t22 := Tryz.underlying43
  a22 := Tryz.isAgg43
  z22 := Tryz.sizeOf43
  v22 := Tryz.zeroValue43
  t23 := Tryz.underlying43
  a23 := Tryz.isAgg43
  z23 := Tryz.sizeOf43
  v23 := Tryz.zeroValue43
  t25 := Tryz.underlying3
  a25 := Tryz.isAgg3
  z25 := Tryz.sizeOf3
  v25 := Tryz.zeroValue3
  t32 := Tryz.underlying169
  a32 := Tryz.isAgg169
  z32 := Tryz.sizeOf169
  v32 := Tryz.zeroValue169
  t35 := Tryz.underlying187
  a35 := Tryz.isAgg187
  z35 := Tryz.sizeOf187
  v35 := Tryz.zeroValue187
  t36 := Tryz.underlying188
  a36 := Tryz.isAgg188
  z36 := Tryz.sizeOf188
  v36 := Tryz.zeroValue188
  t41 := Tryz.underlying193
  a41 := Tryz.isAgg193
  z41 := Tryz.sizeOf193
  v41 := Tryz.zeroValue193
  t44 := Tryz.underlying50
  a44 := Tryz.isAgg50
  z44 := Tryz.sizeOf50
  v44 := Tryz.zeroValue50
  t46 := Tryz.underlying24
  a46 := Tryz.isAgg24
  z46 := Tryz.sizeOf24
  v46 := Tryz.zeroValue24
  t53 := Tryz.underlying220
  a53 := Tryz.isAgg220
  z53 := Tryz.sizeOf220
  v53 := Tryz.zeroValue220
  t57 := Tryz.underlying223
  a57 := Tryz.isAgg223
  z57 := Tryz.sizeOf223
  v57 := Tryz.zeroValue223
  t63 := Tryz.underlying243
  a63 := Tryz.isAgg243
  z63 := Tryz.sizeOf243
  v63 := Tryz.zeroValue243
  t64 := Tryz.underlying244
  a64 := Tryz.isAgg244
  z64 := Tryz.sizeOf244
  v64 := Tryz.zeroValue244 }
end Go.Proofs

/- slices cut from their beginning on. -/
set_option linter.unusedVariables false
set_option linter.unusedSimpArgs false
namespace Go.Sl
open Go
theorem Bs.take {M : List Asrt} {b o c n : Nat} {l : List Byte} (h : Bs M (.slice (Option.some ⟨b, o, none⟩) l.length c) l) (hn : n ≤ l.length) : Bs M (.slice (Option.some ⟨b, o, none⟩) n c) (l.take n) := by
  have e : (l.take n).length = n := by simp; omega
  refine ⟨?_, ?_⟩
  · rw [e]
    intro w0 F w H
    obtain ⟨h1, h2⟩ := h.rd w0 F w H
    refine ⟨by simp; omega, ?_⟩
    rcases h2 with ⟨a, k, _, h0⟩|⟨b', o', k, cc, E, fr, hv, hb, hle, hx⟩
    · exact .inl ⟨_, _, rfl, by omega⟩
    · simp only [Value.slice.injEq, Option.some.injEq, Addr.mk.injEq] at hv
      obtain ⟨⟨rfl, rfl, _⟩, _, rfl⟩ := hv
      refine .inr ⟨b, o, c, cc, E, fr, rfl, hb, by omega, ?_⟩
      rw [List.map_take, ← hx]
      simp only [Array.toList_extract, List.extract_eq_take_drop, List.take_take]
      congr 1; omega
  · intro w0 F w H
    obtain ⟨a, c', hv, h1, h2⟩ := h.sh w0 F w H
    simp only [Value.slice.injEq] at hv
    obtain ⟨_, _, rfl⟩ := hv
    exact ⟨_, _, by rw [e], by omega, h2⟩
end Go.Sl

/- cells that may be read, wherever they stand. -/
set_option linter.unusedVariables false
set_option linter.unusedSimpArgs false
namespace Go.Sl
open Go
theorem Zm9 {P : Program} {ρ : Env} {x : Operand} {S E by' bb n : Nat} {z : Value} {lo hi : Option Operand} {l h : Nat} [hs : TyArr P S n E] [hi' : TyI P E 1 by' z] (hx : ev ρ x = .pointer (some ⟨bb, 0, none⟩))
    (hl : optB ρ 0 lo = some (l : Int)) (hh : optB ρ n hi = some (h : Int)) (hle : l ≤ h := by first|omega|exact Nat.le_of_ble_eq_true rfl|(simp; done)|(simp; omega)|decide) (hc : h ≤ n := by first|omega|exact Nat.le_of_ble_eq_true rfl|(simp; done)|(simp; omega)|decide) (hn : l < n := by first|omega|exact Nat.le_of_ble_eq_true rfl|(simp; done)|(simp; omega)|decide) : PV P (.slice S x lo hi none) ρ (.slice (some ⟨bb, l, none⟩) (h - l) (n - l)) := by
  have := Zmx (P := P) (S := S) hx hl hh hle hc hn
  rwa [Nat.zero_add] at this
theorem Zna {P : Program} {ρ : Env} {x : Operand} {S E by' bb n c : Nat} {z : Value} {lo hi : Option Operand} {l h : Nat} [hs : TySlice P S E] [hi' : TyI P E 1 by' z] (hx : ev ρ x = .slice (some ⟨bb, 0, none⟩) n c)
    (hl : optB ρ 0 lo = some (l : Int)) (hh : optB ρ n hi = some (h : Int)) (hle : l ≤ h := by first|omega|exact Nat.le_of_ble_eq_true rfl|(simp; done)|(simp; omega)|decide) (hc : h ≤ c := by first|omega|exact Nat.le_of_ble_eq_true rfl|(simp; done)|(simp; omega)|decide) (hn : l < c := by first|omega|exact Nat.le_of_ble_eq_true rfl|(simp; done)|(simp; omega)|decide) : PV P (.slice S x lo hi none) ρ (.slice (some ⟨bb, l, none⟩) (h - l) (c - l)) := by
  have := Zmz (P := P) (S := S) hx hl hh hle hc hn
  rwa [Nat.zero_add] at this
theorem Znb {P : Program} {ρ : Env} {x y : Operand} {k : IntKind} {S n E by' i : Nat} {z v : Value} {cs : Array Value} [hs : TyArr P S n E] [he : TyScal P E] [hi : TyI P E 1 by' z] (hx : ev ρ x = .agg cs) (hy : ev ρ y = .int k (i : Int)) (hv : cs[i]? = some v) (h : i < n := by first|omega|exact Nat.le_of_ble_eq_true rfl|(simp; done)|(simp; omega)|decide) : PV P (.index S x y) ρ v :=
  Zcn hx hy ⟨by omega, by omega⟩ (by simpa using hv)
/-- A literal of a struct, a part at a time. -/
theorem fill_part {pl : Nat → Option (Nat × Nat)} {z z' cs : Array Value} {i o n : Nat} {v : Value} {rest : List (Nat × Value)} (hp : pl i = some (o, n)) (hv : v.cells.size = n) (hz : o + n ≤ z.size) (hw : wr z o v.cells.toList = z') (k : Instr.fill pl z' rest = some cs) : Instr.fill pl z ((i, v) :: rest) = some cs := by
  unfold Instr.fill
  rw [hp]
  show (if v.cells.size ≠ n || o + v.cells.size > z.size then none else Instr.fill pl (v.cells.zipIdx.foldl (fun cs (p : Value × Nat) => cs.setIfInBounds (o + p.2) p.1) z) rest) = _
  rw [if_neg (by simp [hv]; omega), ← Array.foldl_toList, Array.toList_zipIdx, fold_wr o v.cells.toList 0 z, Nat.add_zero, hw]
  exact k
theorem fill_end {pl : Nat → Option (Nat × Nat)} {z : Array Value} : Instr.fill pl z [] = some z := rfl
/-- A scope out of which no jump leads. -/
theorem Zno {P : Program} {w0 : World} {c : Code} {ρ : Env} {M : List Asrt} {Q : XQ} (hm : P.follows .mixedOrders = true) (h : xC P w0 c ρ M (xng Q)) : xC P w0 (.scope c) ρ M Q := by
  intro F w H n a hfr hc
  refine wp_scope_straight (wp_mono (Zaa hm c ρ w _ a hfr hc (h F w H)) ?_)
  rintro e a' w' ⟨ρ', hfr', M', H', hq⟩
  cases e with
  | goto l => exact hq.elim
  | _ => exact ⟨ρ', hfr', M', H', hq⟩
theorem bs_drop {M : List Asrt} {b o c k : Nat} {l : List Byte} (h : Bs M (.slice (some ⟨b, o, none⟩) l.length c) l) (hk : k ≤ l.length) (hkc : k < c) : Bs M (.slice (some ⟨b, o + k, none⟩) (l.length - k) (c - k)) (l.drop k) := by
  have hl : (l.drop k).length = l.length - k := by simp
  refine ⟨?_, ?_⟩
  · rw [hl]
    intro w0 F w H
    obtain ⟨a', c', hv, h1, h2⟩ := h.sh w0 F w H
    simp only [Value.slice.injEq] at hv
    obtain ⟨rfl, _, rfl⟩ := hv
    have h3 := h.rd.cut hk h1 w0 F w H
    rw [if_neg (by omega)] at h3
    rw [List.map_drop]
    have e : Option.map (fun x : Addr => x.add (k * 1)) (some ⟨b, o, none⟩) = some ⟨b, o + k, none⟩ := by simp [Option.map, addr_add]
    rw [e] at h3
    exact h3
  · intro w0 F w H
    obtain ⟨a', c', hv, h1, h2⟩ := h.sh w0 F w H
    simp only [Value.slice.injEq] at hv
    obtain ⟨_, _, rfl⟩ := hv
    exact ⟨_, _, by rw [hl], by rw [hl]; omega, by omega⟩
theorem rx4 {P : Program} {w0 : World} {ρ : Env} {M : List Asrt} {Φ : Value → List Asrt → Prop} {r r' r2 r3 : ResultVar} {v v' v2 v3 : Value} (hr : resX P w0 ρ M [r, r', r2, r3] [v, v', v2, v3]) (h : ∃ N, Φ (.tuple #[v, v', v2, v3]) N ∧ Imp M N) : retX P w0 [r, r', r2, r3] Φ .ret ρ M := by
  obtain ⟨N, h, hM⟩ := h; exact ⟨[v, v', v2, v3], N, hr, h, hM⟩
theorem PV.eq {P : Program} {op : Op} {ρ : Env} {v v' : Value} (h : PV P op ρ v) (e : v = v') : PV P op ρ v' := e ▸ h
theorem wr_pre {α : Type} {f : α → Value} (l z : List α) (h : l.length ≤ z.length) : wr ((z.map f).toArray) 0 (l.map f) = ((l ++ z.drop l.length).map f).toArray := by
  apply Array.ext'
  rw [wr_toList _ _ _ (by simp; omega)]
  simp
theorem copy_pre (l : List Byte) (k : Nat) : wr (((List.replicate (l.length + k) 0#8).map u8b).toArray) 0 ((l.map u8b).take (min l.length l.length * 1)) = ((l ++ List.replicate k 0#8).map u8b).toArray := by
  rw [Nat.min_self, Nat.mul_one, List.take_of_length_le (by simp), wr_pre l (List.replicate (l.length + k) 0#8) (by simp)]
  simp
/-- Among the pieces M the cell o of the block b is v. -/
def RdAt (M : List Asrt) (b o : Nat) (v : Value) : Prop := ∀ w0 F w, St w0 w (F :: M) → ∃ c E fr, w.heap[b]? = some (.cells c E fr) ∧ c[o]? = some v
/-- ... n cells from o on. -/
def RdAg (M : List Asrt) (b o n : Nat) (cs : Array Value) : Prop := ∀ w0 F w, St w0 w (F :: M) → ∃ c E fr, w.heap[b]? = some (.cells c E fr) ∧ o + n ≤ c.size ∧ c.extract o (o + n) = cs
section
variable {M M' : List Asrt} {b o : Nat}
theorem RdAt.imp {v : Value} (h : RdAt M b o v) (hi : Imp M' M) : RdAt M' b o v := fun _ _ _ H => h _ _ _ (H.enx hi)
theorem RdAg.imp {n : Nat} {cs : Array Value} (h : RdAg M b o n cs) (hi : Imp M' M) : RdAg M' b o n cs := fun _ _ _ H => h _ _ _ (H.enx hi)
theorem RdAt.cl {c : Array Value} {E : Nat} {v : Value} (hm : Has M (cl b c E) M') (hv : c[o]? = some v) : RdAt M b o v := fun _ _ _ H => ⟨c, E, (0, 0), (H.pick (.there hm)).cl_get, hv⟩
theorem RdAg.cl {c cs : Array Value} {E n : Nat} (hm : Has M (Sl.cl b c E) M') (hv : o + n ≤ c.size) (hc : c.extract o (o + n) = cs) : RdAg M b o n cs := fun _ _ _ H => ⟨c, E, (0, 0), (H.pick (.there hm)).cl_get, hv, hc⟩
theorem Rd.at {m k j : Nat} {xs : List Value} {v : Value} (h : Rd M 1 (.slice (some ⟨b, o, none⟩) m k) m xs) (hj : j < m) (hv : xs[j]? = some v) : RdAt M b (o + j) v := fun _ _ _ H => by
  obtain ⟨c, E, fr, hb, hc⟩ := (h _ _ _ H).cellAt hj
  exact ⟨c, E, fr, hb, hc.trans hv⟩
theorem Rd.at0 {m k j : Nat} {xs : List Value} {v : Value} (h : Rd M 1 (.slice (some ⟨b, 0, none⟩) m k) m xs) (hj : j < m) (hv : xs[j]? = some v) : RdAt M b j v := by
  have := h.at hj hv; rwa [Nat.zero_add] at this
theorem Rd.atN {α : Type} {enc : α → List Value} {l : List α} {sz k i j : Nat} {v : Value} (h : Rd M sz (.slice (some ⟨b, o, none⟩) l.length k) l.length (l.flatMap enc)) (he : ∀ a, (enc a).length = sz) (hi : i < l.length) (hj : j < sz) (hv : (enc l[i])[j]? = some v) : RdAt M b (o + i * sz + j) v := fun _ _ _ H => by
  obtain ⟨c, E, fr, hb, hc⟩ := (h _ _ _ H).cellAtN he (by omega) hi hj
  exact ⟨c, E, fr, hb, hc.trans hv⟩
theorem Rd.atF {α : Type} {enc : α → List Value} {l : List α} {sz k i : Nat} {v : Value} (h : Rd M sz (.slice (some ⟨b, o, none⟩) l.length k) l.length (l.flatMap enc)) (he : ∀ a, (enc a).length = sz) (hi : i < l.length) (hj : 0 < sz) (hv : (enc l[i])[0]? = some v) : RdAt M b (o + i * sz) v := h.atN (j := 0) he hi hj hv
theorem Rd.agN {α : Type} {enc : α → List Value} {l : List α} {sz k i : Nat} (h : Rd M sz (.slice (some ⟨b, o, none⟩) l.length k) l.length (l.flatMap enc)) (he : ∀ a, (enc a).length = sz) (hsz : 0 < sz) (hi : i < l.length) : RdAg M b (o + i * sz) sz (enc l[i]).toArray := fun _ _ _ H => by
  obtain ⟨c, E, fr, hb, hle, hc⟩ := (h _ _ _ H).cellsAt he hsz hi
  exact ⟨c, E, fr, hb, hle, hc⟩
/-- A whole slice of cells, as an array. -/
theorem Rd.ag0 {m k : Nat} {xs : List Value} (h : Rd M 1 (.slice (some ⟨b, 0, none⟩) m k) m xs) (hm : 0 < m) : RdAg M b 0 m xs.toArray := fun _ _ _ H => by
  obtain ⟨hx, h2⟩ := h _ _ _ H
  rcases h2 with ⟨a, k', _, h0⟩|⟨b', o', k', c, E, fr, hv, hb, hle, he⟩
  · omega
  · simp only [Value.slice.injEq, Option.some.injEq, Addr.mk.injEq] at hv
    obtain ⟨⟨rfl, rfl, _⟩, _, rfl⟩ := hv
    refine ⟨c, E, fr, hb, by omega, ?_⟩
    apply Array.ext'
    rw [← he, Nat.mul_one]
end
section
variable {P : Program} {w0 : World} {ops : Array Oper} {dst : Option Nat} {ty T : TypeId} {pos : String} {after : Array Edge} {rest : List Oper} {ρ : Env} {K : XK} {M SM : List Asrt} {x : Operand} {b o i j n by' : Nat} {z v : Value} {cs : Array Value} {r : Ord} {t : Bool}
theorem run_ldc {oo : Oper} {w : World} [hs : TyScal P T] (hoo : oo.op = .load T x) (hx : ev ρ x = .pointer (some ⟨b, o, none⟩)) (h : RdAt SM b o v) {F : Asrt} (H : St w0 w (F :: SM)) : (execOp (ev ρ) oo).run P w = .ok (.value v) w := by
  obtain ⟨c, E, fr, hb, hc⟩ := h _ _ _ H
  have hr : (Instr.loadAt T (ev ρ x)).run P w = .ok v w := by
    rw [hx]; unfold Instr.loadAt
    rw [run_bind P _ _ w w _ rfl]; unfold loadVar
    rw [run_bind P _ _ w w _ (run_isAgg hs.h)]
    exact run_load1 hb hc
  unfold execOp; rw [hoo]
  exact op_run_value hr
theorem run_ldg {oo : Oper} {w : World} [hs : TyAggr P T] [hi : TyI P T n by' z] (hoo : oo.op = .load T x) (hx : ev ρ x = .pointer (some ⟨b, o, none⟩)) (h : RdAg SM b o n cs) {F : Asrt} (H : St w0 w (F :: SM)) : (execOp (ev ρ) oo).run P w = .ok (.value (.agg cs)) w := by
  obtain ⟨c, E, fr, hb, hv, hc⟩ := h _ _ _ H
  have hr := run_loadAgg (P := P) (ρ := ρ) (x := x) (T := T) (n := n) hb hv hx
  rw [hc] at hr
  unfold execOp; rw [hoo]
  exact op_run_value hr
theorem Zff [hs : TyScal P T] (hx : ev ρ x = .pointer (some ⟨b, o, none⟩)) (h : RdAt M b o v) (kk : xOps P w0 ops rest (put ρ dst v) M K) : xOps P w0 ops (⟨dst, .load T x, ty, pos, after, none⟩ :: rest) ρ M K := fun F w H => by
  obtain ⟨c, E, fr, hb, hc⟩ := h _ _ _ H
  exact Zfs hx hb hc (kk F w H)
theorem Zfg [hs : TyAggr P T] [hi : TyI P T n by' z] (hx : ev ρ x = .pointer (some ⟨b, o, none⟩)) (h : RdAg M b o n cs) (kk : xOps P w0 ops rest (put ρ dst (.agg cs)) M K) : xOps P w0 ops (⟨dst, .load T x, ty, pos, after, none⟩ :: rest) ρ M K := fun F w H => by
  obtain ⟨c, E, fr, hb, hv, hc⟩ := h _ _ _ H
  exact Zft hx hb hv hc (kk F w H)
theorem Zfh [hs : TyScal P T] (ho : ops[i]? = some ⟨dst, .load T x, ty, pos, after, none⟩) (hx : ev ρ x = .pointer (some ⟨b, o, none⟩)) (h : RdAt SM b o v) (k : cX P w0 ops SM r (put ρ dst v) M K) : cX P w0 ops SM (.r i r) ρ M K :=
  Zit ho (fun F w H => run_ldc rfl hx h H) k
theorem Zfj [hs : TyAggr P T] [hi : TyI P T n by' z] (ho : ops[i]? = some ⟨dst, .load T x, ty, pos, after, none⟩) (hx : ev ρ x = .pointer (some ⟨b, o, none⟩)) (h : RdAg SM b o n cs) (k : cX P w0 ops SM r (put ρ dst (.agg cs)) M K) : cX P w0 ops SM (.r i r) ρ M K :=
  Zit ho (fun F w H => run_ldg rfl hx h H) k
end
end Go.Sl

/- The engine over pieces alone: worlds that the kit's contracts hand back. -/
set_option linter.unusedVariables false
set_option linter.unusedSimpArgs false
namespace Go.Sl
open Go Go.RowKit
/-- A new block beside what stands. -/
theorem St.newer {w0 w w' : World} {L : List Asrt} (H : St w0 w L) (hb : Below w.heap.size w w') : St w0 w' L := by
  refine ⟨hb.os.trans H.os, hb.tape.trans H.tape, hb.output.trans H.output, Nat.le_trans H.size hb.size, H.sat.mono ⟨fun b o e => ?_⟩⟩
  have e : w.heap[b]? = some o := e
  exact (hb.block b (Array.getElem?_eq_some_iff.1 e).1).trans e
theorem St.newest {w0 w w' : World} {L : List Asrt} {g : Nat} {o : Obj} (H : St w0 w L) (hb : Below w.heap.size w w') (hg : w.heap.size ≤ g) (ho : w'.heap[g]? = some o) : St w0 w' (pt g o :: L) := by
  have H' := H.newer hb
  refine ⟨H'.os, H'.tape, H'.output, H'.size, fun b => if b = g then some o else none, frag w, by simp [pt], H.sat, ⟨fun b => ?_⟩, ⟨fun b u e => ?_⟩, ⟨fun b u e => ?_⟩⟩
  · by_cases hbg : b = g
    · subst hbg; right
      show w.heap[b]? = none
      exact Array.getElem?_eq_none hg
    · left; simp [hbg]
  · by_cases hbg : b = g
    · subst hbg; simp only [if_true, Option.some.injEq] at e; subst e; exact ho
    · simp [hbg] at e
  · have e : w.heap[b]? = some u := e
    exact (hb.block b (Array.getElem?_eq_some_iff.1 e).1).trans e
/-- One block turns, and new ones come. -/
theorem St.turned {w0 w w' : World} {L : List Asrt} {g : Nat} {o o' : Obj} (H : St w0 w (pt g o :: L)) (hb : w.grownBy w' (some g)) (ho : w'.heap[g]? = some o') : St w0 w' (pt g o' :: L) := by
  obtain ⟨h1, h2, a, s, d, e1, e2⟩ := H.sat
  refine ⟨hb.os.trans H.os, hb.tape.trans H.tape, hb.output.trans H.output, Nat.le_trans H.size hb.size, fun b => if b = g then some o' else none, h2, by simp [pt], s, ⟨fun b => ?_⟩, ⟨fun b u e => ?_⟩, ⟨fun b u e => ?_⟩⟩
  · by_cases hbg : b = g
    · subst hbg; right
      rcases d.g b with h|h
      · have a : h1 b = some o := a
        rw [a] at h; cases h
      · exact h
    · left; simp [hbg]
  · by_cases hbg : b = g
    · subst hbg; simp only [if_true, Option.some.injEq] at e; subst e; exact ho
    · simp [hbg] at e
  · have hw : w.heap[b]? = some u := e2.g b u e
    have hne : some b ≠ some g := fun hh => by
      have hh : b = g := Option.some.inj hh
      subst hh
      rcases d.g b with h|h
      · have a : h1 b = some o := a
        rw [a] at h; cases h
      · rw [h] at e; cases e
    exact (hb.block b (Array.getElem?_eq_some_iff.1 hw).1 hne).trans hw
theorem St.turnedC {w0 w w' : World} {L : List Asrt} {g E : Nat} {cur cur' : Array Value} (H : St w0 w (cl g cur E :: L)) (hb : w.grownBy w' (some g)) (ho : w'.heap[g]? = some (.cells cur' E (0, 0))) : St w0 w' (cl g cur' E :: L) := St.turned H hb ho
theorem own_of_row {w0 w w' : World} {L : List Asrt} {E n : Nat} {v : Value} {xs : List Value} (H : St w0 w L) (hb : Below w.heap.size w w') (hr : w'.ownsRow w.heap.size E 1 v n xs) : ∃ a c, v = .slice a n c ∧ St w0 w' (own E 1 (.slice a n c) n xs :: L) := by
  obtain ⟨hl, h⟩ := hr
  rcases h with ⟨rfl, rfl⟩|⟨g, cap, cur, rfl, hbase, hg, h1, h2, h3, h4⟩
  · obtain rfl : xs = [] := by simpa using hl
    exact ⟨none, 0, rfl, (H.newer hb).own_nil E 1⟩
  · exact ⟨some ⟨g, 0, none⟩, cap, rfl, St.own_mk (g := g) (H.newest hb hbase hg) h1 h2 h3 h4⟩
end Go.Sl

/- slices.Sorted(slices.Values(s)) at ints, as a contract. -/
set_option maxHeartbeats 4000000
set_option maxRecDepth 10000
set_option linter.unusedVariables false
set_option linter.unusedSimpArgs false
namespace Go.Sl
open Go Go.Proofs
attribute [local irreducible] cl pt own old pur ex all den denOps denS xOps xC cX CX xthen xblk xcut xloop xgo xng retX resX Calls PV Rd Con
open Go.RowKit Go.Maps Go.Sort Go.Shelf
abbrev ownI (a : Option Addr) (c : Nat) (zs : List Int) : Asrt := own 3 1 (.slice a zs.length c) zs.length (zs.map (Value.int .i64))
abbrev valsF (b : Nat) : Value := .func (.func 87) #[] #[.pointer (some ⟨b, 0, none⟩)]
def sortZ (zs : List Int) : List Int := zs.mergeSort fun x y => decide (x ≤ y)
theorem sortZ_len (zs : List Int) : (sortZ zs).length = zs.length := by simp [sortZ]
theorem values_x {L : List Asrt} {a : Option Addr} {n c : Nat} : Con Tryz.prog 62 [.slice a n c] L (fun v M => ∃ b, v = valsF b ∧ M = cl b #[.slice a n c] 43 :: L) := by
  refine fn_x Tryz.func62 rfl rfl rfl Tryz.mixed (by kernel_rfl) ?_
  intro w0
  refine Y1 ?_
  refine Zh4 rfl ?_; intro b1
  refine V6 ?_
  refine rx1 (Zg8 rfl (Zg7)) ?_
  exact ⟨_, ⟨b1, rfl, rfl⟩, qI⟩
theorem appendSeq_x {a : Option Addr} {c b : Nat} {zs : List Int} (hz : zs.length * 8 ≤ 140737488351232) : Con Tryz.prog 107 [.slice none 0 0, valsF b] [cl b #[.slice a zs.length c] 43, ownI a c zs] (fun v M => ∃ a' c', v = .slice a' zs.length c' ∧ M = [ownI a' c' zs, cl b #[.slice a zs.length c] 43, ownI a c zs]) :=
  Con.of fun w0 w L H => by
    have hb0 := H.cl_get
    have hlt : b < w.heap.size := (Array.getElem?_eq_some_iff.1 hb0).1
    have hI : Ints w.heap.size w (.slice a zs.length c) zs := by
      have H2 : St w0 w (ownI a c zs :: cl b #[.slice a zs.length c] 43 :: L) := H.swap
      rcases H2.own_get with ⟨hv, hn, _, _⟩|⟨g, cap, cur, hv, _, _, _, h4, h5, H3⟩
      · exact .inl ⟨hv, List.eq_nil_of_length_eq_zero hn⟩
      · refine .inr ⟨g, 0, cap, hv, (Array.getElem?_eq_some_iff.1 H3.cl_get).1, fun j hj => ?_⟩
        have hc : (cur.toList.take (zs.length * 1))[j]? = (zs.map (Value.int .i64))[j]? := by rw [h4]
        rw [Nat.mul_one, List.getElem?_take_of_lt hj, List.getElem?_map] at hc
        rw [Nat.zero_add]
        simp only [World.cell?, H3.cl_get]
        rw [List.getElem?_eq_getElem hj] at hc ⊢
        simpa using hc
    have hcell : w.cell? ⟨b, 0, none⟩ = some (.slice a zs.length c) := by simp [World.cell?, hb0]
    refine ((callsIn_wide (n := 5)).1 (appendSeq_in Fence.wide 5 trivial trivial rfl (by omega) b (.slice a zs.length c) zs hz w hlt hcell hI)).mono ?_
    rintro e w' ⟨v, rfl, hr, hb⟩
    obtain ⟨a', c', rfl, H'⟩ := own_of_row H hb hr
    exact ⟨_, rfl, _, H', a', c', rfl, rfl⟩
theorem collect_x {a : Option Addr} {c b : Nat} {zs : List Int} (hz : zs.length * 8 ≤ 140737488351232) : Con Tryz.prog 85 [valsF b] [cl b #[.slice a zs.length c] 43, ownI a c zs] (fun v M => ∃ a' c', v = .slice a' zs.length c' ∧ M = [ownI a' c' zs, cl b #[.slice a zs.length c] 43, ownI a c zs]) := by
  refine fn_x Tryz.func85 rfl rfl rfl Tryz.mixed (by kernel_rfl) ?_
  intro w0
  refine Y5 ?_
  refine Zh8 rfl (by kernel_rfl) (appendSeq_x hz) rfl qT ?_
  rintro _ _ ⟨a', c', rfl, rfl⟩
  refine V3 ?_
  refine rx1 (Zhc rfl (Zg7)) ?_
  exact ⟨_, ⟨a', c', rfl, rfl⟩, qI⟩
theorem sort_x {a : Option Addr} {c : Nat} {zs : List Int} (hz : zs.length * 8 ≤ 140737488351232) : Con Tryz.prog 86 [.slice a zs.length c] [ownI a c zs] (fun v M => v = .tuple #[] ∧ M = [own 3 1 (.slice a zs.length c) zs.length ((sortZ zs).map (Value.int .i64))]) :=
  Con.of fun w0 w L H => by
    rcases St.own_get (L := L) H with ⟨hv, hn, hx, H3⟩|⟨g, cap, cur, hv, h1, h2, h3, h4, h5, H3⟩
    · have hz0 : zs = [] := List.eq_nil_of_length_eq_zero hn
      subst hz0
      refine (AnyM.slices_Sort_int_none Tryz.sortA a c w).mono ?_
      rintro e w' ⟨rfl, rfl⟩
      exact ⟨_, rfl, _, H, rfl, by rw [show sortZ [] = [] from by simp [sortZ]]⟩
    · simp only [Value.slice.injEq] at hv
      obtain ⟨rfl, _, rfl⟩ := hv
      have hg := H3.cl_get
      have hlt : g < w.heap.size := (Array.getElem?_eq_some_iff.1 hg).1
      have hH : Holds (Value.int .i64) w g 0 zs.toArray := holds_of_block_i hg (by rw [← h4, Nat.mul_one])
      refine (AnyM.slices_Sort_int Tryz.sortA g 0 c zs w hH hlt (by omega)).mono ?_
      rintro e w' ⟨rfl, k, os, rfl⟩
      have hr := ownsRow_sorted_i (w := w) (base := 0) (g := g) (cap := c) (n := k) (os := os) (ss := zs) (ts := sortZ zs) (sortZ_len zs) (Nat.zero_le _) hg h1 h2 h3
      rcases hr.2 with ⟨hbad, _⟩|⟨g', cap', cur', hv', _, hg', r1, r2, r3, r4⟩
      · cases hbad
      · simp only [Value.slice.injEq, Option.some.injEq, Addr.mk.injEq] at hv'
        obtain ⟨⟨rfl, _⟩, _, rfl⟩ := hv'
        exact ⟨_, rfl, [own 3 1 (.slice (some ⟨g, 0, none⟩) zs.length c) zs.length ((sortZ zs).map (Value.int .i64))], St.own_mk (g := g) (St.turnedC H3 (grownBy_sorted_i _) hg') r1 r2 r3 r4, rfl, rfl⟩
theorem sorted_x {a : Option Addr} {c b : Nat} {zs : List Int} (hz : zs.length * 8 ≤ 140737488351232) : Con Tryz.prog 61 [valsF b] [cl b #[.slice a zs.length c] 43, ownI a c zs] (fun v M => ∃ a' c', v = .slice a' zs.length c' ∧ M = [own 3 1 (.slice a' zs.length c') zs.length ((sortZ zs).map (Value.int .i64)), cl b #[.slice a zs.length c] 43, ownI a c zs]) := by
  refine fn_x Tryz.func61 rfl rfl rfl Tryz.mixed (by kernel_rfl) ?_
  intro w0
  refine Y5 ?_
  refine Zh8 rfl (by kernel_rfl) (collect_x hz) rfl qT ?_
  rintro _ _ ⟨a', c', rfl, rfl⟩
  refine Y5 ?_
  refine Zh8 rfl (by kernel_rfl) (sort_x hz) rfl qT ?_
  rintro _ _ ⟨rfl, rfl⟩
  refine V6 ?_
  refine rx1 (Zhc rfl (Zg7)) ?_
  exact ⟨_, ⟨a', c', rfl, rfl⟩, qI⟩
end Go.Sl

/- The engine over pieces alone: maps told by what they hold; a slice cut, and cleared, in its place. -/
set_option linter.unusedVariables false
set_option linter.unusedSimpArgs false
namespace Go.Sl
open Go
def Keys1 (es : List Ent) : Prop := (es.map (·.1)).Nodup
theorem esGet_none {es : List Ent} {k : Int} : esGet es k = none ↔ k ∉ es.map (·.1) := by
  induction es with
  | nil => simp [esGet]
  | cons e r ih =>
    unfold esGet
    by_cases h : e.1 = k
    · simp [h]
    · rw [if_neg h, ih]; simp only [List.map_cons, List.mem_cons, not_or]
      exact ⟨fun hh => ⟨fun hk => h hk.symm, hh⟩, fun hh => hh.2⟩
theorem esSet_get {es : List Ent} {k : Int} {v : Value} {c : Nat} (k' : Int) : esGet (esSet es k v c) k' = if k' = k then some v else esGet es k' := by
  induction es with
  | nil =>
    simp only [esSet, esGet]
    by_cases h : k' = k
    · rw [if_pos h, if_pos h.symm]
    · rw [if_neg h, if_neg (fun hh => h hh.symm)]
  | cons e r ih =>
    unfold esSet
    by_cases h : e.1 = k
    · rw [if_pos h]
      simp only [esGet]
      by_cases h2 : k' = k
      · rw [if_pos h2.symm, if_pos h2]
      · rw [if_neg (fun hh => h2 hh.symm), if_neg h2, if_neg (fun hh => h2 (by rw [← hh, h]))]
    · rw [if_neg h]
      simp only [esGet]
      by_cases h2 : e.1 = k'
      · rw [if_pos h2, if_neg (fun hh => h (h2.trans hh)), if_pos h2]
      · rw [if_neg h2, ih, if_neg h2]
theorem esSet_keys {es : List Ent} {k : Int} {v : Value} {c : Nat} : (esSet es k v c).map (·.1) = if k ∈ es.map (·.1) then es.map (·.1) else es.map (·.1) ++ [k] := by
  induction es with
  | nil => simp [esSet]
  | cons e r ih =>
    unfold esSet
    by_cases h : e.1 = k
    · rw [if_pos h]; simp [h]
    · rw [if_neg h]
      simp only [List.map_cons, List.mem_cons, ih]
      by_cases h2 : k ∈ r.map (·.1)
      · rw [if_pos h2, if_pos (.inr h2)]
      · rw [if_neg h2, if_neg (fun hh => hh.elim (fun hk => h hk.symm) h2)]; rfl
theorem esSet_nodup {es : List Ent} {k : Int} {v : Value} {c : Nat} (h : Keys1 es) : Keys1 (esSet es k v c) := by
  unfold Keys1
  rw [esSet_keys]
  by_cases h2 : k ∈ es.map (·.1)
  · rw [if_pos h2]; exact h
  · rw [if_neg h2, List.nodup_append]
    refine ⟨h, by simp, ?_⟩
    intro a ha b hb
    simp only [List.mem_singleton] at hb
    subst hb
    exact fun e => h2 (e ▸ ha)
theorem esDel_get {es : List Ent} {k : Int} (h : Keys1 es) (k' : Int) : esGet (esDel es k) k' = if k' = k then none else esGet es k' := by
  induction es with
  | nil => simp [esDel, esGet]
  | cons e r ih =>
    have hn : Keys1 r := (List.nodup_cons.1 h).2
    have hk : e.1 ∉ r.map (·.1) := (List.nodup_cons.1 h).1
    unfold esDel
    by_cases h1 : e.1 = k
    · rw [if_pos h1]
      by_cases h2 : k' = k
      · rw [if_pos h2, h2, esGet_none, ← h1]; exact hk
      · rw [if_neg h2]; simp only [esGet]; rw [if_neg (fun hh => h2 (by rw [← hh, h1]))]
    · rw [if_neg h1]
      simp only [esGet]
      by_cases h2 : e.1 = k'
      · rw [if_pos h2, if_pos h2, if_neg (fun hh => h1 (h2.trans hh))]
      · rw [if_neg h2, if_neg h2, ih hn]
theorem esDel_sub {es : List Ent} {k : Int} : (esDel es k).map (·.1) = (es.map (·.1)).erase k := by
  induction es with
  | nil => rfl
  | cons e r ih =>
    unfold esDel
    by_cases h : e.1 = k
    · rw [if_pos h]; simp [h]
    · rw [if_neg h, List.map_cons, List.map_cons, List.erase_cons_tail (by simpa using h), ih]
theorem esDel_nodup {es : List Ent} {k : Int} (h : Keys1 es) : Keys1 (esDel es k) := by
  unfold Keys1; rw [esDel_sub]; exact h.erase k
/-- A map's block: what it holds at a key. -/
def fmA (b : Nat) (f : Int → Option Value) : Asrt := ex fun es : List Ent => ex fun c : Nat => all [pur (Keys1 es ∧ ∀ k, esGet es k = f k), pt b (.map (mapE es) c)]
def fput (f : Int → Option Value) (k : Int) (o : Option Value) : Int → Option Value := fun k' => if k' = k then o else f k'
section
variable {w0 w : World} {L M M' M2 : List Asrt} {b : Nat} {f : Int → Option Value} {k : Int}
theorem St.fm_get (H : St w0 w (fmA b f :: L)) : ∃ es c, Keys1 es ∧ (∀ k, esGet es k = f k) ∧ St w0 w (pt b (.map (mapE es) c) :: L) := by
  unfold fmA at H
  obtain ⟨es, H⟩ := H.ex_get; obtain ⟨c, H⟩ := H.ex_get
  have H := H.all_get
  have hp := H.pur_get
  exact ⟨es, c, hp.1, hp.2, H.drop⟩
theorem St.fm_mk {es : List Ent} {c : Nat} (h1 : Keys1 es) (h2 : ∀ k, esGet es k = f k) (H : St w0 w (pt b (.map (mapE es) c) :: L)) : St w0 w (fmA b f :: L) := by
  unfold fmA
  exact St.ex_mk es (St.ex_mk c (St.all_mk [pur (Keys1 es ∧ ∀ k, esGet es k = f k), pt b (.map (mapE es) c)] (H.pur_mk ⟨h1, h2⟩)))
end
section
variable {P : Program} {w0 : World} {ops : Array Oper} {dst : Option Nat} {ty : TypeId} {pos : String} {after : Array Edge} {rest : List Oper} {ρ : Env} {K : XK} {M M' M2 SM : List Asrt}
variable {x y z' : Operand} {T Kt E b : Nat} {f : Int → Option Value} {k : Int} {v : Value}
theorem run_fm {n by' : Nat} {z : Value} {w : World} {F : Asrt} [hm : TyMap P T Kt E] [hk : TyInt P Kt .i64] [hz : TyI P E n by' z] (hh : Has M (fmA b f) M') (hv : (f k).getD z = v) (H : St w0 w (F :: M)) :
    (Instr.lookup T (.map (some b)) (.int .i64 k) false).run P w = .ok v w := by
  obtain ⟨es, c, _, h2, H1⟩ := (H.pick (.there hh)).fm_get
  rw [run_lookup (Kt := Kt) (E := E) (z := z) H1.pt_get, h2, hv]
theorem Zoc {n by' : Nat} {z : Value} [hm : TyMap P T Kt E] [hk : TyInt P Kt .i64] [hz : TyI P E n by' z] (hx : ev ρ x = .map (some b)) (hy : ev ρ y = .int .i64 k) (hh : Has M (fmA b f) M') (hv : (f k).getD z = v)
    (kk : xOps P w0 ops rest (put ρ dst v) M K) : xOps P w0 ops (⟨dst, .lookup T x y false, ty, pos, after, none⟩ :: rest) ρ M K := by
  intro F w H
  refine Zcy ?_
  have : (execOp (ev ρ) ⟨dst, .lookup T x y false, ty, pos, after, none⟩).run P w = .ok (.value v) w := op_run_value (by rw [hx, hy]; exact run_fm (Kt := Kt) (E := E) hh hv H)
  rw [this]; exact kk F w H
theorem Zod {r : Ord} {i n by' : Nat} {z : Value} [hm : TyMap P T Kt E] [hk : TyInt P Kt .i64] [hz : TyI P E n by' z] (ho : ops[i]? = some ⟨dst, .lookup T x y false, ty, pos, after, none⟩) (hx : ev ρ x = .map (some b)) (hy : ev ρ y = .int .i64 k) (hh : Has SM (fmA b f) M') (hv : (f k).getD z = v)
    (kk : cX P w0 ops SM r (put ρ dst v) M K) : cX P w0 ops SM (.r i r) ρ M K :=
  Zit ho (fun F w H => op_run_value (by rw [hx, hy]; exact run_fm (Kt := Kt) (E := E) hh hv H)) kk
theorem Zoe {n by' : Nat} {z : Value} {t : Bool} [hm : TyMap P T Kt E] [hk : TyInt P Kt .i64] [hz : TyI P E n by' z] (hx : ev ρ x = .map (some b)) (hy : ev ρ y = .int .i64 k) (hh : Has M (fmA b f) M') (hv : (f k).getD z = v) (ht : (f k).isSome = t)
    (kk : xOps P w0 ops rest (put ρ dst (.tuple #[v, .bool t])) M K) : xOps P w0 ops (⟨dst, .lookup T x y true, ty, pos, after, none⟩ :: rest) ρ M K := by
  intro F w H
  refine Zcy ?_
  obtain ⟨es, c, _, h2, H1⟩ := (H.pick (.there hh)).fm_get
  have : (execOp (ev ρ) ⟨dst, .lookup T x y true, ty, pos, after, none⟩).run P w = .ok (.value (.tuple #[v, .bool t])) w := op_run_value (by rw [hx, hy, run_lookup2 (Kt := Kt) (E := E) (z := z) H1.pt_get, h2, hv, ht])
  rw [this]; exact kk F w H
theorem Zof [hm : TyMap P T Kt E] [hk : TyInt P Kt .i64] (hx : ev ρ x = .map (some b)) (hy : ev ρ y = .int .i64 k) (hz : ev ρ z' = v) (hh : Repl M (fmA b f) (fmA b (fput f k (some v))) M2) (kk : xOps P w0 ops rest (put ρ dst undef) M2 K) :
    xOps P w0 ops (⟨dst, .mapUpdate T x y z', ty, pos, after, none⟩ :: rest) ρ M K := by
  intro F w H
  refine Zcy ?_
  obtain ⟨R, h1, h2⟩ := hh.has
  obtain ⟨es, c, g1, g2, H1⟩ := (H.pick (.there h1)).fm_get
  have : (execOp (ev ρ) ⟨dst, .mapUpdate T x y z', ty, pos, after, none⟩).run P w = .ok .skip _ := op_run_unit (by rw [hx, hy, hz]; exact run_mapUpdate (Kt := Kt) (E := E) H1.pt_get)
  rw [this]
  refine kk F _ (St.unpick (St.fm_mk (es := esSet es k v c) (c := esClock es k c) (esSet_nodup g1) (fun k' => ?_) (H1.set _)) (.there h2))
  rw [esSet_get, g2]; rfl
theorem Zog {K2 : Nat} [hm : TyMap P T Kt E] [hk : TyInt P Kt .i64] (hx : ev ρ x = .map (some b)) (hy : ev ρ y = .int .i64 k) (hh : Repl M (fmA b f) (fmA b (fput f k none)) M2) (kk : xOps P w0 ops rest (put ρ dst (.tuple #[])) M2 K) :
    xOps P w0 ops (⟨dst, .call { callee := .builtin .delete, args := #[x, y], argTypes := #[T, K2] }, ty, pos, after, none⟩ :: rest) ρ M K := by
  intro F w H
  refine Zcy ?_
  obtain ⟨R, h1, h2⟩ := hh.has
  obtain ⟨es, c, g1, g2, H1⟩ := (H.pick (.there h1)).fm_get
  have : (execOp (ev ρ) ⟨dst, .call { callee := .builtin .delete, args := #[x, y], argTypes := #[T, K2] }, ty, pos, after, none⟩).run P w = .ok (.value (.tuple #[])) { w with heap := w.heap.setIfInBounds b (.map (mapE (esDel es k)) c) } := by
    refine op_run_value ?_
    simp only [List.map_toArray, List.map_cons, List.map_nil, hx, hy]
    exact run_delete (Kt := Kt) (E := E) H1.pt_get
  rw [this]
  refine kk F _ (St.unpick (St.fm_mk (es := esDel es k) (c := c) (esDel_nodup g1) (fun k' => ?_) (H1.set _)) (.there h2))
  rw [esDel_get g1, g2]; rfl
theorem Zoh (kk : ∀ b, xOps P w0 ops rest (put ρ dst (.map (some b))) (fmA b (fun _ => none) :: M) K) :
    xOps P w0 ops (⟨dst, .makeMap T none, ty, pos, after, none⟩ :: rest) ρ M K := by
  intro F w H
  refine Zcy ?_
  have : (execOp (ev ρ) ⟨dst, .makeMap T none, ty, pos, after, none⟩).run P w = .ok (.value (.map (some w.heap.size))) { w with heap := w.heap.push (.map #[] 0) } := rfl
  rw [this]
  exact kk w.heap.size F _ (St.swap (St.fm_mk (es := []) (c := 0) (by simp [Keys1]) (fun _ => rfl) (H.alloc (.map #[] 0))))
/-- A cut with all three bounds. -/
theorem run_bounds3i {len cap : Nat} {lo y m : Operand} {k1 k2 k3 : IntKind} {l h mx : Nat} {w : World} (hl : ev ρ lo = .int k1 (l : Int)) (hh : ev ρ y = .int k2 (h : Int)) (hm : ev ρ m = .int k3 (mx : Int)) (h1 : l ≤ h) (h2 : h ≤ mx) (hc : mx ≤ cap) :
    (Instr.sliceBounds true len cap (some (ev ρ lo)) (some (ev ρ y)) (some (ev ρ m))).run P w = .ok (l, h, mx) w := by
  unfold Instr.sliceBounds
  simp only []
  rw [run_bind P _ _ w w _ (run_bound hm ⟨by omega, by omega⟩), Int.toNat_natCast, run_bind P _ _ w w _ (run_bound hh ⟨by omega, by omega⟩), Int.toNat_natCast, run_bind P _ _ w w _ (run_bound hl ⟨by omega, by omega⟩), Int.toNat_natCast]
  rfl
theorem Zok {lo m : Operand} {S sz by' bb o len cap : Nat} {z : Value} {k1 k2 k3 : IntKind} {l h mx : Nat} [hs : TySlice P S E] [hi' : TyI P E sz by' z] (hx : ev ρ x = .slice (some ⟨bb, o, none⟩) len cap)
    (hl : ev ρ lo = .int k1 (l : Int)) (hh : ev ρ y = .int k2 (h : Int)) (hm : ev ρ m = .int k3 (mx : Int)) (h1 : l ≤ h) (h2 : h ≤ mx) (hc : mx ≤ cap) :
    PV P (.slice S x (some lo) (some y) (some m)) ρ (.slice (some ⟨bb, cutOff o l mx sz, none⟩) (h - l) (mx - l)) := by
  intro oo w ho; unfold execOp; rw [ho]; refine op_run_value ?_; rw [hx]
  unfold Instr.sliceAt
  rw [run_bind P _ _ w w _ (run_under hs.h)]
  simp only []
  unfold Instr.slice
  rw [run_bind P _ _ w w _ (run_under hs.h)]
  simp only [Option.map_some]
  rw [run_bind P _ _ w w _ (run_bounds3i hl hh hm h1 h2 hc), run_bind P _ _ w w _ (run_size hi')]
  show (Result.ok (Value.slice _ _ _) w : Result Value) = _
  unfold cutOff
  split
  · rfl
  · simp only [Option.map_some, addr_add]
/-- append into the room of an array whose cells are known. -/
theorem Zoi {size by' n m T' E' g cap : Nat} {z sv : Value} {cur cur' : Array Value} {news : List Value} [hs : TySlice P T E] [hi : TyI P E size by' z] [ht : TySlice P T' E']
    (hx : ev ρ x = .slice (some ⟨g, 0, none⟩) n cap) (hy : ev ρ y = sv) (hsl : Rd M size sv m news) (hm : Repl M (cl g cur E) (cl g cur' E) M2) (h1 : news.all oneC = true) (hroom : n + m ≤ cap) (hsz : cur.size = cap * size) (hc : wr cur (n * size) news = cur')
    (k : xOps P w0 ops rest (put ρ dst (.slice (some ⟨g, 0, none⟩) (n + m) cap)) M2 K) :
    xOps P w0 ops (⟨dst, .call { callee := .builtin .append, args := #[x, y], argTypes := #[T, T'] }, ty, pos, after, none⟩ :: rest) ρ M K := by
  intro F w H
  have hsl := hsl _ _ _ H
  refine Zcy ?_
  obtain ⟨R, hh1, hh2⟩ := hm.has
  have H1 := H.pick (.there hh1)
  have hr : (Builtin.append_ #[T, T'] ty #[.slice (some ⟨g, 0, none⟩) n cap, sv]).run P w = .ok (.slice (some ⟨g, 0, none⟩) (n + m) cap) { w with heap := w.heap.setIfInBounds g (.cells (wr cur (n * size) news) E (0, 0)) } :=
    run_append_room ht.h hsl.lenOf (by
      have := hsl.first (P := P) m (Nat.le_refl _)
      rwa [← hsl.1, List.take_length] at this) hsl.1 h1 hroom H1.cl_get hsz
  have : (execOp (ev ρ) ⟨dst, .call { callee := .builtin .append, args := #[x, y], argTypes := #[T, T'] }, ty, pos, after, none⟩).run P w = .ok (.value (.slice (some ⟨g, 0, none⟩) (n + m) cap)) { w with heap := w.heap.setIfInBounds g (.cells (wr cur (n * size) news) E (0, 0)) } := by
    refine op_run_value ?_
    simp only [List.map_toArray, List.map_cons, List.map_nil, hx, hy]
    exact hr
  rw [this]
  subst hc
  exact k F _ (St.unpick (H1.set (.cells (wr cur (n * size) news) E (0, 0))) (.there hh2))
theorem Zoj {by' n g o cap : Nat} {z : Value} {cur cur' : Array Value} [hs : TySlice P T E] [hi : TyI P E 1 by' z] (hz : z.cells = #[z]) (h1 : oneC z = true)
    (hx : ev ρ x = .slice (some ⟨g, o, none⟩) (n + 1) cap) (hm : Repl M (cl g cur E) (cl g cur' E) M2) (hle : o + (n + 1) ≤ cur.size) (hc : wr cur o (List.replicate (n + 1) z) = cur')
    (k : xOps P w0 ops rest (put ρ dst (.tuple #[])) M2 K) :
    xOps P w0 ops (⟨dst, .call { callee := .builtin .clear, args := #[x], argTypes := #[T] }, ty, pos, after, none⟩ :: rest) ρ M K := by
  intro F w H
  refine Zcy ?_
  obtain ⟨R, hh1, hh2⟩ := hm.has
  have H1 := H.pick (.there hh1)
  have hzc : (Builtin.zeroCells z.cells (n + 1)).toList = List.replicate (n + 1) z := by
    rw [hz]; simp [Builtin.zeroCells, Nat.mod_one, List.map_const']
  have hr : (Builtin.clear_ #[T] ty #[.slice (some ⟨g, o, none⟩) (n + 1) cap]).run P w = .ok (.tuple #[]) { w with heap := w.heap.setIfInBounds g (.cells (wr cur o (List.replicate (n + 1) z)) E (0, 0)) } := by
    simp only [Builtin.clear_, List.getElem?_toArray, List.getElem?_cons_zero]
    rw [run_bind P _ _ w w _ (run_under hs.h)]
    simp only []
    rw [run_bind P _ _ w w _ (run_zero hi), hzc]
    have := run_storeCells (P := P) (List.replicate (n + 1) z) H1.cl_get o 0 (by simpa using hle) (by simp [h1])
    rw [run_bind P _ _ w _ () this]
    rfl
  have : (execOp (ev ρ) ⟨dst, .call { callee := .builtin .clear, args := #[x], argTypes := #[T] }, ty, pos, after, none⟩).run P w = .ok (.value (.tuple #[])) { w with heap := w.heap.setIfInBounds g (.cells (wr cur o (List.replicate (n + 1) z)) E (0, 0)) } := by
    refine op_run_value ?_
    simp only [List.map_toArray, List.map_cons, List.map_nil, hx]
    exact hr
  rw [this]
  subst hc
  exact k F _ (St.unpick (H1.set (.cells (wr cur o (List.replicate (n + 1) z)) E (0, 0))) (.there hh2))
end
end Go.Sl

/- more rules: cuts with a room of their own; interfaces: calls, tests, comparisons. -/
set_option linter.unusedVariables false
set_option linter.unusedSimpArgs false
namespace Go.Sl
open Go
theorem run_bounds3 {P : Program} {ρ : Env} {len cap : Nat} {y m : Operand} {k k' : IntKind} {h : Nat} {w : World} (hh : ev ρ y = .int k (h : Int)) (hm : ev ρ m = .int k' (h : Int)) (hc : h ≤ cap) :
    (Instr.sliceBounds true len cap none (some (ev ρ y)) (some (ev ρ m))).run P w = .ok (0, h, h) w := by
  unfold Instr.sliceBounds
  simp only []
  rw [run_bind P _ _ w w _ (run_bound hm ⟨by omega, by omega⟩), Int.toNat_natCast, run_bind P _ _ w w _ (run_bound hh ⟨by omega, by omega⟩), Int.toNat_natCast]
  rfl
/-- A cut that can't grow into the others. -/
theorem Zns {P : Program} {ρ : Env} {x y m : Operand} {S E sz by' bb o len cap : Nat} {z : Value} {k k' : IntKind} {h : Nat} [hs : TySlice P S E] [hi' : TyI P E sz by' z] (hx : ev ρ x = .slice (some ⟨bb, o, none⟩) len cap)
    (hh : ev ρ y = .int k (h : Int)) (hm : ev ρ m = .int k' (h : Int)) (hc : h ≤ cap) (h0 : 0 < h) :
    PV P (.slice S x none (some y) (some m)) ρ (.slice (some ⟨bb, o, none⟩) h h) := by
  intro oo w ho; unfold execOp; rw [ho]; refine op_run_value ?_; rw [hx]
  unfold Instr.sliceAt
  rw [run_bind P _ _ w w _ (run_under hs.h)]
  simp only []
  unfold Instr.slice
  rw [run_bind P _ _ w w _ (run_under hs.h)]
  simp only [Option.map_none, Option.map_some]
  rw [run_bind P _ _ w w _ (run_bounds3 hh hm hc), run_bind P _ _ w w _ (run_size hi')]
  show (Result.ok (Value.slice _ _ _) w : Result Value) = _
  rw [if_neg (show ¬ h = 0 from by omega)]
  simp [Option.map, addr_add]
theorem getE0 (v : Value) (l : Array Value) : (#[v] ++ l)[0]? = some v := by
  rw [← Array.getElem?_toList, Array.toList_append]; rfl
theorem getE1 (v : Value) (l : Array Value) : (#[v] ++ l).extract 1 (#[v] ++ l).size = l := by
  apply Array.ext'
  rw [Array.toList_extract, Array.toList_append, Array.size_append]
  simp only [List.extract_eq_take_drop, List.cons_append, List.nil_append, List.drop_succ_cons, List.drop_zero]
  exact List.take_of_length_le (by simp)
/-- The method that an interface value of the dynamic type t has under a name. -/
def Met (P : Program) (t : TypeId) (v : Value) (name : String) (F : FuncId) (rv : Value) : Prop := ∀ w, (Go.method (P.types.size + Made.depth) t v name).run P w = .ok (F, rv) w
section
variable {P : Program} {w0 : World} {ops : Array Oper} {dst : Option Nat} {ty : TypeId} {pos : String} {after : Array Edge} {rest : List Oper} {ρ : Env} {K : XK} {M : List Asrt}
theorem run_callMethod {w : World} {t : TypeId} {v rv : Value} {name : String} {F : FuncId} {args : Array Value} (hm : Met P t v name F rv) : (callMethod (.iface t v) name args).run P w = (callFunc F (#[rv] ++ args)).run P w := by
  unfold callMethod
  simp only []
  show ((program >>= fun p => method (p.types.size + Made.depth) t v name >>= _) : Sem Next).run P w = _
  rw [run_bind P _ _ w w P rfl, run_bind P _ _ w w _ (hm w)]
theorem Znt {F : FuncId} {r : Operand} {name : String} {ars : Array Operand} {ts : Array TypeId} {t : TypeId} {v rv : Value} {vs : List Value} {M1 R : List Asrt} {Φ : Value → List Asrt → Prop} (hr : ev ρ r = .iface t v) (hm : Met P t v name F rv) (hb : callable P F = true)
    (hc : Con P F (rv :: vs) M1 Φ) (ha : (ars.toList.map (ev ρ)) = vs) (hs : Take M M1 R) (k : ∀ v M', Φ v M' → xOps P w0 ops rest (put ρ dst v) (M' ++ R) K) :
    xOps P w0 ops (⟨dst, .call { callee := .invoke r name, args := ars, argTypes := ts }, ty, pos, after, none⟩ :: rest) ρ M K := by
  intro F' w H
  have H1 : St w0 w (F' :: (M1 ++ R)) := H.enx hs.ent
  have H2 : St w0 w (all (F' :: R) :: M1) := by
    refine H1.ent (Imp.trans (Imp.cons Imp.app) (Imp.trans Imp.swap ?_))
    have h3 : Imp (all M1 :: (F' :: R)) ((F' :: R) ++ [all M1]) := Imp.comm (L := [all M1]) (M := F' :: R)
    refine h3.trans (Imp.app.trans (Imp.cons ?_))
    have := Imp.unapp (L := M1) (M := [])
    rwa [List.append_nil] at this
  refine Zcy ?_
  subst ha
  have : (execOp (ev ρ) ⟨dst, .call { callee := .invoke r name, args := ars, argTypes := ts }, ty, pos, after, none⟩).run P w = .ok (.enter F (rv :: ars.toList.map (ev ρ)).toArray) w := by
    unfold execOp
    simp only [resolve, hr, pure_bind, invoke]
    have e0 : (#[Value.iface t v] ++ ars.map (ev ρ))[0]? = some (.iface t v) := getE0 _ _
    have e1 : (#[Value.iface t v] ++ ars.map (ev ρ)).extract 1 (#[Value.iface t v] ++ ars.map (ev ρ)).size = ars.map (ev ρ) := getE1 _ _
    rw [e0]
    simp only [e1]
    rw [run_callMethod hm]
    unfold callFunc
    unfold callable at hb
    show ((program >>= _) : Sem Next).run P w = _
    rw [run_bind P _ _ w w P rfl]
    split at hb
    · rename_i fn hfn
      simp only [hfn]
      simp only [Bool.and_eq_true, bne_iff_ne, ne_eq, Option.isSome_iff_ne_none] at hb
      rw [if_neg (by simp [hb.1]), if_neg (by simp [hb.2])]
      have : #[rv] ++ Array.map (ev ρ) ars = (rv :: ars.toList.map (ev ρ)).toArray := by
        apply Array.ext'
        simp
      rw [this]; rfl
    · cases hb
  rw [this]
  refine Calls.mono (hc w0 _ w H2) (Ret.mono fun v w' hq => ?_)
  obtain ⟨M', H', hφ⟩ := hq
  exact k v M' hφ F' w' (H'.ent (Imp.unapp.trans (Imp.cons Imp.comm)))
/-- ... a function that the model itself answers. -/
theorem Znu {F : FuncId} {r : Operand} {name : String} {ars : Array Operand} {ts : Array TypeId} {t : TypeId} {v rv u : Value} {vs : List Value} (hr : ev ρ r = .iface t v) (hm : Met P t v name F rv) (h : extv P F (rv :: vs) u) (ha : (ars.toList.map (ev ρ)) = vs) :
    PV P (.call { callee := .invoke r name, args := ars, argTypes := ts }) ρ u := by
  intro oo w ho
  unfold execOp
  subst ha
  simp only [ho, resolve, hr, pure_bind, invoke]
  have e0 : (#[Value.iface t v] ++ ars.map (ev ρ))[0]? = some (.iface t v) := getE0 _ _
  have e1 : (#[Value.iface t v] ++ ars.map (ev ρ)).extract 1 (#[Value.iface t v] ++ ars.map (ev ρ)).size = ars.map (ev ρ) := getE1 _ _
  rw [e0]
  simp only [e1]
  rw [run_callMethod hm]
  have : #[rv] ++ Array.map (ev ρ) ars = (rv :: ars.toList.map (ev ρ)).toArray := by
    apply Array.ext'
    simp
  rw [this]
  exact h w
theorem extv_of {F : FuncId} {fn : Func} {e : Array Value → Sem Value} {vs : List Value} {v : Value} (hf : P.funcs[F]? = some fn) (hname : (fn.name == "runtime.NumGoroutine") = false)
    (hb : fn.body.isNone = true) (hn : Extern.findNext fn = none) (he : Extern.find fn = some e) (h : ∀ w, (e vs.toArray).run P w = .ok v w) : extv P F vs v := by
  intro w
  rw [run_callFunc_extern hf hname hb hn he, h w]
  rfl
/-- 'x, ok := e.(I)', where the dynamic type lacks a method of I. -/
theorem Znv {x : Operand} {X U t : TypeId} {want : Array (String × TypeId)} {v z : Value} (hx : ev ρ x = .iface t v) (hu : P.underlying U = some (.interface want)) (h : (P.info? t).map (fun i => (lacking want i.methods).isEmpty) = some false) (hz : (P.info? U).map (·.zero) = some (some z)) :
    PV P (.typeAssert x X U true) ρ (.tuple #[z, .bool false]) := by
  intro oo w ho; unfold execOp; rw [ho]; refine op_run_value ?_; rw [hx]
  exact run_typeAssert_lacksB hu h hz v X w
theorem Znw {x y : Operand} {T T' t : TypeId} {v : Value} (hT : P.isIface T = true) (hx : ev ρ x = .iface t v) (hy : ev ρ y = .nilIface) : PV P (.binOp .eql T x y T') ρ (.bool false) :=
  Zb9 hx hy (fun w => by unfold eqGuard; rfl) fun w => run_eql_iface_nil w T hT t v
theorem Zny {x y : Operand} {T T' t : TypeId} {ms : Array (String × TypeId)} {k q : IntKind} {a b : Int} (ht : P.underlying T = some (.interface ms)) (hc : (P.info? t).map (·.comparable) = some true) (hq : P.underlying t = some (.int q)) (hx : ev ρ x = .iface t (.int k a)) (hy : ev ρ y = .iface t (.int k b)) : PV P (.binOp .eql T x y T') ρ (.bool (decide (a = b))) :=
  Zb9 hx hy (fun w => by unfold eqGuard; rfl) fun w => Go.Lib.run_eql_iface_int (P := P) w (k := k) a b ht hc hq
end
theorem own_cap {E size n c : Nat} {a : Option Addr} {xs : List Value} {w0 w : World} {F : Asrt} {M M' : List Asrt} (hm : Has M (Sl.own E size (.slice a n c) n xs) M') (H : St w0 w (F :: M)) : n ≤ c ∧ c ≤ 9223372036854775807 := by
  obtain ⟨a', c', hv, h1, h2⟩ := own_shape (H.pick (.there hm))
  simp only [Value.slice.injEq] at hv
  obtain ⟨_, _, rfl⟩ := hv
  exact ⟨h1, h2⟩
end Go.Sl

/- slices of numbers that come in; a slice with its room, opened as cells. -/
set_option linter.unusedVariables false
set_option linter.unusedSimpArgs false
namespace Go.Sl
open Go Go.ChangeShapes Go.WideShapes Go.ChangeAt Go.RowKit
section
variable {H : Type} {enc : TypeId × Value → H} {P : Program} {w : World} {base : Nat} {spare : Nat → Bool} {held : Bool}
/-- A slice of uint64 that comes in. -/
structure InU (W : World) (v : Value) (l : List (BitVec 64)) : Prop where
  sl : SlW W 1 v l.length (l.map u64b)
  sh : ∃ a c, v = .slice a l.length c ∧ l.length ≤ c ∧ c ≤ 9223372036854775807
  len : l.length * 8 ≤ 140737488351232
end
theorem Znz {P : Program} {w0 : World} {c : Code} {ρ : Env} {Q : XQ} {E sz n cp : Nat} {a : Option Addr} {xs : List Value} {M M' : List Asrt} (hm : Has M (Sl.own E sz (.slice a n cp) n xs) M') (hn : 0 < n)
    (k : ∀ g rest, a = some ⟨g, 0, none⟩ → n ≤ cp → cp ≤ 9223372036854775807 → rest.length + n * sz = cp * sz → xC P w0 c ρ (Sl.cl g (xs ++ rest).toArray E :: M') Q) : xC P w0 c ρ M Q := by
  refine Zgu (α := { p : Nat × List Value // a = some ⟨p.1, 0, none⟩ ∧ n ≤ cp ∧ cp ≤ 9223372036854775807 ∧ p.2.length + n * sz = cp * sz }) (A := fun p => Sl.cl p.val.1 (xs ++ p.val.2).toArray E :: M') ?_ (fun p => k p.val.1 p.val.2 p.property.1 p.property.2.1 p.property.2.2.1 p.property.2.2.2)
  intro F w H
  rcases (H.pick (.there hm)).own_get with ⟨hv, rfl, _⟩|⟨g, cap, cur, hv, h2, h3, h4, h5, h6, H'⟩
  · omega
  · simp only [Value.slice.injEq] at hv
    obtain ⟨rfl, _, rfl⟩ := hv
    have e : cur = (xs ++ cur.toList.drop (n * sz)).toArray := by rw [← h5, List.take_append_drop]
    have hle : n * sz ≤ cp * sz := Nat.mul_le_mul_right _ h2
    refine ⟨⟨(g, cur.toList.drop (n * sz)), rfl, h2, h3, by rw [List.length_drop, Array.length_toList, h4]; omega⟩, ?_⟩
    dsimp only
    rw [← e]
    exact H'.swap
/-- Cells written in the midst. -/
theorem wr_mid (A B C V : List Value) (o : Nat) (ho : o = A.length) (hv : V.length = B.length) : wr (A ++ (B ++ C)).toArray o V = (A ++ (V ++ C)).toArray := by
  subst ho
  apply Array.ext'
  rw [wr_toList _ _ _ (by simp [hv])]
  simp [hv]
theorem own_someN {E sz n c : Nat} {a : Option Addr} {xs : List Value} {w0 w : World} {F : Asrt} {M M' : List Asrt} (hm : Has M (Sl.own E sz (.slice a n c) n xs) M') (hn : 0 < n) (H : St w0 w (F :: M)) : ∃ g, a = some ⟨g, 0, none⟩ := by
  rcases (H.pick (.there hm)).own_get with ⟨hv, rfl, _⟩|⟨g, cap, cur, hv, _⟩
  · omega
  · simp only [Value.slice.injEq] at hv
    exact ⟨g, hv.1⟩
end Go.Sl

/- a number that an int holds. -/
namespace Go.Sl
open Go
/-- A number that an int holds. -/
abbrev nvv (n : Nat) : Value := .int .i64 (n : Int)
end Go.Sl

/- slices.Index, Delete, Clone at ints and bytes, walked. -/
set_option maxHeartbeats 4000000
set_option maxRecDepth 10000
set_option linter.unusedVariables false
set_option linter.unusedSimpArgs false
namespace Go.Sl
open Go Go.Proofs
attribute [local irreducible] cl pt own old pur ex all den denOps denS xOps xC cX CX xthen xblk xcut xloop xgo xng retX resX Calls PV Rd Con
abbrev zv (zs : List Int) : List Value := zs.map (Value.int .i64)
theorem zv_one (zs : List Int) : (zv zs).all oneC = true := by simp [oneC]
theorem index_yes {L : List Asrt} {a : Option Addr} {c : Nat} {zs : List Int} {n : Int} (h : Rd L 1 (.slice a zs.length c) zs.length (zv zs)) (hl : zs.length ≤ 9223372036854775807) (hn : n ∈ zs) : Con Tryz.prog 79 [.slice a zs.length c, .int .i64 n] L (fun v M => (∃ i, ∃ hi : i < zs.length, zs[i] = n ∧ v = nvv i) ∧ L = M) := by
  refine fn_x Tryz.func79 rfl rfl rfl Tryz.mixed (by kernel_rfl) ?_
  intro w0
  refine V8 ?_
  refine Zgo [(4, 5), (8, 18)] (by kernel_rfl) (fun i : Nat => i < zs.length ∧ n ∉ zs.take i) (fun _ => L) (fun i => [(8, nvv i)]) (fun i => zs.length - i) 0 ⟨List.length_pos_of_mem hn, by simp⟩ qI ⟨rfl, trivial⟩ ?_
  rintro i u ⟨hi, he⟩
  refine Zgt (fun F w H => h.someAt (by omega) H) ?_
  rintro ⟨s1, s2, rfl⟩
  refine Y2 ?_
  refine Zhm 9 rfl (decide_eq_true (hi)) ?_
  refine V6 ?_
  by_cases hz : n = zs[i]
  · refine Y5 ?_
    refine Zff rfl ((h.at hi (by rw [List.getElem?_map, List.getElem?_eq_getElem hi]; rfl))) ?_
    refine Zhg (Zbr (b := zs[i]) rfl rfl) ?_
    refine Zhm 16 rfl (decide_eq_true (hz)) ?_
    refine V6 ?_
    refine rx1 (Zg9 rfl (Zg7)) ?_
    exact ⟨_, ⟨⟨i, hi, hz.symm, rfl⟩, rfl⟩, qI⟩
  · refine Y5 ?_
    refine Zff rfl ((h.at hi (by rw [List.getElem?_map, List.getElem?_eq_getElem hi]; rfl))) ?_
    refine Zhg (Zbr (b := zs[i]) rfl rfl) ?_
    refine Zhn 16 rfl (decide_eq_false (hz)) ?_
    refine V6 ?_
    have he2 : n ∉ zs.take (i + 1) := by
      rw [List.take_succ_eq_append_getElem hi, List.mem_append, List.mem_singleton]
      exact fun hh => hh.elim he hz
    have hi2 : i + 1 < zs.length := by
      by_cases hh : i + 1 < zs.length
      · exact hh
      · exact absurd (by rw [List.take_of_length_le (by omega)]; exact hn) he2
    exact Zgl (i + 1) qO ⟨hi2, he2⟩ qI ⟨rfl, trivial⟩
theorem index_no {L : List Asrt} {a : Option Addr} {c : Nat} {zs : List Int} {n : Int} (h : Rd L 1 (.slice a zs.length c) zs.length (zv zs)) (hl : zs.length ≤ 9223372036854775807) (hn : n ∉ zs) : Con Tryz.prog 79 [.slice a zs.length c, .int .i64 n] L (fun v M => v = .int .i64 (-1) ∧ L = M) := by
  refine fn_x Tryz.func79 rfl rfl rfl Tryz.mixed (by kernel_rfl) ?_
  intro w0
  refine V8 ?_
  refine Zgo [(4, 5), (8, 18)] (by kernel_rfl) (fun i : Nat => i ≤ zs.length) (fun _ => L) (fun i => [(8, nvv i)]) (fun i => zs.length - i) 0 (Nat.zero_le _) qI ⟨rfl, trivial⟩ ?_
  intro i u hi
  refine V3 ?_
  refine Zgg rfl (fun hB => ?_) (fun hB => ?_)
  · refine Zgt (fun F w H => h.someAt (by omega) H) ?_
    rintro ⟨s1, s2, rfl⟩
    refine Y9 ?_
    refine Zff rfl ((h.at hB (by rw [List.getElem?_map, List.getElem?_eq_getElem hB]; rfl))) ?_
    refine Zhg (Zbr (b := zs[i]) rfl rfl) ?_
    refine Zhn 16 rfl (decide_eq_false ((fun hh => hn (hh ▸ List.getElem_mem hB)))) ?_
    refine V6 ?_
    exact Zgl (i + 1) qO (by omega) qI ⟨rfl, trivial⟩
  · refine V3 ?_
    refine rx1 (Zg9 rfl (Zg7)) ?_
    exact ⟨_, ⟨rfl, rfl⟩, qI⟩
theorem del_take (xs rest news : List Value) (z : Value) (i n : Nat) (hx : xs.length = n) (hi : i < n) (hl : news.length = n - (i + 1)) : ((wr (wr (xs ++ rest).toArray i news) (n - 1) [z]).toList).take (n - 1) = xs.take i ++ news := by
  have e1 : ((xs ++ rest).take i ++ news ++ (xs ++ rest).drop (i + news.length)).take (n - 1) = xs.take i ++ news := by
    rw [List.take_append_of_le_length (by simp; omega), List.take_append_of_le_length (show i ≤ xs.length by omega), List.take_of_length_le (by simp; omega)]
  have h2 : n - 1 ≤ (((xs ++ rest).take i ++ news ++ (xs ++ rest).drop (i + news.length)).take (n - 1)).length := by rw [e1]; simp; omega
  rw [wr_toList _ _ _ (by rw [wr_size]; simp; omega), wr_toList _ _ _ (by simp; omega), List.append_assoc, List.take_append_of_le_length h2, List.take_take, Nat.min_self, e1]
theorem rd_cut {M M' : List Asrt} {g c i n E : Nat} {xs rest : List Value} (hm : Has M (cl g (xs ++ rest).toArray E) M') (hx : xs.length = n) (hi : i < n) (hnc : n ≤ c) : Rd M 1 (.slice (some ⟨g, cutOff 0 (i + 1) c 1, none⟩) (n - (i + 1)) (c - (i + 1))) (n - (i + 1)) (xs.drop (i + 1)) := by
  by_cases h0 : n = i + 1
  · rw [show n - (i + 1) = 0 by omega, List.drop_of_length_le (by omega)]; exact Rd.nil
  · unfold cutOff
    rw [if_neg (show ¬ c = i + 1 by omega)]
    refine Rd.cl (o := 0 + (i + 1) * 1) hm (by simp; omega) (by simp; omega) ?_
    simp only [Array.toList_extract, List.extract_eq_take_drop]
    rw [show 0 + (i + 1) * 1 = i + 1 by omega, show i + 1 + (n - (i + 1)) * 1 - (i + 1) = n - (i + 1) by omega, List.drop_append_of_le_length (by omega), List.take_append_of_le_length (by simp; omega), List.take_of_length_le (by simp; omega)]
theorem delete_x {g c i : Nat} {zs : List Int} (hi : i < zs.length) (hzl : zs.length ≤ 1000000) : Con Tryz.prog 78 [.slice (some ⟨g, 0, none⟩) zs.length c, nvv i, nvv (i + 1)] [ownI (some ⟨g, 0, none⟩) c zs] (fun v M => v = .slice (some ⟨g, 0, none⟩) (zs.length - 1) c ∧ M = [own 3 1 (.slice (some ⟨g, 0, none⟩) (zs.length - 1) c) (zs.length - 1) (zv (zs.take i ++ zs.drop (i + 1)))]) := by
  refine Con.get (fun w0 w F H => own_cap (n := zs.length) (c := c) .here H) ?_
  rintro ⟨hc, hcm⟩
  refine fn_x Tryz.func78 rfl rfl rfl Tryz.mixed (by kernel_rfl) ?_
  intro w0
  refine Y9 ?_
  refine Zhg (Zok (l := i) (h := i + 1) (mx := zs.length) rfl rfl rfl rfl (by omega) (by omega) (by omega)) ?_
  refine Y4 ?_
  refine Zhg (Zmj (a := i) (b := i + 1) rfl rfl) ?_
  refine Zhn 16 rfl (decide_eq_false ((by omega))) ?_
  refine V7 ?_
  refine Znz (n := zs.length) (cp := c) .here (by omega) ?_
  intro g' rest hg _ _ hr
  obtain rfl : g = g' := by simpa using hg
  have hlen : (zv zs).length = zs.length := by simp
  have hdl : (zv (zs.drop (i + 1))).length = zs.length - (i + 1) := by simp
  refine Ct.o ?_
  refine Zij ([]) [] (.q 0 (.q 1 (.q 2 (.q 3 (.q 4 (.q 5 (.e 6 false (.q 7 .nil)))))))) (by kernel_rfl) (by kernel_rfl) (Imp.arr Arr.stop) ?_
  refine W2 ?_
  refine Zim rfl (Zm0 (h := i) rfl rfl (by omega)) ?_
  refine W2 ?_
  refine Zim rfl (Zci (l := ((i + 1 : Nat) : Int)) (h := (zs.length : Int)) rfl rfl rfl (by omega) (by omega)) ?_
  refine Ziq rfl ?_; refine Zoi (n := i) (m := zs.length - (i + 1)) (news := zv (zs.drop (i + 1))) (cap := c) (size := 1) rfl rfl (by rw [zv, List.map_drop]; exact rd_cut qH hlen hi (by omega)) qR (zv_one _) (by omega) (by simp; omega) rfl ?_; refine Zg3 ⟨(fun hh => Bool.noConfusion hh), ?_⟩
  refine W2 ?_
  refine Ct.o ?_
  rw [show i + (zs.length - (i + 1)) = zs.length - 1 by omega]
  refine Y5 ?_
  refine Zhg (Zna (l := zs.length - 1) (h := zs.length) rfl rfl rfl (by omega) (by omega) (by omega)) ?_
  refine Zoj (n := 0) (o := zs.length - 1) (z := .int .i64 0) rfl rfl (by rw [show zs.length - (zs.length - 1) = 0 + 1 by omega]; rfl) qR (by rw [wr_size]; simp; omega) rfl ?_
  refine V1 ?_
  refine Zgp ((Imp.arr (N := [cl g (wr (wr (zv zs ++ rest).toArray (i * 1) (zv (zs.drop (i + 1)))) (zs.length - 1) (List.replicate (0 + 1) (Value.int .i64 0))) 3]) qV).trans (Imp.own_mk (E := 3) (size := 1) (n := zs.length - 1) (cap := c) (xs := zv (zs.take i ++ zs.drop (i + 1))) (by omega) (by omega) (by rw [wr_size, wr_size]; simp; omega) (by
    rw [Nat.mul_one, Nat.mul_one, show zv (zs.take i ++ zs.drop (i + 1)) = (zv zs).take i ++ zv (zs.drop (i + 1)) from by simp]
    exact del_take _ _ _ _ _ _ hlen hi hdl))) ?_
  refine V4 ?_
  refine rx1 (Zhc rfl (Zg7)) ?_
  exact ⟨_, ⟨rfl, rfl⟩, qI⟩
theorem clone_x {L : List Asrt} {a : Option Addr} {c : Nat} {zs : List Int} (h : Rd L 1 (.slice a zs.length c) zs.length (zv zs)) (hl : zs.length ≤ 1000000) : Con Tryz.prog 59 [.slice a zs.length c] L (fun v M => ∃ a' c', v = .slice a' zs.length c' ∧ M = ownI a' c' zs :: L) := by
  cases ha : a.isNone with
  | true =>
    obtain rfl : a = none := by simpa using ha
    by_cases h0 : zs.length = 0
    · obtain rfl : zs = [] := List.eq_nil_of_length_eq_zero h0
      refine fn_x Tryz.func59 rfl rfl rfl Tryz.mixed (by kernel_rfl) ?_
      intro w0
      refine Y6 ?_
      refine Zhm 4 rfl (rfl) ?_
      refine V5 ?_
      refine rx1 (Zhc rfl (Zg7)) ?_
      exact ⟨_, ⟨none, 0, rfl, rfl⟩, (Imp.arr (N := L) qV).trans Imp.own_nil⟩
    · refine Con.get (fun w0 w F H => h.someAt (by omega) H) ?_
      rintro ⟨s1, s2, hh⟩
      cases hh
  | false =>
    refine fn_x Tryz.func59 rfl rfl rfl Tryz.mixed (by kernel_rfl) ?_
    intro w0
    refine Y6 ?_
    refine Zhn 4 rfl (ha) ?_
    refine Y3 ?_
    refine Zh7 (cs := #[]) (by omega) (by omega) rfl ?_; intro b5; refine Zgw ((Imp.arr (N := cl b5 #[] 3 :: L) qV).trans (Imp.own_mk (E := 3) (size := 1) (n := 0) (cap := 0) (xs := []) (by omega) (by omega) rfl rfl)) ?_
    refine Y1 ?_
    refine Zia rfl rfl qH (h.imp (Imp.arr qV)) qN (by omega) qS ?_; intro a3 c3
    refine V2 ?_
    rw [Nat.zero_add, List.nil_append]
    refine rx1 (Zhc rfl (Zg7)) ?_
    exact ⟨_, ⟨a3, c3, rfl, rfl⟩, qI⟩
theorem cloneB_x {L : List Asrt} {a : Option Addr} {c : Nat} {b : List Byte} (h : Rd L 1 (.slice a b.length c) b.length (b.map u8b)) (hl : b.length ≤ 1000000) : Con Tryz.prog 56 [.slice a b.length c] L (fun v M => ∃ a' c', v = .slice a' b.length c' ∧ M = own 5 1 (.slice a' b.length c') b.length (b.map u8b) :: L) := by
  cases ha : a.isNone with
  | true =>
    obtain rfl : a = none := by simpa using ha
    by_cases h0 : b.length = 0
    · obtain rfl : b = [] := List.eq_nil_of_length_eq_zero h0
      refine fn_x Tryz.func56 rfl rfl rfl Tryz.mixed (by kernel_rfl) ?_
      intro w0
      refine Y6 ?_
      refine Zhm 4 rfl (rfl) ?_
      refine V5 ?_
      refine rx1 (Zhc rfl (Zg7)) ?_
      exact ⟨_, ⟨none, 0, rfl, rfl⟩, (Imp.arr (N := L) qV).trans Imp.own_nil⟩
    · refine Con.get (fun w0 w F H => h.someAt (by omega) H) ?_
      rintro ⟨s1, s2, hh⟩
      cases hh
  | false =>
    refine fn_x Tryz.func56 rfl rfl rfl Tryz.mixed (by kernel_rfl) ?_
    intro w0
    refine Y6 ?_
    refine Zhn 4 rfl (ha) ?_
    refine Y3 ?_
    refine Zh7 (cs := #[]) (by omega) (by omega) rfl ?_; intro b5; refine Zgw ((Imp.arr (N := cl b5 #[] 5 :: L) qV).trans (Imp.own_mk (E := 5) (size := 1) (n := 0) (cap := 0) (xs := []) (by omega) (by omega) rfl rfl)) ?_
    refine Y1 ?_
    refine Zia rfl rfl qH (h.imp (Imp.arr qV)) qN (by omega) qS ?_; intro a3 c3
    refine V2 ?_
    rw [Nat.zero_add, List.nil_append]
    refine rx1 (Zhc rfl (Zg7)) ?_
    exact ⟨_, ⟨a3, c3, rfl, rfl⟩, qI⟩
end Go.Sl
