/- The engine, second part: what a piece of code leaves alone; loops; joins; drawn orders; calls. -/
import Derived.Test.YtiebmodokjaokabEngA
set_option linter.unusedVariables false
set_option linter.unusedSimpArgs false
namespace Go.Sl
open Go

theorem denI_mono {P : Program} {ops : Array Oper} {o : Oper} {ρ : Env} {w : World} {K K' : Env → World → Prop} (hk : ∀ v w, K (put ρ o.dst v) w → K' (put ρ o.dst v) w) (h : denI P ops o ρ w K) : denI P ops o ρ w K' := by
  unfold denI at *
  split
  · rename_i hw; rw [if_pos hw] at h; exact opW_mono hk h
  · rename_i hw; rw [if_neg hw] at h; exact hk _ _ h

def inMods (t : Nat) : List (Nat × Nat) → Bool
  | [] => false
  | (a, b) :: r => (Nat.ble a t && Nat.ble t b) || inMods t r
def dIn (mods : List (Nat × Nat)) (o : Oper) : Bool := match o.dst with | some d => inMods d mods | none => true
def cIn (mods : List (Nat × Nat)) : Code → Bool
  | .region _ ops _ => ops.toList.all (dIn mods)
  | .seq a b => cIn mods a && cIn mods b
  | .cond _ x y => cIn mods x && cIn mods y
  | .block _ c => cIn mods c
  | .loop c => cIn mods c
  | _ => true

def Agree (mods : List (Nat × Nat)) (ρ ρ' : Env) : Prop := ∀ t, inMods t mods = false → ρ' t = ρ t
theorem Agree.refl (mods : List (Nat × Nat)) (ρ : Env) : Agree mods ρ ρ := fun _ _ => rfl
theorem Agree.trans {mods : List (Nat × Nat)} {ρ ρ' ρ'' : Env} (h : Agree mods ρ ρ') (h' : Agree mods ρ' ρ'') : Agree mods ρ ρ'' := fun t ht => (h' t ht).trans (h t ht)
theorem agree_put {mods : List (Nat × Nat)} {ρ : Env} {o : Oper} (h : dIn mods o = true) (v : Value) : Agree mods ρ (put ρ o.dst v) := by
  intro t ht
  cases hd : o.dst with
  | none => rfl
  | some d =>
    simp only [dIn, hd] at h
    exact put_ne _ _ _ _ (fun e => by subst e; rw [h] at ht; cases ht)

theorem denOps_agree {P : Program} {ops : Array Oper} {mods : List (Nat × Nat)} : ∀ (l : List Oper) (ρ : Env) (w : World) (K : Env → World → Prop), l.all (dIn mods) = true → denOps P ops l ρ w K → denOps P ops l ρ w (fun ρ' w' => Agree mods ρ ρ' ∧ K ρ' w')
  | [], ρ, _, _, _, h => ⟨Agree.refl _ _, h⟩
  | o :: rest, ρ, w, K, hd, h => by
    simp only [List.all_cons, Bool.and_eq_true] at hd
    refine denI_mono (fun v w' hk => ?_) (show denI P ops o ρ w _ from h)
    have hk := denOps_agree rest _ w' K hd.2 hk
    exact denOps_mono' rest _ w' (fun ρ' w'' ⟨ha, hq⟩ => ⟨(agree_put hd.1 v).trans ha, hq⟩) hk
where
  denOps_mono' {K K' : Env → World → Prop} (l : List Oper) (ρ : Env) (w : World) (hk : ∀ ρ w, K ρ w → K' ρ w) (h : denOps P ops l ρ w K) : denOps P ops l ρ w K' := by
    induction l generalizing ρ w with
    | nil => exact hk _ _ h
    | cons o rest ih => exact denI_mono (fun v w' h => ih _ _ h) (show denI P ops o ρ w _ from h)

theorem denOps_mono {P : Program} {ops : Array Oper} {K K' : Env → World → Prop} (l : List Oper) (ρ : Env) (w : World) (hk : ∀ ρ w, K ρ w → K' ρ w) (h : denOps P ops l ρ w K) : denOps P ops l ρ w K' := by
  induction l generalizing ρ w with
  | nil => exact hk _ _ h
  | cons o rest ih => exact denI_mono (fun v w' h => ih _ _ h) (show denI P ops o ρ w _ from h)

theorem denAny_mono {P : Program} {ops : Array Oper} {K K' : Env → World → Prop} (hk : ∀ ρ w, K ρ w → K' ρ w) : ∀ (f : Nat) (listed : Array Bool) (ρ : Env) (w : World), denAny P ops f listed ρ w K → denAny P ops f listed ρ w K'
  | 0, _, _, _, h => ⟨h.1, hk _ _ h.2⟩
  | f + 1, listed, ρ, w, h => ⟨fun e => hk _ _ (h.1 e), fun i hi o ho => denI_mono (fun v w' h => denAny_mono hk f _ _ _ h) (h.2 i hi o ho)⟩

theorem denAny_agree {P : Program} {ops : Array Oper} {mods : List (Nat × Nat)} (hd : ops.toList.all (dIn mods) = true) : ∀ (f : Nat) (listed : Array Bool) (ρ : Env) (w : World) (K : Env → World → Prop), denAny P ops f listed ρ w K → denAny P ops f listed ρ w (fun ρ' w' => Agree mods ρ ρ' ∧ K ρ' w')
  | 0, _, _, _, _, h => ⟨h.1, Agree.refl _ _, h.2⟩
  | f + 1, listed, ρ, w, K, h => by
    refine ⟨fun e => ⟨Agree.refl _ _, h.1 e⟩, fun i hi o ho => denI_mono (fun v w' hk => ?_) (h.2 i hi o ho)⟩
    have hdo : dIn mods o = true := List.all_eq_true.1 hd o (by rw [Array.mem_toList_iff]; exact Array.mem_of_getElem? ho)
    exact denAny_mono (fun ρ' w'' ⟨ha, hq⟩ => ⟨(agree_put hdo v).trans ha, hq⟩) f _ _ _ (denAny_agree hd f _ _ w' K hk)

theorem den_mono {P : Program} : ∀ (c : Code) (ρ : Env) (w : World) {Q Q' : Exit → Env → World → Prop}, (∀ e ρ w, Q e ρ w → Q' e ρ w) → den P c ρ w Q → den P c ρ w Q' := by
  intro c
  induction c with
  | skip => exact fun ρ w _ _ hq h => hq _ _ _ h
  | region id ops b =>
    intro ρ w Q Q' hq h
    cases b with
    | false => exact denOps_mono _ _ _ (hq _) h
    | true => exact denAny_mono (hq _) _ _ _ _ h
  | seq x y ihx ihy =>
    intro ρ w Q Q' hq h
    refine ihx ρ w ?_ h
    intro e ρ' w' he
    cases e <;> first
      | exact ihy ρ' w' hq he
      | exact hq _ _ _ he
  | cond c x y ihx ihy =>
    intro ρ w Q Q' hq h
    obtain ⟨t, ht, h1, h2⟩ := h
    exact ⟨t, ht, fun e => ihx ρ w hq (h1 e), fun e => ihy ρ w hq (h2 e)⟩
  | block id c ih =>
    intro ρ w Q Q' hq h
    refine ih ρ w ?_ h
    intro e ρ' w' he
    cases e with
    | exit id' =>
      simp only [] at he ⊢
      split
      · rename_i e; subst e; simp only [if_true] at he; exact hq _ _ _ he
      · rename_i e; simp only [if_neg e] at he; exact hq _ _ _ he
    | _ => exact hq _ _ _ he
  | loop c ih =>
    intro ρ w Q Q' hq h
    obtain ⟨I, m, h0, hr⟩ := h
    refine ⟨I, m, h0, fun m ρ' w' hI => ih ρ' w' ?_ (hr m ρ' w' hI)⟩
    intro e ρ'' w'' he
    cases e <;> first
      | exact he
      | exact hq _ _ _ he
  | exit id => exact fun ρ w _ _ hq h => hq _ _ _ h
  | label l => exact fun ρ w _ _ hq h => hq _ _ _ h
  | ret => exact fun ρ w _ _ hq h => hq _ _ _ h
  | rangeFunc => intro ρ w _ _ _ h; exact h.elim
  | scope => intro ρ w _ _ _ h; exact h.elim
  | goto => intro ρ w _ _ _ h; exact h.elim
  | refuse => intro ρ w _ _ _ h; exact h.elim

theorem den_agree {P : Program} {mods : List (Nat × Nat)} : ∀ (c : Code) (ρ : Env) (w : World) {Q : Exit → Env → World → Prop}, cIn mods c = true → den P c ρ w Q → den P c ρ w (fun e ρ' w' => Agree mods ρ ρ' ∧ Q e ρ' w') := by
  intro c
  induction c with
  | skip => exact fun ρ w _ _ h => ⟨Agree.refl _ _, h⟩
  | region id ops b =>
    intro ρ w Q hd h
    cases b with
    | false => exact denOps_agree _ _ _ _ hd h
    | true => exact denAny_agree hd _ _ _ _ _ h
  | seq x y ihx ihy =>
    intro ρ w Q hd h
    simp only [cIn, Bool.and_eq_true] at hd
    refine den_mono x ρ w ?_ (ihx ρ w hd.1 h)
    intro e ρ' w' ⟨ha, he⟩
    cases e <;> first
      | exact den_mono y ρ' w' (fun e ρ'' w'' ⟨ha', hq⟩ => ⟨ha.trans ha', hq⟩) (ihy ρ' w' hd.2 he)
      | exact ⟨ha, he⟩
  | cond c x y ihx ihy =>
    intro ρ w Q hd h
    simp only [cIn, Bool.and_eq_true] at hd
    obtain ⟨t, ht, h1, h2⟩ := h
    exact ⟨t, ht, fun e => ihx ρ w hd.1 (h1 e), fun e => ihy ρ w hd.2 (h2 e)⟩
  | block id c ih =>
    intro ρ w Q hd h
    refine den_mono c ρ w ?_ (ih ρ w hd h)
    intro e ρ' w' ⟨ha, he⟩
    cases e with
    | exit id' =>
      simp only [] at he ⊢
      split
      · rename_i e; subst e; simp only [if_true] at he; exact ⟨ha, he⟩
      · rename_i e; simp only [if_neg e] at he; exact ⟨ha, he⟩
    | _ => exact ⟨ha, he⟩
  | loop c ih =>
    intro ρ w Q hd h
    obtain ⟨I, m, h0, hr⟩ := h
    refine ⟨fun m ρ' w' => Agree mods ρ ρ' ∧ I m ρ' w', m, ⟨Agree.refl _ _, h0⟩, fun m ρ' w' hI => ?_⟩
    refine den_mono c ρ' w' ?_ (ih ρ' w' hd (hr m ρ' w' hI.2))
    intro e ρ'' w'' ⟨ha, he⟩
    cases e <;> first
      | exact (let ⟨m', hlt, h⟩ := he; ⟨m', hlt, hI.1.trans ha, h⟩)
      | exact ⟨hI.1.trans ha, he⟩
  | exit id => exact fun ρ w _ _ h => ⟨Agree.refl _ _, h⟩
  | label l => exact fun ρ w _ _ h => ⟨Agree.refl _ _, h⟩
  | ret => exact fun ρ w _ _ h => ⟨Agree.refl _ _, h⟩
  | rangeFunc => intro ρ w _ _ h; exact h.elim
  | scope => intro ρ w _ _ h; exact h.elim
  | goto => intro ρ w _ _ h; exact h.elim
  | refuse => intro ρ w _ _ h; exact h.elim

/-- The slots of a list hold what it says; the other slots of the ranges hold whatever u says; the rest as before. -/
def over (l : List (Nat × Value)) (ρ : Env) : Env := fun t =>
  match l with
  | [] => ρ t
  | (d, v) :: r => bif Nat.beq t d then v else over r ρ t
def patch (mods : List (Nat × Nat)) (u ρ : Env) : Env := fun t => bif inMods t mods then u t else ρ t
def Fits (ρ : Env) : List (Nat × Value) → Prop
  | [] => True
  | (d, v) :: r => ρ d = v ∧ Fits ρ r

theorem over_fits {ρ : Env} {l : List (Nat × Value)} (h : Fits ρ l) : over l ρ = ρ := by
  funext t
  induction l with
  | nil => rfl
  | cons p r ih =>
    obtain ⟨d, v⟩ := p
    show (bif Nat.beq t d then v else over r ρ t) = ρ t
    cases hb : Nat.beq t d with
    | false => exact ih h.2
    | true => have := Nat.eq_of_beq_eq_true hb; subst this; exact h.1.symm
theorem patch_agree {mods : List (Nat × Nat)} {ρ ρ' : Env} (h : Agree mods ρ ρ') : patch mods ρ' ρ = ρ' := by
  funext t
  show (bif inMods t mods then ρ' t else ρ t) = ρ' t
  cases hb : inMods t mods with
  | false => exact (h t hb).symm
  | true => rfl

theorem den_loop {P : Program} {body : Code} {ρ : Env} {w : World} {Q : Exit → Env → World → Prop} {S : Type} (mods : List (Nat × Nat)) (hm : cIn mods body = true)
    (I : S → World → Prop) (U : S → List (Nat × Value)) (μ : S → Nat) (s0 : S) (h0 : I s0 w) (hf : Fits ρ (U s0))
    (round : ∀ s w' u, I s w' → den P body (over (U s) (patch mods u ρ)) w' (fun e ρ'' w'' => match e with | .normal => ∃ s', μ s' < μ s ∧ I s' w'' ∧ Fits ρ'' (U s') | e => Q e ρ'' w'')) :
    den P (.loop body) ρ w Q := by
  refine ⟨fun m ρ' w' => ∃ s, μ s = m ∧ I s w' ∧ Fits ρ' (U s) ∧ Agree mods ρ ρ', μ s0, ⟨s0, rfl, h0, hf, Agree.refl _ _⟩, ?_⟩
  rintro m ρ' w' ⟨s, rfl, hI, hfit, hag⟩
  have hr := round s w' ρ' hI
  rw [patch_agree hag, over_fits hfit] at hr
  refine den_mono body ρ' w' ?_ (den_agree (mods := mods) body ρ' w' hm hr)
  intro e ρ'' w'' ⟨ha, he⟩
  cases e <;> first
    | exact (let ⟨s', hlt, hI', hf'⟩ := he; ⟨μ s', hlt, s', rfl, hI', hf', hag.trans ha⟩)
    | exact he

theorem den_cut {P : Program} {x y : Code} {ρ : Env} {w : World} {Q : Exit → Env → World → Prop} {S : Type} (mods : List (Nat × Nat)) (hm : cIn mods x = true)
    (I : S → World → Prop) (U : S → List (Nat × Value))
    (h : den P x ρ w (fun e ρ' w' => match e with | .normal => ∃ s, I s w' ∧ Fits ρ' (U s) | e => Q e ρ' w'))
    (k : ∀ s w' u, I s w' → den P y (over (U s) (patch mods u ρ)) w' Q) : den P (.seq x y) ρ w Q := by
  show den P x ρ w _
  refine den_mono x ρ w ?_ (den_agree (mods := mods) x ρ w hm h)
  intro e ρ' w' ⟨ha, he⟩
  cases e <;> first
    | (obtain ⟨s, hI, hf⟩ := he
       have hk := k s w' ρ' hI
       rw [patch_agree ha, over_fits hf] at hk
       exact hk)
    | exact he

theorem den_seq {P : Program} {x y : Code} {ρ : Env} {w : World} {Q : Exit → Env → World → Prop} (h : den P x ρ w (fun e ρ' w' => match e with | .normal => den P y ρ' w' Q | e => Q e ρ' w')) : den P (.seq x y) ρ w Q := h
theorem den_skip {P : Program} {ρ : Env} {w : World} {Q : Exit → Env → World → Prop} (h : Q .normal ρ w) : den P .skip ρ w Q := h
theorem den_region {P : Program} {id : Nat} {ops : Array Oper} {ρ : Env} {w : World} {Q : Exit → Env → World → Prop} (h : denOps P ops ops.toList ρ w (Q .normal)) : den P (.region id ops false) ρ w Q := h
theorem den_regionL {P : Program} {id : Nat} {l : List Oper} {ρ : Env} {w : World} {Q : Exit → Env → World → Prop} (h : denOps P l.toArray l ρ w (Q .normal)) : den P (.region id l.toArray false) ρ w Q := h
theorem den_block {P : Program} {id : Nat} {c : Code} {ρ : Env} {w : World} {Q : Exit → Env → World → Prop} (h : den P c ρ w (fun e ρ' w' => match e with | .exit id' => if id' = id then Q .normal ρ' w' else Q (.exit id') ρ' w' | e => Q e ρ' w')) : den P (.block id c) ρ w Q := h
theorem den_exit {P : Program} {id : Nat} {ρ : Env} {w : World} {Q : Exit → Env → World → Prop} (h : Q (.exit id) ρ w) : den P (.exit id) ρ w Q := h
theorem den_label {P : Program} {id : Nat} {ρ : Env} {w : World} {Q : Exit → Env → World → Prop} (h : Q .normal ρ w) : den P (.label id) ρ w Q := h
theorem den_ret {P : Program} {ρ : Env} {w : World} {Q : Exit → Env → World → Prop} (h : Q .ret ρ w) : den P .ret ρ w Q := h
theorem den_cond {P : Program} {c : Operand} {x y : Code} {ρ : Env} {w : World} {Q : Exit → Env → World → Prop} {t : Bool} (ht : ev ρ c = .bool t) (h1 : t = true → den P x ρ w Q) (h2 : t = false → den P y ρ w Q) : den P (.cond c x y) ρ w Q := ⟨t, ht, h1, h2⟩
theorem den_cond_t {P : Program} {c : Operand} {x y : Code} {ρ : Env} {w : World} {Q : Exit → Env → World → Prop} (ht : ev ρ c = .bool true) (h1 : den P x ρ w Q) : den P (.cond c x y) ρ w Q := ⟨true, ht, (fun _ => h1), (fun h => Bool.noConfusion h)⟩
theorem den_cond_f {P : Program} {c : Operand} {x y : Code} {ρ : Env} {w : World} {Q : Exit → Env → World → Prop} (ht : ev ρ c = .bool false) (h1 : den P y ρ w Q) : den P (.cond c x y) ρ w Q := ⟨false, ht, (fun h => Bool.noConfusion h), (fun _ => h1)⟩
/-- Propositions for a test. -/
theorem den_cond_p {P : Program} {c : Operand} {x y : Code} {ρ : Env} {w : World} {Q : Exit → Env → World → Prop} {p : Prop} [Decidable p] (ht : ev ρ c = .bool (decide p)) (h1 : p → den P x ρ w Q) (h2 : ¬ p → den P y ρ w Q) : den P (.cond c x y) ρ w Q :=
  ⟨_, ht, fun h => h1 (of_decide_eq_true h), fun h => h2 (of_decide_eq_false h)⟩

def nth : List Value → Nat → Value
  | [], _ => undef
  | v :: _, 0 => v
  | _ :: l, n + 1 => nth l n
theorem nth_eq (l : List Value) (t : Nat) : nth l t = l.getD t undef := by
  induction l generalizing t with
  | nil => simp [nth]
  | cons v l ih => cases t <;> simp [nth, ih]

def resE (P : Program) (ρ : Env) (w : World) : List ResultVar → List Value → Prop
  | [], vs => vs = []
  | .tmp t :: r, vs => ∃ vs', vs = ρ t :: vs' ∧ resE P ρ w r vs'
  | .cell a t :: r, vs => ∃ ad v vs', ρ a = .pointer (some ad) ∧ (loadVar t ad).run P w = .ok v w ∧ vs = v :: vs' ∧ resE P ρ w r vs'
def packV : List Value → Value
  | [v] => v
  | vs => .tuple vs.toArray


theorem run_bind {α β : Type} (P : Program) (x : Sem α) (f : α → Sem β) (w w' : World) (a : α) (h : x.run P w = .ok a w') : (x >>= f).run P w = (f a).run P w' := by
  rw [Sem.run_bind, h]
  rfl

def getR (tmps : Array Value) : ResultVar → Sem Value
  | .tmp t => pure (tmps.getD t undef)
  | .cell a t => do loadVar t (← asAddr (tmps.getD a undef))
theorem getR_run {P : Program} {ρ : Env} {w : World} {tmps : Array Value} (hv : ∀ t, tmps.getD t undef = ρ t) : ∀ {r : ResultVar} {l : List ResultVar} {vs : List Value}, resE P ρ w (r :: l) vs → ∃ v vs', vs = v :: vs' ∧ (getR tmps r).run P w = .ok v w ∧ resE P ρ w l vs'
  | .tmp t, l, vs, h => by
    obtain ⟨vs', rfl, h⟩ := h
    exact ⟨_, _, rfl, by show Result.ok (tmps.getD t undef) w = _; rw [hv], h⟩
  | .cell a t, l, vs, h => by
    obtain ⟨ad, v, vs', h1, h2, rfl, h⟩ := h
    refine ⟨_, _, rfl, ?_, h⟩
    show ((asAddr (tmps.getD a undef)) >>= fun x => loadVar t x).run P w = _
    rw [hv, h1]
    exact h2

theorem mapM_run {P : Program} {ρ : Env} {w : World} {tmps : Array Value} (hv : ∀ t, tmps.getD t undef = ρ t) : ∀ (l : List ResultVar) (vs : List Value), resE P ρ w l vs → (l.mapM (getR tmps)).run P w = .ok vs w
  | [], vs, h => by subst h; rfl
  | r :: l, vs, h => by
    obtain ⟨v, vs', rfl, h1, h2⟩ := getR_run hv h
    rw [List.mapM_cons, run_bind P _ _ w w v h1, run_bind P _ _ w w vs' (mapM_run hv l vs' h2)]
    rfl

theorem pack_run {P : Program} {w : World} (vs : List Value) : ((pure (if h : vs.toArray.size = 1 then vs.toArray[0] else .tuple vs.toArray) : Sem Value)).run P w = .ok (packV vs) w := by
  match vs with
  | [] => rfl
  | [v] => rfl
  | v :: v' :: l =>
    show Result.ok _ w = _
    rw [dif_neg (by simp)]
    rfl

theorem results_run {P : Program} {fn : Func} {ρ : Env} {w : World} {a : Act} {n : Nat} (hfr : Fr n a ρ) {vs : List Value} (h : resE P ρ w fn.results.toList vs) :
    (results fn a.tmps).run P w = .ok (packV vs) w := by
  have hm := mapM_run hfr.val _ _ h
  have he : fn.results.mapM (getR a.tmps) = List.toArray <$> fn.results.toList.mapM (getR a.tmps) := by
    rw [Array.mapM_eq_mapM_toList]
  unfold results
  show (fn.results.mapM (getR a.tmps) >>= fun vs => pure (if h : vs.size = 1 then vs[0] else .tuple vs)).run P w = _
  rw [he, map_eq_pure_bind, bind_assoc, run_bind P _ _ w w vs hm]
  simp only [pure_bind]
  exact pack_run vs

def retK (P : Program) (rs : List ResultVar) (R : Value → World → Prop) : Exit → Env → World → Prop := fun e ρ w =>
  match e with
  | .normal | .ret => ∃ vs, resE P ρ w rs vs ∧ R (packV vs) w
  | _ => False

theorem calls_den {P : Program} {f : FuncId} {fn : Func} {c : Code} {rs : List ResultVar} {n : Nat} (args : List Value) {w : World} {R : Value → World → Prop}
    (hf : P.funcs[f]? = some fn) (hb : fn.body = some c) (hr : fn.results.toList = rs) (hn : fn.ntmps = n) (hm : P.follows .mixedOrders = true) (hfit : (Nat.ble args.length n && cfits n c) = true)
    (h : den P c (nth args) w (retK P rs R)) : Calls P f args.toArray w (Ret R) := by
  simp only [Bool.and_eq_true] at hfit
  have hlen : args.length ≤ n := Nat.le_of_ble_eq_true hfit.1
  refine calls_of_wp hf hb (wp_mono (den_sound hm (n := n) c _ w _ _ ?_ hfit.2 h) ?_)
  · refine ⟨fun t => ?_, ?_, rfl⟩
    · rw [nth_eq]
      simp only [Array.getD_eq_getD_getElem?, List.getD_eq_getElem?_getD]
      by_cases ht : t < args.length
      · rw [Array.getElem?_append_left (by simpa using ht)]
        simp
      · rw [Array.getElem?_append_right (by simpa using ht), List.getElem?_eq_none (by omega)]
        simp only [Array.getElem?_replicate]
        split <;> rfl
    · simp [hn]; omega
  · rintro e a' w' ⟨ρ', hfr, hq⟩
    cases e <;> simp only [retK] at hq <;> first
      | (obtain ⟨vs, hvs, hR⟩ := hq
         rw [← hr] at hvs
         exact ⟨hfr.nodef, _, results_run hfr hvs, _, rfl, hR⟩)
      | exact hq.elim
end Go.Sl
