/- The engine: what a function's code does, over environments in the place of frames. -/
import Derived.Tactics
import Derived.Orders
import Derived.KernelRfl
namespace Go.Sl
open Go

abbrev Env := Nat → Value
def put (ρ : Env) (d : Option Nat) (v : Value) : Env :=
  match d with
  | some d => fun t => bif Nat.beq t d then v else ρ t
  | none => ρ
def ev (ρ : Env) : Operand → Value
  | .tmp t => ρ t
  | .const v => v
  | .global g => .pointer (some ⟨g, 0, none⟩)
  | .func f => .func (.func f) #[] #[]

structure Fr (n : Nat) (a : Act) (ρ : Env) : Prop where
  val : ∀ t, a.tmps.getD t undef = ρ t
  size : a.tmps.size = n
  nodef : a.defers = []

theorem Fr.eval {n : Nat} {a : Act} {ρ : Env} (h : Fr n a ρ) : a.eval = ev ρ := by
  funext x
  cases x <;> simp [Act.eval, ev]
  have := h.val
  simp at this
  exact this _

theorem beq_false {a b : Nat} (h : a ≠ b) : Nat.beq a b = false := by
  cases hb : Nat.beq a b with
  | false => rfl
  | true => exact absurd (Nat.eq_of_beq_eq_true hb) h
theorem beq_self (a : Nat) : Nat.beq a a = true := by
  induction a with
  | zero => rfl
  | succ n ih => exact ih

theorem put_same (ρ : Env) (d : Nat) (v : Value) : put ρ (some d) v d = v := by
  show (bif Nat.beq d d then v else ρ d) = v; rw [beq_self]; rfl
theorem put_ne (ρ : Env) (d t : Nat) (v : Value) (h : t ≠ d) : put ρ (some d) v t = ρ t := by simp [put, beq_false h]

def dfits (n : Nat) (o : Oper) : Bool := match o.dst with | some d => Nat.blt d n | none => true

theorem Fr.put {n : Nat} {a : Act} {ρ : Env} (h : Fr n a ρ) {d : Option Nat} (hd : ∀ k, d = some k → k < n) (v : Value) : Fr n (a.put d v) (put ρ d v) := by
  cases d with
  | none => exact h
  | some k =>
    have hk := hd k rfl
    refine ⟨fun t => ?_, by simp [Act.put, h.size], by simp [Act.put, h.nodef]⟩
    have hv := h.val t
    simp only [Act.put, Array.getD_eq_getD_getElem?] at hv ⊢
    by_cases e : t = k
    · subst e
      rw [put_same, Array.getElem?_setIfInBounds_self_of_lt (by rw [h.size]; exact hk)]
      rfl
    · rw [put_ne _ _ _ _ e, Array.getElem?_setIfInBounds_ne (Ne.symm e)]
      exact hv

def yl (ops : Array Oper) (ρ : Env) (j : Nat) : Option Bool :=
  match (ops[j]?).bind (·.dst) with
  | some d => (match ρ d with | .bool b => some b | _ => none)
  | none => none

theorem Fr.yielded {n : Nat} {a : Act} {ρ : Env} (h : Fr n a ρ) (ops : Array Oper) : yielded ops a.tmps = yl ops ρ := by
  funext j
  unfold Go.yielded yl
  cases hd : (ops[j]?).bind (·.dst) with
  | none => simp
  | some d =>
    have hv := h.val d
    simp only [Array.getD_eq_getD_getElem?] at hv
    simp only [Option.bind_some]
    cases ht : a.tmps[d]? with
    | none =>
      rw [ht] at hv
      simp only [Option.getD_none] at hv
      rw [← hv]
      rfl
    | some v =>
      rw [ht] at hv
      simp only [Option.getD_some] at hv
      rw [← hv]
      cases v <;> rfl

/-- A call's post: it returns. -/
def Ret (Q : Value → World → Prop) : Ending → World → Prop := fun e w => ∃ v, e = .returned v ∧ Q v w

def After (P : Program) (dst : Option Nat) (ρ : Env) (K : Env → World → Prop) : Result Next → Prop
  | .ok (.value v) w => K (put ρ dst v) w
  | .ok .skip w => K (put ρ dst undef) w
  | .ok (.enter f args) w => Calls P f args w (Ret fun v w' => K (put ρ dst v) w')
  | _ => False

def opW (P : Program) (o : Oper) (ρ : Env) (w : World) (K : Env → World → Prop) : Prop :=
  After P o.dst ρ K ((execOp (ev ρ) o).run P w)

theorem Ret.mono {Q Q' : Value → World → Prop} (h : ∀ v w, Q v w → Q' v w) : ∀ e w, Ret Q e w → Ret Q' e w :=
  fun _ _ ⟨v, e, q⟩ => ⟨v, e, h _ _ q⟩

theorem opW_mono {P : Program} {o : Oper} {ρ : Env} {w : World} {K K' : Env → World → Prop} (hk : ∀ v w, K (put ρ o.dst v) w → K' (put ρ o.dst v) w) (h : opW P o ρ w K) : opW P o ρ w K' := by
  unfold opW at *
  cases hr : (execOp (ev ρ) o).run P w with
  | halt x w' => rw [hr] at h; exact h.elim
  | ok x w' =>
    rw [hr] at h
    cases x <;> simp only [After] at h ⊢ <;> first
      | exact hk _ _ h
      | exact Calls.mono h (Ret.mono fun v w hq => hk _ _ hq)
      | exact h.elim

theorem opW_sound {P : Program} {o : Oper} {n : Nat} {a : Act} {ρ : Env} {w : World} {K : Env → World → Prop} {Q : Exit → Act → World → Prop}
    (hfr : Fr n a ρ) (hd : dfits n o = true) (h : opW P o ρ w K) : o.wp P a w (fun a' w' => ∃ ρ', Fr n a' ρ' ∧ K ρ' w') Q := by
  have hd' : ∀ k, o.dst = some k → k < n := by
    intro k hk
    simp only [dfits, hk] at hd
    exact Nat.le_of_ble_eq_true hd
  unfold opW at h
  unfold Oper.wp
  rw [hfr.eval]
  cases hr : (execOp (ev ρ) o).run P w with
  | halt x w' => rw [hr] at h; exact h.elim
  | ok x w' =>
    rw [hr] at h
    cases x <;> simp only [After] at h <;> simp only [Oper.upon] <;> first
      | exact ⟨_, hfr.put hd' _, h⟩
      | (refine Calls.mono h ?_
         rintro e w'' ⟨v, rfl, hk⟩
         exact ⟨_, hfr.put hd' _, hk⟩)
      | exact h.elim

def denI (P : Program) (ops : Array Oper) (o : Oper) (ρ : Env) (w : World) (K : Env → World → Prop) : Prop :=
  if Region.wanted o (yl ops ρ) = true then opW P o ρ w K else K (put ρ o.dst undef) w

def denOps (P : Program) (ops : Array Oper) : List Oper → Env → World → (Env → World → Prop) → Prop
  | [], ρ, w, K => K ρ w
  | o :: rest, ρ, w, K => denI P ops o ρ w (fun ρ' w' => denOps P ops rest ρ' w' K)

def denAny (P : Program) (ops : Array Oper) : Nat → Array Bool → Env → World → (Env → World → Prop) → Prop
  | 0, listed, ρ, w, K => Region.ready .any ops listed = [] ∧ K ρ w
  | f + 1, listed, ρ, w, K => (Region.ready .any ops listed = [] → K ρ w) ∧
      ∀ i ∈ Region.ready .any ops listed, ∀ o, ops[i]? = some o → denI P ops o ρ w (fun ρ' w' => denAny P ops f (listed.setIfInBounds i true) ρ' w' K)

def den (P : Program) : Code → Env → World → (Exit → Env → World → Prop) → Prop
  | .skip, ρ, w, Q => Q .normal ρ w
  | .region _ ops false, ρ, w, Q => denOps P ops ops.toList ρ w (Q .normal)
  | .region _ ops true, ρ, w, Q => denAny P ops ops.size (Array.replicate ops.size false) ρ { w with drawn := w.drawn + 1 } (Q .normal)
  | .seq a b, ρ, w, Q => den P a ρ w (fun e ρ' w' => match e with | .normal => den P b ρ' w' Q | e => Q e ρ' w')
  | .cond c x y, ρ, w, Q => ∃ t, ev ρ c = .bool t ∧ (t = true → den P x ρ w Q) ∧ (t = false → den P y ρ w Q)
  | .block id c, ρ, w, Q => den P c ρ w (fun e ρ' w' => match e with | .exit id' => if id' = id then Q .normal ρ' w' else Q (.exit id') ρ' w' | e => Q e ρ' w')
  | .loop c, ρ, w, Q => ∃ (I : Nat → Env → World → Prop) (m : Nat), I m ρ w ∧ ∀ m ρ' w', I m ρ' w' → den P c ρ' w' (fun e ρ'' w'' => match e with | .normal => ∃ m', m' < m ∧ I m' ρ'' w'' | e => Q e ρ'' w'')
  | .exit id, ρ, w, Q => Q (.exit id) ρ w
  | .label _, ρ, w, Q => Q .normal ρ w
  | .ret, ρ, w, Q => Q .ret ρ w
  | _, _, _, _ => False

def cfits (n : Nat) : Code → Bool
  | .region _ ops _ => ops.toList.all (dfits n)
  | .seq a b => cfits n a && cfits n b
  | .cond _ x y => cfits n x && cfits n y
  | .block _ c => cfits n c
  | .loop c => cfits n c
  | _ => true

def lift (n : Nat) (Q : Exit → Env → World → Prop) : Exit → Act → World → Prop := fun e a w => ∃ ρ, Fr n a ρ ∧ Q e ρ w

theorem denI_sound {P : Program} {ops : Array Oper} {o : Oper} {n : Nat} {a : Act} {ρ : Env} {w : World} {K : Env → World → Prop} {Q : Exit → Act → World → Prop}
    (hfr : Fr n a ρ) (hd : dfits n o = true) (h : denI P ops o ρ w K) :
    if Region.wanted o (yielded ops a.tmps) = true then o.wp P a w (fun a' w' => ∃ ρ', Fr n a' ρ' ∧ K ρ' w') Q else (fun a' w' => ∃ ρ', Fr n a' ρ' ∧ K ρ' w') (a.put o.dst undef) w := by
  unfold denI at h
  rw [hfr.yielded]
  split
  · rename_i hw; rw [if_pos hw] at h; exact opW_sound hfr hd h
  · rename_i hw; rw [if_neg hw] at h
    have hd' : ∀ k, o.dst = some k → k < n := by
      intro k hk
      simp only [dfits, hk] at hd
      exact Nat.le_of_ble_eq_true hd
    exact ⟨_, hfr.put hd' _, h⟩

theorem denOps_sound {P : Program} {ops : Array Oper} {n : Nat} {Q : Exit → Env → World → Prop} : ∀ (l : List Oper) (ρ : Env) (w : World) (a : Act), Fr n a ρ → l.all (dfits n) = true →
    denOps P ops l ρ w (Q .normal) → wpList P ops (lift n Q) l a w
  | [], ρ, w, a, hfr, _, h => ⟨ρ, hfr, h⟩
  | o :: rest, ρ, w, a, hfr, hd, h => by
    simp only [List.all_cons, Bool.and_eq_true] at hd
    refine wpList_step fun K hK => ?_
    have := denI_sound (Q := lift n Q) hfr hd.1 (show denI P ops o ρ w _ from h)
    split at this
    · rename_i hw; rw [if_pos hw]
      exact Oper.wp_mono (fun a' w' ⟨ρ', hfr', hk⟩ => hK _ _ (denOps_sound rest ρ' w' a' hfr' hd.2 hk)) this
    · rename_i hw; rw [if_neg hw]
      obtain ⟨ρ', hfr', hk⟩ := this
      exact hK _ _ (denOps_sound rest ρ' w _ hfr' hd.2 hk)

theorem denAny_sound {P : Program} {ops : Array Oper} {n : Nat} {Q : Exit → Env → World → Prop} (hd : ops.toList.all (dfits n) = true) : ∀ (f : Nat) (listed : Array Bool) (ρ : Env) (w : World) (a : Act), Fr n a ρ →
    denAny P ops f listed ρ w (Q .normal) → wpAny P .any ops (lift n Q) f listed a w
  | 0, listed, ρ, w, a, hfr, h => ⟨h.1, ρ, hfr, h.2⟩
  | f + 1, listed, ρ, w, a, hfr, h => by
    refine ⟨fun hr => ⟨ρ, hfr, h.1 hr⟩, fun i hi => ?_⟩
    unfold wpOp
    cases ho : ops[i]? with
    | none =>
      simp only [Region.ready, List.mem_filter, List.mem_range] at hi
      simp at ho
      omega
    | some o =>
      have hdo : dfits n o = true := by
        have := List.all_eq_true.1 hd o
        apply this
        rw [Array.mem_toList_iff]
        exact Array.mem_of_getElem? ho
      have := denI_sound (Q := lift n Q) hfr hdo (h.2 i hi o ho)
      simp only []
      split at this
      · rename_i hw; rw [if_pos hw]
        exact .inl (Oper.wp_mono (fun a' w' ⟨ρ', hfr', hk⟩ => denAny_sound hd f _ ρ' w' a' hfr' hk) this)
      · rename_i hw; rw [if_neg hw]
        obtain ⟨ρ', hfr', hk⟩ := this
        exact denAny_sound hd f _ ρ' w _ hfr' hk

theorem wp_loopN {P : Program} {Q : Exit → Act → World → Prop} {c : Code} (I : Nat → Act → World → Prop) {m : Nat} {a : Act} {w : World} (h₀ : I m a w)
    (round : ∀ m a w, I m a w → c.wp P (fun e a' w' => match e with | .normal => ∃ m', m' < m ∧ I m' a' w' | e => Q e a' w') a w) : (Code.loop c).wp P Q a w := by
  intro b k cs
  have key : ∀ n a w, I n a w →
      ∃ e a' w', Q e a' w' ∧ Arrives P (lone (b.at a (.code c :: .inLoop c :: k)) cs w) b k cs e a' w' := by
    intro n
    induction n using Nat.strongRecOn with
    | _ n ih =>
      intro a w hI
      obtain ⟨e, a₁, w₁, hq, harr⟩ := round n a w hI b (.inLoop c :: k) cs
      cases e with
      | normal =>
        obtain ⟨m', hlt, hI₁⟩ := hq
        obtain ⟨e₂, a₂, w₂, hq₂, harr₂⟩ := ih m' hlt a₁ w₁ hI₁
        exact ⟨e₂, a₂, w₂, hq₂, .of_steps (Steps.trans harr (.one step_inLoop)) harr₂⟩
      | exit id => exact ⟨_, a₁, w₁, hq, .pass (x := .inLoop c) rfl (fun _ _ => .inl (by simp)) harr⟩
      | goto l => exact ⟨_, a₁, w₁, hq, .pass (x := .inLoop c) rfl (fun _ _ => .inl (by simp)) harr⟩
      | ret => exact ⟨_, a₁, w₁, hq, .pass (x := .inLoop c) rfl (fun _ _ => .inl (by simp)) harr⟩
      | panic ch => exact ⟨_, a₁, w₁, hq, .pass (x := .inLoop c) rfl (fun _ _ => .inl (by simp)) harr⟩
      | outgrown => exact ⟨_, a₁, w₁, hq, .pass (x := .inLoop c) rfl (fun _ _ => .inl (by simp)) harr⟩
  obtain ⟨e, a', w', hq, harr⟩ := key _ a w h₀
  exact ⟨e, a', w', hq, .of_steps (.one step_loop) harr⟩

theorem den_sound {P : Program} (hm : P.follows .mixedOrders = true) {n : Nat} : ∀ (c : Code) (ρ : Env) (w : World) (Q : Exit → Env → World → Prop) (a : Act), Fr n a ρ → cfits n c = true →
    den P c ρ w Q → c.wp P (lift n Q) a w := by
  intro c
  induction c with
  | skip => exact fun ρ w Q a hfr _ h => wp_skip ⟨ρ, hfr, h⟩
  | region id ops b =>
    intro ρ w Q a hfr hd h
    cases b with
    | false => exact wp_region_list (denOps_sound _ _ _ _ hfr hd h)
    | true => exact wp_region_any hm (denAny_sound hd _ _ _ _ _ hfr h)
  | seq x y ihx ihy =>
    intro ρ w Q a hfr hd h
    simp only [cfits, Bool.and_eq_true] at hd
    refine wp_seq (wp_mono (ihx ρ w _ a hfr hd.1 h) ?_)
    rintro e a' w' ⟨ρ', hfr', hq⟩
    cases e <;> first
      | exact ihy ρ' w' Q a' hfr' hd.2 hq
      | exact ⟨ρ', hfr', hq⟩
  | cond c x y ihx ihy =>
    intro ρ w Q a hfr hd h
    simp only [cfits, Bool.and_eq_true] at hd
    obtain ⟨t, ht, h1, h2⟩ := h
    exact wp_cond_split (t := t) (by rw [hfr.eval]; exact ht) (fun e => ihx ρ w Q a hfr hd.1 (h1 e)) (fun e => ihy ρ w Q a hfr hd.2 (h2 e))
  | block id c ih =>
    intro ρ w Q a hfr hd h
    refine wp_block (wp_mono (ih ρ w _ a hfr hd h) ?_)
    rintro e a' w' ⟨ρ', hfr', hq⟩
    cases e with
    | exit id' =>
      simp only [Exit.inBlock]
      split
      · rename_i e; subst e; simp only [if_true] at hq; exact ⟨ρ', hfr', hq⟩
      · rename_i e; simp only [if_neg e] at hq; exact ⟨ρ', hfr', hq⟩
    | _ => exact ⟨ρ', hfr', hq⟩
  | loop c ih =>
    intro ρ w Q a hfr hd h
    obtain ⟨I, m, h0, hround⟩ := h
    refine wp_loopN (fun m a w => ∃ ρ, Fr n a ρ ∧ I m ρ w) (m := m) ⟨ρ, hfr, h0⟩ ?_
    rintro m a w ⟨ρ1, hfr1, hI1⟩
    refine wp_mono (ih ρ1 w _ a hfr1 hd (hround _ _ _ hI1)) ?_
    rintro e a' w' ⟨ρ', hfr', hq⟩
    cases e with
    | normal =>
      obtain ⟨m', hlt, hI'⟩ := hq
      exact ⟨m', hlt, ρ', hfr', hI'⟩
    | _ => exact ⟨ρ', hfr', hq⟩
  | rangeFunc => intro ρ w Q a hfr _ h; exact h.elim
  | exit id => exact fun ρ w Q a hfr _ h => wp_exit ⟨ρ, hfr, h⟩
  | scope => intro ρ w Q a hfr _ h; exact h.elim
  | label l => exact fun ρ w Q a hfr _ h => wp_label ⟨ρ, hfr, h⟩
  | goto => intro ρ w Q a hfr _ h; exact h.elim
  | ret => exact fun ρ w Q a hfr _ h => wp_ret ⟨ρ, hfr, h⟩
  | refuse => intro ρ w Q a hfr _ h; exact h.elim
end Go.Sl
