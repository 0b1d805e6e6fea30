/- Parts of the proof. -/
import Derived.Tactics
import Derived.Orders
import Derived.ScopeJumps
import Derived.KernelRfl
import Derived.OrdersIn
import Derived.TacticsIn
import Derived.IntWalk
import Derived.Laws.MakeOwn
import Derived.Laws.Append
import Derived.ProofKit
import Derived.OpenShut
import Derived.SizedLaws
import Derived.DeepKeys
set_option maxHeartbeats 4000000
set_option maxRecDepth 10000
set_option linter.unusedVariables false
set_option linter.unusedSimpArgs false
namespace Go.Sl
open Go

abbrev Env := Nat → Value
def put (ρ : Env) (d : Option Nat) (v : Value) : Env :=
  match d with
  | some d => fun t => bif Nat.beq t d then v else ρ t
  | none => ρ
def ev (ρ : Env) : Operand → Value
  | .tmp t => ρ t
  | .const v => v
  | .global g => .pointer (some ⟨g, 0, none⟩)
  | .func f => .func (.func f) #[] #[]

structure Fr (ds : List Deferred) (n : Nat) (a : Act) (ρ : Env) : Prop where
  val : ∀ t, a.tmps.getD t undef = ρ t
  size : a.tmps.size = n
  defs : a.defers = ds

theorem Fr.eval {ds : List Deferred} {n : Nat} {a : Act} {ρ : Env} (h : Fr ds n a ρ) : a.eval = ev ρ := by
  funext x
  cases x <;> simp [Act.eval, ev]
  have := h.val
  simp at this
  exact this _

theorem beq_false {a b : Nat} (h : a ≠ b) : Nat.beq a b = false := by
  cases hb : Nat.beq a b with
  | false => rfl
  | true => exact absurd (Nat.eq_of_beq_eq_true hb) h
theorem beq_self (a : Nat) : Nat.beq a a = true := by
  induction a with
  | zero => rfl
  | succ n ih => exact ih

theorem put_same (ρ : Env) (d : Nat) (v : Value) : put ρ (some d) v d = v := by
  show (bif Nat.beq d d then v else ρ d) = v; rw [beq_self]; rfl
theorem put_ne (ρ : Env) (d t : Nat) (v : Value) (h : t ≠ d) : put ρ (some d) v t = ρ t := by simp [put, beq_false h]

def dfits (n : Nat) (o : Oper) : Bool := match o.dst with|some d => Nat.blt d n|none => true

theorem Fr.put {ds : List Deferred} {n : Nat} {a : Act} {ρ : Env} (h : Fr ds n a ρ) {d : Option Nat} (hd : ∀ k, d = some k → k < n) (v : Value) : Fr ds n (a.put d v) (put ρ d v) := by
  cases d with
  | none => exact h
  | some k =>
    have hk := hd k rfl
    refine ⟨fun t => ?_, by simp [Act.put, h.size], by simp [Act.put, h.defs]⟩
    have hv := h.val t
    simp only [Act.put, Array.getD_eq_getD_getElem?] at hv ⊢
    by_cases e : t = k
    · subst e
      rw [put_same, Array.getElem?_setIfInBounds_self_of_lt (by rw [h.size]; exact hk)]
      rfl
    · rw [put_ne _ _ _ _ e, Array.getElem?_setIfInBounds_ne (Ne.symm e)]
      exact hv

def yl (ops : Array Oper) (ρ : Env) (j : Nat) : Option Bool :=
  match (ops[j]?).bind (·.dst) with
  | some d => (match ρ d with|.bool b => some b|_ => none)
  | none => none

theorem Fr.yielded {ds : List Deferred} {n : Nat} {a : Act} {ρ : Env} (h : Fr ds n a ρ) (ops : Array Oper) : yielded ops a.tmps = yl ops ρ := by
  funext j
  unfold Go.yielded yl
  cases hd : (ops[j]?).bind (·.dst) with
  | none => simp
  | some d =>
    have hv := h.val d
    simp only [Array.getD_eq_getD_getElem?] at hv
    simp only [Option.bind_some]
    cases ht : a.tmps[d]? with
    | none =>
      rw [ht] at hv
      simp only [Option.getD_none] at hv
      rw [← hv]
      rfl
    | some v =>
      rw [ht] at hv
      simp only [Option.getD_some] at hv
      rw [← hv]
      cases v <;> rfl
def Ret (Q : Value → World → Prop) : Ending → World → Prop := fun e w => ∃ v, e = .returned v ∧ Q v w
def wideAt (r : Option Nat) : Fence := { Fence.wide with round := r }
theorem wide_dep {r : Option Nat} {k : Nat} (h : (wideAt r).depth.isSome = true) : 1 ≤ k := Bool.noConfusion (show false = true from h)
theorem calls_at {r : Option Nat} {n : Nat} {P : Program} {f : FuncId} {args : Array Value} {w : World} {R : Ending → World → Prop} (h : Calls P f args w R) : CallsIn (wideAt r) n P f args w R := (callsIn_wide (n := n)).2 h
theorem round_at {r : Option Nat} {n m l : Nat} {P : Program} {f : FuncId} {tmps : Array Value} {assign body : Code} {w : World} {R : Ending → World → Prop} (h : RoundIn Fence.wide m P l f tmps assign body w R) : RoundIn (wideAt r) n P l f tmps assign body w R :=
  ⟨trivial, fun c cs _ => h.2 c cs (room_wide _)⟩

def After (P : Program) (dst : Option Nat) (ρ : Env) (K : Env → World → Prop) : Result Next → Prop
  | .ok (.value v) w => K (put ρ dst v) w
  | .ok .skip w => K (put ρ dst undef) w
  | .ok (.enter f args) w => Calls P f args w (Ret fun v w' => K (put ρ dst v) w')
  | .ok (.round l f tmps assign body) w => RoundIn Fence.wide 0 P l f tmps assign body w (Ret fun v w' => K (put ρ dst v) w')
  | _ => False

def opW (P : Program) (o : Oper) (ρ : Env) (w : World) (K : Env → World → Prop) : Prop :=
  After P o.dst ρ K ((execOp (ev ρ) o).run P w)

theorem Ret.mono {Q Q' : Value → World → Prop} (h : ∀ v w, Q v w → Q' v w) : ∀ e w, Ret Q e w → Ret Q' e w :=
  fun _ _ ⟨v, e, q⟩ => ⟨v, e, h _ _ q⟩

theorem opW_mono {P : Program} {o : Oper} {ρ : Env} {w : World} {K K' : Env → World → Prop} (hk : ∀ v w, K (put ρ o.dst v) w → K' (put ρ o.dst v) w) (h : opW P o ρ w K) : opW P o ρ w K' := by
  unfold opW at *
  cases hr : (execOp (ev ρ) o).run P w with
  | halt x w' => rw [hr] at h; exact h.elim
  | ok x w' =>
    rw [hr] at h
    cases x <;> simp only [After] at h ⊢ <;> first
      | exact hk _ _ h
      | exact Calls.mono h (Ret.mono fun v w hq => hk _ _ hq)
      | exact RoundIn.mono h (Ret.mono fun v w hq => hk _ _ hq)
      | exact h.elim

def noDefer (o : Oper) : Bool := match o.op with|.defer _ => false|_ => true
theorem noDefer_ne {o : Oper} (h : noDefer o = true) (c : Call) : o.op ≠ .defer c := fun e => by unfold noDefer at h; rw [e] at h; cases h
theorem opW_soundIn {r : Option Nat} {k : Nat} {ds : List Deferred} {P : Program} {o : Oper} {n : Nat} {a : Act} {ρ : Env} {w : World} {K : Env → World → Prop} {Q : Exit → Act → World → Prop}
    (hx : r = none ∨ noDefer o = true) (hfr : Fr ds n a ρ) (hd : dfits n o = true) (h : opW P o ρ w K) : o.wpIn (wideAt r) k P a w (fun a' w' => ∃ ρ', Fr ds n a' ρ' ∧ K ρ' w') Q := by
  refine ⟨fun _ _ => trivial, ?_⟩
  have hd' : ∀ k, o.dst = some k → k < n := by
    intro k hk
    simp only [dfits, hk] at hd
    exact Nat.le_of_ble_eq_true hd
  have hs : o.semAt (wideAt r).round a.eval = execOp (ev ρ) o := by
    rw [hfr.eval]
    rcases hx with rfl|hx
    · rfl
    · exact Oper.semAt_eq _ _ _ (noDefer_ne hx)
  unfold opW at h
  rw [hs]
  cases hr : (execOp (ev ρ) o).run P w with
  | halt x w' => rw [hr] at h; exact h.elim
  | ok x w' =>
    rw [hr] at h
    cases x <;> simp only [After] at h <;> simp only [Oper.uponIn] <;> first
      | exact ⟨_, hfr.put hd' _, h⟩
      | (refine ⟨wide_dep, CallsIn.mono (calls_at h) ?_⟩
         rintro e w'' ⟨v, rfl, hk⟩
         exact ⟨_, hfr.put hd' _, hk⟩)
      | (refine ⟨wide_dep, RoundIn.mono (round_at h) ?_⟩
         rintro e w'' ⟨v, rfl, hk⟩
         exact ⟨_, hfr.put hd' _, hk⟩)
      | exact h.elim

def denI (P : Program) (ops : Array Oper) (o : Oper) (ρ : Env) (w : World) (K : Env → World → Prop) : Prop :=
  if Region.wanted o (yl ops ρ) = true then opW P o ρ w K else K (put ρ o.dst undef) w

def denOps (P : Program) (ops : Array Oper) : List Oper → Env → World → (Env → World → Prop) → Prop
  | [], ρ, w, K => K ρ w
  | o :: rest, ρ, w, K => denI P ops o ρ w (fun ρ' w' => denOps P ops rest ρ' w' K)

def denAny (P : Program) (ops : Array Oper) : Nat → Array Bool → Env → World → (Env → World → Prop) → Prop
  | 0, listed, ρ, w, K => Region.ready .any ops listed = [] ∧ K ρ w
  | f + 1, listed, ρ, w, K => (Region.ready .any ops listed = [] → K ρ w) ∧
      ∀ i ∈ Region.ready .any ops listed, ∀ o, ops[i]? = some o → denI P ops o ρ w (fun ρ' w' => denAny P ops f (listed.setIfInBounds i true) ρ' w' K)

def cfits (n : Nat) : Code → Bool
  | .region _ ops _ => ops.toList.all (dfits n)
  | .seq a b => cfits n a && cfits n b
  | .cond _ x y => cfits n x && cfits n y
  | .block _ c => cfits n c
  | .loop c => cfits n c
  | .scope c => cfits n c
  | _ => true
def plainC : Code → Bool
  | .region _ ops _ => ops.toList.all noDefer
  | .seq a b => plainC a && plainC b
  | .cond _ x y => plainC x && plainC y
  | .block _ c => plainC c
  | .loop c => plainC c
  | .scope _ => false
  | _ => true
def lift (ds : List Deferred) (n : Nat) (Q : Exit → Env → World → Prop) : Exit → Act → World → Prop := fun e a w => ∃ ρ, Fr ds n a ρ ∧ Q e ρ w

def den (P : Program) : Code → Env → World → (Exit → Env → World → Prop) → Prop
  | .skip, ρ, w, Q => Q .normal ρ w
  | .region _ ops false, ρ, w, Q => denOps P ops ops.toList ρ w (Q .normal)
  | .region _ ops true, ρ, w, Q => denAny P ops ops.size (Array.replicate ops.size false) ρ { w with drawn := w.drawn + 1 } (Q .normal)
  | .seq a b, ρ, w, Q => den P a ρ w (fun e ρ' w' => match e with|.normal => den P b ρ' w' Q|e => Q e ρ' w')
  | .cond c x y, ρ, w, Q => ∃ t, ev ρ c = .bool t ∧ (t = true → den P x ρ w Q) ∧ (t = false → den P y ρ w Q)
  | .block id c, ρ, w, Q => den P c ρ w (fun e ρ' w' => match e with|.exit id' => if id' = id then Q .normal ρ' w' else Q (.exit id') ρ' w'|e => Q e ρ' w')
  | .loop c, ρ, w, Q => ∃ (I : Nat → Env → World → Prop) (m : Nat), I m ρ w ∧ ∀ m ρ' w', I m ρ' w' → den P c ρ' w' (fun e ρ'' w'' => match e with|.normal => ∃ m', m' < m ∧ I m' ρ'' w''|e => Q e ρ'' w'')
  | .exit id, ρ, w, Q => Q (.exit id) ρ w
  | .label _, ρ, w, Q => Q .normal ρ w
  | .ret, ρ, w, Q => Q .ret ρ w
  | .goto l, ρ, w, Q => Q (.goto l) ρ w
  | .scope c, ρ, w, Q => ∀ ds n a, Fr ds n a ρ → cfits n c = true → (Code.scope c).wp P (lift ds n Q) a w
  | _, _, _, _ => False

section sound
variable {r : Option Nat} {k : Nat} {ds : List Deferred} {P : Program} {ops : Array Oper} {n : Nat}
theorem denI_soundIn {o : Oper} {a : Act} {ρ : Env} {w : World} {K : Env → World → Prop} {Q : Exit → Act → World → Prop}
    (hx : r = none ∨ noDefer o = true) (hfr : Fr ds n a ρ) (hd : dfits n o = true) (h : denI P ops o ρ w K) :
    if Region.wanted o (yielded ops a.tmps) = true then o.wpIn (wideAt r) k P a w (fun a' w' => ∃ ρ', Fr ds n a' ρ' ∧ K ρ' w') Q
    else (∀ f, o.about P w a.eval = some f → (wideAt r).fn f) ∧ (fun a' w' => ∃ ρ', Fr ds n a' ρ' ∧ K ρ' w') (a.put o.dst undef) w := by
  unfold denI at h
  rw [hfr.yielded]
  split
  · rename_i hw; rw [if_pos hw] at h; exact opW_soundIn hx hfr hd h
  · rename_i hw; rw [if_neg hw] at h
    have hd' : ∀ k, o.dst = some k → k < n := by
      intro k hk
      simp only [dfits, hk] at hd
      exact Nat.le_of_ble_eq_true hd
    exact ⟨fun _ _ => trivial, _, hfr.put hd' _, h⟩

theorem denOps_soundIn {Q : Exit → Env → World → Prop} : ∀ (l : List Oper) (ρ : Env) (w : World) (a : Act), (r = none ∨ l.all noDefer = true) → Fr ds n a ρ → l.all (dfits n) = true →
    denOps P ops l ρ w (Q .normal) → wpListIn (wideAt r) k P ops (lift ds n Q) l a w
  | [], ρ, w, a, _, hfr, _, h => ⟨ρ, hfr, h⟩
  | o :: rest, ρ, w, a, hx, hfr, hd, h => by
    simp only [List.all_cons, Bool.and_eq_true] at hd hx
    refine wpListIn_step fun K hK => ?_
    have := denI_soundIn (r := r) (k := k) (Q := lift ds n Q) (hx.imp id And.left) hfr hd.1 (show denI P ops o ρ w _ from h)
    split at this
    · rename_i hw; rw [if_pos hw]
      exact Oper.wpIn_mono (fun a' w' ⟨ρ', hfr', hk⟩ => hK _ _ (denOps_soundIn rest ρ' w' a' (hx.imp id And.right) hfr' hd.2 hk)) this
    · rename_i hw; rw [if_neg hw]
      obtain ⟨hab, ρ', hfr', hk⟩ := this
      exact ⟨hab, hK _ _ (denOps_soundIn rest ρ' w _ (hx.imp id And.right) hfr' hd.2 hk)⟩

theorem denAny_soundIn {Q : Exit → Env → World → Prop} (hx : r = none ∨ ops.toList.all noDefer = true) (hd : ops.toList.all (dfits n) = true) : ∀ (f : Nat) (listed : Array Bool) (ρ : Env) (w : World) (a : Act), Fr ds n a ρ →
    denAny P ops f listed ρ w (Q .normal) → wpAnyIn (wideAt r) k P .any ops (lift ds n Q) f listed a w
  | 0, listed, ρ, w, a, hfr, h => ⟨h.1, ρ, hfr, h.2⟩
  | f + 1, listed, ρ, w, a, hfr, h => by
    refine ⟨fun hr => ⟨ρ, hfr, h.1 hr⟩, fun i hi => ?_⟩
    unfold wpOpIn
    cases ho : ops[i]? with
    | none =>
      simp only [Region.ready, List.mem_filter, List.mem_range] at hi
      simp at ho
      omega
    | some o =>
      have hmem : o ∈ ops.toList := by rw [Array.mem_toList_iff]; exact Array.mem_of_getElem? ho
      have hdo : dfits n o = true := List.all_eq_true.1 hd o hmem
      have hxo : r = none ∨ noDefer o = true := hx.imp id fun hx => List.all_eq_true.1 hx o hmem
      have := denI_soundIn (r := r) (k := k) (Q := lift ds n Q) hxo hfr hdo (h.2 i hi o ho)
      simp only []
      split at this
      · rename_i hw; rw [if_pos hw]
        exact Oper.wpIn_mono (fun a' w' ⟨ρ', hfr', hk⟩ => denAny_soundIn hx hd f _ ρ' w' a' hfr' hk) this
      · rename_i hw; rw [if_neg hw]
        obtain ⟨hab, ρ', hfr', hk⟩ := this
        exact ⟨hab, denAny_soundIn hx hd f _ ρ' w _ hfr' hk⟩
end sound

theorem wpIn_loopN {F : Fence} {n : Nat} {P : Program} {Q : Exit → Act → World → Prop} {c : Code} (I : Nat → Act → World → Prop) {m : Nat} {a : Act} {w : World} (h₀ : I m a w)
    (round : ∀ m a w, I m a w → c.wpIn F n P (fun e a' w' => match e with|.normal => ∃ m', m' < m ∧ I m' a' w'|e => Q e a' w') a w) : (Code.loop c).wpIn F n P Q a w := by
  intro b k cs hro hb hr
  have key : ∀ j a w, I j a w →
      ∃ e a' w', Q e a' w' ∧ ArrivesIn (Machine.fenced P F) P (lone (b.atR a (.code c :: .inLoop c :: k)) cs w) b k cs e a' w' := by
    intro j
    induction j using Nat.strongRecOn with
    | _ j ih =>
      intro a w hI
      obtain ⟨e, a₁, w₁, hq, harr⟩ := round j a w hI b (.inLoop c :: k) cs hro hb hr
      cases e with
      | normal =>
        obtain ⟨m', hlt, hI₁⟩ := hq
        obtain ⟨e₂, a₂, w₂, hq₂, harr₂⟩ := ih m' hlt a₁ w₁ hI₁
        exact ⟨e₂, a₂, w₂, hq₂, .of_steps (StepsIn.trans harr (.one (fenced_calm hb hr rfl) stepR_inLoop)) harr₂⟩
      | exit id => exact ⟨_, a₁, w₁, hq, .pass (x := .inLoop c) rfl (fun _ _ => .inl (by simp)) harr⟩
      | goto l => exact ⟨_, a₁, w₁, hq, .pass (x := .inLoop c) rfl (fun _ _ => .inl (by simp)) harr⟩
      | ret => exact ⟨_, a₁, w₁, hq, .pass (x := .inLoop c) rfl (fun _ _ => .inl (by simp)) harr⟩
      | panic ch => exact ⟨_, a₁, w₁, hq, .pass (x := .inLoop c) rfl (fun _ _ => .inl (by simp)) harr⟩
      | outgrown => exact ⟨_, a₁, w₁, hq, .pass (x := .inLoop c) rfl (fun _ _ => .inl (by simp)) harr⟩
  obtain ⟨e, a', w', hq, harr⟩ := key _ a w h₀
  exact ⟨e, a', w', hq, .of_steps (.one (fenced_calm hb hr rfl) stepR_loop) harr⟩

theorem Zow {r : Option Nat} {k : Nat} {ds : List Deferred} {P : Program} (hm : P.follows .mixedOrders = true) {n : Nat} : ∀ (c : Code) (ρ : Env) (w : World) (Q : Exit → Env → World → Prop) (a : Act), (r = none ∨ plainC c = true) → Fr ds n a ρ → cfits n c = true →
    den P c ρ w Q → c.wpIn (wideAt r) k P (lift ds n Q) a w := by
  intro c
  induction c with
  | skip => exact fun ρ w Q a _ hfr _ h => wpIn_skip ⟨ρ, hfr, h⟩
  | region id ops b =>
    intro ρ w Q a hx hfr hd h
    cases b with
    | false => exact wpIn_region_list (denOps_soundIn _ _ _ _ hx hfr hd h)
    | true => exact wpIn_region_any hm (denAny_soundIn hx hd _ _ _ _ _ hfr h)
  | seq x y ihx ihy =>
    intro ρ w Q a hx hfr hd h
    simp only [cfits, plainC, Bool.and_eq_true] at hd hx
    refine wpIn_seq (wpIn_mono (ihx ρ w _ a (hx.imp id And.left) hfr hd.1 h) ?_)
    rintro e a' w' ⟨ρ', hfr', hq⟩
    cases e <;> first
      | exact ihy ρ' w' Q a' (hx.imp id And.right) hfr' hd.2 hq
      | exact ⟨ρ', hfr', hq⟩
  | cond c x y ihx ihy =>
    intro ρ w Q a hx hfr hd h
    simp only [cfits, plainC, Bool.and_eq_true] at hd hx
    obtain ⟨t, ht, h1, h2⟩ := h
    exact wpIn_cond_split (t := t) (by rw [hfr.eval]; exact ht) (fun e => ihx ρ w Q a (hx.imp id And.left) hfr hd.1 (h1 e)) (fun e => ihy ρ w Q a (hx.imp id And.right) hfr hd.2 (h2 e))
  | block id c ih =>
    intro ρ w Q a hx hfr hd h
    refine wpIn_block (wpIn_mono (ih ρ w _ a hx hfr hd h) ?_)
    rintro e a' w' ⟨ρ', hfr', hq⟩
    cases e with
    | exit id' =>
      simp only [Exit.inBlock]
      split
      · rename_i e; subst e; simp only [if_true] at hq; exact ⟨ρ', hfr', hq⟩
      · rename_i e; simp only [if_neg e] at hq; exact ⟨ρ', hfr', hq⟩
    | _ => exact ⟨ρ', hfr', hq⟩
  | loop c ih =>
    intro ρ w Q a hx hfr hd h
    obtain ⟨I, m, h0, hround⟩ := h
    refine wpIn_loopN (fun m a w => ∃ ρ, Fr ds n a ρ ∧ I m ρ w) (m := m) ⟨ρ, hfr, h0⟩ ?_
    rintro m a w ⟨ρ1, hfr1, hI1⟩
    refine wpIn_mono (ih ρ1 w _ a hx hfr1 hd (hround _ _ _ hI1)) ?_
    rintro e a' w' ⟨ρ', hfr', hq⟩
    cases e with
    | normal =>
      obtain ⟨m', hlt, hI'⟩ := hq
      exact ⟨m', hlt, ρ', hfr', hI'⟩
    | _ => exact ⟨ρ', hfr', hq⟩
  | rangeFunc => intro ρ w Q a _ hfr _ h; exact h.elim
  | exit id => exact fun ρ w Q a _ hfr _ h => wpIn_exit ⟨ρ, hfr, h⟩
  | scope c =>
    intro ρ w Q a hx hfr hd h
    rcases hx with rfl|hx
    · exact (wpIn_wide (n := k)).2 (h ds n a hfr hd)
    · cases hx
  | label l => exact fun ρ w Q a _ hfr _ h => wpIn_label ⟨ρ, hfr, h⟩
  | goto l => exact fun ρ w Q a _ hfr _ h => wpIn_goto ⟨ρ, hfr, h⟩
  | ret => exact fun ρ w Q a _ hfr _ h => wpIn_ret ⟨ρ, hfr, h⟩
  | refuse => intro ρ w Q a _ hfr _ h; exact h.elim
theorem Zaa {ds : List Deferred} {P : Program} (hm : P.follows .mixedOrders = true) {n : Nat} (c : Code) (ρ : Env) (w : World) (Q : Exit → Env → World → Prop) (a : Act) (hfr : Fr ds n a ρ) (hc : cfits n c = true)
    (h : den P c ρ w Q) : c.wp P (lift ds n Q) a w := (wpIn_wide (n := 0)).1 (Zow (r := none) hm c ρ w Q a (.inl rfl) hfr hc h)
end Go.Sl
namespace Go.Sl
open Go

theorem denI_mono {P : Program} {ops : Array Oper} {o : Oper} {ρ : Env} {w : World} {K K' : Env → World → Prop} (hk : ∀ v w, K (put ρ o.dst v) w → K' (put ρ o.dst v) w) (h : denI P ops o ρ w K) : denI P ops o ρ w K' := by
  unfold denI at *
  split
  · rename_i hw; rw [if_pos hw] at h; exact opW_mono hk h
  · rename_i hw; rw [if_neg hw] at h; exact hk _ _ h

def inMods (t : Nat) : List (Nat × Nat) → Bool
  | [] => false
  | (a, b) :: r => (Nat.ble a t && Nat.ble t b) || inMods t r
def dIn (mods : List (Nat × Nat)) (o : Oper) : Bool := match o.dst with|some d => inMods d mods|none => true
def cIn (mods : List (Nat × Nat)) : Code → Bool
  | .region _ ops _ => ops.toList.all (dIn mods)
  | .seq a b => cIn mods a && cIn mods b
  | .cond _ x y => cIn mods x && cIn mods y
  | .block _ c => cIn mods c
  | .loop c => cIn mods c
  | .scope _ => false
  | _ => true

def Agree (mods : List (Nat × Nat)) (ρ ρ' : Env) : Prop := ∀ t, inMods t mods = false → ρ' t = ρ t
theorem Agree.refl (mods : List (Nat × Nat)) (ρ : Env) : Agree mods ρ ρ := fun _ _ => rfl
theorem Agree.trans {mods : List (Nat × Nat)} {ρ ρ' ρ'' : Env} (h : Agree mods ρ ρ') (h' : Agree mods ρ' ρ'') : Agree mods ρ ρ'' := fun t ht => (h' t ht).trans (h t ht)
theorem agree_put {mods : List (Nat × Nat)} {ρ : Env} {o : Oper} (h : dIn mods o = true) (v : Value) : Agree mods ρ (put ρ o.dst v) := by
  intro t ht
  cases hd : o.dst with
  | none => rfl
  | some d =>
    simp only [dIn, hd] at h
    exact put_ne _ _ _ _ (fun e => by subst e; rw [h] at ht; cases ht)

theorem denOps_agree {P : Program} {ops : Array Oper} {mods : List (Nat × Nat)} : ∀ (l : List Oper) (ρ : Env) (w : World) (K : Env → World → Prop), l.all (dIn mods) = true → denOps P ops l ρ w K → denOps P ops l ρ w (fun ρ' w' => Agree mods ρ ρ' ∧ K ρ' w')
  | [], ρ, _, _, _, h => ⟨Agree.refl _ _, h⟩
  | o :: rest, ρ, w, K, hd, h => by
    simp only [List.all_cons, Bool.and_eq_true] at hd
    refine denI_mono (fun v w' hk => ?_) (show denI P ops o ρ w _ from h)
    have hk := denOps_agree rest _ w' K hd.2 hk
    exact denOps_mono' rest _ w' (fun ρ' w'' ⟨ha, hq⟩ => ⟨(agree_put hd.1 v).trans ha, hq⟩) hk
where
  denOps_mono' {K K' : Env → World → Prop} (l : List Oper) (ρ : Env) (w : World) (hk : ∀ ρ w, K ρ w → K' ρ w) (h : denOps P ops l ρ w K) : denOps P ops l ρ w K' := by
    induction l generalizing ρ w with
    | nil => exact hk _ _ h
    | cons o rest ih => exact denI_mono (fun v w' h => ih _ _ h) (show denI P ops o ρ w _ from h)

theorem denOps_mono {P : Program} {ops : Array Oper} {K K' : Env → World → Prop} (l : List Oper) (ρ : Env) (w : World) (hk : ∀ ρ w, K ρ w → K' ρ w) (h : denOps P ops l ρ w K) : denOps P ops l ρ w K' := by
  induction l generalizing ρ w with
  | nil => exact hk _ _ h
  | cons o rest ih => exact denI_mono (fun v w' h => ih _ _ h) (show denI P ops o ρ w _ from h)

theorem denAny_mono {P : Program} {ops : Array Oper} {K K' : Env → World → Prop} (hk : ∀ ρ w, K ρ w → K' ρ w) : ∀ (f : Nat) (listed : Array Bool) (ρ : Env) (w : World), denAny P ops f listed ρ w K → denAny P ops f listed ρ w K'
  | 0, _, _, _, h => ⟨h.1, hk _ _ h.2⟩
  | f + 1, listed, ρ, w, h => ⟨fun e => hk _ _ (h.1 e), fun i hi o ho => denI_mono (fun v w' h => denAny_mono hk f _ _ _ h) (h.2 i hi o ho)⟩

theorem denAny_agree {P : Program} {ops : Array Oper} {mods : List (Nat × Nat)} (hd : ops.toList.all (dIn mods) = true) : ∀ (f : Nat) (listed : Array Bool) (ρ : Env) (w : World) (K : Env → World → Prop), denAny P ops f listed ρ w K → denAny P ops f listed ρ w (fun ρ' w' => Agree mods ρ ρ' ∧ K ρ' w')
  | 0, _, _, _, _, h => ⟨h.1, Agree.refl _ _, h.2⟩
  | f + 1, listed, ρ, w, K, h => by
    refine ⟨fun e => ⟨Agree.refl _ _, h.1 e⟩, fun i hi o ho => denI_mono (fun v w' hk => ?_) (h.2 i hi o ho)⟩
    have hdo : dIn mods o = true := List.all_eq_true.1 hd o (by rw [Array.mem_toList_iff]; exact Array.mem_of_getElem? ho)
    exact denAny_mono (fun ρ' w'' ⟨ha, hq⟩ => ⟨(agree_put hdo v).trans ha, hq⟩) f _ _ _ (denAny_agree hd f _ _ w' K hk)

theorem Zab {P : Program} : ∀ (c : Code) (ρ : Env) (w : World) {Q Q' : Exit → Env → World → Prop}, (∀ e ρ w, Q e ρ w → Q' e ρ w) → den P c ρ w Q → den P c ρ w Q' := by
  intro c
  induction c with
  | skip => exact fun ρ w _ _ hq h => hq _ _ _ h
  | region id ops b =>
    intro ρ w Q Q' hq h
    cases b with
    | false => exact denOps_mono _ _ _ (hq _) h
    | true => exact denAny_mono (hq _) _ _ _ _ h
  | seq x y ihx ihy =>
    intro ρ w Q Q' hq h
    refine ihx ρ w ?_ h
    intro e ρ' w' he
    cases e <;> first
      | exact ihy ρ' w' hq he
      | exact hq _ _ _ he
  | cond c x y ihx ihy =>
    intro ρ w Q Q' hq h
    obtain ⟨t, ht, h1, h2⟩ := h
    exact ⟨t, ht, fun e => ihx ρ w hq (h1 e), fun e => ihy ρ w hq (h2 e)⟩
  | block id c ih =>
    intro ρ w Q Q' hq h
    refine ih ρ w ?_ h
    intro e ρ' w' he
    cases e with
    | exit id' =>
      simp only [] at he ⊢
      split
      · rename_i e; subst e; simp only [if_true] at he; exact hq _ _ _ he
      · rename_i e; simp only [if_neg e] at he; exact hq _ _ _ he
    | _ => exact hq _ _ _ he
  | loop c ih =>
    intro ρ w Q Q' hq h
    obtain ⟨I, m, h0, hr⟩ := h
    refine ⟨I, m, h0, fun m ρ' w' hI => ih ρ' w' ?_ (hr m ρ' w' hI)⟩
    intro e ρ'' w'' he
    cases e <;> first
      | exact he
      | exact hq _ _ _ he
  | exit id => exact fun ρ w _ _ hq h => hq _ _ _ h
  | label l => exact fun ρ w _ _ hq h => hq _ _ _ h
  | ret => exact fun ρ w _ _ hq h => hq _ _ _ h
  | rangeFunc => intro ρ w _ _ _ h; exact h.elim
  | scope c => exact fun ρ w _ _ hq h ds n a hfr hd => wp_mono (h ds n a hfr hd) (fun e a w ⟨ρ, hf, hQ⟩ => ⟨ρ, hf, hq _ _ _ hQ⟩)
  | goto l => exact fun ρ w _ _ hq h => hq _ _ _ h
  | refuse => intro ρ w _ _ _ h; exact h.elim

theorem Zac {P : Program} {mods : List (Nat × Nat)} : ∀ (c : Code) (ρ : Env) (w : World) {Q : Exit → Env → World → Prop}, cIn mods c = true → den P c ρ w Q → den P c ρ w (fun e ρ' w' => Agree mods ρ ρ' ∧ Q e ρ' w') := by
  intro c
  induction c with
  | skip => exact fun ρ w _ _ h => ⟨Agree.refl _ _, h⟩
  | region id ops b =>
    intro ρ w Q hd h
    cases b with
    | false => exact denOps_agree _ _ _ _ hd h
    | true => exact denAny_agree hd _ _ _ _ _ h
  | seq x y ihx ihy =>
    intro ρ w Q hd h
    simp only [cIn, Bool.and_eq_true] at hd
    refine Zab x ρ w ?_ (ihx ρ w hd.1 h)
    intro e ρ' w' ⟨ha, he⟩
    cases e <;> first
      | exact Zab y ρ' w' (fun e ρ'' w'' ⟨ha', hq⟩ => ⟨ha.trans ha', hq⟩) (ihy ρ' w' hd.2 he)
      | exact ⟨ha, he⟩
  | cond c x y ihx ihy =>
    intro ρ w Q hd h
    simp only [cIn, Bool.and_eq_true] at hd
    obtain ⟨t, ht, h1, h2⟩ := h
    exact ⟨t, ht, fun e => ihx ρ w hd.1 (h1 e), fun e => ihy ρ w hd.2 (h2 e)⟩
  | block id c ih =>
    intro ρ w Q hd h
    refine Zab c ρ w ?_ (ih ρ w hd h)
    intro e ρ' w' ⟨ha, he⟩
    cases e with
    | exit id' =>
      simp only [] at he ⊢
      split
      · rename_i e; subst e; simp only [if_true] at he; exact ⟨ha, he⟩
      · rename_i e; simp only [if_neg e] at he; exact ⟨ha, he⟩
    | _ => exact ⟨ha, he⟩
  | loop c ih =>
    intro ρ w Q hd h
    obtain ⟨I, m, h0, hr⟩ := h
    refine ⟨fun m ρ' w' => Agree mods ρ ρ' ∧ I m ρ' w', m, ⟨Agree.refl _ _, h0⟩, fun m ρ' w' hI => ?_⟩
    refine Zab c ρ' w' ?_ (ih ρ' w' hd (hr m ρ' w' hI.2))
    intro e ρ'' w'' ⟨ha, he⟩
    cases e <;> first
      | exact (let ⟨m', hlt, h⟩ := he; ⟨m', hlt, hI.1.trans ha, h⟩)
      | exact ⟨hI.1.trans ha, he⟩
  | exit id => exact fun ρ w _ _ h => ⟨Agree.refl _ _, h⟩
  | label l => exact fun ρ w _ _ h => ⟨Agree.refl _ _, h⟩
  | ret => exact fun ρ w _ _ h => ⟨Agree.refl _ _, h⟩
  | rangeFunc => intro ρ w _ _ h; exact h.elim
  | scope c => intro ρ w _ hd h; simp [cIn] at hd
  | goto l => exact fun ρ w _ _ h => ⟨Agree.refl _ _, h⟩
  | refuse => intro ρ w _ _ h; exact h.elim
def over (l : List (Nat × Value)) (ρ : Env) : Env := fun t =>
  match l with
  | [] => ρ t
  | (d, v) :: r => bif Nat.beq t d then v else over r ρ t
def patch (mods : List (Nat × Nat)) (u ρ : Env) : Env := fun t => bif inMods t mods then u t else ρ t
def Fits (ρ : Env) : List (Nat × Value) → Prop
  | [] => True
  | (d, v) :: r => ρ d = v ∧ Fits ρ r

theorem over_fits {ρ : Env} {l : List (Nat × Value)} (h : Fits ρ l) : over l ρ = ρ := by
  funext t
  induction l with
  | nil => rfl
  | cons p r ih =>
    obtain ⟨d, v⟩ := p
    show (bif Nat.beq t d then v else over r ρ t) = ρ t
    cases hb : Nat.beq t d with
    | false => exact ih h.2
    | true => have := Nat.eq_of_beq_eq_true hb; subst this; exact h.1.symm
theorem patch_agree {mods : List (Nat × Nat)} {ρ ρ' : Env} (h : Agree mods ρ ρ') : patch mods ρ' ρ = ρ' := by
  funext t
  show (bif inMods t mods then ρ' t else ρ t) = ρ' t
  cases hb : inMods t mods with
  | false => exact (h t hb).symm
  | true => rfl

theorem Zad {P : Program} {body : Code} {ρ : Env} {w : World} {Q : Exit → Env → World → Prop} {S : Type} (mods : List (Nat × Nat)) (hm : cIn mods body = true)
    (I : S → World → Prop) (U : S → List (Nat × Value)) (μ : S → Nat) (s0 : S) (h0 : I s0 w) (hf : Fits ρ (U s0))
    (round : ∀ s w' u, I s w' → den P body (over (U s) (patch mods u ρ)) w' (fun e ρ'' w'' => match e with|.normal => ∃ s', μ s' < μ s ∧ I s' w'' ∧ Fits ρ'' (U s')|e => Q e ρ'' w'')) :
    den P (.loop body) ρ w Q := by
  refine ⟨fun m ρ' w' => ∃ s, μ s = m ∧ I s w' ∧ Fits ρ' (U s) ∧ Agree mods ρ ρ', μ s0, ⟨s0, rfl, h0, hf, Agree.refl _ _⟩, ?_⟩
  rintro m ρ' w' ⟨s, rfl, hI, hfit, hag⟩
  have hr := round s w' ρ' hI
  rw [patch_agree hag, over_fits hfit] at hr
  refine Zab body ρ' w' ?_ (Zac (mods := mods) body ρ' w' hm hr)
  intro e ρ'' w'' ⟨ha, he⟩
  cases e <;> first
    | exact (let ⟨s', hlt, hI', hf'⟩ := he; ⟨μ s', hlt, s', rfl, hI', hf', hag.trans ha⟩)
    | exact he

theorem Zaj {P : Program} {id : Nat} {c : Code} {ρ : Env} {w : World} {Q : Exit → Env → World → Prop} (h : den P c ρ w (fun e ρ' w' => match e with|.exit id' => if id' = id then Q .normal ρ' w' else Q (.exit id') ρ' w'|e => Q e ρ' w')) : den P (.block id c) ρ w Q := h
theorem Zan {P : Program} {c : Operand} {x y : Code} {ρ : Env} {w : World} {Q : Exit → Env → World → Prop} {t : Bool} (ht : ev ρ c = .bool t) (h1 : t = true → den P x ρ w Q) (h2 : t = false → den P y ρ w Q) : den P (.cond c x y) ρ w Q := ⟨t, ht, h1, h2⟩
theorem Zao {P : Program} {c : Operand} {x y : Code} {ρ : Env} {w : World} {Q : Exit → Env → World → Prop} (ht : ev ρ c = .bool true) (h1 : den P x ρ w Q) : den P (.cond c x y) ρ w Q := ⟨true, ht, (fun _ => h1), (fun h => Bool.noConfusion h)⟩
theorem Zap {P : Program} {c : Operand} {x y : Code} {ρ : Env} {w : World} {Q : Exit → Env → World → Prop} (ht : ev ρ c = .bool false) (h1 : den P y ρ w Q) : den P (.cond c x y) ρ w Q := ⟨false, ht, (fun h => Bool.noConfusion h), (fun _ => h1)⟩
theorem Zaq {P : Program} {c : Operand} {x y : Code} {ρ : Env} {w : World} {Q : Exit → Env → World → Prop} {p : Prop} [Decidable p] (ht : ev ρ c = .bool (decide p)) (h1 : p → den P x ρ w Q) (h2 : ¬ p → den P y ρ w Q) : den P (.cond c x y) ρ w Q :=
  ⟨_, ht, fun h => h1 (of_decide_eq_true h), fun h => h2 (of_decide_eq_false h)⟩

def nth : List Value → Nat → Value
  | [], _ => undef
  | v :: _, 0 => v
  | _ :: l, n + 1 => nth l n
theorem nth_eq (l : List Value) (t : Nat) : nth l t = l.getD t undef := by
  induction l generalizing t with
  | nil => simp [nth]
  | cons v l ih => cases t <;> simp [nth, ih]

def resE (P : Program) (ρ : Env) (w : World) : List ResultVar → List Value → Prop
  | [], vs => vs = []
  | .tmp t :: r, vs => ∃ vs', vs = ρ t :: vs' ∧ resE P ρ w r vs'
  | .cell a t :: r, vs => ∃ ad v vs', ρ a = .pointer (some ad) ∧ (loadVar t ad).run P w = .ok v w ∧ vs = v :: vs' ∧ resE P ρ w r vs'
def packV : List Value → Value
  | [v] => v
  | vs => .tuple vs.toArray


theorem run_bind {α β : Type} (P : Program) (x : Sem α) (f : α → Sem β) (w w' : World) (a : α) (h : x.run P w = .ok a w') : (x >>= f).run P w = (f a).run P w' := by
  rw [Sem.run_bind, h]
  rfl

def getR (tmps : Array Value) : ResultVar → Sem Value
  | .tmp t => pure (tmps.getD t undef)
  | .cell a t => do loadVar t (← asAddr (tmps.getD a undef))
theorem getR_run {P : Program} {ρ : Env} {w : World} {tmps : Array Value} (hv : ∀ t, tmps.getD t undef = ρ t) : ∀ {r : ResultVar} {l : List ResultVar} {vs : List Value}, resE P ρ w (r :: l) vs → ∃ v vs', vs = v :: vs' ∧ (getR tmps r).run P w = .ok v w ∧ resE P ρ w l vs'
  | .tmp t, l, vs, h => by
    obtain ⟨vs', rfl, h⟩ := h
    exact ⟨_, _, rfl, by show Result.ok (tmps.getD t undef) w = _; rw [hv], h⟩
  | .cell a t, l, vs, h => by
    obtain ⟨ad, v, vs', h1, h2, rfl, h⟩ := h
    refine ⟨_, _, rfl, ?_, h⟩
    show ((asAddr (tmps.getD a undef)) >>= fun x => loadVar t x).run P w = _
    rw [hv, h1]
    exact h2

theorem mapM_run {P : Program} {ρ : Env} {w : World} {tmps : Array Value} (hv : ∀ t, tmps.getD t undef = ρ t) : ∀ (l : List ResultVar) (vs : List Value), resE P ρ w l vs → (l.mapM (getR tmps)).run P w = .ok vs w
  | [], vs, h => by subst h; rfl
  | r :: l, vs, h => by
    obtain ⟨v, vs', rfl, h1, h2⟩ := getR_run hv h
    rw [List.mapM_cons, run_bind P _ _ w w v h1, run_bind P _ _ w w vs' (mapM_run hv l vs' h2)]
    rfl

theorem pack_run {P : Program} {w : World} (vs : List Value) : ((pure (if h : vs.toArray.size = 1 then vs.toArray[0] else .tuple vs.toArray) : Sem Value)).run P w = .ok (packV vs) w := by
  match vs with
  | [] => rfl
  | [v] => rfl
  | v :: v' :: l =>
    show Result.ok _ w = _
    rw [dif_neg (by simp)]
    rfl

theorem results_run {P : Program} {fn : Func} {ρ : Env} {w : World} {a : Act} {n : Nat} {ds : List Deferred} (hfr : Fr ds n a ρ) {vs : List Value} (h : resE P ρ w fn.results.toList vs) :
    (results fn a.tmps).run P w = .ok (packV vs) w := by
  have hm := mapM_run hfr.val _ _ h
  have he : fn.results.mapM (getR a.tmps) = List.toArray <$> fn.results.toList.mapM (getR a.tmps) := by
    rw [Array.mapM_eq_mapM_toList]
  unfold results
  show (fn.results.mapM (getR a.tmps) >>= fun vs => pure (if h : vs.size = 1 then vs[0] else .tuple vs)).run P w = _
  rw [he, map_eq_pure_bind, bind_assoc, run_bind P _ _ w w vs hm]
  simp only [pure_bind]
  exact pack_run vs

def retK (P : Program) (rs : List ResultVar) (R : Value → World → Prop) : Exit → Env → World → Prop := fun e ρ w =>
  match e with
  | .normal|.ret => ∃ vs, resE P ρ w rs vs ∧ R (packV vs) w
  | _ => False

theorem calls_den {P : Program} {f : FuncId} {fn : Func} {c : Code} {rs : List ResultVar} {n : Nat} (args : List Value) {w : World} {R : Value → World → Prop}
    (hf : P.funcs[f]? = some fn) (hb : fn.body = some c) (hr : fn.results.toList = rs) (hn : fn.ntmps = n) (hm : P.follows .mixedOrders = true) (hfit : (Nat.ble args.length n && cfits n c) = true)
    (h : den P c (nth args) w (retK P rs R)) : Calls P f args.toArray w (Ret R) := by
  simp only [Bool.and_eq_true] at hfit
  have hlen : args.length ≤ n := Nat.le_of_ble_eq_true hfit.1
  refine calls_of_wp hf hb (wp_mono (Zaa (ds := []) hm (n := n) c _ w _ _ ?_ hfit.2 h) ?_)
  · refine ⟨fun t => ?_, ?_, rfl⟩
    · rw [nth_eq]
      simp only [Array.getD_eq_getD_getElem?, List.getD_eq_getElem?_getD]
      by_cases ht : t < args.length
      · rw [Array.getElem?_append_left (by simpa using ht)]
        simp
      · rw [Array.getElem?_append_right (by simpa using ht), List.getElem?_eq_none (by omega)]
        simp only [Array.getElem?_replicate]
        split <;> rfl
    · simp [hn]; omega
  · rintro e a' w' ⟨ρ', hfr, hq⟩
    cases e <;> simp only [retK] at hq <;> first
      | (obtain ⟨vs, hvs, hR⟩ := hq
         rw [← hr] at hvs
         exact ⟨hfr.defs, _, results_run hfr hvs, _, rfl, hR⟩)
      | exact hq.elim
end Go.Sl
namespace Go.Sl
open Go

def aggD : TypeDesc → Bool
  | .struct _|.array _ _ => true
  | _ => false
def fldOf (P : Program) (T i : Nat) : Option (Nat × Nat) :=
  match P.underlying T with
  | some (.struct fs) => (fs[i]?).map fun f => (f.offset, f.type)
  | _ => none
class TyScal (P : Program) (T : Nat) : Prop where h : (P.underlying T).map aggD = some false
class TyAggr (P : Program) (T : Nat) : Prop where h : (P.underlying T).map aggD = some true
class TyI (P : Program) (T : Nat) (size bytes : outParam Nat) (zero : outParam Value) : Prop where
  h : (P.info? T).map (fun i => (i.size, i.bytes, i.zero)) = some (size, bytes, some zero)
  zs : zero.cells.size = size
class TyInt (P : Program) (T : Nat) (k : outParam IntKind) : Prop where h : P.underlying T = some (.int k)
class TyBool (P : Program) (T : Nat) : Prop where h : P.underlying T = some .bool
class TyStr (P : Program) (T : Nat) : Prop where h : P.underlying T = some .string
class TySlice (P : Program) (T : Nat) (E : outParam Nat) : Prop where h : P.underlying T = some (.slice E)
class TyArr (P : Program) (T : Nat) (n E : outParam Nat) : Prop where h : P.underlying T = some (.array n E)
class TyPtr (P : Program) (T : Nat) (E : outParam Nat) : Prop where h : P.underlying T = some (.pointer E)
class TyMap (P : Program) (T : Nat) (K E : outParam Nat) : Prop where h : P.underlying T = some (.map K E)
class Fld (P : Program) (T i : Nat) (off T' : outParam Nat) : Prop where h : fldOf P T i = some (off, T')

section base
variable {P : Program} {w : World}
theorem run_under {T : Nat} {d : TypeDesc} (h : P.underlying T = some d) : (underlying T).run P w = .ok d w := by
  show (match P.underlying T with|some d => (pure d : Sem TypeDesc)|none => stuck "no such type").run P w = _
  rw [h]; rfl
theorem run_tinfo {T : Nat} {i : TypeInfo} (h : P.info? T = some i) : (typeInfo T).run P w = .ok i w := by
  show (match P.info? T with|some d => (pure d : Sem TypeInfo)|none => stuck "no such type").run P w = _
  rw [h]; rfl
theorem TyI.out {T size bytes : Nat} {zero : Value} (h : TyI P T size bytes zero) : ∃ i, P.info? T = some i ∧ i.size = size ∧ i.bytes = bytes ∧ i.zero = some zero := by
  have h := h.h
  cases hi : P.info? T with
  | none => rw [hi] at h; cases h
  | some i =>
    rw [hi] at h
    simp only [Option.map_some, Option.some.injEq, Prod.mk.injEq] at h
    exact ⟨i, rfl, h.1, h.2.1, h.2.2⟩
theorem run_size {T size bytes : Nat} {zero : Value} (h : TyI P T size bytes zero) : (sizeOf T).run P w = .ok size w := by
  obtain ⟨i, hi, rfl, _, _⟩ := h.out
  show (typeInfo T >>= fun i => pure i.size).run P w = _
  rw [run_bind P _ _ w w i (run_tinfo hi)]; rfl
theorem run_zero {T size bytes : Nat} {zero : Value} (h : TyI P T size bytes zero) : (zeroValue T).run P w = .ok zero w := by
  obtain ⟨i, hi, _, _, hz⟩ := h.out
  show (typeInfo T >>= fun i => match i.zero with|some v => (pure v : Sem Value)|none => _).run P w = _
  rw [run_bind P _ _ w w i (run_tinfo hi), hz]; rfl
theorem run_isAgg {T : Nat} {b : Bool} (h : (P.underlying T).map aggD = some b) : (isAgg T).run P w = .ok b w := by
  cases hd : P.underlying T with
  | none => rw [hd] at h; cases h
  | some d =>
    rw [hd] at h
    simp only [Option.map_some, Option.some.injEq] at h
    show (underlying T >>= fun d => match d with|.struct _|.array _ _ => (pure true : Sem Bool)|_ => pure false).run P w = _
    rw [run_bind P _ _ w w d (run_under hd)]
    cases d <;> simp only [aggD] at h <;> subst h <;> rfl
theorem Fld.out {T i off T' : Nat} (h : Fld P T i off T') : ∃ fs f, P.underlying T = some (.struct fs) ∧ fs[i]? = some f ∧ f.offset = off ∧ f.type = T' := by
  have h := h.h
  unfold fldOf at h
  split at h
  · rename_i fs hfs
    cases hf : fs[i]? with
    | none => rw [hf] at h; cases h
    | some f =>
      rw [hf] at h
      simp only [Option.map_some, Option.some.injEq, Prod.mk.injEq] at h
      exact ⟨fs, f, hfs, hf, h.1, h.2⟩
  · cases h
end base
def PV (P : Program) (o : Op) (ρ : Env) (v : Value) : Prop := ∀ (oo : Oper) (w : World), oo.op = o → (execOp (ev ρ) oo).run P w = .ok (.value v) w

theorem op_run_value {P : Program} {w w' : World} {s : Sem Value} {v : Value} (h : s.run P w = .ok v w') : (do pure (Next.value (← s)) : Sem Next).run P w = .ok (.value v) w' := by
  show (s >>= fun v => pure (Next.value v)).run P w = _
  rw [run_bind P _ _ w w' v h]; rfl
theorem op_run_unit {P : Program} {w w' : World} {s : Sem Unit} (h : s.run P w = .ok () w') : (do s; pure Next.skip : Sem Next).run P w = .ok .skip w' := by
  show (s >>= fun _ => pure Next.skip).run P w = _
  rw [run_bind P _ _ w w' () h]; rfl

section pv
variable {P : Program} {ρ : Env}
theorem Zar {x : Operand} {v : Value} (h : ev ρ x = v) : PV P (.move x) ρ v := by
  intro oo w ho; unfold execOp; rw [ho]; subst h; rfl
theorem Zas {x : Operand} {v : Value} (h : ev ρ x = v) : PV P (.assign x) ρ v := by
  intro oo w ho; unfold execOp; rw [ho]; subst h; rfl
-- in constructors, so that what a slot holds stays written out
theorem Zat {x : Operand} {k : IntKind} {n : Int} (h : ev ρ x = .int k n) : PV P (.move x) ρ (.int k n) := Zar h
theorem Zau {x : Operand} {b : Bool} (h : ev ρ x = .bool b) : PV P (.move x) ρ (.bool b) := Zar h
theorem Zav {x : Operand} {a : Option Addr} (h : ev ρ x = .pointer a) : PV P (.move x) ρ (.pointer a) := Zar h
theorem Zaw {x : Operand} {a : Option Addr} {l c : Nat} (h : ev ρ x = .slice a l c) : PV P (.move x) ρ (.slice a l c) := Zar h
theorem Zax {x : Operand} {a : Array Value} (h : ev ρ x = .agg a) : PV P (.move x) ρ (.agg a) := Zar h
theorem Zay {x : Operand} {f : Fn} {a b : Array Value} (h : ev ρ x = .func f a b) : PV P (.move x) ρ (.func f a b) := Zar h
theorem Zaz {x : Operand} {k : IntKind} {n : Int} (h : ev ρ x = .int k n) : PV P (.assign x) ρ (.int k n) := Zas h
theorem Za0 {x : Operand} {b : Bool} (h : ev ρ x = .bool b) : PV P (.assign x) ρ (.bool b) := Zas h
theorem Za1 {x : Operand} {a : Option Addr} (h : ev ρ x = .pointer a) : PV P (.assign x) ρ (.pointer a) := Zas h
theorem Za2 {x : Operand} {a : Option Addr} {l c : Nat} (h : ev ρ x = .slice a l c) : PV P (.assign x) ρ (.slice a l c) := Zas h
theorem Za3 {x : Operand} {a : Array Value} (h : ev ρ x = .agg a) : PV P (.assign x) ρ (.agg a) := Zas h
theorem Za4 {c a b : Operand} {t : Bool} {v : Value} (hc : ev ρ c = .bool t) (h : (bif t then ev ρ a else ev ρ b) = v) : PV P (.pick c a b) ρ v := by
  intro oo w ho; unfold execOp; rw [ho]; subst h
  show (asBool (ev ρ c) >>= fun t => pure (Next.value (if t then ev ρ a else ev ρ b))).run P w = _
  rw [hc]; cases t <;> rfl
theorem Za6 {c a : Operand} {t x : Bool} (hc : ev ρ c = .bool t) (ha : ev ρ a = .bool x) : PV P (.pick c a (.const (.bool false))) ρ (.bool (t && x)) :=
  Za4 hc (by rw [ha]; cases t <;> rfl)
theorem Za7 {c a : Operand} {t x : Bool} (hc : ev ρ c = .bool t) (ha : ev ρ a = .bool x) : PV P (.pick c (.const (.bool true)) a) ρ (.bool (t || x)) :=
  Za4 hc (by rw [ha]; cases t <;> rfl)
theorem Za8 {c a b : Operand} {v : Value} (hc : ev ρ c = .bool true) (h : ev ρ a = v) : PV P (.pick c a b) ρ v := Za4 hc h
theorem Za9 {c a b : Operand} {v : Value} (hc : ev ρ c = .bool false) (h : ev ρ b = v) : PV P (.pick c a b) ρ v := Za4 hc h
theorem Zba {x : Operand} {a : Addr} (h : ev ρ x = .pointer (some a)) : PV P (.nilCheck x) ρ (.pointer (some a)) := by
  intro oo w ho; unfold execOp; rw [ho]; simp only [h]; rfl
theorem eqGuard_int {op : BinOp} {T : Nat} {x y : Operand} {k k' : IntKind} {a b : Int} (w : World) : (eqGuard op T x y (.int k a) (.int k' b)).run P w = .ok () w := by
  unfold eqGuard; cases op <;> rfl
theorem Zbc {op : BinOp} {T T' : Nat} {x y : Operand} {k k' : IntKind} {a b : Int} {v : Value} (hx : ev ρ x = .int k a) (hy : ev ρ y = .int k' b)
    (h : ∀ w, (binOp op T (.int k a) (.int k' b)).run P w = .ok v w) : PV P (.binOp op T x y T') ρ v := by
  intro oo w ho; unfold execOp; rw [ho]
  refine op_run_value ?_
  rw [hx, hy, run_bind P _ _ w w () (eqGuard_int w)]
  exact h w
variable {T T' : Nat} {x y : Operand} {k : IntKind} {a b : Int}
theorem Zbd (hx : ev ρ x = .int k a) (hy : ev ρ y = .int k b) : PV P (.binOp .add T x y T') ρ (.int k (k.wrap (a + b))) :=
  Zbc hx hy fun w => by show (if k ≠ k then _ else _ : Sem Value).run P w = _; rw [if_neg (by simp)]; rfl
theorem Zbe (hx : ev ρ x = .int k a) (hy : ev ρ y = .int k b) : PV P (.binOp .sub T x y T') ρ (.int k (k.wrap (a - b))) :=
  Zbc hx hy fun w => by show (if k ≠ k then _ else _ : Sem Value).run P w = _; rw [if_neg (by simp)]; rfl
theorem Zbf (hx : ev ρ x = .int k a) (hy : ev ρ y = .int k b) : PV P (.binOp .mul T x y T') ρ (.int k (k.wrap (a * b))) :=
  Zbc hx hy fun w => by show (if k ≠ k then _ else _ : Sem Value).run P w = _; rw [if_neg (by simp)]; rfl
theorem Zbg (hx : ev ρ x = .int .i64 a) (hy : ev ρ y = .int .i64 b) (h : -9223372036854775808 ≤ a + b ∧ a + b ≤ 9223372036854775807 := by first|omega|exact Nat.le_of_ble_eq_true rfl|(simp; done)|(simp; omega)|decide) : PV P (.binOp .add T x y T') ρ (.int .i64 (a + b)) := by
  have := Zbd (P := P) (T := T) (T' := T') hx hy; rwa [IntWalk.i64_in _ h] at this
theorem Zbh (hx : ev ρ x = .int .i64 a) (hy : ev ρ y = .int .i64 b) (h : -9223372036854775808 ≤ a - b ∧ a - b ≤ 9223372036854775807 := by first|omega|exact Nat.le_of_ble_eq_true rfl|(simp; done)|(simp; omega)|decide) : PV P (.binOp .sub T x y T') ρ (.int .i64 (a - b)) := by
  have := Zbe (P := P) (T := T) (T' := T') hx hy; rwa [IntWalk.i64_in _ h] at this
theorem Zbi (hx : ev ρ x = .int .i64 a) (hy : ev ρ y = .int .i64 b) (h : -9223372036854775808 ≤ a * b ∧ a * b ≤ 9223372036854775807 := by first|omega|exact Nat.le_of_ble_eq_true rfl|(simp; done)|(simp; omega)|decide) : PV P (.binOp .mul T x y T') ρ (.int .i64 (a * b)) := by
  have := Zbf (P := P) (T := T) (T' := T') hx hy; rwa [IntWalk.i64_in _ h] at this
theorem Zbj (hx : ev ρ x = .int .i64 a) (hy : ev ρ y = .int .i64 b) (h : 0 ≤ a ∧ 0 < b ∧ a ≤ 9223372036854775807 := by first|omega|exact Nat.le_of_ble_eq_true rfl|(simp; done)|(simp; omega)|decide) : PV P (.binOp .quo T x y T') ρ (.int .i64 (a / b)) := by
  refine Zbc hx hy fun w => ?_
  rw [show binOp .quo T (.int .i64 a) (.int .i64 b) = Op.intDiv .quo .i64 a b from rfl]
  unfold Op.intDiv
  rw [if_neg (by omega)]
  show (Result.ok (Value.int .i64 (IntKind.i64.wrap (a.tdiv b))) w : Result Value) = _
  have h1 : a / b ≤ a := Int.ediv_le_self b h.1
  have h2 : 0 ≤ a / b := Int.ediv_nonneg h.1 (by omega)
  rw [Int.tdiv_eq_ediv_of_nonneg h.1, IntWalk.i64_in _ ⟨by omega, by omega⟩]
theorem Zbk (hx : ev ρ x = .int k a) (hy : ev ρ y = .int k b) (h : b ≠ 0) : PV P (.binOp .rem T x y T') ρ (.int k (a.tmod b)) := by
  refine Zbc hx hy fun w => ?_
  rw [show binOp .rem T (.int k a) (.int k b) = if k ≠ k then stuck "BinOp: operands of different kinds" else Op.intDiv .rem k a b from rfl, if_neg (by simp)]
  unfold Op.intDiv
  rw [if_neg h]; rfl
theorem Zbl (hx : ev ρ x = .int k a) (hy : ev ρ y = .int k b) (h : 0 ≤ a ∧ 0 < b := by first|omega|exact Nat.le_of_ble_eq_true rfl|(simp; done)|(simp; omega)|decide) : PV P (.binOp .rem T x y T') ρ (.int k (a % b)) := by
  have := Zbk (P := P) (T := T) (T' := T') hx hy (by omega); rwa [Int.tmod_eq_emod_of_nonneg h.1] at this
theorem Zbm (hx : ev ρ x = .int k a) (hy : ev ρ y = .int k b) (hk : k.signed = false) (h : 0 ≤ a ∧ 0 < b ∧ k.wrap (a / b) = a / b) : PV P (.binOp .quo T x y T') ρ (.int k (a / b)) := by
  refine Zbc hx hy fun w => ?_
  rw [show binOp .quo T (.int k a) (.int k b) = if k ≠ k then stuck "BinOp: operands of different kinds" else Op.intDiv .quo k a b from rfl, if_neg (by simp)]
  unfold Op.intDiv
  rw [if_neg (by omega)]
  show (Result.ok (Value.int k (k.wrap (a.tdiv b))) w : Result Value) = _
  rw [Int.tdiv_eq_ediv_of_nonneg h.1, h.2.2]
theorem Zbn (hx : ev ρ x = .int k a) (hy : ev ρ y = .int k b) : PV P (.binOp .lss T x y T') ρ (.bool (decide (a < b))) :=
  Zbc hx hy fun w => by show (if k ≠ k then _ else _ : Sem Value).run P w = _; rw [if_neg (by simp)]; rfl
theorem Zbo (hx : ev ρ x = .int k a) (hy : ev ρ y = .int k b) : PV P (.binOp .leq T x y T') ρ (.bool (decide (a ≤ b))) :=
  Zbc hx hy fun w => by show (if k ≠ k then _ else _ : Sem Value).run P w = _; rw [if_neg (by simp)]; rfl
theorem Zbp (hx : ev ρ x = .int k a) (hy : ev ρ y = .int k b) : PV P (.binOp .gtr T x y T') ρ (.bool (decide (b < a))) :=
  Zbc hx hy fun w => by show (if k ≠ k then _ else _ : Sem Value).run P w = _; rw [if_neg (by simp)]; rfl
theorem Zbq (hx : ev ρ x = .int k a) (hy : ev ρ y = .int k b) : PV P (.binOp .geq T x y T') ρ (.bool (decide (b ≤ a))) :=
  Zbc hx hy fun w => by show (if k ≠ k then _ else _ : Sem Value).run P w = _; rw [if_neg (by simp)]; rfl
theorem Zbr (hx : ev ρ x = .int k a) (hy : ev ρ y = .int k b) : PV P (.binOp .eql T x y T') ρ (.bool (decide (a = b))) :=
  Zbc hx hy fun w => by
    show (if k ≠ k then _ else _ : Sem Value).run P w = _; rw [if_neg (by simp)]
    show (Result.ok (Value.bool (a == b)) w : Result Value) = _
    rw [show (a == b) = decide (a = b) from rfl]
theorem Zbs (hx : ev ρ x = .int k a) (hy : ev ρ y = .int k b) : PV P (.binOp .neq T x y T') ρ (.bool (decide (a ≠ b))) :=
  Zbc hx hy fun w => by
    show (if k ≠ k then _ else _ : Sem Value).run P w = _; rw [if_neg (by simp)]
    show (Result.ok (Value.bool (a != b)) w : Result Value) = _
    rw [show (a != b) = decide (a ≠ b) from by rw [bne, show (a == b) = decide (a = b) from rfl]; simp]
theorem Zbt (op : BinOp) (r : BitVec k.bits → BitVec k.bits → BitVec k.bits) (hop : ∀ a b : Int, (binOp op T (.int k a) (.int k b)) = (if k ≠ k then stuck "BinOp: operands of different kinds" else pure (.int k (k.wrap (r (BitVec.ofInt k.bits a) (BitVec.ofInt k.bits b)).toNat))))
    (hx : ev ρ x = .int k a) (hy : ev ρ y = .int k b) : PV P (.binOp op T x y T') ρ (.int k (k.wrap (r (BitVec.ofInt k.bits a) (BitVec.ofInt k.bits b)).toNat)) :=
  Zbc hx hy fun w => by rw [hop, if_neg (by simp)]; rfl
theorem Zbu (hx : ev ρ x = .int k a) (hy : ev ρ y = .int k b) : PV P (.binOp .and T x y T') ρ (.int k (k.wrap (BitVec.ofInt k.bits a &&& BitVec.ofInt k.bits b).toNat)) := Zbt .and (· &&& ·) (fun _ _ => rfl) hx hy
theorem Zbv (hx : ev ρ x = .int k a) (hy : ev ρ y = .int k b) : PV P (.binOp .or T x y T') ρ (.int k (k.wrap (BitVec.ofInt k.bits a ||| BitVec.ofInt k.bits b).toNat)) := Zbt .or (· ||| ·) (fun _ _ => rfl) hx hy
theorem Zbw (hx : ev ρ x = .int k a) (hy : ev ρ y = .int k b) : PV P (.binOp .xor T x y T') ρ (.int k (k.wrap (BitVec.ofInt k.bits a ^^^ BitVec.ofInt k.bits b).toNat)) := Zbt .xor (· ^^^ ·) (fun _ _ => rfl) hx hy
theorem Zbx (hx : ev ρ x = .int k a) (hy : ev ρ y = .int k b) : PV P (.binOp .andNot T x y T') ρ (.int k (k.wrap (BitVec.ofInt k.bits a &&& ~~~ BitVec.ofInt k.bits b).toNat)) := Zbt .andNot (fun a b => a &&& ~~~ b) (fun _ _ => rfl) hx hy
theorem Zby {k' : IntKind} (hx : ev ρ x = .int k a) (hy : ev ρ y = .int k' b) (h : 0 ≤ b) : PV P (.binOp .shl T x y T') ρ (.int k (k.wrap (a * 2 ^ (min b.toNat k.bits)))) :=
  Zbc hx hy fun w => by show (if b < 0 then _ else _ : Sem Value).run P w = _; rw [if_neg (by omega)]; rfl
theorem Zbz {k' : IntKind} (hx : ev ρ x = .int k a) (hy : ev ρ y = .int k' b) (h : 0 ≤ b) : PV P (.binOp .shr T x y T') ρ (.int k (a.fdiv (2 ^ (min b.toNat k.bits)))) :=
  Zbc hx hy fun w => by show (if b < 0 then _ else _ : Sem Value).run P w = _; rw [if_neg (by omega)]; rfl
theorem Zb0 {b : Bool} (hx : ev ρ x = .bool b) : PV P (.unOp .not T x) ρ (.bool !b) := by
  intro oo w ho; unfold execOp; rw [ho]; refine op_run_value ?_; rw [hx]; rfl
theorem Zb1 {p : Prop} [Decidable p] (hx : ev ρ x = .bool (decide p)) : PV P (.unOp .not T x) ρ (.bool (decide (¬ p))) := by
  have := Zb0 (P := P) (T := T) hx; rwa [show (!decide p) = decide (¬ p) from by simp] at this
theorem Zb2 (hx : ev ρ x = .int k a) : PV P (.unOp .neg T x) ρ (.int k (k.wrap (0 - a))) := by
  intro oo w ho; unfold execOp; rw [ho]; refine op_run_value ?_; rw [hx]; rfl
theorem Zb3 (hx : ev ρ x = .int k a) : PV P (.unOp .xor T x) ρ (.int k (k.wrap (BitVec.ofInt k.bits (if k.signed then -1 else k.max) ^^^ BitVec.ofInt k.bits a).toNat)) := by
  intro oo w ho; unfold execOp; rw [ho]; refine op_run_value ?_; rw [hx]; rfl
theorem Zb4 {S D : Nat} {k' : IntKind} [hs : TyInt P S k] [hd : TyInt P D k'] (hx : ev ρ x = .int k a) : PV P (.convert S D x) ρ (.int k' (k'.wrap a)) := by
  intro oo w ho; unfold execOp; rw [ho]; refine op_run_value ?_; rw [hx]
  unfold convert
  rw [run_bind P _ _ w w _ (run_under hs.h), run_bind P _ _ w w _ (run_under hd.h)]
  rfl
theorem Zb5 {S D : Nat} {k' : IntKind} [hs : TyInt P S k] [hd : TyInt P D k'] (hx : ev ρ x = .int k a) (h : k'.wrap a = a) : PV P (.convert S D x) ρ (.int k' a) := by
  have := Zb4 (P := P) (S := S) (D := D) hx; rwa [h] at this

-- bools
theorem Zb6 {op : BinOp} {c d : Bool} {v : Value} (hx : ev ρ x = .bool c) (hy : ev ρ y = .bool d)
    (h : ∀ w, (binOp op T (.bool c) (.bool d)).run P w = .ok v w) : PV P (.binOp op T x y T') ρ v := by
  intro oo w ho; unfold execOp; rw [ho]
  refine op_run_value ?_
  have hg : (eqGuard op T x y (.bool c) (.bool d)).run P w = .ok () w := by unfold eqGuard; cases op <;> rfl
  rw [hx, hy, run_bind P _ _ w w () hg]
  exact h w
theorem run_equal_bool {c d : Bool} [h : TyBool P T] (w : World) : (Op.equal T (.bool c) (.bool d)).run P w = .ok (c == d) w := by
  unfold Op.equal Op.maxDepth Op.equalIn
  rw [run_bind P _ _ w w _ (run_under h.h)]; rfl
theorem Zb7 {c d : Bool} [TyBool P T] (hx : ev ρ x = .bool c) (hy : ev ρ y = .bool d) : PV P (.binOp .eql T x y T') ρ (.bool (c == d)) :=
  Zb6 hx hy fun w => by
    show (Op.equal T _ _ >>= fun b => pure (Value.bool b)).run P w = _
    rw [run_bind P _ _ w w _ (run_equal_bool w)]; rfl
theorem Zb8 {c d : Bool} [TyBool P T] (hx : ev ρ x = .bool c) (hy : ev ρ y = .bool d) : PV P (.binOp .neq T x y T') ρ (.bool (c != d)) :=
  Zb6 hx hy fun w => by
    show (Op.equal T _ _ >>= fun b => pure (Value.bool (!b))).run P w = _
    rw [run_bind P _ _ w w _ (run_equal_bool w)]; rfl

-- pointers against nil
theorem Zb9 {op : BinOp} {u v' v : Value} (hx : ev ρ x = u) (hy : ev ρ y = v') (hg : ∀ w, (eqGuard op T x y u v').run P w = .ok () w)
    (h : ∀ w, (binOp op T u v').run P w = .ok v w) : PV P (.binOp op T x y T') ρ v := by
  intro oo w ho; unfold execOp; rw [ho]
  refine op_run_value ?_
  rw [hx, hy, run_bind P _ _ w w () (hg w)]
  exact h w
theorem run_equal_ptr_nil {E : Nat} {p : Option Addr} [h : TyPtr P T E] (w : World) : (Op.equal T (.pointer p) (.pointer none)).run P w = .ok p.isNone w := by
  unfold Op.equal Op.maxDepth Op.equalIn
  rw [run_bind P _ _ w w _ (run_under h.h)]; cases p <;> rfl
theorem Zca {E : Nat} {p : Option Addr} [TyPtr P T E] (hx : ev ρ x = .pointer p) (hy : ev ρ y = .pointer none) : PV P (.binOp .eql T x y T') ρ (.bool p.isNone) :=
  Zb9 hx hy (fun w => by unfold eqGuard; rfl) fun w => by
    have he : binOp .eql T (.pointer p) (.pointer none) = (Op.equal T (.pointer p) (.pointer none) >>= fun b => pure (Value.bool b)) := by cases p <;> rfl
    rw [he, run_bind P _ _ w w _ (run_equal_ptr_nil w)]; rfl
theorem Zcb {E : Nat} {p : Option Addr} [TyPtr P T E] (hx : ev ρ x = .pointer p) (hy : ev ρ y = .pointer none) : PV P (.binOp .neq T x y T') ρ (.bool (!p.isNone)) :=
  Zb9 hx hy (fun w => by unfold eqGuard; rfl) fun w => by
    have he : binOp .neq T (.pointer p) (.pointer none) = (Op.equal T (.pointer p) (.pointer none) >>= fun b => pure (Value.bool (!b))) := by cases p <;> rfl
    rw [he, run_bind P _ _ w w _ (run_equal_ptr_nil w)]; rfl
theorem run_equal_slice_nil {E l c l' c' : Nat} {p : Option Addr} [h : TySlice P T E] (w : World) : (Op.equal T (.slice p l c) (.slice none l' c')).run P w = .ok p.isNone w := by
  unfold Op.equal Op.maxDepth Op.equalIn
  rw [run_bind P _ _ w w _ (run_under h.h)]; cases p <;> rfl
theorem Zcc {E l c l' c' : Nat} {p : Option Addr} [TySlice P T E] (hx : ev ρ x = .slice p l c) (hy : ev ρ y = .slice none l' c') : PV P (.binOp .eql T x y T') ρ (.bool p.isNone) :=
  Zb9 hx hy (fun w => by unfold eqGuard; rfl) fun w => by
    have he : binOp .eql T (.slice p l c) (.slice none l' c') = (Op.equal T (.slice p l c) (.slice none l' c') >>= fun b => pure (Value.bool b)) := by cases p <;> rfl
    rw [he, run_bind P _ _ w w _ (run_equal_slice_nil w)]; rfl
theorem Zcd {E l c l' c' : Nat} {p : Option Addr} [TySlice P T E] (hx : ev ρ x = .slice p l c) (hy : ev ρ y = .slice none l' c') : PV P (.binOp .neq T x y T') ρ (.bool (!p.isNone)) :=
  Zb9 hx hy (fun w => by unfold eqGuard; rfl) fun w => by
    have he : binOp .neq T (.slice p l c) (.slice none l' c') = (Op.equal T (.slice p l c) (.slice none l' c') >>= fun b => pure (Value.bool (!b))) := by cases p <;> rfl
    rw [he, run_bind P _ _ w w _ (run_equal_slice_nil w)]; rfl

-- places
theorem addr_add (b o n : Nat) : (⟨b, o, none⟩ : Addr).add n = ⟨b, o + n, none⟩ := by
  unfold Addr.add; split
  · rename_i h; subst h; rfl
  · rfl
theorem Zce {S i off F sz by' bb o : Nat} {z : Value} [hf : Fld P S i off F] [hi : TyI P F sz by' z] (hx : ev ρ x = .pointer (some ⟨bb, o, none⟩)) (h0 : sz ≠ 0 := by first|omega|exact Nat.le_of_ble_eq_true rfl|(simp; done)|(simp; omega)|decide) :
    PV P (.fieldAddr S x i) ρ (.pointer (some ⟨bb, o + off, none⟩)) := by
  intro oo w ho; unfold execOp; rw [ho]; refine op_run_value ?_; rw [hx]
  obtain ⟨fs, f, h1, h2, rfl, rfl⟩ := hf.out
  unfold Instr.fieldAt
  rw [run_bind P _ _ w w _ (run_under h1)]
  simp only [h2]
  show ((fieldPlace ⟨bb, o, none⟩ f) >>= fun a => pure (Value.pointer (some a))).run P w = _
  have : (fieldPlace ⟨bb, o, none⟩ f).run P w = .ok ⟨bb, o + f.offset, none⟩ w := by
    unfold fieldPlace
    rw [run_bind P _ _ w w _ (run_size hi), if_neg h0, addr_add]; rfl
  rw [run_bind P _ _ w w _ this]; rfl
theorem Zcf {S E sz by' bb o l c : Nat} {z : Value} {n : Int} [hs : TySlice P S E] [hi : TyI P E sz by' z] (hx : ev ρ x = .slice (some ⟨bb, o, none⟩) l c) (hy : ev ρ y = .int k n) (h : 0 ≤ n ∧ n < l) :
    PV P (.indexAddr S x y) ρ (.pointer (some ⟨bb, o + n.toNat * sz, none⟩)) := by
  intro oo w ho; unfold execOp; rw [ho]; refine op_run_value ?_; rw [hx, hy]
  unfold Instr.indexAt
  simp only [asIntOf, Sem.run_bind, Sem.run_pure, Result.andThen_ok, run_under hs.h]
  rw [if_pos h]
  simp only [Sem.run_bind, Sem.run_pure, Result.andThen_ok, run_size hi, addr_add]
theorem Zcg {S E sz by' bb o l c : Nat} {z : Value} {n : Nat} [hs : TySlice P S E] [hi : TyI P E sz by' z] (hx : ev ρ x = .slice (some ⟨bb, o, none⟩) l c) (hy : ev ρ y = .int k (n : Int)) (h : n < l := by first|omega|exact Nat.le_of_ble_eq_true rfl|(simp; done)|(simp; omega)|decide) :
    PV P (.indexAddr S x y) ρ (.pointer (some ⟨bb, o + n * sz, none⟩)) := by
  have := Zcf (P := P) (S := S) hx hy ⟨by omega, by omega⟩; simpa using this
theorem Zch {S E sz by' bb o l : Nat} {z : Value} {n : Int} [hs : TyArr P S l E] [hi : TyI P E sz by' z] (hx : ev ρ x = .pointer (some ⟨bb, o, none⟩)) (hy : ev ρ y = .int k n) (h : 0 ≤ n ∧ n < l) :
    PV P (.indexAddr S x y) ρ (.pointer (some ⟨bb, o + n.toNat * sz, none⟩)) := by
  intro oo w ho; unfold execOp; rw [ho]; refine op_run_value ?_; rw [hx, hy]
  unfold Instr.indexAt
  simp only [asIntOf, Sem.run_bind, Sem.run_pure, Result.andThen_ok, run_under hs.h, Instr.sureAddr]
  rw [if_pos h]
  simp only [Sem.run_bind, Sem.run_pure, Result.andThen_ok, run_size hi, addr_add]

theorem run_bound {j : Value} {k : IntKind} {i : Int} {y : Nat} {code : BoundsCode} {w : World} (hj : j = .int k i) (h : 0 ≤ i ∧ i ≤ y) : (Instr.sliceBound j y code).run P w = .ok i.toNat w := by
  subst hj
  unfold Instr.sliceBound
  simp only [asIntOf, Sem.run_bind, Sem.run_pure, Result.andThen_ok]
  rw [if_pos h]; rfl
def optB (ρ : Env) (d : Int) : Option Operand → Option Int
  | none => some d
  | some x => match ev ρ x with|.int _ n => some n|_ => none
theorem run_bounds {ρ : Env} {b : Bool} {len cap : Nat} {lo hi : Option Operand} {l h : Int} {w : World} (hl : optB ρ 0 lo = some l) (hh : optB ρ len hi = some h) (hle : 0 ≤ l ∧ l ≤ h) (hc : h ≤ cap) :
    (Instr.sliceBounds b len cap (lo.map (ev ρ)) (hi.map (ev ρ)) none).run P w = .ok (l.toNat, h.toNat, cap) w := by
  have eh : (∃ x k, hi = some x ∧ ev ρ x = .int k h) ∨ (hi = none ∧ h = len) := by
    cases hi with
    | none => simp only [optB, Option.some.injEq] at hh; exact .inr ⟨rfl, hh.symm⟩
    | some x =>
      simp only [optB] at hh
      split at hh
      · rename_i k n hev
        simp only [Option.some.injEq] at hh; subst hh
        exact .inl ⟨x, k, rfl, hev⟩
      · cases hh
  have el : (∃ x k, lo = some x ∧ ev ρ x = .int k l) ∨ (lo = none ∧ l = 0) := by
    cases lo with
    | none => simp only [optB, Option.some.injEq] at hl; exact .inr ⟨rfl, hl.symm⟩
    | some x =>
      simp only [optB] at hl
      split at hl
      · rename_i k n hev
        simp only [Option.some.injEq] at hl; subst hl
        exact .inl ⟨x, k, rfl, hev⟩
      · cases hl
  unfold Instr.sliceBounds
  rcases eh with ⟨x, k, rfl, hx⟩|⟨rfl, rfl⟩ <;> rcases el with ⟨y, k', rfl, hy⟩|⟨rfl, rfl⟩ <;>
    simp only [Option.map_some, Option.map_none, pure_bind, Int.toNat_natCast]
  · rw [run_bind P _ _ w w _ (run_bound hx ⟨by omega, by omega⟩), run_bind P _ _ w w _ (run_bound hy ⟨by omega, by omega⟩)]; rfl
  · rw [run_bind P _ _ w w _ (run_bound hx ⟨by omega, by omega⟩)]; rfl
  · rw [run_bind P _ _ w w _ (run_bound hy ⟨by omega, by omega⟩)]; rfl
  · rfl
def cutOff (o l cap sz : Nat) : Nat := if cap = l then o else o + l * sz
theorem Zci {S E sz by' bb o len cap : Nat} {z : Value} {lo hi : Option Operand} {l h : Int} [hs : TySlice P S E] [hi' : TyI P E sz by' z] (hx : ev ρ x = .slice (some ⟨bb, o, none⟩) len cap)
    (hl : optB ρ 0 lo = some l) (hh : optB ρ len hi = some h) (hle : 0 ≤ l ∧ l ≤ h) (hc : h ≤ cap) :
    PV P (.slice S x lo hi none) ρ (.slice (some ⟨bb, cutOff o l.toNat cap sz, none⟩) (h.toNat - l.toNat) (cap - l.toNat)) := by
  intro oo w ho; unfold execOp; rw [ho]; refine op_run_value ?_; rw [hx]
  unfold Instr.sliceAt
  rw [run_bind P _ _ w w _ (run_under hs.h)]
  simp only []
  unfold Instr.slice
  rw [run_bind P _ _ w w _ (run_under hs.h)]
  simp only [Option.map_none]
  rw [run_bind P _ _ w w _ (run_bounds hl hh hle hc), run_bind P _ _ w w _ (run_size hi')]
  show (Result.ok (Value.slice _ _ _) w : Result Value) = _
  unfold cutOff
  split
  · rfl
  · simp only [Option.map_some, addr_add]
theorem Zck {S E sz by' bb o n : Nat} {z : Value} {lo hi : Option Operand} {l h : Int} [hs : TyArr P S n E] [hi' : TyI P E sz by' z] (hx : ev ρ x = .pointer (some ⟨bb, o, none⟩))
    (hl : optB ρ 0 lo = some l) (hh : optB ρ n hi = some h) (hle : 0 ≤ l ∧ l ≤ h) (hc : h ≤ n) :
    PV P (.slice S x lo hi none) ρ (.slice (some ⟨bb, cutOff o l.toNat n sz, none⟩) (h.toNat - l.toNat) (n - l.toNat)) := by
  intro oo w ho; unfold execOp; rw [ho]; refine op_run_value ?_; rw [hx]
  unfold Instr.sliceAt
  rw [run_bind P _ _ w w _ (run_under hs.h)]
  simp only [Option.map_none]
  simp only [Instr.sureAddr, pure_bind]
  rw [run_bind P _ _ w w _ (run_bounds hl hh hle hc), run_bind P _ _ w w _ (run_size hi')]
  show (Result.ok (Value.slice _ _ _) w : Result Value) = _
  unfold cutOff
  split
  · rfl
  · simp only [addr_add]

-- parts of values
theorem Zcl {S i off F : Nat} {cs : Array Value} {v : Value} [hf : Fld P S i off F] [hs : TyScal P F] (hx : ev ρ x = .agg cs) (hv : cs[off]? = some v) : PV P (.field S x i) ρ v := by
  intro oo w ho; unfold execOp; rw [ho]; refine op_run_value ?_; rw [hx]
  obtain ⟨fs, f, h1, h2, rfl, rfl⟩ := hf.out
  unfold Instr.field
  rw [run_bind P _ _ w w _ (run_under h1)]
  simp only [h2, asAgg, pure_bind]
  unfold part
  rw [run_bind P _ _ w w _ (run_isAgg hs.h)]
  simp only [hv]; rfl
theorem Zcm {S i off F sz by' : Nat} {z : Value} {cs : Array Value} [hf : Fld P S i off F] [hs : TyAggr P F] [hi : TyI P F sz by' z] (hx : ev ρ x = .agg cs) : PV P (.field S x i) ρ (.agg (cs.extract off (off + sz))) := by
  intro oo w ho; unfold execOp; rw [ho]; refine op_run_value ?_; rw [hx]
  obtain ⟨fs, f, h1, h2, rfl, rfl⟩ := hf.out
  unfold Instr.field
  rw [run_bind P _ _ w w _ (run_under h1)]
  simp only [h2, asAgg, pure_bind]
  unfold part
  rw [run_bind P _ _ w w _ (run_isAgg hs.h)]
  simp only [if_true]
  rw [run_bind P _ _ w w _ (run_size hi)]; rfl
theorem Zcn {S n E : Nat} {by' : Nat} {z : Value} {cs : Array Value} {i : Int} {v : Value} [hs : TyArr P S n E] [he : TyScal P E] [hi : TyI P E 1 by' z] (hx : ev ρ x = .agg cs) (hy : ev ρ y = .int k i) (h : 0 ≤ i ∧ i < n) (hv : cs[i.toNat]? = some v) : PV P (.index S x y) ρ v := by
  intro oo w ho; unfold execOp; rw [ho]; refine op_run_value ?_; rw [hx, hy]
  unfold Instr.index
  simp only [asIntOf, pure_bind]
  rw [run_bind P _ _ w w _ (run_under hs.h)]
  simp only []
  rw [if_pos h, run_bind P _ _ w w _ (run_size hi)]
  unfold part
  rw [run_bind P _ _ w w _ (run_isAgg he.h)]
  simp only [Nat.mul_one, hv]; rfl
theorem Zco {i : Nat} {vs : Array Value} {v : Value} (hx : ev ρ x = .tuple vs) (hv : vs[i]? = some v) : PV P (.extract x i) ρ v := by
  intro oo w ho; unfold execOp; rw [ho]; refine op_run_value ?_; rw [hx]
  unfold Instr.extract
  simp only [hv]; rfl
theorem Zcp {f : Fn} {a b : Array Operand} : PV P (.makeFunc f a b) ρ (.func f (a.map (ev ρ)) (b.map (ev ρ))) := by
  intro oo w ho; unfold execOp; rw [ho]; rfl

-- builtins that only reckon
theorem Zcq {b : Builtin} {xs : Array Operand} {ts : Array TypeId} {v : Value} (h : ∀ ty cs w, (builtin b ts ty cs (xs.map (ev ρ))).run P w = .ok (.value v) w) : PV P (.call { callee := .builtin b, args := xs, argTypes := ts }) ρ v := by
  intro oo w ho; unfold execOp; rw [ho]
  exact h _ _ w
theorem Zcr {S E len cap : Nat} {a : Option Addr} [hs : TySlice P S E] (hx : ev ρ x = .slice a len cap) : PV P (.call { callee := .builtin .len, args := #[x], argTypes := #[S] }) ρ (.int .i64 (len : Int)) := by
  refine Zcq fun ty cs w => ?_
  refine op_run_value ?_
  simp only [List.map_toArray, List.map_cons, List.map_nil, hx, Builtin.len_]
  show ((underlying S) >>= _).run P w = _
  rw [run_bind P _ _ w w _ (run_under hs.h)]; rfl
theorem Zct {S n E : Nat} [hs : TyArr P S n E] : PV P (.call { callee := .builtin .len, args := #[x], argTypes := #[S] }) ρ (.int .i64 (n : Int)) := by
  refine Zcq fun ty cs w => ?_
  refine op_run_value ?_
  simp only [List.map_toArray, List.map_cons, List.map_nil, Builtin.len_]
  show ((underlying S) >>= _).run P w = _
  rw [run_bind P _ _ w w _ (run_under hs.h)]; rfl
theorem Zcu {S : Nat} {s : ByteArray} [hs : TyStr P S] (hx : ev ρ x = .string s) : PV P (.call { callee := .builtin .len, args := #[x], argTypes := #[S] }) ρ (.int .i64 (s.size : Int)) := by
  refine Zcq fun ty cs w => ?_
  refine op_run_value ?_
  simp only [List.map_toArray, List.map_cons, List.map_nil, hx, Builtin.len_]
  show ((underlying S) >>= _).run P w = _
  rw [run_bind P _ _ w w _ (run_under hs.h)]; rfl
theorem Zcv {ts : Array TypeId} (hx : ev ρ x = .int k a) (hy : ev ρ y = .int k b) : PV P (.call { callee := .builtin .max, args := #[x, y], argTypes := ts }) ρ (.int k (max a b)) := by
  refine Zcq fun ty cs w => ?_
  refine op_run_value ?_
  simp only [List.map_toArray, List.map_cons, List.map_nil, hx, hy, Builtin.max_, List.foldlM]
  show (Result.ok (Value.int k (if b > a then b else a)) w : Result Value) = _
  rw [show (if b > a then b else a) = max a b from by split <;> omega]
theorem Zcw {ts : Array TypeId} (hx : ev ρ x = .int k a) (hy : ev ρ y = .int k b) : PV P (.call { callee := .builtin .min, args := #[x, y], argTypes := ts }) ρ (.int k (min a b)) := by
  refine Zcq fun ty cs w => ?_
  refine op_run_value ?_
  simp only [List.map_toArray, List.map_cons, List.map_nil, hx, hy, Builtin.min_, List.foldlM]
  show (Result.ok (Value.int k (if b < a then b else a)) w : Result Value) = _
  rw [show (if b < a then b else a) = min a b from by split <;> omega]
end pv
end Go.Sl
namespace Go.Sl
open Go

abbrev Frag := Nat → Option Obj
structure Frag.sub (h h' : Frag) : Prop where
  g : ∀ b o, h b = some o → h' b = some o
structure Frag.disj (h h' : Frag) : Prop where
  g : ∀ b, h b = none ∨ h' b = none
structure Asrt where
  on : Frag → Prop

def SatF : List Asrt → Frag → Prop
  | [], _ => True
  | A :: L, h => ∃ h1 h2, A.on h1 ∧ SatF L h2 ∧ h1.disj h2 ∧ h1.sub h ∧ h2.sub h
def frag (w : World) : Frag := fun b => w.heap[b]?

theorem Frag.sub.sub_trans {a b c : Frag} (h : a.sub b) (h' : b.sub c) : a.sub c := ⟨fun k o e => h'.g k o (h.g k o e)⟩
theorem Frag.disj.disj_symm {a b : Frag} (h : a.disj b) : b.disj a := ⟨fun k => (h.g k).symm⟩
theorem Frag.disj.disj_sub {a b c : Frag} (h : a.disj b) (h' : c.sub b) : a.disj c := ⟨fun k => by
  rcases h.g k with e|e
  · exact .inl e
  · right
    cases hc : c k with
    | none => rfl
    | some o => have := h'.g k o hc; rw [e] at this; cases this⟩
theorem Frag.sub_refl (a : Frag) : a.sub a := ⟨fun _ _ e => e⟩
theorem Frag.none_sub (a : Frag) : Frag.sub (fun _ => none) a := ⟨fun _ _ e => by cases e⟩
theorem Frag.none_disj (a : Frag) : Frag.disj (fun _ => none) a := ⟨fun _ => .inl rfl⟩

theorem SatF.mono : ∀ {L : List Asrt} {h h' : Frag}, SatF L h → h.sub h' → SatF L h'
  | [], _, _, _, _ => trivial
  | _ :: _, _, _, ⟨h1, h2, a, b, c, d, e⟩, hs => ⟨h1, h2, a, b, c, d.sub_trans hs, e.sub_trans hs⟩
def Frag.join (a b : Frag) : Frag := fun k => match a k with|some o => some o|none => b k
theorem Frag.sub_join_l (a b : Frag) : a.sub (a.join b) := ⟨fun k o e => by simp [Frag.join, e]⟩
theorem Frag.sub_join_r {a b : Frag} (h : a.disj b) : b.sub (a.join b) := ⟨fun k o e => by
  rcases h.g k with e'|e'
  · simp [Frag.join, e', e]
  · rw [e] at e'; cases e'⟩
theorem Frag.join_sub {a b c : Frag} (h : a.sub c) (h' : b.sub c) : (a.join b).sub c := ⟨fun k o e => by
  unfold Frag.join at e
  cases ha : a k with
  | some x => rw [ha] at e; simp only [Option.some.injEq] at e; subst e; exact h.g k _ ha
  | none => rw [ha] at e; exact h'.g k o e⟩
theorem Frag.disj_join {a b c : Frag} (h : a.disj b) (h' : a.disj c) : a.disj (b.join c) := ⟨fun k => by
  rcases h.g k with e|e
  · exact .inl e
  · rcases h'.g k with e'|e'
    · exact .inl e'
    · right; simp [Frag.join, e, e']⟩

theorem SatF.swap {A B : Asrt} {L : List Asrt} {h : Frag} (hs : SatF (A :: B :: L) h) : SatF (B :: A :: L) h := by
  obtain ⟨h1, h2, a, ⟨h3, h4, b, c, d, e, f⟩, g, i, j⟩ := hs
  have d14 : h1.disj h4 := g.disj_sub f
  have d13 : h1.disj h3 := g.disj_sub e
  refine ⟨h3, h1.join h4, b, ⟨h1, h4, a, c, d14, Frag.sub_join_l h1 h4, Frag.sub_join_r d14⟩, Frag.disj_join d13.disj_symm d, e.sub_trans j, Frag.join_sub i (f.sub_trans j)⟩

theorem SatF.imp {A : Asrt} {L L' : List Asrt} {h : Frag} (hi : ∀ h, SatF L h → SatF L' h) (hs : SatF (A :: L) h) : SatF (A :: L') h := by
  obtain ⟨h1, h2, a, b, c, d, e⟩ := hs
  exact ⟨h1, h2, a, hi _ b, c, d, e⟩
theorem SatF.head {A B : Asrt} {L : List Asrt} {h : Frag} (hi : ∀ h, A.on h → B.on h) (hs : SatF (A :: L) h) : SatF (B :: L) h := by
  obtain ⟨h1, h2, a, b, c, d, e⟩ := hs
  exact ⟨h1, h2, hi _ a, b, c, d, e⟩
theorem SatF.tail {A : Asrt} {L : List Asrt} {h : Frag} (hs : SatF (A :: L) h) : SatF L h := by
  obtain ⟨h1, h2, a, b, c, d, e⟩ := hs
  exact b.mono e
inductive Has : List Asrt → Asrt → List Asrt → Prop
  | here {A L} : Has (A :: L) A L
  | there {A B L L'} : Has L A L' → Has (B :: L) A (B :: L')
inductive Repl : List Asrt → Asrt → Asrt → List Asrt → Prop
  | here {A A' L} : Repl (A :: L) A A' (A' :: L)
  | there {A A' B L L'} : Repl L A A' L' → Repl (B :: L) A A' (B :: L')
theorem Has.front {L L' : List Asrt} {A : Asrt} (hh : Has L A L') : ∀ {h : Frag}, SatF L h → SatF (A :: L') h := by
  induction hh with
  | here => exact id
  | there _ ih => exact fun hs => (hs.imp fun _ => ih).swap
theorem Has.back {L L' : List Asrt} {A : Asrt} (hh : Has L A L') : ∀ {h : Frag}, SatF (A :: L') h → SatF L h := by
  induction hh with
  | here => exact id
  | there _ ih => exact fun hs => hs.swap.imp fun _ => ih
theorem Repl.has {L L' : List Asrt} {A A' : Asrt} (hr : Repl L A A' L') : ∃ M, Has L A M ∧ Has L' A' M := by
  induction hr with
  | here => exact ⟨_, .here, .here⟩
  | there _ ih => obtain ⟨M, h1, h2⟩ := ih; exact ⟨_, .there h1, .there h2⟩

theorem SatF.app : ∀ {L M : List Asrt} {h : Frag}, SatF (L ++ M) h → SatF (⟨SatF L⟩ :: M) h
  | [], M, h, hs => ⟨fun _ => none, h, trivial, hs, Frag.none_disj _, Frag.none_sub _, Frag.sub_refl _⟩
  | A :: L, M, h, hs => by
    obtain ⟨h1, h2, a, b, c, d, e⟩ := hs
    obtain ⟨h3, h4, a', b', c', d', e'⟩ := SatF.app b
    have d13 : h1.disj h3 := c.disj_sub d'
    exact ⟨h1.join h3, h4, ⟨h1, h3, a, a', d13, Frag.sub_join_l h1 h3, Frag.sub_join_r d13⟩, b', (Frag.disj_join (c.disj_sub e').disj_symm c'.disj_symm).disj_symm, Frag.join_sub d (d'.sub_trans e), e'.sub_trans e⟩
theorem SatF.unapp : ∀ {L M : List Asrt} {h : Frag}, SatF (⟨SatF L⟩ :: M) h → SatF (L ++ M) h
  | [], M, h, hs => hs.tail
  | A :: L, M, h, hs => by
    obtain ⟨h1, h2, ⟨h3, h4, a, b, c, d, e⟩, b', c', d', e'⟩ := hs
    have hm : SatF (L ++ M) (h4.join h2) := SatF.unapp ⟨h4, h2, b, b', (c'.disj_symm.disj_sub e).disj_symm, Frag.sub_join_l h4 h2, Frag.sub_join_r (c'.disj_symm.disj_sub e).disj_symm⟩
    exact ⟨h3, h4.join h2, a, hm, Frag.disj_join c ((c'.disj_symm.disj_sub d).disj_symm), d.sub_trans d', Frag.join_sub (e.sub_trans d') e'⟩

structure St (w0 w : World) (L : List Asrt) : Prop where
  os : w.os = w0.os
  tape : w.tape = w0.tape
  output : w.output = w0.output
  size : w0.heap.size ≤ w.heap.size
  sat : SatF L (frag w)

section st
variable {w0 w : World} {L L' M : List Asrt} {A B : Asrt}
theorem St.imp (H : St w0 w L) (hi : ∀ h, SatF L h → SatF L' h) : St w0 w L' := ⟨H.os, H.tape, H.output, H.size, hi _ H.sat⟩
theorem St.pick (H : St w0 w L) (hh : Has L A L') : St w0 w (A :: L') := H.imp fun _ => hh.front
theorem St.unpick (H : St w0 w (A :: L')) (hh : Has L A L') : St w0 w L := H.imp fun _ => hh.back
theorem St.drop (H : St w0 w (A :: L)) : St w0 w L := H.imp fun _ => SatF.tail
theorem St.head (H : St w0 w (A :: L)) (hi : ∀ h, A.on h → B.on h) : St w0 w (B :: L) := H.imp fun _ => SatF.head hi
theorem St.swap (H : St w0 w (A :: B :: L)) : St w0 w (B :: A :: L) := H.imp fun _ => SatF.swap
theorem St.drawn (H : St w0 w L) (n : Nat) : St w0 { w with drawn := n } L := ⟨H.os, H.tape, H.output, H.size, H.sat⟩
def pt (b : Nat) (o : Obj) : Asrt := ⟨fun h => h b = some o⟩
def cl (b : Nat) (c : Array Value) (E : TypeId) : Asrt := ⟨fun h => h b = some (.cells c E (0, 0))⟩
def pur (p : Prop) : Asrt := ⟨fun _ => p⟩
def ex {α : Type} (A : α → Asrt) : Asrt := ⟨fun h => ∃ x, (A x).on h⟩
def all (L : List Asrt) : Asrt := ⟨SatF L⟩
def old (W : World) : Asrt := ⟨fun h => ∀ b, b < W.heap.size → h b = W.heap[b]?⟩

theorem St.pt_get {b : Nat} {o : Obj} (H : St w0 w (pt b o :: L)) : w.heap[b]? = some o := by
  obtain ⟨h1, h2, a, _, _, d, _⟩ := H.sat
  exact d.g _ _ a
theorem St.cl_get {b : Nat} {c : Array Value} {E : TypeId} (H : St w0 w (cl b c E :: L)) : w.heap[b]? = some (.cells c E (0, 0)) := H.pt_get
theorem St.old_get {W : World} (H : St w0 w (old W :: L)) {b : Nat} (hb : b < W.heap.size) : w.heap[b]? = W.heap[b]? := by
  obtain ⟨h1, h2, a, _, _, d, _⟩ := H.sat
  have := a b hb
  rw [Array.getElem?_eq_getElem hb] at this ⊢
  exact d.g _ _ this
theorem St.pur_get {p : Prop} (H : St w0 w (pur p :: L)) : p := by
  obtain ⟨h1, h2, a, _⟩ := H.sat; exact a
theorem St.pur_mk {p : Prop} (H : St w0 w L) (hp : p) : St w0 w (pur p :: L) :=
  H.imp fun h hs => ⟨fun _ => none, h, hp, hs, Frag.none_disj _, Frag.none_sub _, Frag.sub_refl _⟩
theorem St.ex_get {α : Type} {F : α → Asrt} (H : St w0 w (ex F :: L)) : ∃ x, St w0 w (F x :: L) := by
  obtain ⟨h1, h2, ⟨x, a⟩, r⟩ := H.sat
  exact ⟨x, H.os, H.tape, H.output, H.size, h1, h2, a, r⟩
theorem St.ex_mk {α : Type} {F : α → Asrt} (x : α) (H : St w0 w (F x :: L)) : St w0 w (ex F :: L) := H.head fun _ h => ⟨x, h⟩
theorem St.all_get (H : St w0 w (all M :: L)) : St w0 w (M ++ L) := H.imp fun _ => SatF.unapp
theorem St.all_mk (M : List Asrt) (H : St w0 w (M ++ L)) : St w0 w (all M :: L) := H.imp fun _ => SatF.app
theorem St.start (W : World) : St W W [old W] :=
  ⟨rfl, rfl, rfl, Nat.le_refl _, frag W, fun _ => none, (fun _ _ => rfl), trivial, (Frag.none_disj _).disj_symm, Frag.sub_refl _, Frag.none_sub _⟩
theorem St.alloc (H : St w0 w L) (o : Obj) : St w0 { w with heap := w.heap.push o } (pt w.heap.size o :: L) := by
  refine ⟨H.os, H.tape, H.output, by have := H.size; simp; omega, ?_⟩
  have hn : frag w w.heap.size = none := by simp [frag]
  refine ⟨fun b => if b = w.heap.size then some o else none, frag w, by simp [pt], H.sat, ⟨fun b => ?_⟩, ⟨fun b u e => ?_⟩, ⟨fun b u e => ?_⟩⟩
  · by_cases hb : b = w.heap.size
    · subst hb; exact .inr hn
    · left; simp [hb]
  · by_cases hb : b = w.heap.size
    · subst hb; simp only [if_true, Option.some.injEq] at e; subst e; simp [frag]
    · simp [hb] at e
  · show (w.heap.push o)[b]? = some u
    have e : w.heap[b]? = some u := e
    have hlt : b < w.heap.size := (Array.getElem?_eq_some_iff.1 e).1
    rw [Array.getElem?_push, if_neg (by omega)]; exact e
theorem St.write {b : Nat} {o o' : Obj} (H : St w0 w (pt b o :: L)) {w' : World} (ho : w'.os = w.os) (ht : w'.tape = w.tape) (hu : w'.output = w.output) (hs : w'.heap.size = w.heap.size)
    (hb : w'.heap[b]? = some o') (hr : ∀ k, k ≠ b → w'.heap[k]? = w.heap[k]?) : St w0 w' (pt b o' :: L) := by
  refine ⟨ho.trans H.os, ht.trans H.tape, hu.trans H.output, by have := H.size; omega, ?_⟩
  obtain ⟨h1, h2, a, s, d, e, f⟩ := H.sat
  have hn : h2 b = none := by
    rcases d.g b with h|h
    · have a : h1 b = some o := a
      rw [a] at h; cases h
    · exact h
  refine ⟨fun k => if k = b then some o' else none, h2, by simp [pt], s, ⟨fun k => ?_⟩, ⟨fun k u e' => ?_⟩, ⟨fun k u e' => ?_⟩⟩
  · by_cases hk : k = b
    · subst hk; exact .inr hn
    · left; simp [hk]
  · by_cases hk : k = b
    · subst hk; simp only [if_true, Option.some.injEq] at e'; subst e'; exact hb
    · simp [hk] at e'
  · have hk : k ≠ b := fun hk => by subst hk; rw [hn] at e'; cases e'
    show w'.heap[k]? = some u
    rw [hr k hk]
    exact f.g _ _ e'
theorem St.set {b : Nat} {o : Obj} (H : St w0 w (pt b o :: L)) (o' : Obj) : St w0 { w with heap := w.heap.setIfInBounds b o' } (pt b o' :: L) := by
  have hlt := (Array.getElem?_eq_some_iff.1 H.pt_get).1
  exact H.write rfl rfl rfl (by simp) (by simp [Array.getElem?_setIfInBounds_self_of_lt hlt]) (fun k hk => Array.getElem?_setIfInBounds_ne (Ne.symm hk))
end st

def oneC : Value → Bool
  | .agg _|.tuple _ => false
  | _ => true
section cells
variable {P : Program} {w : World} {b : Nat} {c : Array Value} {E : TypeId}
theorem cell_of (hb : w.heap[b]? = some (.cells c E (0, 0))) (o : Nat) : w.cell? ⟨b, o, none⟩ = c[o]? := by
  simp [World.cell?, hb]
theorem frozen_of (hb : w.heap[b]? = some (.cells c E (0, 0))) (o : Nat) : w.frozen? ⟨b, o, none⟩ = false := by
  simp [World.frozen?, hb]
theorem run_load1 {fr : Nat × Nat} (hb : w.heap[b]? = some (.cells c E fr)) {o : Nat} {v : Value} (hv : c[o]? = some v) : (load ⟨b, o, none⟩).run P w = .ok v w := by
  show (Sem.load _ _ _).run P w = _
  have : w.cell? ⟨b, o, none⟩ = some v := by simp [World.cell?, hb, hv]
  simp only [Sem.run, this]
theorem run_store1 (hb : w.heap[b]? = some (.cells c E (0, 0))) {o : Nat} {v : Value} (ho : o < c.size) (hv : oneC v = true) :
    (store ⟨b, o, none⟩ v).run P w = .ok () { w with heap := w.heap.setIfInBounds b (.cells (c.setIfInBounds o v) E (0, 0)) } := by
  have hlt := (Array.getElem?_eq_some_iff.1 hb).1
  have hc : w.cell? ⟨b, o, none⟩ = some c[o] := by rw [cell_of hb]; simp [ho]
  have hset : w.setCell ⟨b, o, none⟩ v = { w with heap := w.heap.setIfInBounds b (.cells (c.setIfInBounds o v) E (0, 0)) } := by
    unfold World.setCell
    congr 1
    apply Array.ext
    · simp
    · intro i h1 h2
      simp only [Array.getElem_modify]
      by_cases hi : b = i
      · subst hi
        have hbe : w.heap[b] = .cells c E (0, 0) := by
          rw [Array.getElem?_eq_getElem hlt] at hb; exact Option.some.inj hb
        simp [hbe, Array.getElem_setIfInBounds_self]
      · rw [if_neg hi, Array.getElem_setIfInBounds_ne (hj := by simpa using h2) (h := hi)]
  show (Sem.store _ _ _ _).run P w = _
  cases v <;> simp only [oneC, Bool.false_eq_true] at hv <;> simp only [Sem.run, hc, frozen_of hb, hset] <;> rfl
theorem run_loadFrom {fr : Nat × Nat} (hb : w.heap[b]? = some (.cells c E fr)) (o : Nat) : ∀ (n i : Nat) (acc : Array Value), o + i + n ≤ c.size →
    (loadCellsFrom ⟨b, o, none⟩ i n acc).run P w = .ok (acc ++ c.extract (o + i) (o + i + n)) w
  | 0, i, acc, _ => by
    show Result.ok acc w = _
    rw [show c.extract (o + i) (o + i + 0) = #[] from by simp; omega]
    simp
  | n + 1, i, acc, h => by
    unfold loadCellsFrom
    rw [addr_add, run_bind P _ _ w w _ (run_load1 hb (v := c[o + i]'(by omega)) (by simp)), run_loadFrom hb o n (i + 1) _ (by omega)]
    congr 1
    apply Array.ext'
    have e : c.extract (o + i) (o + i + (n + 1)) = #[c[o + i]'(by omega)] ++ c.extract (o + (i + 1)) (o + (i + 1) + n) := by
      have := Array.extract_append_extract (as := c) (i := o + i) (j := o + i + 1) (k := o + i + (n + 1))
      rw [show min (o + i) (o + i + 1) = o + i from by omega, show max (o + i + 1) (o + i + (n + 1)) = o + i + (n + 1) from by omega] at this
      rw [← this]
      congr 1
      · apply Array.ext
        · simp; omega
        · intro k h1 h2
          simp at h2
          subst h2
          simp
      · congr 1; omega
    rw [e]
    simp
theorem run_loadCells {fr : Nat × Nat} (hb : w.heap[b]? = some (.cells c E fr)) (o n : Nat) (h : o + n ≤ c.size) : (loadCells ⟨b, o, none⟩ n).run P w = .ok (c.extract o (o + n)) w := by
  have := run_loadFrom (P := P) hb o n 0 #[] (by omega)
  simp only [Nat.add_zero, Array.empty_append] at this
  exact this
def wr (c : Array Value) (o : Nat) : List Value → Array Value
  | [] => c
  | v :: vs => wr (c.setIfInBounds o v) (o + 1) vs
theorem wr_size (vs : List Value) : ∀ (c : Array Value) (o : Nat), (wr c o vs).size = c.size := by
  induction vs with
  | nil => intro c o; rfl
  | cons v vs ih => intro c o; rw [wr, ih]; simp
theorem wr_get (vs : List Value) : ∀ (c : Array Value) (o k : Nat), o + vs.length ≤ c.size → (wr c o vs)[k]? = if o ≤ k ∧ k < o + vs.length then vs[k - o]? else c[k]? := by
  induction vs with
  | nil => intro c o k _; rw [wr, if_neg (by simp only [List.length_nil]; omega)]
  | cons v vs ih =>
    intro c o k h
    simp only [List.length_cons] at h ⊢
    rw [wr, ih _ _ _ (by simp; omega)]
    by_cases h1 : o + 1 ≤ k ∧ k < o + 1 + vs.length
    · rw [if_pos h1, if_pos (by omega), show k - o = (k - (o + 1)) + 1 from by omega, List.getElem?_cons_succ]
    · rw [if_neg h1]
      by_cases h2 : k = o
      · subst h2
        rw [if_pos (by omega), Array.getElem?_setIfInBounds_self_of_lt (by omega)]; simp
      · rw [if_neg (by omega), Array.getElem?_setIfInBounds_ne (by omega)]
theorem run_storeCells (vs : List Value) : ∀ {w : World} {c : Array Value} (_ : w.heap[b]? = some (.cells c E (0, 0))) (o i : Nat), o + i + vs.length ≤ c.size → vs.all oneC = true →
    (storeCells ⟨b, o, none⟩ vs i).run P w = .ok () { w with heap := w.heap.setIfInBounds b (.cells (wr c (o + i) vs) E (0, 0)) } := by
  induction vs with
  | nil =>
    intro w c hb o i _ _
    show Result.ok () w = _
    congr 1
    have hlt := (Array.getElem?_eq_some_iff.1 hb).1
    rw [wr]
    have : w.heap.setIfInBounds b (.cells c E (0, 0)) = w.heap := by
      apply Array.ext
      · simp
      · intro k h1 h2
        by_cases hk : b = k
        · subst hk; rw [Array.getElem_setIfInBounds_self]; rw [Array.getElem?_eq_getElem hlt] at hb; exact (Option.some.inj hb).symm
        · rw [Array.getElem_setIfInBounds_ne (hj := h2) (h := hk)]
    rw [this]
  | cons v vs ih =>
    intro w c hb o i h hall
    simp only [List.all_cons, Bool.and_eq_true] at hall
    simp only [List.length_cons] at h
    have hlt := (Array.getElem?_eq_some_iff.1 hb).1
    unfold storeCells
    show ((store ((⟨b, o, none⟩ : Addr).add i) v) >>= fun _ => storeCells ⟨b, o, none⟩ vs (i + 1)).run P w = _
    rw [addr_add, run_bind P _ _ w _ _ (run_store1 hb (o := o + i) (by omega) hall.1)]
    have hb' : ({ w with heap := w.heap.setIfInBounds b (.cells (c.setIfInBounds (o + i) v) E (0, 0)) } : World).heap[b]? = some (.cells (c.setIfInBounds (o + i) v) E (0, 0)) := by
      simp [Array.getElem?_setIfInBounds_self_of_lt hlt]
    rw [ih hb' o (i + 1) (by simp; omega) hall.2]
    congr 1
    rw [wr, show o + (i + 1) = o + i + 1 from by omega]
    congr 1
    apply Array.ext
    · simp
    · intro k h1 h2
      by_cases hk : b = k
      · subst hk; simp
      · have hk3 : k < w.heap.size := by simpa using h2
        rw [Array.getElem_setIfInBounds_ne (hj := by simpa using hk3) (h := hk), Array.getElem_setIfInBounds_ne (hj := hk3) (h := hk), Array.getElem_setIfInBounds_ne (hj := hk3) (h := hk)]
end cells
end Go.Sl
namespace Go.Sl
open Go

section steps
variable {P : Program} {ops : Array Oper} {dst : Option Nat} {ty : TypeId} {pos : String} {after : Array Edge} {rest : List Oper} {ρ : Env} {w w0 : World} {K : Env → World → Prop}

theorem Zcx (h : K ρ w) : denOps P ops [] ρ w K := h
theorem Zcy {op : Op} (h : After P dst ρ (fun ρ' w' => denOps P ops rest ρ' w' K) ((execOp (ev ρ) ⟨dst, op, ty, pos, after, none⟩).run P w)) : denOps P ops (⟨dst, op, ty, pos, after, none⟩ :: rest) ρ w K := by
  show denI P ops _ ρ w _
  unfold denI
  rw [if_pos (by rfl)]
  exact h
theorem Zcz {op : Op} {v : Value} (h : PV P op ρ v) (k : denOps P ops rest (put ρ dst v) w K) : denOps P ops (⟨dst, op, ty, pos, after, none⟩ :: rest) ρ w K :=
  Zcy (by rw [h _ w rfl]; exact k)
theorem Zc0 {op : Op} {j : Nat} {b : Bool} (hg : yl ops ρ j = some b) (h : denOps P ops (⟨dst, op, ty, pos, after, none⟩ :: rest) ρ w K) : denOps P ops (⟨dst, op, ty, pos, after, some (j, b)⟩ :: rest) ρ w K := by
  show denI P ops _ ρ w _
  unfold denI
  rw [if_pos (by simp [Region.wanted, hg])]
  have h : denI P ops _ ρ w _ := h
  unfold denI at h
  rw [if_pos (by rfl)] at h
  exact h
theorem Zc1 {op : Op} {j : Nat} {b : Bool} (hg : yl ops ρ j = some (!b)) (h : denOps P ops rest (put ρ dst undef) w K) : denOps P ops (⟨dst, op, ty, pos, after, some (j, b)⟩ :: rest) ρ w K := by
  show denI P ops _ ρ w _
  unfold denI
  rw [if_neg (by simp [Region.wanted, hg])]
  exact h
theorem Zc2 {op : Op} {j : Nat} {b : Bool} (hg : yl ops ρ j = none) (h : denOps P ops rest (put ρ dst undef) w K) : denOps P ops (⟨dst, op, ty, pos, after, some (j, b)⟩ :: rest) ρ w K := by
  show denI P ops _ ρ w _
  unfold denI
  rw [if_neg (by simp [Region.wanted, hg])]
  exact h
theorem put_self {d : Nat} {v : Value} (h : ρ d = v) : put ρ (some d) v = ρ := by
  funext t
  by_cases e : t = d
  · subst e; rw [put_same]; exact h.symm
  · rw [put_ne _ _ _ _ e]
-- memory
variable {L L' L2 : List Asrt} {x y : Operand} {b o E T : Nat} {c : Array Value}
theorem Zc5 [hs : TyScal P T] {v : Value} (H : St w0 w L) (hx : ev ρ x = .pointer (some ⟨b, o, none⟩)) (hm : Has L (cl b c E) L') (hv : c[o]? = some v) (k : denOps P ops rest (put ρ dst v) w K) :
    denOps P ops (⟨dst, .load T x, ty, pos, after, none⟩ :: rest) ρ w K := by
  refine Zcy ?_
  have hr : (Instr.loadAt T (ev ρ x)).run P w = .ok v w := by
    rw [hx]; unfold Instr.loadAt
    rw [run_bind P _ _ w w _ rfl]; unfold loadVar
    rw [run_bind P _ _ w w _ (run_isAgg hs.h)]
    exact run_load1 (H.pick hm).cl_get hv
  have : (execOp (ev ρ) ⟨dst, .load T x, ty, pos, after, none⟩).run P w = .ok (.value v) w := op_run_value hr
  rw [this]; exact k
theorem run_loadAgg [hs : TyAggr P T] {n by' : Nat} {z : Value} [hi : TyI P T n by' z] {fr : Nat × Nat} (hb : w.heap[b]? = some (.cells c E fr)) (hv : o + n ≤ c.size) (hx : ev ρ x = .pointer (some ⟨b, o, none⟩)) :
    (Instr.loadAt T (ev ρ x)).run P w = .ok (.agg (c.extract o (o + n))) w := by
  rw [hx]; unfold Instr.loadAt
  rw [run_bind P _ _ w w _ rfl]; unfold loadVar
  rw [run_bind P _ _ w w _ (run_isAgg hs.h)]
  simp only [if_true]
  rw [run_bind P _ _ w w _ (run_size hi), run_bind P _ _ w w _ (run_loadCells hb o n hv)]; rfl
theorem Zc7 [hs : TyAggr P T] {n by' : Nat} {z : Value} [hi : TyI P T n by' z] (H : St w0 w L) (hx : ev ρ x = .pointer (some ⟨b, o, none⟩)) (hm : Has L (cl b c E) L') (hv : o + n ≤ c.size) (k : denOps P ops rest (put ρ dst (.agg (c.extract o (o + n)))) w K) :
    denOps P ops (⟨dst, .load T x, ty, pos, after, none⟩ :: rest) ρ w K := by
  refine Zcy ?_
  have : (execOp (ev ρ) ⟨dst, .load T x, ty, pos, after, none⟩).run P w = .ok (.value (.agg (c.extract o (o + n)))) w := op_run_value (run_loadAgg (H.pick hm).cl_get hv hx)
  rw [this]; exact k
theorem run_storeVar {n by' : Nat} {z v : Value} [hi : TyI P T n by' z] (hb : w.heap[b]? = some (.cells c E (0, 0))) (hn : v.cells.size = n) (hv : o + n ≤ c.size) (h1 : v.cells.toList.all oneC = true) :
    (storeVar T ⟨b, o, none⟩ v).run P w = .ok () { w with heap := w.heap.setIfInBounds b (.cells (wr c o v.cells.toList) E (0, 0)) } := by
  unfold storeVar
  show ((sizeOf T) >>= _).run P w = _
  rw [run_bind P _ _ w w _ (run_size hi)]
  rw [if_neg (by simp [hn])]
  have := run_storeCells (P := P) v.cells.toList hb o 0 (by simp [hn]; omega) h1
  simpa using this
theorem Zc9 {n by' : Nat} {z v : Value} [hi : TyI P T n by' z] {c' : Array Value} (H : St w0 w L) (hx : ev ρ x = .pointer (some ⟨b, o, none⟩)) (hy : ev ρ y = v) (hm : Repl L (cl b c E) (cl b c' E) L2) (hn : v.cells.size = n) (hv : o + n ≤ c.size)
    (h1 : v.cells.toList.all oneC = true) (hc : wr c o v.cells.toList = c') (k : ∀ w', St w0 w' L2 → denOps P ops rest (put ρ dst undef) w' K) :
    denOps P ops (⟨dst, .store T x y, ty, pos, after, none⟩ :: rest) ρ w K := by
  refine Zcy ?_
  obtain ⟨M, hh1, hh2⟩ := hm.has
  have hr : (Instr.storeAt T (ev ρ x) (ev ρ y)).run P w = .ok () { w with heap := w.heap.setIfInBounds b (.cells (wr c o v.cells.toList) E (0, 0)) } := by
    rw [hx, hy]; unfold Instr.storeAt
    rw [run_bind P _ _ w w _ rfl]
    exact run_storeVar (H.pick hh1).cl_get hn hv h1
  have : (execOp (ev ρ) ⟨dst, .store T x y, ty, pos, after, none⟩).run P w = .ok .skip _ := op_run_unit hr
  rw [this]
  subst hc
  exact k _ (((H.pick hh1).set (.cells (wr c o v.cells.toList) E (0, 0))).unpick hh2)
theorem cells_one {v : Value} (h : oneC v = true) : v.cells = #[v] := by cases v <;> first|rfl|cases h
theorem Zda {by' : Nat} {z v : Value} [hi : TyI P T 1 by' z] (H : St w0 w L) (hx : ev ρ x = .pointer (some ⟨b, o, none⟩)) (hy : ev ρ y = v) (h1 : oneC v = true) (hm : Repl L (cl b c E) (cl b (c.setIfInBounds o v) E) L2) (hv : o < c.size)
    (k : ∀ w', St w0 w' L2 → denOps P ops rest (put ρ dst undef) w' K) :
    denOps P ops (⟨dst, .store T x y, ty, pos, after, none⟩ :: rest) ρ w K :=
  Zc9 H hx hy hm (by rw [cells_one h1]; rfl) (by omega) (by rw [cells_one h1]; simp [h1]) (by rw [cells_one h1]; rfl) k
theorem Zdf [hs : TyAggr P T] {n by' : Nat} {z : Value} [hi : TyI P T n by' z] (H : St w0 w L) (hx : ev ρ x = .pointer (some ⟨b, 0, none⟩)) (hm : Has L (cl b c E) L') (hv : c.size = n) (k : denOps P ops rest (put ρ dst (.agg c)) w K) :
    denOps P ops (⟨dst, .load T x, ty, pos, after, none⟩ :: rest) ρ w K := by
  refine Zc7 H hx hm (by omega) ?_
  have : c.extract 0 (0 + n) = c := by rw [Nat.zero_add, ← hv]; simp
  rw [this]; exact k
theorem Zdg {n by' : Nat} {z : Value} {vs : Array Value} [hi : TyI P T n by' z] (H : St w0 w L) (hx : ev ρ x = .pointer (some ⟨b, o, none⟩)) (hy : ev ρ y = .agg vs) (hn : vs.size = n) (h1 : vs.toList.all oneC = true) (hm : Repl L (cl b c E) (cl b (wr c o vs.toList) E) L2) (hv : o + n ≤ c.size)
    (k : ∀ w', St w0 w' L2 → denOps P ops rest (put ρ dst undef) w' K) :
    denOps P ops (⟨dst, .store T x y, ty, pos, after, none⟩ :: rest) ρ w K :=
  Zc9 H hx hy hm hn hv h1 rfl k
theorem wr_all (vs c : Array Value) (h : vs.size = c.size) : wr c 0 vs.toList = vs := by
  apply Array.ext_getElem?
  intro k
  rw [wr_get _ _ _ _ (by simp [h])]
  by_cases hk : k < vs.size
  · rw [if_pos (by simp; omega)]; simp
  · rw [if_neg (by simp; omega), Array.getElem?_eq_none (by omega), Array.getElem?_eq_none (by omega)]
theorem Zdh {n by' : Nat} {z : Value} {vs : Array Value} [hi : TyI P T n by' z] (H : St w0 w L) (hx : ev ρ x = .pointer (some ⟨b, 0, none⟩)) (hy : ev ρ y = .agg vs) (hn : vs.size = n) (h1 : vs.toList.all oneC = true) (hm : Repl L (cl b c E) (cl b vs E) L2) (hv : c.size = n)
    (k : ∀ w', St w0 w' L2 → denOps P ops rest (put ρ dst undef) w' K) :
    denOps P ops (⟨dst, .store T x y, ty, pos, after, none⟩ :: rest) ρ w K :=
  Zc9 H hx hy hm hn (by omega) h1 (wr_all vs c (by omega)) k

theorem Zdi {n by' : Nat} {z : Value} [hi : TyI P T n by' z] (H : St w0 w L) (k : ∀ w' b, St w0 w' (cl b z.cells T :: L) → denOps P ops rest (put ρ dst (.pointer (some ⟨b, 0, none⟩))) w' K) :
    denOps P ops (⟨dst, .alloc T, ty, pos, after, none⟩ :: rest) ρ w K := by
  refine Zcy ?_
  have hr : (Instr.alloc T true (.tuple #[])).run P w = .ok (.pointer (some ⟨w.heap.size, 0, none⟩)) { w with heap := w.heap.push (.cells z.cells T (0, 0)) } := by
    unfold Instr.alloc
    rw [run_bind P _ _ w w _ (run_zero hi)]; rfl
  have : (execOp (ev ρ) ⟨dst, .alloc T, ty, pos, after, none⟩).run P w = .ok (.value _) _ := op_run_value hr
  rw [this]
  exact k _ _ (H.alloc _)
theorem Zdj {v : Value} (H : St w0 w L) (hx : ev ρ x = v) (k : ∀ w' b, St w0 w' (cl b v.cells T :: L) → denOps P ops rest (put ρ dst (.pointer (some ⟨b, 0, none⟩))) w' K) :
    denOps P ops (⟨dst, .box T x, ty, pos, after, none⟩ :: rest) ρ w K := by
  refine Zcy ?_
  have hr : (Instr.box T (ev ρ x)).run P w = .ok (.pointer (some ⟨w.heap.size, 0, none⟩)) { w with heap := w.heap.push (.cells v.cells T (0, 0)) } := by rw [hx]; rfl
  have : (execOp (ev ρ) ⟨dst, .box T x, ty, pos, after, none⟩).run P w = .ok (.value _) _ := op_run_value hr
  rw [this]
  exact k _ _ (H.alloc _)
theorem run_askRoom (n : Nat) : (askRoom n).run P w = .ok () w := by unfold askRoom; split <;> rfl
theorem madeCells (z : Value) (n : Nat) (h : 0 < z.cells.size) : ((Array.range (n * z.cells.size)).map (z.cells[· % z.cells.size]!)) = (List.replicate n z.cells.toList).flatten.toArray := by
  apply Array.ext'
  simp only [Array.toList_map, Array.toList_range, List.toList_toArray]
  induction n with
  | zero => simp
  | succ n ih =>
    rw [List.replicate_succ', List.flatten_append, ← ih, Nat.succ_mul, List.range_add, List.map_append]
    congr 1
    simp only [List.flatten_cons, List.flatten_nil, List.append_nil, List.map_map]
    apply List.ext_getElem
    · simp
    · intro k h1 h2
      simp only [List.getElem_map, List.getElem_range, Function.comp_apply]
      have hk : k < z.cells.size := by simpa using h2
      have : (n * z.cells.size + k) % z.cells.size = k := by rw [Nat.add_comm, Nat.add_mul_mod_self_right, Nat.mod_eq_of_lt hk]
      rw [this]
      simp [hk]
theorem run_makeSlice {n by' : Nat} {z l cp : Value} {len cap : Nat} [hs : TySlice P T E] [hi : TyI P E n by' z] (hl : l = .int .i64 len) (hc : cp = .int .i64 cap) (hle : len ≤ cap) (hz : z.cells.size = n) (h0 : 0 < n) (hcap : cap ≤ 9223372036854775807) (hb : cap * by' ≤ 281474976710656) :
    (Instr.makeSlice T l cp).run P w = .ok (.slice (some ⟨w.heap.size, 0, none⟩) len cap) { w with heap := w.heap.push (.cells (List.replicate cap z.cells.toList).flatten.toArray E (0, 0)) } := by
  subst hl; subst hc
  unfold Instr.makeSlice
  rw [run_bind P _ _ w w _ (run_under hs.h)]
  simp only []
  obtain ⟨ti, hti, _, hby, _⟩ := hi.out
  rw [run_bind P _ _ w w (len : Int) rfl, run_bind P _ _ w w (cap : Int) rfl, run_bind P _ _ w w _ (run_tinfo hti)]
  simp only [hby]
  have e1 : IntKind.i64.wrap (len : Int) = len := IntWalk.i64_in _ ⟨by omega, by omega⟩
  have e2 : IntKind.i64.wrap (cap : Int) = cap := IntWalk.i64_in _ ⟨by omega, by omega⟩
  have e3 : ¬ (((by' : Int) * (cap : Int)) > 2 ^ 48) := by
    have : (2 : Int) ^ 48 = 281474976710656 := by decide
    rw [this]
    have : ((by' : Int) * (cap : Int)) = ((cap * by' : Nat) : Int) := by rw [Nat.mul_comm]; simp
    rw [this]; omega
  simp only [e1, e2]
  rw [if_neg (by simp only [Bool.or_eq_true, decide_eq_true_eq]; omega)]
  simp only [Int.toNat_natCast]
  rw [run_bind P _ _ w w _ (run_askRoom _), run_bind P _ _ w w _ (run_size hi)]
  by_cases hc0 : cap = 0
  · subst hc0
    simp only [Nat.zero_mul, if_true, pure_bind]
    rw [show (Array.map (fun x => (#[] : Array Value)[x % (#[] : Array Value).size]!) (Array.range 0)) = #[] from by apply Array.ext'; simp]
    rfl
  · have : cap * n ≠ 0 := by intro h; rcases Nat.mul_eq_zero.1 h with h|h <;> omega
    rw [if_neg this, run_bind P _ _ w w _ (run_zero hi)]
    subst hz
    simp only [pure_bind]
    rw [madeCells z cap h0]
    rfl
theorem Zdk {n by' : Nat} {z : Value} {len cap : Nat} [hs : TySlice P T E] [hi : TyI P E n by' z] (H : St w0 w L) (hl : ev ρ x = .int .i64 len) (hc : ev ρ y = .int .i64 cap) (hle : len ≤ cap) (hcap : cap ≤ 9223372036854775807) (hb : cap * by' ≤ 281474976710656) (h0 : 0 < n)
    (k : ∀ w' b, St w0 w' (cl b (List.replicate cap z.cells.toList).flatten.toArray E :: L) → denOps P ops rest (put ρ dst (.slice (some ⟨b, 0, none⟩) len cap)) w' K) :
    denOps P ops (⟨dst, .makeSlice T x y, ty, pos, after, none⟩ :: rest) ρ w K := by
  refine Zcy ?_
  have : (execOp (ev ρ) ⟨dst, .makeSlice T x y, ty, pos, after, none⟩).run P w = .ok (.value _) _ := op_run_value (run_makeSlice hl hc hle hi.zs h0 hcap hb)
  rw [this]
  exact k _ _ (H.alloc _)
def partsV (ρ : Env) (ps : Array (Nat × Operand)) : List (Nat × Value) := ps.toList.map fun p => (p.1, ev ρ p.2)
theorem Zdl {n by' : Nat} {z : Value} {len : Nat} {ps : Array (Nat × Operand)} {cs : Array Value} [hs : TySlice P T E] [hi : TyI P E n by' z] (H : St w0 w L) (hlen : len * n ≤ 16777216) (h0 : 0 < n)
    (hf : Instr.fill (fun i => some (i * n, n)) (List.replicate len z.cells.toList).flatten.toArray (partsV ρ ps) = some cs)
    (k : ∀ w' b, St w0 w' (cl b cs E :: L) → denOps P ops rest (put ρ dst (.slice (some ⟨b, 0, none⟩) len len)) w' K) :
    denOps P ops (⟨dst, .buildSlice T len ps, ty, pos, after, none⟩ :: rest) ρ w K := by
  have hz := hi.zs
  refine Zcy ?_
  have hp : (ps.map fun p => (p.1, ev ρ p.2)).toList = partsV ρ ps := by simp [partsV]
  have hr : (Instr.buildSlice T len (ps.map fun p => (p.1, ev ρ p.2))).run P w = .ok (.slice (some ⟨w.heap.size, 0, none⟩) len len) { w with heap := w.heap.push (.cells cs E (0, 0)) } := by
    unfold Instr.buildSlice
    rw [run_bind P _ _ w w _ (run_under hs.h)]
    simp only []
    rw [run_bind P _ _ w w _ (run_size hi)]
    rw [if_neg (by have : (2 : Nat) ^ 24 = 16777216 := by decide
                   omega)]
    by_cases hc0 : len = 0
    · subst hc0
      simp only [Nat.zero_mul, if_true, pure_bind]
      rw [show (Array.map (fun x => (#[] : Array Value)[x % (#[] : Array Value).size]!) (Array.range 0)) = #[] from by apply Array.ext'; simp, hp]
      have hf' : Instr.fill (fun i => some (i * n, n)) #[] (partsV ρ ps) = some cs := hf
      rw [hf']; rfl
    · have hne : len * n ≠ 0 := by intro h; rcases Nat.mul_eq_zero.1 h with h|h <;> omega
      rw [if_neg hne, run_bind P _ _ w w _ (run_zero hi)]
      subst hz
      simp only [pure_bind]
      rw [madeCells z len h0, hp, hf]
      rfl
  have : (execOp (ev ρ) ⟨dst, .buildSlice T len ps, ty, pos, after, none⟩).run P w = .ok (.value _) _ := op_run_value hr
  rw [this]
  exact k _ _ (H.alloc _)
end steps
end Go.Sl
namespace Go.Sl
open Go

section steps
variable {P : Program} {ops : Array Oper} {dst : Option Nat} {ty : TypeId} {pos : String} {after : Array Edge} {rest : List Oper} {ρ : Env} {w w0 : World} {K : Env → World → Prop}
variable {L L' L2 : List Asrt} {x y : Operand} {b o E T : Nat} {c : Array Value}
def places (P : Program) (T : Nat) : Option (Array (Nat × Nat)) :=
  match P.underlying T with
  | some (.struct fs) => fs.mapM fun f => (P.info? f.type).map fun i => (f.offset, i.size)
  | _ => none
class TyStruct (P : Program) (T : Nat) (ps : outParam (Array (Nat × Nat))) : Prop where h : places P T = some ps
theorem run_mapM_opt {α β : Type} (f : α → Sem β) (g : α → Option β) (hf : ∀ a b, g a = some b → (f a).run P w = .ok b w) : ∀ (l : List α) (r : List β), l.mapM g = some r → (l.mapM f).run P w = .ok r w
  | [], r, h => by simp at h; subst h; rfl
  | a :: l, r, h => by
    rw [List.mapM_cons] at h
    cases ha : g a with
    | none => rw [ha] at h; simp at h
    | some b =>
      cases hl : l.mapM g with
      | none => rw [ha, hl] at h; simp at h
      | some r' =>
        rw [ha, hl] at h
        simp at h
        subst h
        rw [List.mapM_cons, run_bind P _ _ w w b (hf a b ha), run_bind P _ _ w w r' (run_mapM_opt f g hf l r' hl)]
        rfl
theorem Zdm {n by' : Nat} {z : Value} {ps : Array (Nat × Operand)} {pl : Array (Nat × Nat)} {cs : Array Value} [hs : TyStruct P T pl] [hi : TyI P T n by' z]
    (hf : Instr.fill (pl[·]?) z.cells (partsV ρ ps) = some cs) : PV P (.build T ps) ρ (.agg cs) := by
  intro oo w ho; unfold execOp; rw [ho]; refine op_run_value ?_
  have hp : (ps.map fun p => (p.1, ev ρ p.2)).toList = partsV ρ ps := by simp [partsV]
  have h := hs.h
  unfold places at h
  split at h
  · rename_i fs hfs
    unfold Instr.build
    rw [run_bind P _ _ w w _ (run_zero hi), run_bind P _ _ w w _ (run_under hfs)]
    simp only []
    have hm : (fs.mapM fun f => do pure (f.offset, ← sizeOf f.type) : Sem _).run P w = .ok pl w := by
      rw [Array.mapM_eq_mapM_toList] at h ⊢
      cases hl : fs.toList.mapM (fun f => (P.info? f.type).map fun i => (f.offset, i.size)) with
      | none => rw [hl] at h; simp at h
      | some r =>
        rw [hl] at h
        simp at h
        subst h
        have := run_mapM_opt (P := P) (w := w) (fun f : Field => (do pure (f.offset, ← sizeOf f.type) : Sem (Nat × Nat))) (fun f => (P.info? f.type).map fun i => (f.offset, i.size)) (by
          intro f r hr
          cases hi : P.info? f.type with
          | none => rw [hi] at hr; cases hr
          | some i =>
            rw [hi] at hr
            simp only [Option.map_some, Option.some.injEq] at hr
            subst hr
            have : (sizeOf f.type).run P w = .ok i.size w := by
              show (typeInfo f.type >>= fun i => pure i.size).run P w = _
              rw [run_bind P _ _ w w i (run_tinfo hi)]; rfl
            rw [run_bind P _ _ w w _ this]; rfl) _ _ hl
        rw [map_eq_pure_bind, run_bind P _ _ w w _ this]; rfl
    rw [run_bind P _ _ w w _ hm, hp, hf]
    rfl
  · cases h
theorem Zdn {n by' m m' by2 : Nat} {z z2 : Value} {ps : Array (Nat × Operand)} {cs : Array Value} [hs : TyArr P T m E] [hi : TyI P T n by' z] [he : TyI P E m' by2 z2]
    (hf : Instr.fill (fun i => some (i * m', m')) z.cells (partsV ρ ps) = some cs) : PV P (.build T ps) ρ (.agg cs) := by
  intro oo w ho; unfold execOp; rw [ho]; refine op_run_value ?_
  have hp : (ps.map fun p => (p.1, ev ρ p.2)).toList = partsV ρ ps := by simp [partsV]
  unfold Instr.build
  rw [run_bind P _ _ w w _ (run_zero hi), run_bind P _ _ w w _ (run_under hs.h)]
  simp only []
  rw [run_bind P _ _ w w _ (run_size he), hp, hf]
  rfl
def own (E size : Nat) (v : Value) (n : Nat) (xs : List Value) : Asrt :=
  ⟨fun h => xs.length = n * size ∧ ((v = .slice none 0 0 ∧ n = 0) ∨
    ∃ g cap cur, v = .slice (some ⟨g, 0, none⟩) n cap ∧ h g = some (.cells cur E (0, 0)) ∧ n ≤ cap ∧ cap ≤ 9223372036854775807 ∧ cur.size = cap * size ∧ cur.toList.take (n * size) = xs)⟩
theorem St.own_get {size n : Nat} {v : Value} {xs : List Value} (H : St w0 w (own E size v n xs :: L)) :
    (v = .slice none 0 0 ∧ n = 0 ∧ xs = [] ∧ St w0 w L) ∨ ∃ g cap cur, v = .slice (some ⟨g, 0, none⟩) n cap ∧ n ≤ cap ∧ cap ≤ 9223372036854775807 ∧ cur.size = cap * size ∧ cur.toList.take (n * size) = xs ∧ xs.length = n * size ∧ St w0 w (cl g cur E :: L) := by
  obtain ⟨h1, h2, ⟨hl, a⟩, s, d, e, f⟩ := H.sat
  rcases a with ⟨rfl, rfl⟩|⟨g, cap, cur, rfl, hg, h3, h4, h5, h6⟩
  · left; exact ⟨rfl, rfl, by simpa using hl, H.drop⟩
  · right; exact ⟨g, cap, cur, rfl, h3, h4, h5, h6, hl, H.os, H.tape, H.output, H.size, h1, h2, hg, s, d, e, f⟩
theorem St.own_mk {size n cap g : Nat} {cur : Array Value} {xs : List Value} (H : St w0 w (cl g cur E :: L)) (h1 : n ≤ cap) (h2 : cap ≤ 9223372036854775807) (h3 : cur.size = cap * size) (h4 : cur.toList.take (n * size) = xs) :
    St w0 w (own E size (.slice (some ⟨g, 0, none⟩) n cap) n xs :: L) :=
  H.head fun h hg => ⟨by rw [← h4, List.length_take, Array.length_toList, h3]; exact Nat.min_eq_left (Nat.mul_le_mul_right _ h1), .inr ⟨g, cap, cur, rfl, hg, h1, h2, h3, h4⟩⟩
theorem wr_toList (vs : List Value) (c : Array Value) (o : Nat) (h : o + vs.length ≤ c.size) : (wr c o vs).toList = c.toList.take o ++ vs ++ c.toList.drop (o + vs.length) := by
  apply List.ext_getElem?
  intro k
  rw [Array.getElem?_toList, wr_get _ _ _ _ h, List.append_assoc, List.getElem?_append, List.getElem?_append]
  simp only [List.length_take, Array.length_toList, Nat.min_eq_left (show o ≤ c.size by omega)]
  by_cases h1 : k < o
  · rw [if_neg (by omega), if_pos h1, List.getElem?_take_of_lt h1]; simp
  · rw [if_neg h1]
    by_cases h2 : k - o < vs.length
    · rw [if_pos (by omega), if_pos h2]
    · rw [if_neg (by omega), if_neg h2, List.getElem?_drop, show o + vs.length + (k - o - vs.length) = k from by omega]; simp

theorem size_zeroC (z : Array Value) (n : Nat) : (Builtin.zeroCells z n).size = n * z.size := by simp [Builtin.zeroCells]
theorem run_append_room {size by' n m T' g cap : Nat} {z xv : Value} {news : List Value} {cur : Array Value} {E2 : Nat} [hs : TySlice P T E] [hi : TyI P E size by' z]
    (hd : P.underlying T' = some (.slice E2))
    (hn : (Builtin.lenOf xv).run P w = .ok m w) (hr : (Builtin.firstCells size m xv).run P w = .ok news.toArray w)
    (hl : news.length = m * size) (h1 : news.all oneC = true) (hroom : n + m ≤ cap) (hg : w.heap[g]? = some (.cells cur E (0, 0))) (hsz : cur.size = cap * size) :
    (Builtin.append_ #[T, T'] ty #[.slice (some ⟨g, 0, none⟩) n cap, xv]).run P w = .ok (.slice (some ⟨g, 0, none⟩) (n + m) cap) { w with heap := w.heap.setIfInBounds g (.cells (wr cur (n * size) news) E (0, 0)) } := by
  have hfit : n * size + news.length ≤ cur.size := by rw [hl, hsz, ← Nat.add_mul]; exact Nat.mul_le_mul_right _ hroom
  simp only [Builtin.append_, List.getElem?_toArray, List.getElem?_cons_zero, List.getElem?_cons_succ]
  rw [run_bind P _ _ w w _ (run_under hs.h)]
  simp only []
  rw [run_bind P _ _ w w _ (run_size hi), run_bind P _ _ w w _ (run_under hd), pure_bind]
  simp only [Bool.false_eq_true, if_false, Bool.not_false, if_true]
  rw [run_bind P _ _ w w _ hn, if_pos hroom, run_bind P _ _ w w _ hr]
  simp only [addr_add]
  have := run_storeCells (P := P) news hg (0 + n * size) 0 (by omega) h1
  rw [run_bind P _ _ w _ () this]
  simp only [Nat.zero_add, Nat.add_zero]
  rfl
theorem run_append_grow {size by' n m T' cap : Nat} {z xv : Value} {a : Option Addr} {xs news : List Value} {E2 : Nat} [hs : TySlice P T E] [hi : TyI P E size by' z]
    (hd : P.underlying T' = some (.slice E2))
    (hn : (Builtin.lenOf xv).run P w = .ok m w) (hr : ∀ d, (Builtin.firstCells size m xv).run P { w with drawn := d } = .ok news.toArray { w with drawn := d })
    (ho : ∀ d, (Builtin.firstCells size n (.slice a n cap)).run P { w with drawn := d } = .ok xs.toArray { w with drawn := d })
    (hby : by' ≠ 0) (hgrow : cap < n + m) (hb : (n + m) * by' ≤ 140737488355328) :
    ∃ c' dr, n + m ≤ c' ∧ c' ≤ 9223372036854775807 ∧ (Builtin.append_ #[T, T'] ty #[.slice a n cap, xv]).run P w = .ok (.slice (some ⟨w.heap.size, 0, none⟩) (n + m) c') { w with drawn := dr, heap := w.heap.push (.cells (xs.toArray ++ news.toArray ++ Builtin.zeroCells z.cells (c' - (n + m))) E (0, 0)) } := by
  obtain ⟨ti, hti, htsz, htby, htz⟩ := hi.out
  have h63 : n + m ≤ 140737488355328 := Nat.le_trans (Nat.le_mul_of_pos_right _ (Nat.pos_of_ne_zero hby)) hb
  refine ⟨(n + m) + w.tape w.drawn (.appendCap (n + m) cap E) % (2 ^ 63 - (n + m)), w.drawn + 1, by omega, ?_, ?_⟩
  · have : w.tape w.drawn (.appendCap (n + m) cap E) % (2 ^ 63 - (n + m)) < 2 ^ 63 - (n + m) := Nat.mod_lt _ (by omega)
    omega
  simp only [Builtin.append_, List.getElem?_toArray, List.getElem?_cons_zero, List.getElem?_cons_succ]
  rw [run_bind P _ _ w w _ (run_under hs.h)]
  simp only []
  rw [run_bind P _ _ w w _ (run_size hi), run_bind P _ _ w w _ (run_under hd), pure_bind]
  simp only [Bool.false_eq_true, if_false, Bool.not_false, if_true]
  rw [run_bind P _ _ w w _ hn, if_neg (by omega), run_bind P _ _ w w _ (run_tinfo hti), htby]
  rw [if_neg (by simp [hby]), run_bind P _ _ w w _ (run_tinfo hti), htby]
  have hfit := growslice_fits (old := cap) (need := n + m) (bytes := by') hgrow hb
  rw [if_neg (by have : (2 : Nat) ^ 48 = 281474976710656 := by decide
                 omega)]
  have hch : (choose (.appendCap (n + m) cap E)).run P w = .ok ((n + m) + w.tape w.drawn (.appendCap (n + m) cap E) % (2 ^ 63 - (n + m))) { w with drawn := w.drawn + 1 } := rfl
  rw [run_bind P _ _ w _ _ hch, run_bind P _ _ _ _ _ (run_tinfo hti), htby, run_bind P _ _ _ _ _ (run_askRoom _), run_bind P _ _ _ _ _ (ho _), run_bind P _ _ _ _ _ (hr _), run_bind P _ _ _ _ _ (run_zero hi)]
  rfl
theorem run_append {size by' n m T' : Nat} {z v xv : Value} {xs news : List Value} {E2 : Nat} [hs : TySlice P T E] [hi : TyI P E size by' z]
    (hd : P.underlying T' = some (.slice E2)) (hz : z.cells.size = size)
    (hn : (Builtin.lenOf xv).run P w = .ok m w) (hr : ∀ d, (Builtin.firstCells size m xv).run P { w with drawn := d } = .ok news.toArray { w with drawn := d })
    (hl : news.length = m * size) (h1 : news.all oneC = true) (hby : by' ≠ 0) (hb : (n + m) * by' ≤ 140737488355328)
    (H : St w0 w (own E size v n xs :: L)) :
    ∃ a' cap' w', (Builtin.append_ #[T, T'] ty #[v, xv]).run P w = .ok (.slice a' (n + m) cap') w' ∧ St w0 w' (own E size (.slice a' (n + m) cap') (n + m) (xs ++ news) :: L) := by
  have key : ∀ (cap : Nat) (a : Option Addr) (Hl : St w0 w L) (hxl : xs.length = n * size) (ho : ∀ d, (Builtin.firstCells size n (.slice a n cap)).run P { w with drawn := d } = .ok xs.toArray { w with drawn := d }) (hgrow : cap < n + m),
      ∃ a' cap' w', (Builtin.append_ #[T, T'] ty #[.slice a n cap, xv]).run P w = .ok (.slice a' (n + m) cap') w' ∧ St w0 w' (own E size (.slice a' (n + m) cap') (n + m) (xs ++ news) :: L) := by
    intro cap a Hl hxl ho hgrow
    obtain ⟨c', dr, hc1, hc2, hrun⟩ := run_append_grow (ty := ty) (T := T) (E := E) (z := z) hd hn hr ho hby hgrow hb
    refine ⟨_, _, _, hrun, ?_⟩
    have Hn := Hl.alloc (.cells (xs.toArray ++ news.toArray ++ Builtin.zeroCells z.cells (c' - (n + m))) E (0, 0))
    refine St.own_mk (cur := xs.toArray ++ news.toArray ++ Builtin.zeroCells z.cells (c' - (n + m))) ⟨Hn.os, Hn.tape, Hn.output, Hn.size, Hn.sat⟩ hc1 hc2 ?_ ?_
    · simp only [Array.size_append, size_zeroC, hz, List.size_toArray, hxl, hl]
      rw [← Nat.add_mul, ← Nat.add_mul]; congr 1; omega
    · simp only [Array.toList_append]
      rw [List.take_append_of_le_length (by simp [hxl, hl, Nat.add_mul]), List.take_of_length_le (by simp [hxl, hl, Nat.add_mul])]
  rcases H.own_get with ⟨rfl, rfl, rfl, Hl⟩|⟨g, cap, cur, rfl, h2, h3, h4, h5, h6, Hl⟩
  · by_cases hm : m = 0
    · subst hm
      have hnil : news = [] := by simpa using hl
      subst hnil
      refine ⟨none, 0, w, ?_, by simpa using H⟩
      simp only [Builtin.append_, List.getElem?_toArray, List.getElem?_cons_zero, List.getElem?_cons_succ]
      rw [run_bind P _ _ w w _ (run_under hs.h)]
      simp only []
      rw [run_bind P _ _ w w _ (run_size hi), run_bind P _ _ w w _ (run_under hd), pure_bind]
      simp only [Bool.false_eq_true, if_false, Bool.not_false, if_true]
      rw [run_bind P _ _ w w _ hn, if_pos (by omega), run_bind P _ _ w w _ (hr w.drawn)]
      rfl
    · exact key 0 none Hl (by simp) (fun d => rfl) (by omega)
  · by_cases hroom : n + m ≤ cap
    · refine ⟨_, _, _, run_append_room (ty := ty) hd hn (hr w.drawn) hl h1 hroom Hl.cl_get h4, ?_⟩
      have Hn := Hl.set (.cells (wr cur (n * size) news) E (0, 0))
      have hfit : n * size + news.length ≤ cur.size := by rw [hl, h4, ← Nat.add_mul]; exact Nat.mul_le_mul_right _ hroom
      refine St.own_mk (cur := wr cur (n * size) news) Hn hroom h3 (by rw [wr_size, h4]) ?_
      rw [wr_toList _ _ _ hfit, h5, List.take_append_of_le_length (by simp [h6, hl, Nat.add_mul]), List.take_of_length_le (by simp [h6, hl, Nat.add_mul])]
    · refine key cap (some ⟨g, 0, none⟩) Hl.drop h6 (fun d => ?_) (by omega)
      have hg : ({ w with drawn := d } : World).heap[g]? = some (.cells cur E (0, 0)) := Hl.cl_get
      show (loadCells ⟨g, 0, none⟩ (n * size)).run P _ = _
      rw [run_loadCells hg 0 (n * size) (by rw [h4]; have := Nat.mul_le_mul_right size h2; omega)]
      congr 1
      apply Array.ext'
      rw [Array.toList_extract]
      simp [List.extract, h5]

-- calls
def argL (ρ : Env) (fi : Array Value) (ars : Array Operand) (ca : Array Value) : List Value := fi.toList ++ ars.toList.map (ev ρ) ++ ca.toList
def callable (P : Program) (F : FuncId) : Bool :=
  match P.funcs[F]? with
  | some fn => fn.name != "runtime.NumGoroutine" && fn.body.isSome
  | none => false
theorem Zdp {F : FuncId} {f : Operand} {ars : Array Operand} {ts : Array TypeId} {fi ca : Array Value} {vs : List Value} {R : Value → World → Prop} (hf : ev ρ f = .func (.func F) fi ca) (hb : callable P F = true)
    (hc : Calls P F vs.toArray w (Ret R)) (ha : argL ρ fi ars ca = vs) (k : ∀ v w', R v w' → denOps P ops rest (put ρ dst v) w' K) :
    denOps P ops (⟨dst, .call { callee := .value f, args := ars, argTypes := ts }, ty, pos, after, none⟩ :: rest) ρ w K := by
  refine Zcy ?_
  subst ha
  have : (execOp (ev ρ) ⟨dst, .call { callee := .value f, args := ars, argTypes := ts }, ty, pos, after, none⟩).run P w = .ok (.enter F (argL ρ fi ars ca).toArray) w := by
    unfold execOp
    simp only [resolve, hf, Deferred.ofValue, pure_bind, invoke]
    unfold callFunc
    unfold callable at hb
    show ((program >>= _) : Sem Next).run P w = _
    rw [run_bind P _ _ w w P rfl]
    split at hb
    · rename_i fn hfn
      simp only [hfn]
      simp only [Bool.and_eq_true, bne_iff_ne, ne_eq, Option.isSome_iff_ne_none] at hb
      rw [if_neg (by simp [hb.1]), if_neg (by simp [hb.2])]
      have : fi ++ Array.map (ev ρ) ars ++ ca = (argL ρ fi ars ca).toArray := by
        apply Array.ext'
        simp [argL]
      rw [this]; rfl
    · cases hb
  rw [this]
  exact Calls.mono hc (Ret.mono fun v w' hq => k v w' hq)
end steps
end Go.Sl
namespace Go.Sl
open Go

section
variable {P : Program} {ops : Array Oper} {S : World → Prop} {need : Nat → Bool} {K : Env → World → Prop}

def denN (P : Program) (ops : Array Oper) (S : World → Prop) (need : Nat → Bool) : Nat → Array Bool → Env → World → (Env → World → Prop) → Prop
  | 0, listed, ρ, w, K => Region.ready .any ops listed = [] ∧ K ρ w
  | f + 1, listed, ρ, w, K => (Region.ready .any ops listed = [] → K ρ w) ∧
      ∀ i ∈ Region.ready .any ops listed, ∀ o, ops[i]? = some o → denI P ops o ρ w (fun ρ' w' => (need i = true → S w') ∧ denN P ops S need f (listed.setIfInBounds i true) ρ' w' K)

theorem denN_sound : ∀ (f : Nat) (listed : Array Bool) (ρ : Env) (w : World), denN P ops S need f listed ρ w K → denAny P ops f listed ρ w K
  | 0, _, _, _, h => h
  | f + 1, listed, ρ, w, h => ⟨h.1, fun i hi o ho => denI_mono (fun v w' hk => denN_sound f _ _ _ hk.2) (h.2 i hi o ho)⟩
theorem ev_put_apart {ρ : Env} {d : Option Nat} {v : Value} {x : Operand} (h : ∀ k, d = some k → x ≠ .tmp k) : ev (put ρ d v) x = ev ρ x := by
  cases d with
  | none => rfl
  | some k =>
    cases x with
    | tmp t => exact put_ne _ _ _ _ (fun e => h k rfl (by rw [e]))
    | _ => rfl
theorem put_comm {ρ : Env} {a b : Option Nat} {u v : Value} (h : ∀ k, a = some k → b ≠ some k) : put (put ρ a u) b v = put (put ρ b v) a u := by
  cases a with
  | none => rfl
  | some k =>
    cases b with
    | none => rfl
    | some l =>
      have hne : k ≠ l := fun e => h k rfl (by rw [e])
      funext t
      by_cases e : t = l
      · subst e; rw [put_same, put_ne _ _ _ _ (Ne.symm hne), put_same]
      · rw [put_ne _ _ _ _ e]
        by_cases e' : t = k
        · subst e'; rw [put_same, put_same]
        · rw [put_ne _ _ _ _ e', put_ne _ _ _ _ e', put_ne _ _ _ _ e]
theorem exec_apart {ρ : Env} {o : Oper} {d : Option Nat} {v : Value} (hs : ∀ cs b, o.op ≠ .select cs b) (h : ∀ k, d = some k → k ∉ o.looksAt ops) : execOp (ev (put ρ d v)) o = execOp (ev ρ) o := by
  refine execOp_congr o hs fun x hx => ev_put_apart fun k hk e => h k hk ?_
  subst e
  simp only [Oper.looksAt, List.mem_append, List.mem_filterMap]
  exact .inl ⟨.tmp k, by simpa using hx, rfl⟩
theorem wanted_apart {ρ : Env} {o : Oper} {d : Option Nat} {v : Value} (h : ∀ k, d = some k → k ∉ o.looksAt ops) : Region.wanted o (yl ops (put ρ d v)) = Region.wanted o (yl ops ρ) := by
  unfold Region.wanted
  cases hg : o.guard with
  | none => rfl
  | some jb =>
    obtain ⟨j, b⟩ := jb
    simp only []
    have : yl ops (put ρ d v) j = yl ops ρ j := by
      unfold yl
      cases hd : (ops[j]?).bind (·.dst) with
      | none => rfl
      | some t =>
        simp only []
        cases d with
        | none => rfl
        | some k =>
          have hne : t ≠ k := by
            intro e; subst e
            refine h t rfl ?_
            simp only [Oper.looksAt, List.mem_append, hg, hd]
            exact .inr (by simp)
          rw [put_ne _ _ _ _ hne]
    rw [this]
def YS (P : Program) (ops : Array Oper) (S : World → Prop) (o : Oper) (ρ : Env) (v : Value) : Prop :=
  (Region.wanted o (yl ops ρ) = true → ∀ w, S w → (execOp (ev ρ) o).run P w = .ok (.value v) w) ∧ (Region.wanted o (yl ops ρ) = false → v = undef)

theorem denI_apart {o : Oper} {ρ : Env} {w : World} {d : Option Nat} {v : Value} {X : Env → World → Prop} (hs : ∀ cs b, o.op ≠ .select cs b) (h1 : ∀ k, d = some k → k ∉ o.looksAt ops) (h2 : ∀ k, d = some k → o.dst ≠ some k)
    (h : denI P ops o (put ρ d v) w X) : denI P ops o ρ w (fun ρ' w' => X (put ρ' d v) w') := by
  unfold denI at *
  rw [wanted_apart h1] at h
  split
  · rename_i hw
    rw [if_pos hw] at h
    unfold opW at *
    rw [exec_apart hs h1] at h
    cases hr : (execOp (ev ρ) o).run P w with
    | halt x w' => rw [hr] at h; exact h.elim
    | ok x w' =>
      rw [hr] at h
      cases x <;> simp only [After] at h ⊢ <;> first
        | (rw [← put_comm h2]; exact h)
        | (refine Calls.mono h (Ret.mono fun u w'' hq => ?_)
           rw [← put_comm h2]; exact hq)
        | (refine RoundIn.mono h (Ret.mono fun u w'' hq => ?_)
           rw [← put_comm h2]; exact hq)
        | exact h.elim
  · rename_i hw
    rw [if_neg hw] at h
    rw [← put_comm h2]; exact h

theorem YS.apart {o o2 : Oper} {ρ : Env} {v u : Value} (hs : ∀ cs b, o.op ≠ .select cs b) (h1 : ∀ k, o2.dst = some k → k ∉ o.looksAt ops) (h : YS P ops S o ρ v) : YS P ops S o (put ρ o2.dst u) v := by
  unfold YS at *
  rw [wanted_apart h1, exec_apart hs h1]
  exact h

def noSel (o : Oper) : Bool := match o.op with|.select _ _ => false|_ => true
theorem noSel_spec {o : Oper} (h : noSel o = true) : ∀ cs b, o.op ≠ .select cs b := by
  intro cs b e
  simp [noSel, e] at h
def befOk (ops : Array Oper) (bef : Array Nat) : Bool :=
  (List.range ops.size).all fun j => (List.range ops.size).all fun q => !(bef.getD j 0).testBit q ||
    ((ops[j]?).map fun o => o.after.toList.any fun e => Region.binds .any e && (e.on == q || (bef.getD e.on 0).testBit q)).getD false
def closed (ops : Array Oper) (bef : Array Nat) (listed : Array Bool) : Prop :=
  ∀ p, p < ops.size → listed.getD p true = true → ∀ q, q < ops.size → (bef.getD p 0).testBit q = true → listed.getD q true = true
def takeOk (ops : Array Oper) (bef : Array Nat) (need : Nat → Bool) (listed : Array Bool) (i : Nat) : Bool :=
  (List.range ops.size).all fun j => listed.getD j true || j == i || (bef.getD j 0).testBit i ||
    (need j && (match ops[i]?, ops[j]? with|some oi, some oj => noSel oi && noSel oj && oi.apart ops oj|_, _ => false))

theorem ready_spec {listed : Array Bool} {j : Nat} (h : j ∈ Region.ready .any ops listed) :
    j < ops.size ∧ listed.getD j true = false ∧ ∀ o, ops[j]? = some o → ∀ e ∈ o.after.toList, Region.binds .any e = true → listed.getD e.on false = true := by
  simp only [Region.ready, List.mem_filter, List.mem_range, Bool.and_eq_true, Bool.not_eq_true'] at h
  refine ⟨h.1, h.2.1, fun o ho e he hb => ?_⟩
  have h3 := h.2.2
  simp only [ho, Option.map_some, Option.getD_some, Array.all_eq_true_iff_forall_mem, Bool.or_eq_true, Bool.not_eq_true'] at h3
  rcases h3 e (by simpa using he) with h|h
  · rw [hb] at h; cases h
  · exact h
theorem ready_mk {listed : Array Bool} {j : Nat} (h1 : j < ops.size) (h2 : listed.getD j true = false) (h3 : ∀ o, ops[j]? = some o → ∀ e ∈ o.after.toList, Region.binds .any e = true → listed.getD e.on false = true) : j ∈ Region.ready .any ops listed := by
  simp only [Region.ready, List.mem_filter, List.mem_range, Bool.and_eq_true, Bool.not_eq_true']
  refine ⟨h1, h2, ?_⟩
  simp only [Array.getElem?_eq_getElem h1, Option.map_some, Option.getD_some, Array.all_eq_true_iff_forall_mem, Bool.or_eq_true, Bool.not_eq_true']
  intro e he
  by_cases hb : Region.binds .any e = true
  · exact .inr (h3 _ (Array.getElem?_eq_getElem h1) e (by simpa using he) hb)
  · exact .inl (by simpa using hb)
theorem getD_set {l : Array Bool} {i j : Nat} {d : Bool} : (l.setIfInBounds i true).getD j d = if i = j ∧ j < l.size then true else l.getD j d := by
  simp only [Array.getD_eq_getD_getElem?, Array.getElem?_setIfInBounds]
  by_cases h : i = j
  · subst h
    by_cases h2 : i < l.size
    · simp [h2]
    · simp [h2]
  · simp [h]
theorem getD_true_of_false {l : Array Bool} {i : Nat} (h : l.getD i false = true) : l.getD i true = true := by
  simp only [Array.getD_eq_getD_getElem?] at *
  cases hl : l[i]? with
  | none => rw [hl] at h; cases h
  | some b => rw [hl] at h; exact h

theorem closed_ready {bef : Array Nat} {listed : Array Bool} {i j : Nat} (hsz : listed.size = ops.size) (hb : befOk ops bef = true) (hc : closed ops bef listed) (hj : j ∈ Region.ready .any ops listed) (hi : i < ops.size) (hli : listed.getD i true = false) : (bef.getD j 0).testBit i = false := by
  obtain ⟨h1, h2, h3⟩ := ready_spec hj
  cases hbit : (bef.getD j 0).testBit i with
  | false => rfl
  | true =>
    exfalso
    have hh := List.all_eq_true.1 (List.all_eq_true.1 hb j (by simpa using h1)) i (by simpa using hi)
    rw [hbit] at hh
    simp only [Bool.not_true, Bool.false_or] at hh
    rw [Array.getElem?_eq_getElem h1] at hh
    simp only [Option.map_some, Option.getD_some, List.any_eq_true, Bool.and_eq_true, Bool.or_eq_true, beq_iff_eq] at hh
    obtain ⟨e, he, heb, hq⟩ := hh
    have hl := h3 _ (Array.getElem?_eq_getElem h1) e he heb
    rcases hq with hq|hq
    · rw [hq] at hl
      rw [getD_true_of_false hl] at hli; cases hli
    · by_cases hes : e.on < ops.size
      · rw [hc e.on hes (getD_true_of_false hl) i hi hq] at hli; cases hli
      · simp only [Array.getD_eq_getD_getElem?] at hl
        rw [Array.getElem?_eq_none (by omega)] at hl
        cases hl
theorem closed_set {bef : Array Nat} {listed : Array Bool} {i : Nat} (hsz : listed.size = ops.size) (hb : befOk ops bef = true) (hc : closed ops bef listed) (hi : i ∈ Region.ready .any ops listed) : closed ops bef (listed.setIfInBounds i true) := by
  intro p hp hl q hq hbit
  rw [getD_set] at hl ⊢
  by_cases hiq : i = q ∧ q < listed.size
  · rw [if_pos hiq]
  · rw [if_neg hiq]
    by_cases hip : i = p ∧ p < listed.size
    · cases hlq : listed.getD q true with
      | true => rfl
      | false =>
        have := closed_ready hsz hb hc hi hq hlq
        rw [hip.1, hbit] at this; cases this
    · rw [if_neg hip] at hl
      exact hc p hp hl q hq hbit
theorem takeOk_set {bef : Array Nat} {need : Nat → Bool} {listed : Array Bool} {i j : Nat} (h : takeOk ops bef need listed i = true) : takeOk ops bef need (listed.setIfInBounds j true) i = true := by
  refine List.all_eq_true.2 fun k hk => ?_
  have := List.all_eq_true.1 h k hk
  simp only [Bool.or_eq_true] at this ⊢
  rw [getD_set]
  split
  · exact .inl (.inl (.inl rfl))
  · exact this
theorem ready_set {listed : Array Bool} {i j : Nat} (hi : i ∈ Region.ready .any ops listed) (hne : j ≠ i) : i ∈ Region.ready .any ops (listed.setIfInBounds j true) := by
  obtain ⟨h1, h2, h3⟩ := ready_spec hi
  refine ready_mk h1 (by rw [getD_set, if_neg (fun h => hne h.1)]; exact h2) fun o ho e he hb => ?_
  rw [getD_set]
  split
  · rfl
  · exact h3 o ho e he hb

theorem denN_take {bef : Array Nat} (hb : befOk ops bef = true) {i : Nat} {o : Oper} {v : Value} (ho : ops[i]? = some o) : ∀ (f : Nat) (listed : Array Bool) (ρ : Env) (w : World), listed.size = ops.size → closed ops bef listed →
    i ∈ Region.ready .any ops listed → takeOk ops bef need listed i = true → YS P ops S o ρ v → S w → denN P ops S need f (listed.setIfInBounds i true) (put ρ o.dst v) w K → denN P ops S need (f + 1) listed ρ w K := by
  intro f
  induction f with
  | zero =>
    intro listed ρ w hsz hc hi ht hy hS h
    refine ⟨fun e => (by rw [e] at hi; cases hi), fun j hj oj hoj => ?_⟩
    by_cases hji : j = i
    · subst hji
      rw [ho] at hoj; cases hoj
      unfold denI
      cases hw : Region.wanted o (yl ops ρ) with
      | true =>
        rw [if_pos rfl]; unfold opW
        rw [hy.1 hw w hS]
        exact ⟨fun _ => hS, h⟩
      | false =>
        rw [if_neg (by simp)]
        rw [← hy.2 hw]
        exact ⟨fun _ => hS, h⟩
    · have := ready_set (i := j) (j := i) hj (fun e => hji e.symm)
      rw [h.1] at this; cases this
  | succ f ih =>
    intro listed ρ w hsz hc hi ht hy hS h
    refine ⟨fun e => (by rw [e] at hi; cases hi), fun j hj oj hoj => ?_⟩
    by_cases hji : j = i
    · subst hji
      rw [ho] at hoj; cases hoj
      unfold denI
      cases hw : Region.wanted o (yl ops ρ) with
      | true =>
        rw [if_pos rfl]; unfold opW
        rw [hy.1 hw w hS]
        exact ⟨fun _ => hS, h⟩
      | false =>
        rw [if_neg (by simp)]
        rw [← hy.2 hw]
        exact ⟨fun _ => hS, h⟩
    · have hjr := ready_spec hj
      have hir := ready_spec hi
      have htj := List.all_eq_true.1 ht j (by simpa using hjr.1)
      have hbj := closed_ready hsz hb hc hj hir.1 hir.2.1
      rw [hjr.2.1, hbj, ho, hoj] at htj
      simp only [Bool.false_or, Bool.or_eq_true, beq_iff_eq, hji, false_or, Bool.and_eq_true, Bool.false_eq_true, or_false] at htj
      obtain ⟨hn, ⟨hsi, hsj⟩, hap⟩ := htj
      have hap := Oper.apart_spec hap
      have hh := h.2 j (ready_set hj (fun e => hji e.symm)) oj hoj
      refine denI_mono ?_ (denI_apart (noSel_spec hsj) hap.1 hap.2.1 hh)
      intro u w' ⟨hSw, hk⟩
      refine ⟨fun _ => hSw hn, ?_⟩
      refine ih (listed.setIfInBounds j true) (put ρ oj.dst u) w' (by simpa using hsz) (closed_set hsz hb hc hj) (ready_set hi hji) (takeOk_set ht) (hy.apart (noSel_spec hsi) hap.2.2) (hSw hn) ?_
      rw [Array.setIfInBounds_comm _ _ hji]
      exact hk
def denS (P : Program) (ops : Array Oper) (S : World → Prop) (K : Env → World → Prop) : List (Nat × Bool × Bool) → Env → World → Prop
  | [], ρ, w => K ρ w
  | (i, true, _) :: r, ρ, w => ∃ o v, ops[i]? = some o ∧ YS P ops S o ρ v ∧ S w ∧ denS P ops S K r (put ρ o.dst v) w
  | (i, false, n) :: r, ρ, w => ∃ o, ops[i]? = some o ∧ denI P ops o ρ w (fun ρ' w' => (n = true → S w') ∧ denS P ops S K r ρ' w')
end

section rules
variable {P : Program} {ops : Array Oper} {S : World → Prop} {K : Env → World → Prop} {r : List (Nat × Bool × Bool)} {ρ : Env} {w : World} {i : Nat} {dst : Option Nat} {op : Op} {ty : TypeId} {pos : String} {after : Array Edge} {n : Bool}
end rules
end Go.Sl
namespace Go.Sl
open Go

theorem Zdz {P : Program} {ρ : Env} {c a b : Operand} {x : Bool} (hc : ev ρ c = .bool true) (ha : ev ρ a = .bool x) : PV P (.pick c a b) ρ (.bool x) := Za8 hc ha
theorem Zd0 {P : Program} {ρ : Env} {c a b : Operand} {x : Bool} (hc : ev ρ c = .bool false) (ha : ev ρ b = .bool x) : PV P (.pick c a b) ρ (.bool x) := Za9 hc ha
inductive Arr : List Asrt → List Asrt → Prop
  | nil {L} : Arr L L
  | cons {L L' A M} : Has L A L' → Arr L' M → Arr L (A :: M)
  | stop {L} : Arr L []
  | skip {A L M} : Arr L M → Arr (A :: L) M
theorem Arr.sat {L M : List Asrt} (h : Arr L M) : ∀ {f : Frag}, SatF L f → SatF M f := by
  induction h with
  | nil => exact id
  | cons hh _ ih => exact fun hs => (hh.front hs).imp fun _ => ih
  | stop => exact fun _ => trivial
  | skip _ ih => exact fun hs => ih hs.tail
section ids
variable {P : Program} {ops : Array Oper} {dst : Option Nat} {op : Op} {ty : TypeId} {pos : String} {after : Array Edge} {rest l : List Oper} {ρ : Env} {w : World} {K : Env → World → Prop}
end ids
abbrev Post := Exit → Env → World → Prop
section
variable {P : Program} {x y c : Code} {ρ : Env} {w : World} {Q : Post} {k : Env → World → Prop}
section dsr
variable {ops : Array Oper} {S : World → Prop} {K : Env → World → Prop} {r : List (Nat × Bool × Bool)} {i : Nat}
end dsr
variable {R : Value → World → Prop}
theorem run_loadVar {T n by' b o E : Nat} {z : Value} {cs : Array Value} {fr : Nat × Nat} [hs : TyAggr P T] [hi : TyI P T n by' z] (hb : w.heap[b]? = some (.cells cs E fr)) (hv : o + n ≤ cs.size) :
    (loadVar T ⟨b, o, none⟩).run P w = .ok (.agg (cs.extract o (o + n))) w := by
  unfold loadVar
  rw [run_bind P _ _ w w _ (run_isAgg hs.h)]
  simp only [if_true]
  rw [run_bind P _ _ w w _ (run_size hi), run_bind P _ _ w w _ (run_loadCells hb o n hv)]; rfl
end
end Go.Sl
namespace Go.Sl
open Go

abbrev Ent := Int × Value × Nat
def ent (e : Ent) : MapEntry := { key := .int .i64 e.1, val := e.2.1, born := e.2.2 }
def mapE (es : List Ent) : Array MapEntry := (es.map ent).toArray
def esGet : List Ent → Int → Option Value
  | [], _ => none
  | e :: r, k => if e.1 = k then some e.2.1 else esGet r k
def esSet : List Ent → Int → Value → Nat → List Ent
  | [], k, v, c => [(k, v, c)]
  | e :: r, k, v, c => if e.1 = k then (k, v, e.2.2) :: r else e :: esSet r k v c
def esClock (es : List Ent) (k : Int) (c : Nat) : Nat := if (esGet es k).isSome then c else c + 1
def esDel : List Ent → Int → List Ent
  | [], _ => []
  | e :: r, k => if e.1 = k then r else e :: esDel r k
def esIdx : List Ent → Int → Nat
  | [], _ => 0
  | e :: r, k => if e.1 = k then 0 else esIdx r k + 1

theorem find_spec (k : Int) : ∀ (es : List Ent) (i : Nat), Instr.findNow (.int .i64) (.int .i64 k) (es.map ent) i = some ((esGet es k).map fun v => (i + esIdx es k, v))
  | [], i => rfl
  | e :: r, i => by
    show (match Instr.sameNow (.int .i64) (.int .i64 k) (.int .i64 e.1) with
      | some true => some (some (i, e.2.1))
      | some false => Instr.findNow (.int .i64) (.int .i64 k) (r.map ent) (i + 1)
      | none => none) = _
    have hs : Instr.sameNow (.int .i64) (.int .i64 k) (.int .i64 e.1) = some (k == e.1) := rfl
    rw [hs]
    by_cases h : e.1 = k
    · have : (k == e.1) = true := by simp [h]
      simp only [this, esGet, esIdx, if_pos h]; simp
    · have : (k == e.1) = false := by simp; exact fun e' => h e'.symm
      simp only [this, esGet, esIdx, if_neg h]
      rw [find_spec k r (i + 1)]
      congr 1
      cases esGet r k with
      | none => rfl
      | some v => simp; omega
theorem esIdx_lt {es : List Ent} {k : Int} {v : Value} (h : esGet es k = some v) : esIdx es k < es.length := by
  induction es with
  | nil => cases h
  | cons e r ih =>
    unfold esGet at h; unfold esIdx
    split
    · simp
    · rename_i hne; rw [if_neg hne] at h; have := ih h; simp; omega
theorem esSet_some {es : List Ent} {k : Int} {v u : Value} {c : Nat} (h : esGet es k = some u) :
    (mapE es).modify (esIdx es k) (fun e => { e with key := .int .i64 k, val := v }) = mapE (esSet es k v c) ∧ ((mapE es)[esIdx es k]?).map (·.key) = some (.int .i64 k) := by
  unfold mapE
  simp only [List.getElem?_toArray, List.modify_toArray]
  induction es with
  | nil => cases h
  | cons e r ih =>
    unfold esGet at h
    by_cases hk : e.1 = k
    · simp only [esIdx, esSet, if_pos hk, List.map_cons]
      refine ⟨?_, by simp [ent, hk]⟩
      congr 1
    · rw [if_neg hk] at h
      obtain ⟨h1, h2⟩ := ih h
      simp only [esIdx, esSet, if_neg hk, List.map_cons, List.modify_succ_cons, List.getElem?_cons_succ]
      refine ⟨?_, h2⟩
      have h1 := congrArg Array.toList h1
      simp only [List.toList_toArray] at h1
      rw [h1]
theorem esSet_none {es : List Ent} {k : Int} {v : Value} {c : Nat} (h : esGet es k = none) : (mapE es).push { key := .int .i64 k, val := v, born := c } = mapE (esSet es k v c) := by
  unfold mapE
  simp only [List.push_toArray]
  congr 1
  induction es with
  | nil => rfl
  | cons e r ih =>
    unfold esGet at h
    by_cases hk : e.1 = k
    · rw [if_pos hk] at h; cases h
    · rw [if_neg hk] at h
      simp only [esSet, if_neg hk, List.map_cons, List.cons_append]
      rw [ih h]
theorem esDel_some {es : List Ent} {k : Int} {u : Value} (h : esGet es k = some u) : (mapE es).eraseIdxIfInBounds (esIdx es k) = mapE (esDel es k) := by
  have hlt := esIdx_lt h
  unfold mapE
  rw [Array.eraseIdxIfInBounds, dif_pos (by simpa using hlt)]
  apply Array.ext'
  simp only [Array.toList_eraseIdx, List.toList_toArray]
  induction es with
  | nil => cases h
  | cons e r ih =>
    unfold esGet at h
    by_cases hk : e.1 = k
    · simp only [esIdx, esDel, if_pos hk, List.map_cons, List.eraseIdx_cons_zero]
    · rw [if_neg hk] at h
      simp only [esIdx, esDel, if_neg hk, List.map_cons, List.eraseIdx_cons_succ]
      rw [ih h (esIdx_lt h)]
theorem esDel_none {es : List Ent} {k : Int} (h : esGet es k = none) : esDel es k = es := by
  induction es with
  | nil => rfl
  | cons e r ih =>
    unfold esGet at h
    by_cases hk : e.1 = k
    · rw [if_pos hk] at h; cases h
    · rw [if_neg hk] at h; simp only [esDel, if_neg hk]; rw [ih h]

section run
variable {P : Program} {w : World} {T Kt E b clock : Nat} {es : List Ent} {k : Int}
theorem run_getMap (hb : w.heap[b]? = some (.map (mapE es) clock)) : (getObj b).run P w = .ok (.map (mapE es) clock) w := by
  show (Sem.getObj _ _).run P w = _
  simp only [Sem.run, hb]
theorem run_setObj {o o' : Obj} (hb : w.heap[b]? = some (.map (mapE es) clock)) : (setObj b o').run P w = .ok () { w with heap := w.heap.setIfInBounds b o' } := by
  show (Sem.setObj _ _ _).run P w = _
  simp only [Sem.run, hb]
theorem run_checkKey [hk : TyInt P Kt .i64] (e : Bool) : (Instr.checkKey e 10000 Kt (.int .i64 k)).run P w = .ok () w := by
  unfold Instr.checkKey
  rw [run_bind P _ _ w w _ (run_under hk.h)]; rfl
theorem run_findKey [hk : TyInt P Kt .i64] : (Instr.findKey Kt (.int .i64 k) (mapE es).toList).run P w = .ok ((esGet es k).map fun v => (esIdx es k, v)) w := by
  unfold Instr.findKey
  rw [run_bind P _ _ w w _ (run_under hk.h)]
  have := find_spec k es 0
  simp only [Nat.zero_add] at this
  simp only [mapE, List.toList_toArray, this]; rfl
theorem run_lookup {n by' : Nat} {z : Value} [hm : TyMap P T Kt E] [hk : TyInt P Kt .i64] [hz : TyI P E n by' z] (hb : w.heap[b]? = some (.map (mapE es) clock)) :
    (Instr.lookup T (.map (some b)) (.int .i64 k) false).run P w = .ok ((esGet es k).getD z) w := by
  unfold Instr.lookup
  rw [run_bind P _ _ w w _ (run_under hm.h)]
  simp only []
  rw [run_bind P _ _ w w _ (run_getMap hb)]
  simp only [pure_bind]
  rw [run_bind P _ _ w w _ (run_checkKey _), run_bind P _ _ w w _ run_findKey]
  cases esGet es k with
  | none =>
    simp only [Option.map_none]
    rw [run_bind P _ _ w w _ (run_zero hz)]; rfl
  | some v => rfl
theorem run_lookup2 {n by' : Nat} {z : Value} [hm : TyMap P T Kt E] [hk : TyInt P Kt .i64] [hz : TyI P E n by' z] (hb : w.heap[b]? = some (.map (mapE es) clock)) :
    (Instr.lookup T (.map (some b)) (.int .i64 k) true).run P w = .ok (.tuple #[(esGet es k).getD z, .bool (esGet es k).isSome]) w := by
  unfold Instr.lookup
  rw [run_bind P _ _ w w _ (run_under hm.h)]
  simp only []
  rw [run_bind P _ _ w w _ (run_getMap hb)]
  simp only [pure_bind]
  rw [run_bind P _ _ w w _ (run_checkKey _), run_bind P _ _ w w _ run_findKey]
  cases esGet es k with
  | none =>
    simp only [Option.map_none]
    rw [run_bind P _ _ w w _ (run_zero hz)]; rfl
  | some v => rfl
theorem run_mapUpdate {v : Value} [hm : TyMap P T Kt E] [hk : TyInt P Kt .i64] (hb : w.heap[b]? = some (.map (mapE es) clock)) :
    (Instr.mapUpdate T (.map (some b)) (.int .i64 k) v).run P w = .ok () { w with heap := w.heap.setIfInBounds b (.map (mapE (esSet es k v clock)) (esClock es k clock)) } := by
  unfold Instr.mapUpdate
  rw [run_bind P _ _ w w _ (run_under hm.h)]
  simp only []
  rw [run_bind P _ _ w w _ (run_getMap hb)]
  simp only []
  rw [run_bind P _ _ w w _ (run_checkKey _), run_bind P _ _ w w _ run_findKey]
  cases hg : esGet es k with
  | none =>
    simp only [Option.map_none, esClock, hg]
    rw [esSet_none hg]
    exact run_setObj (o := .map #[] 0) hb
  | some u =>
    simp only [Option.map_some, esClock, hg]
    obtain ⟨h1, h2⟩ := esSet_some (v := v) (c := clock) hg
    rw [h2]
    have hs : (Instr.keyThatStays (.int .i64 k) (.int .i64 k)).run P w = .ok (.int .i64 k) w := by
      unfold Instr.keyThatStays
      rw [show Instr.sameBits 10000 (.int .i64 k) (.int .i64 k) = true from by simp [Instr.sameBits]]; rfl
    simp only [Option.getD_some]
    rw [run_bind P _ _ w w _ hs, h1]
    exact run_setObj (o := .map #[] 0) hb
theorem run_delete {ty : Nat} [hm : TyMap P T Kt E] [hk : TyInt P Kt .i64] {K2 : Nat} (hb : w.heap[b]? = some (.map (mapE es) clock)) :
    (Builtin.delete_ #[T, K2] ty #[.map (some b), .int .i64 k]).run P w = .ok (.tuple #[]) { w with heap := w.heap.setIfInBounds b (.map (mapE (esDel es k)) clock) } := by
  simp only [Builtin.delete_, List.getElem?_toArray, List.getElem?_cons_zero, List.getElem?_cons_succ]
  rw [run_bind P _ _ w w _ (run_under hm.h)]
  simp only []
  rw [run_bind P _ _ w w _ (run_getMap hb)]
  simp only []
  rw [run_bind P _ _ w w _ (run_checkKey _), run_bind P _ _ w w _ run_findKey]
  cases hg : esGet es k with
  | none =>
    simp only [Option.map_none]
    rw [run_bind P _ _ w _ _ (run_setObj (o := .map #[] 0) hb), esDel_none hg]; rfl
  | some u =>
    simp only [Option.map_some]
    rw [run_bind P _ _ w _ _ (run_setObj (o := .map #[] 0) hb), esDel_some hg]; rfl
end run
section omap
variable {α : Type} {w0 w : World} {L : List Asrt}
abbrev EntX (α : Type) := Int × Value × Nat × α
def ents (l : List (EntX α)) : List Ent := l.map fun e => (e.1, e.2.1, e.2.2.1)
def xGet : List (EntX α) → Int → Option α
  | [], _ => none
  | e :: r, k => if e.1 = k then some e.2.2.2 else xGet r k
def ohole (b : Nat) (A : Value → α → Asrt) (d : α) (f : Int → α) (k : Int) (v : Value) : Asrt :=
  ex fun l : List (EntX α) => ex fun clock : Nat => all (pur ((l.map (·.1)).Nodup ∧ (∀ k', k' ≠ k → f k' = (xGet l k').getD d) ∧ (esGet (ents l) k = some v ∨ (esGet (ents l) k = none ∧ v = .slice none 0 0 ∧ f k = d))) :: pt b (.map (mapE (ents l)) clock) :: (l.filter (·.1 ≠ k)).map fun e => A e.2.1 e.2.2.2)
def omap (b : Nat) (A : Value → α → Asrt) (d : α) (f : Int → α) : Asrt :=
  ex fun l : List (EntX α) => ex fun clock : Nat => all (pur ((l.map (·.1)).Nodup ∧ (∀ k, f k = (xGet l k).getD d)) :: pt b (.map (mapE (ents l)) clock) :: l.map fun e => A e.2.1 e.2.2.2)
def upd (f : Int → α) (k : Int) (x : α) : Int → α := fun k' => if k' = k then x else f k'

theorem xGet_esGet {l : List (EntX α)} {k : Int} : (∃ v x, esGet (ents l) k = some v ∧ xGet l k = some x ∧ ∃ n pre post, l = pre ++ (k, v, n, x) :: post ∧ ∀ e ∈ pre, e.1 ≠ k) ∨ (esGet (ents l) k = none ∧ xGet l k = none ∧ ∀ e ∈ l, e.1 ≠ k) := by
  induction l with
  | nil => right; exact ⟨rfl, rfl, by simp⟩
  | cons e r ih =>
    obtain ⟨k', v, n, x⟩ := e
    by_cases h : k' = k
    · subst h; left; exact ⟨v, x, by simp [ents, esGet], by simp [xGet], n, [], r, rfl, by simp⟩
    · rcases ih with ⟨v', x', h1, h2, n', pre, post, h3, h4⟩|⟨h1, h2, h3⟩
      · left
        refine ⟨v', x', ?_, ?_, n', (k', v, n, x) :: pre, post, by rw [h3]; rfl, ?_⟩
        · simpa [ents, esGet, h] using h1
        · simpa [xGet, h] using h2
        · intro e he; rcases List.mem_cons.1 he with rfl|he
          · exact h
          · exact h4 e he
      · right
        refine ⟨by simpa [ents, esGet, h] using h1, by simpa [xGet, h] using h2, ?_⟩
        intro e he; rcases List.mem_cons.1 he with rfl|he
        · exact h
        · exact h3 e he
theorem filter_split {pre post : List (EntX α)} {k : Int} {v : Value} {n : Nat} {x : α} (hn : ((pre ++ (k, v, n, x) :: post).map (·.1)).Nodup) : (pre ++ (k, v, n, x) :: post).filter (·.1 ≠ k) = pre ++ post := by
  simp only [List.map_append, List.map_cons] at hn
  have h1 : ∀ e ∈ pre, e.1 ≠ k := fun e he h => by
    have := (List.nodup_append.1 hn).2.2 e.1 (List.mem_map_of_mem he) k (List.mem_cons_self)
    exact this h
  have h2 : ∀ e ∈ post, e.1 ≠ k := fun e he h => by
    have := (List.nodup_cons.1 (List.nodup_append.1 hn).2.1).1
    exact this (h ▸ List.mem_map_of_mem he)
  rw [List.filter_append, List.filter_cons, if_neg (by simp), List.filter_eq_self.2 (by simpa using h1), List.filter_eq_self.2 (by simpa using h2)]
theorem Has.mid {L1 L2 : List Asrt} {A : Asrt} : Has (L1 ++ A :: L2) A (L1 ++ L2) := by
  induction L1 with
  | nil => exact .here
  | cons B L1 ih => exact .there ih
theorem St.omap_open {b : Nat} {A : Value → α → Asrt} {d : α} {f : Int → α} (hd : (A (.slice none 0 0) d).on (fun _ => none)) (H : St w0 w (omap b A d f :: L)) (k : Int) :
    ∃ v, St w0 w (A v (f k) :: ohole b A d f k v :: L) := by
  obtain ⟨l, H⟩ := H.ex_get
  obtain ⟨clock, H⟩ := H.ex_get
  have H := H.all_get
  simp only [List.cons_append] at H
  obtain ⟨hn, hf⟩ := H.pur_get
  have H := H.drop
  rcases xGet_esGet (l := l) (k := k) with ⟨v, x, h1, h2, n, pre, post, h3, h4⟩|⟨h1, h2, h3⟩
  · refine ⟨v, ?_⟩
    have hfk : f k = x := by rw [hf k, h2]; rfl
    rw [hfk]
    have hfl : l.filter (·.1 ≠ k) = pre ++ post := by rw [h3]; exact filter_split (h3 ▸ hn)
    have H1 : St w0 w (A v x :: pt b (.map (mapE (ents l)) clock) :: ((pre ++ post).map (fun e => A e.2.1 e.2.2.2) ++ L)) := by
      refine H.pick ?_
      refine .there ?_
      rw [h3]
      simp only [List.map_append, List.map_cons, List.append_assoc, List.cons_append]
      exact Has.mid
    refine (H1.swap.imp fun h => ?_ : St w0 w (A v x :: ohole b A d f k v :: L))
    intro hs
    have hs := hs.swap
    refine hs.imp fun h hs => ?_
    have : SatF (all (pur ((l.map (·.1)).Nodup ∧ (∀ k', k' ≠ k → f k' = (xGet l k').getD d) ∧ (esGet (ents l) k = some v ∨ (esGet (ents l) k = none ∧ v = .slice none 0 0 ∧ f k = d))) :: pt b (.map (mapE (ents l)) clock) :: (l.filter (·.1 ≠ k)).map fun e => A e.2.1 e.2.2.2) :: L) h := by
      refine SatF.app ?_
      rw [hfl]
      exact ⟨fun _ => none, h, ⟨hn, fun k' _ => hf k', .inl h1⟩, hs, Frag.none_disj _, Frag.none_sub _, Frag.sub_refl _⟩
    exact this.head fun _ hh => ⟨l, clock, hh⟩
  · refine ⟨.slice none 0 0, ?_⟩
    have hfk : f k = d := by rw [hf k, h2]; rfl
    rw [hfk]
    have hfl : l.filter (·.1 ≠ k) = l := List.filter_eq_self.2 (by simpa using h3)
    have H1 : St w0 w (ohole b A d f k (.slice none 0 0) :: L) := by
      refine H.imp fun h hs => ?_
      have : SatF (all (pur ((l.map (·.1)).Nodup ∧ (∀ k', k' ≠ k → f k' = (xGet l k').getD d) ∧ (esGet (ents l) k = some (.slice none 0 0) ∨ (esGet (ents l) k = none ∧ Value.slice none 0 0 = .slice none 0 0 ∧ f k = d))) :: pt b (.map (mapE (ents l)) clock) :: (l.filter (·.1 ≠ k)).map fun e => A e.2.1 e.2.2.2) :: L) h := by
        refine SatF.app ?_
        rw [hfl]
        exact ⟨fun _ => none, h, ⟨hn, fun k' _ => hf k', .inr ⟨h1, rfl, hfk⟩⟩, hs, Frag.none_disj _, Frag.none_sub _, Frag.sub_refl _⟩
      exact this.head fun _ hh => ⟨l, clock, hh⟩
    refine H1.imp fun h hs => ?_
    have hon : (A (.slice none 0 0) d).on (fun _ => none) := hd
    exact ⟨fun _ => none, h, hon, hs, Frag.none_disj _, Frag.none_sub _, Frag.sub_refl _⟩
def oheld (b : Nat) (A : Value → α → Asrt) (d : α) (f : Int → α) (k : Int) (v : Value) : Asrt :=
  ex fun l : List (EntX α) => ex fun clock : Nat => all (pur ((l.map (·.1)).Nodup ∧ (∀ k', k' ≠ k → f k' = (xGet l k').getD d) ∧ esGet (ents l) k = some v) :: pt b (.map (mapE (ents l)) clock) :: (l.filter (·.1 ≠ k)).map fun e => A e.2.1 e.2.2.2)
theorem St.pack {b : Nat} {p : Prop} {o : Obj} {M : List Asrt} (H : St w0 w (pt b o :: (M ++ L))) (hp : p) : St w0 w (all (pur p :: pt b o :: M) :: L) :=
  St.all_mk _ (H.pur_mk hp)

theorem xGet_append {pre post : List (EntX α)} {k : Int} (h : ∀ e ∈ pre, e.1 ≠ k) : xGet (pre ++ post) k = xGet post k := by
  induction pre with
  | nil => rfl
  | cons e r ih => simp only [List.cons_append, xGet]; rw [if_neg (h e (List.mem_cons_self)), ih (fun e he => h e (List.mem_cons_of_mem _ he))]
theorem xGet_other {pre post : List (EntX α)} {k k' : Int} {v v' : Value} {n n' : Nat} {x x' : α} (h : k' ≠ k) : xGet (pre ++ (k, v, n, x) :: post) k' = xGet (pre ++ (k, v', n', x') :: post) k' := by
  induction pre with
  | nil => simp only [List.nil_append, xGet]; rw [if_neg (Ne.symm h), if_neg (Ne.symm h)]
  | cons e r ih => simp only [List.cons_append, xGet]; rw [ih]

theorem upd_self {f : Int → α} {k : Int} : upd f k (f k) = f := by
  funext k'; unfold upd; split
  · rename_i e; rw [e]
  · rfl
theorem St.ohole_get {b : Nat} {A : Value → α → Asrt} {d : α} {f : Int → α} {k : Int} {v : Value} (H : St w0 w (ohole b A d f k v :: L)) : ∃ es clock, w.heap[b]? = some (.map (mapE es) clock) ∧ (esGet es k).getD (.slice none 0 0) = v := by
  obtain ⟨l, H⟩ := H.ex_get
  obtain ⟨clock, H⟩ := H.ex_get
  have H := H.all_get
  simp only [List.cons_append] at H
  obtain ⟨hn, hf, hg⟩ := H.pur_get
  refine ⟨ents l, clock, H.drop.pt_get, ?_⟩
  rcases hg with hg|⟨hg, hv, _⟩
  · rw [hg]; rfl
  · rw [hg, hv]; rfl
theorem esGet_set {es : List Ent} {k : Int} {v : Value} {c : Nat} : esGet (esSet es k v c) k = some v := by
  induction es with
  | nil => simp [esSet, esGet]
  | cons e r ih =>
    unfold esSet; split
    · simp [esGet]
    · rename_i h; simp only [esGet, if_neg h]; exact ih
theorem esSet_mid {pre post : List (EntX α)} {k : Int} {v v' : Value} {n clock : Nat} {x : α} (h4 : ∀ e ∈ pre, e.1 ≠ k) : esSet (ents (pre ++ (k, v, n, x) :: post)) k v' clock = ents (pre ++ (k, v', n, x) :: post) := by
  induction pre with
  | nil => simp [ents, esSet]
  | cons e r ih =>
    have hne := h4 e List.mem_cons_self
    have ih := ih (fun e he => h4 e (List.mem_cons_of_mem _ he))
    simp only [ents, List.map_append, List.map_cons, List.cons_append, esSet, if_neg hne] at ih ⊢
    rw [ih]
theorem esSet_app {l : List (EntX α)} {k : Int} {v' : Value} {clock : Nat} {d : α} (h3 : ∀ e ∈ l, e.1 ≠ k) : esSet (ents l) k v' clock = ents (l ++ [(k, v', clock, d)]) := by
  induction l with
  | nil => simp [ents, esSet]
  | cons e r ih =>
    have hne := h3 e List.mem_cons_self
    have ih := ih (fun e he => h3 e (List.mem_cons_of_mem _ he))
    simp only [ents, List.map_append, List.map_cons, List.map_nil, List.cons_append, esSet, if_neg hne] at ih ⊢
    rw [ih]
theorem xGet_app_other {l : List (EntX α)} {k k' : Int} {v' : Value} {clock : Nat} {d : α} (hk' : k' ≠ k) : xGet l k' = xGet (l ++ [(k, v', clock, d)]) k' := by
  induction l with
  | nil => simp [xGet, Ne.symm hk']
  | cons e r ih => simp only [List.cons_append, xGet]; rw [ih]
theorem esDel_ents {l : List (EntX α)} {k : Int} (hn : (l.map (·.1)).Nodup) : esDel (ents l) k = ents (l.filter (·.1 ≠ k)) := by
  induction l with
  | nil => rfl
  | cons e r ih =>
    simp only [List.map_cons, List.nodup_cons] at hn
    by_cases hk : e.1 = k
    · have : r.filter (·.1 ≠ k) = r := List.filter_eq_self.2 (by
        intro e' he'
        simp only [ne_eq, decide_not, Bool.not_eq_true', decide_eq_false_iff_not]
        intro h; exact hn.1 (List.mem_map.2 ⟨e', he', by rw [h, hk]⟩))
      rw [List.filter_cons, if_neg (by simp [hk]), this]
      simp [ents, esDel, hk]
    · rw [List.filter_cons, if_pos (by simp [hk])]
      have ih := ih hn.2
      simp only [ents, List.map_cons, esDel, if_neg hk] at ih ⊢
      rw [ih]
theorem xGet_filter {l : List (EntX α)} {k k' : Int} : xGet (l.filter (·.1 ≠ k)) k' = if k' = k then none else xGet l k' := by
  induction l with
  | nil => simp [xGet]
  | cons e r ih =>
    rw [List.filter_cons]
    by_cases hk : e.1 = k
    · rw [if_neg (by simp [hk]), ih]
      split
      · rfl
      · rename_i h; simp only [xGet]; rw [if_neg (fun h' => h (by rw [← h', hk]))]
    · rw [if_pos (by simp [hk])]
      simp only [xGet]; rw [ih]
      by_cases h1 : e.1 = k'
      · subst h1; rw [if_pos rfl, if_neg hk, if_pos rfl]
      · rw [if_neg h1, if_neg h1]
theorem St.ohole_update {b : Nat} {A : Value → α → Asrt} {d : α} {f : Int → α} {k : Int} {v : Value} (v' : Value) (H : St w0 w (ohole b A d f k v :: L)) :
    ∃ es clock, w.heap[b]? = some (.map (mapE es) clock) ∧ St w0 { w with heap := w.heap.setIfInBounds b (.map (mapE (esSet es k v' clock)) (esClock es k clock)) } (oheld b A d f k v' :: L) := by
  obtain ⟨l, H⟩ := H.ex_get
  obtain ⟨clock, H⟩ := H.ex_get
  have H := H.all_get
  simp only [List.cons_append] at H
  obtain ⟨hn, hf, hg⟩ := H.pur_get
  refine ⟨ents l, clock, H.drop.pt_get, ?_⟩
  have Hw := H.drop.set (.map (mapE (esSet (ents l) k v' clock)) (esClock (ents l) k clock))
  rcases xGet_esGet (l := l) (k := k) with ⟨u, x', h1, h2, n, pre, post, h3, h4⟩|⟨h1, h2, h3⟩
  · refine St.ex_mk (pre ++ (k, v', n, x') :: post) (St.ex_mk (esClock (ents l) k clock) ?_)
    have hfl : l.filter (·.1 ≠ k) = pre ++ post := by rw [h3]; exact filter_split (h3 ▸ hn)
    have hn' : ((pre ++ (k, v', n, x') :: post).map (·.1)).Nodup := by rw [h3] at hn; simpa using hn
    have hfl' : (pre ++ (k, v', n, x') :: post).filter (·.1 ≠ k) = pre ++ post := filter_split hn'
    have he : esSet (ents l) k v' clock = ents (pre ++ (k, v', n, x') :: post) := by rw [h3]; exact esSet_mid h4
    rw [he] at Hw
    rw [hfl', ← he, he, ← hfl]
    refine St.pack Hw ⟨hn', fun k' hk' => ?_, by rw [← he]; exact esGet_set⟩
    rw [hf k' hk', h3, xGet_other hk']
  · refine St.ex_mk (l ++ [(k, v', clock, d)]) (St.ex_mk (esClock (ents l) k clock) ?_)
    have hn' : ((l ++ [(k, v', clock, d)]).map (·.1)).Nodup := by
      rw [List.map_append, List.nodup_append]
      refine ⟨hn, by simp, ?_⟩
      intro a ha b hb e
      simp at hb; subst hb
      obtain ⟨e', he', rfl⟩ := List.mem_map.1 ha
      exact h3 e' he' e
    have hfl' : (l ++ [(k, v', clock, d)]).filter (·.1 ≠ k) = l.filter (·.1 ≠ k) := by simp
    have he : esSet (ents l) k v' clock = ents (l ++ [(k, v', clock, d)]) := esSet_app h3
    rw [hfl', ← he]
    refine St.pack Hw ⟨hn', fun k' hk' => ?_, esGet_set⟩
    rw [hf k' hk']
    rw [xGet_app_other hk']
theorem St.ohole_delete {b : Nat} {A : Value → α → Asrt} {d : α} {f : Int → α} {k : Int} {v : Value} (H : St w0 w (ohole b A d f k v :: L)) :
    ∃ es clock, w.heap[b]? = some (.map (mapE es) clock) ∧ St w0 { w with heap := w.heap.setIfInBounds b (.map (mapE (esDel es k)) clock) } (omap b A d (upd f k d) :: L) := by
  obtain ⟨l, H⟩ := H.ex_get
  obtain ⟨clock, H⟩ := H.ex_get
  have H := H.all_get
  simp only [List.cons_append] at H
  obtain ⟨hn, hf, hg⟩ := H.pur_get
  refine ⟨ents l, clock, H.drop.pt_get, ?_⟩
  have Hw := H.drop.set (.map (mapE (esDel (ents l) k)) clock)
  have he : esDel (ents l) k = ents (l.filter (·.1 ≠ k)) := esDel_ents hn
  rw [he] at Hw ⊢
  refine St.ex_mk (l.filter (·.1 ≠ k)) (St.ex_mk clock (St.pack Hw ⟨hn.sublist ((List.filter_sublist).map _), fun k' => ?_⟩))
  have hx : xGet (l.filter (·.1 ≠ k)) k' = if k' = k then none else xGet l k' := xGet_filter
  unfold upd
  rw [hx]
  split
  · rfl
  · rename_i h; exact hf k' h
theorem St.omap_new (H : St w0 w L) {α : Type} (A : Value → α → Asrt) (d : α) : St w0 { w with heap := w.heap.push (.map #[] 0) } (omap w.heap.size A d (fun _ => d) :: L) := by
  refine St.ex_mk [] (St.ex_mk 0 (St.pack (M := []) ?_ ⟨by simp, fun _ => rfl⟩))
  exact H.alloc (.map #[] 0)
end omap

section rules
variable {P : Program} {ops : Array Oper} {dst : Option Nat} {ty : TypeId} {pos : String} {after : Array Edge} {rest : List Oper} {ρ : Env} {w w0 : World} {K : Env → World → Prop}
variable {L L' L2 : List Asrt} {x y z' : Operand} {T Kt E b : Nat} {α : Type} {A : Value → α → Asrt} {d : α} {f : Int → α} {k : Int} {v : Value}
theorem Zfl (H : St w0 w L) {α : Type} (A : Value → α → Asrt) (d : α) (kk : ∀ w' b, St w0 w' (omap b A d (fun _ => d) :: L) → denOps P ops rest (put ρ dst (.map (some b))) w' K) :
    denOps P ops (⟨dst, .makeMap T none, ty, pos, after, none⟩ :: rest) ρ w K := by
  refine Zcy ?_
  have : (execOp (ev ρ) ⟨dst, .makeMap T none, ty, pos, after, none⟩).run P w = .ok (.value (.map (some w.heap.size))) { w with heap := w.heap.push (.map #[] 0) } := rfl
  rw [this]
  exact kk _ _ (H.omap_new A d)
theorem run_lookupH {by' : Nat} [hm : TyMap P T Kt E] [hk : TyInt P Kt .i64] [hz : TyI P E 1 by' (.slice none 0 0)] (H : St w0 w L) (hh : Has L (ohole b A d f k v) L') :
    (Instr.lookup T (.map (some b)) (.int .i64 k) false).run P w = .ok v w := by
  obtain ⟨es, clock, hb, hv⟩ := (H.pick hh).ohole_get
  rw [run_lookup (Kt := Kt) (E := E) (z := .slice none 0 0) hb, hv]
theorem Zfm {by' : Nat} [hm : TyMap P T Kt E] [hk : TyInt P Kt .i64] [hz : TyI P E 1 by' (.slice none 0 0)] (H : St w0 w L) (hx : ev ρ x = .map (some b)) (hy : ev ρ y = .int .i64 k) (hh : Has L (ohole b A d f k v) L') (kk : denOps P ops rest (put ρ dst v) w K) :
    denOps P ops (⟨dst, .lookup T x y false, ty, pos, after, none⟩ :: rest) ρ w K := by
  refine Zcy ?_
  have : (execOp (ev ρ) ⟨dst, .lookup T x y false, ty, pos, after, none⟩).run P w = .ok (.value v) w := op_run_value (by rw [hx, hy]; exact run_lookupH (Kt := Kt) (E := E) H hh)
  rw [this]; exact kk
theorem Zfo [hm : TyMap P T Kt E] [hk : TyInt P Kt .i64] {v' : Value} (H : St w0 w L) (hx : ev ρ x = .map (some b)) (hy : ev ρ y = .int .i64 k) (hz : ev ρ z' = v') (hh : Repl L (ohole b A d f k v) (oheld b A d f k v') L2) (kk : ∀ w', St w0 w' L2 → denOps P ops rest (put ρ dst undef) w' K) :
    denOps P ops (⟨dst, .mapUpdate T x y z', ty, pos, after, none⟩ :: rest) ρ w K := by
  refine Zcy ?_
  obtain ⟨M, h1, h2⟩ := hh.has
  obtain ⟨es, clock, hb, H'⟩ := (H.pick h1).ohole_update v'
  have : (execOp (ev ρ) ⟨dst, .mapUpdate T x y z', ty, pos, after, none⟩).run P w = .ok .skip _ := op_run_unit (by rw [hx, hy, hz]; exact run_mapUpdate (Kt := Kt) (E := E) hb)
  rw [this]
  exact kk _ (H'.unpick h2)
theorem Zfp {K2 : Nat} [hm : TyMap P T Kt E] [hk : TyInt P Kt .i64] (H : St w0 w L) (hx : ev ρ x = .map (some b)) (hy : ev ρ y = .int .i64 k) (hh : Repl L (ohole b A d f k v) (omap b A d (upd f k d)) L2) (kk : ∀ w', St w0 w' L2 → denOps P ops rest (put ρ dst (.tuple #[])) w' K) :
    denOps P ops (⟨dst, .call { callee := .builtin .delete, args := #[x, y], argTypes := #[T, K2] }, ty, pos, after, none⟩ :: rest) ρ w K := by
  refine Zcy ?_
  obtain ⟨M, h1, h2⟩ := hh.has
  obtain ⟨es, clock, hb, H'⟩ := (H.pick h1).ohole_delete
  have : (execOp (ev ρ) ⟨dst, .call { callee := .builtin .delete, args := #[x, y], argTypes := #[T, K2] }, ty, pos, after, none⟩).run P w = .ok (.value (.tuple #[])) { w with heap := w.heap.setIfInBounds b (.map (mapE (esDel es k)) clock) } := by
    refine op_run_value ?_
    simp only [List.map_toArray, List.map_cons, List.map_nil, hx, hy]
    exact run_delete (Kt := Kt) (E := E) hb
  rw [this]
  exact kk _ (H'.unpick h2)
end rules
end Go.Sl
namespace Go.Sl
open Go
def SlW (w : World) (size : Nat) (v : Value) (n : Nat) (xs : List Value) : Prop :=
  xs.length = n * size ∧ ((∃ a k, v = .slice a n k ∧ n = 0) ∨ ∃ b o k c E fr, v = .slice (some ⟨b, o, none⟩) n k ∧ w.heap[b]? = some (.cells c E fr) ∧ o + n * size ≤ c.size ∧ (c.extract o (o + n * size)).toList = xs)
section
variable {P : Program} {w w0 W : World} {L L' L2 : List Asrt} {E size n : Nat} {v : Value} {xs : List Value}
theorem St.own_sl (H : St w0 w (own E size v n xs :: L)) : SlW w size v n xs := by
  rcases H.own_get with ⟨rfl, rfl, rfl, _⟩|⟨g, cap, cur, rfl, h2, h3, h4, h5, h6, H⟩
  · exact ⟨by simp, .inl ⟨none, 0, rfl, rfl⟩⟩
  · refine ⟨h6, .inr ⟨g, 0, cap, cur, E, (0, 0), rfl, H.cl_get, ?_, ?_⟩⟩
    · rw [h4, Nat.zero_add]; exact Nat.mul_le_mul_right _ h2
    · rw [Array.toList_extract]; simp [List.extract, h5]
theorem St.old_sl (H : St w0 w (old W :: L)) (h : SlW W size v n xs) : SlW w size v n xs := by
  obtain ⟨h1, h2⟩ := h
  refine ⟨h1, ?_⟩
  rcases h2 with h2|⟨b, o, k, c, E, fr, rfl, hb, hle, hx⟩
  · exact .inl h2
  · refine .inr ⟨b, o, k, c, E, fr, rfl, ?_, hle, hx⟩
    rw [H.old_get (Array.getElem?_eq_some_iff.1 hb).1]; exact hb
theorem SlW.drawn (h : SlW w size v n xs) (d : Nat) : SlW { w with drawn := d } size v n xs := h
theorem SlW.len (h : SlW w size v n xs) : ∃ a k, v = .slice a n k := by
  rcases h.2 with ⟨a, k, rfl, _⟩|⟨b, o, k, c, E, fr, rfl, _⟩
  · exact ⟨_, _, rfl⟩
  · exact ⟨_, _, rfl⟩
theorem SlW.lenOf (h : SlW w size v n xs) : (Builtin.lenOf v).run P w = .ok n w := by
  obtain ⟨a, k, rfl⟩ := h.len; rfl
theorem SlW.first (h : SlW w size v n xs) (m : Nat) (hm : m ≤ n) : (Builtin.firstCells size m v).run P w = .ok (xs.take (m * size)).toArray w := by
  rcases h.2 with ⟨a, k, rfl, rfl⟩|⟨b, o, k, c, E, fr, rfl, hb, hle, hx⟩
  · have : m = 0 := by omega
    subst this
    have : xs = [] := by simpa using h.1
    subst this
    cases a with
    | none => simp [Builtin.firstCells]
    | some a =>
      show (loadCells a (0 * size)).run P w = _
      rw [Nat.zero_mul]; rfl
  · have hmn : m * size ≤ n * size := Nat.mul_le_mul_right _ hm
    show (loadCells ⟨b, o, none⟩ (m * size)).run P w = _
    rw [run_loadCells hb o (m * size) (by omega)]
    congr 1
    apply Array.ext'
    rw [← hx]
    simp only [Array.toList_extract, List.extract_eq_take_drop, List.take_take]
    congr 1
    omega
theorem SlW.elem (h : SlW w size v n xs) (hs : 0 < size) (hn : 0 < n) : ∃ b o k c E fr, v = .slice (some ⟨b, o, none⟩) n k ∧ w.heap[b]? = some (.cells c E fr) ∧ o + n * size ≤ c.size ∧ ∀ i, i < n * size → c[o + i]? = xs[i]? := by
  rcases h.2 with ⟨a, k, rfl, rfl⟩|⟨b, o, k, c, E, fr, rfl, hb, hle, hx⟩
  · omega
  · refine ⟨b, o, k, c, E, fr, rfl, hb, hle, fun i hi => ?_⟩
    rw [← hx, Array.getElem?_toList, Array.getElem?_extract_of_lt (by omega), Array.getElem?_eq_getElem (by omega)]
end
theorem SlW.elem1 {w : World} {n : Nat} {v : Value} {xs : List Value} (h : SlW w 1 v n xs) (hn : 0 < n) : ∃ b o k c E fr, v = .slice (some ⟨b, o, none⟩) n k ∧ w.heap[b]? = some (.cells c E fr) ∧ o + n ≤ c.size ∧ ∀ i, i < n → c[o + i]? = xs[i]? := by
  obtain ⟨b, o, k, c, E, fr, h1, h2, h3, h4⟩ := h.elem (by decide) hn
  exact ⟨b, o, k, c, E, fr, h1, h2, by omega, fun i hi => h4 i (by omega)⟩
theorem flat_get {α : Type} {enc : α → List Value} {sz : Nat} (he : ∀ a, (enc a).length = sz) (l : List α) (i : Nat) (hi : i < l.length) : ((l.flatMap enc).drop (i * sz)).take sz = enc l[i] := by
  induction l generalizing i with
  | nil => simp at hi
  | cons a r ih =>
    cases i with
    | zero => simp [List.take_append_of_le_length (Nat.le_of_eq (he a).symm), List.take_of_length_le (Nat.le_of_eq (he a))]
    | succ i =>
      simp only [List.flatMap_cons, List.getElem_cons_succ]
      rw [show (i + 1) * sz = (enc a).length + i * sz from by rw [he a, Nat.succ_mul]; omega, List.drop_length_add_append]
      exact ih i (by simpa using hi)
theorem flat_len {α : Type} {enc : α → List Value} {sz : Nat} (he : ∀ a, (enc a).length = sz) (l : List α) : (l.flatMap enc).length = l.length * sz := by
  induction l with
  | nil => simp
  | cons a r ih => simp only [List.flatMap_cons, List.length_append, he a, ih, List.length_cons, Nat.succ_mul]; omega
theorem SlW.elemN {α : Type} {enc : α → List Value} {w : World} {sz : Nat} {v : Value} {l : List α} (he : ∀ a, (enc a).length = sz) (hsz : 0 < sz) (h : SlW w sz v l.length (l.flatMap enc)) (hn : 0 < l.length) : ∃ b o k c E fr, v = .slice (some ⟨b, o, none⟩) l.length k ∧ w.heap[b]? = some (.cells c E fr) ∧ o + l.length * sz ≤ c.size ∧
    ∀ i (hi : i < l.length), o + i * sz + sz ≤ c.size ∧ c.extract (o + i * sz) (o + i * sz + sz) = (enc l[i]).toArray := by
  rcases h.2 with ⟨_, k, rfl, h0⟩|⟨b, o, k, c, E, fr, rfl, hb, hle, hx⟩
  · omega
  · refine ⟨b, o, k, c, E, fr, rfl, hb, hle, fun i hi => ?_⟩
    have h1 : i * sz + sz ≤ l.length * sz := by rw [← Nat.succ_mul]; exact Nat.mul_le_mul_right _ hi
    refine ⟨by omega, ?_⟩
    apply Array.ext'
    have := flat_get he l i hi
    rw [← hx] at this
    simp only [Array.toList_extract, List.extract_eq_take_drop, List.drop_take, List.take_take, List.drop_drop] at this ⊢
    rw [← this]
    congr 1
    omega
theorem fold_wr (off : Nat) : ∀ (vs : List Value) (k : Nat) (cs : Array Value), (vs.zipIdx k).foldl (fun cs (p : Value × Nat) => cs.setIfInBounds (off + p.2) p.1) cs = wr cs (off + k) vs
  | [], k, cs => rfl
  | v :: vs, k, cs => by
    rw [List.zipIdx_cons, List.foldl_cons, fold_wr off vs (k + 1)]
    rfl
theorem fill_one {n : Nat} {v : Value} {z : Array Value} (hv : v.cells.size = n) (hz : z.size = n) : Instr.fill (fun i => some (i * n, n)) z [(0, v)] = some v.cells := by
  show (if v.cells.size ≠ n || 0 * n + v.cells.size > z.size then none else Instr.fill (fun i => some (i * n, n)) (v.cells.zipIdx.foldl (fun cs (p : Value × Nat) => cs.setIfInBounds (0 * n + p.2) p.1) z) []) = _
  rw [if_neg (by simp [hv, hz])]
  show some _ = _
  congr 1
  rw [← Array.foldl_toList, Array.toList_zipIdx, fold_wr (0 * n) v.cells.toList 0 z]
  rw [show 0 * n + 0 = 0 from by omega]
  exact wr_all v.cells z (by rw [hv, hz])
theorem zeros1 (n : Nat) (z : Value) : (List.replicate n [z]).flatten = List.replicate n z := by
  induction n with
  | zero => rfl
  | succ n ih => rw [List.replicate_succ, List.flatten_cons, ih]; rfl
section steps
variable {P : Program} {ops : Array Oper} {dst : Option Nat} {ty : TypeId} {pos : String} {after : Array Edge} {rest : List Oper} {ρ : Env} {w w0 : World} {K : Env → World → Prop}
variable {L L' L2 : List Asrt} {x y : Operand} {b o E T : Nat} {c : Array Value}
theorem Zfs [hs : TyScal P T] {v : Value} {fr : Nat × Nat} (hx : ev ρ x = .pointer (some ⟨b, o, none⟩)) (hb : w.heap[b]? = some (.cells c E fr)) (hv : c[o]? = some v) (k : denOps P ops rest (put ρ dst v) w K) :
    denOps P ops (⟨dst, .load T x, ty, pos, after, none⟩ :: rest) ρ w K := by
  refine Zcy ?_
  have hr : (Instr.loadAt T (ev ρ x)).run P w = .ok v w := by
    rw [hx]; unfold Instr.loadAt
    rw [run_bind P _ _ w w _ rfl]; unfold loadVar
    rw [run_bind P _ _ w w _ (run_isAgg hs.h)]
    exact run_load1 hb hv
  have : (execOp (ev ρ) ⟨dst, .load T x, ty, pos, after, none⟩).run P w = .ok (.value v) w := op_run_value hr
  rw [this]; exact k
theorem Zft [hs : TyAggr P T] {n by' : Nat} {z : Value} {cs : Array Value} [hi : TyI P T n by' z] {fr : Nat × Nat} (hx : ev ρ x = .pointer (some ⟨b, o, none⟩)) (hb : w.heap[b]? = some (.cells c E fr)) (hv : o + n ≤ c.size) (hc : c.extract o (o + n) = cs) (k : denOps P ops rest (put ρ dst (.agg cs)) w K) :
    denOps P ops (⟨dst, .load T x, ty, pos, after, none⟩ :: rest) ρ w K := by
  refine Zcy ?_
  have : (execOp (ev ρ) ⟨dst, .load T x, ty, pos, after, none⟩).run P w = .ok (.value (.agg (c.extract o (o + n)))) w := op_run_value (run_loadAgg hb hv hx)
  rw [this, hc]; exact k
theorem Zfu {size by' n m T' E' : Nat} {z v sv : Value} {xs news : List Value} [hs : TySlice P T E] [hi : TyI P E size by' z] [ht : TySlice P T' E']
    (H : St w0 w L) (hx : ev ρ x = v) (hy : ev ρ y = sv) (hm2 : Has L (own E size v n xs) L') (hsl : SlW w size sv m news)
    (h1 : news.all oneC = true) (hby : by' ≠ 0) (hb : (n + m) * by' ≤ 140737488355328)
    (h : ∀ a' c' w', St w0 w' (own E size (.slice a' (n + m) c') (n + m) (xs ++ news) :: L') → denOps P ops rest (put ρ dst (.slice a' (n + m) c')) w' K) :
    denOps P ops (⟨dst, .call { callee := .builtin .append, args := #[x, y], argTypes := #[T, T'] }, ty, pos, after, none⟩ :: rest) ρ w K := by
  refine Zcy ?_
  obtain ⟨a', c', w', hr, H'⟩ := run_append (P := P) (T := T) (E := E) (ty := ty) (xv := sv) (m := m) (news := news) ht.h hi.zs hsl.lenOf (fun d => by
    have := (hsl.drawn d).first (P := P) m (Nat.le_refl _)
    rwa [← hsl.1, List.take_length] at this) hsl.1 h1 hby hb (H.pick hm2)
  have : (execOp (ev ρ) ⟨dst, .call { callee := .builtin .append, args := #[x, y], argTypes := #[T, T'] }, ty, pos, after, none⟩).run P w = .ok (.value (.slice a' (n + m) c')) w' := by
    refine op_run_value ?_
    simp only [List.map_toArray, List.map_cons, List.map_nil, hx, hy]
    exact hr
  rw [this]
  exact h _ _ _ H'
theorem Zfv {size by' n dl dc T' : Nat} {z sv : Value} {xs : List Value} {c' : Array Value} [hs : TySlice P T E] [hi : TyI P E size by' z] {E0 : Nat}
    (H : St w0 w L) (hx : ev ρ x = .slice (some ⟨b, o, none⟩) dl dc) (hy : ev ρ y = sv) (hsl : SlW w size sv n xs) (hm : Repl L (cl b c E0) (cl b c' E0) L2) (hle : o + dl * size ≤ c.size) (h1 : xs.all oneC = true) (hc : wr c o (xs.take (min n dl * size)) = c')
    (h : ∀ w', St w0 w' L2 → denOps P ops rest (put ρ dst (.int .i64 (min n dl : Nat))) w' K) :
    denOps P ops (⟨dst, .call { callee := .builtin .copy, args := #[x, y], argTypes := #[T, T'] }, ty, pos, after, none⟩ :: rest) ρ w K := by
  refine Zcy ?_
  obtain ⟨M, hh1, hh2⟩ := hm.has
  have hmin : min n dl * size ≤ n * size ∧ min n dl * size ≤ dl * size := ⟨Nat.mul_le_mul_right _ (by omega), Nat.mul_le_mul_right _ (by omega)⟩
  have hlen : (xs.take (min n dl * size)).length = min n dl * size := by rw [List.length_take, hsl.1]; omega
  have : (execOp (ev ρ) ⟨dst, .call { callee := .builtin .copy, args := #[x, y], argTypes := #[T, T'] }, ty, pos, after, none⟩).run P w = .ok (.value (.int .i64 (min n dl : Nat))) { w with heap := w.heap.setIfInBounds b (.cells (wr c o (xs.take (min n dl * size))) E0 (0, 0)) } := by
    refine op_run_value ?_
    simp only [List.map_toArray, List.map_cons, List.map_nil, hx, hy, Builtin.copy_, List.getElem?_toArray, List.getElem?_cons_zero, List.getElem?_cons_succ]
    rw [run_bind P _ _ w w _ (run_under hs.h)]
    simp only []
    rw [run_bind P _ _ w w _ hsl.lenOf, run_bind P _ _ w w _ (run_size hi), run_bind P _ _ w w _ (hsl.first (min n dl) (by omega))]
    have hst := run_storeCells (P := P) (xs.take (min n dl * size)) (H.pick hh1).cl_get o 0 (by rw [hlen]; omega) (by
      rw [List.all_eq_true] at h1 ⊢
      exact fun u hu => h1 u (List.mem_of_mem_take hu))
    rw [run_bind P _ _ w _ () hst]; rfl
  rw [this]
  subst hc
  exact h _ (((H.pick hh1).set (.cells (wr c o (xs.take (min n dl * size))) E0 (0, 0))).unpick hh2)
end steps
end Go.Sl
namespace Go.Sl
open Go
section
variable {P : Program} {ops : Array Oper} {dst : Option Nat} {ty T : TypeId} {pos : String} {after : Array Edge} {rest : List Oper} {ρ : Env} {w w0 : World} {K : Env → World → Prop} {x : Operand} {L : List Asrt}
theorem Zf3 {f : Fn} {ars bs : List Operand} : PV P (.makeFunc f ars.toArray bs.toArray) ρ (.func f (ars.map (ev ρ)).toArray (bs.map (ev ρ)).toArray) := by
  have h := Zcp (P := P) (ρ := ρ) (f := f) (a := ars.toArray) (b := bs.toArray)
  simpa using h
end
theorem SlW.cellAt {w : World} {b o n k : Nat} {xs : List Value} (h : SlW w 1 (.slice (some ⟨b, o, none⟩) n k) n xs) {i : Nat} (hi : i < n) : ∃ c E fr, w.heap[b]? = some (.cells c E fr) ∧ c[o + i]? = xs[i]? := by
  obtain ⟨xb, xo, xk, xc, xE, xfr, hxv, hxb, hxs, hxe⟩ := h.elem1 (by omega)
  simp only [Value.slice.injEq, Option.some.injEq, Addr.mk.injEq] at hxv
  obtain ⟨⟨rfl, rfl, _⟩, _, rfl⟩ := hxv
  exact ⟨xc, xE, xfr, hxb, hxe i hi⟩
theorem SlW.isSome {w : World} {n k : Nat} {a : Option Addr} {xs : List Value} {sz : Nat} (h : SlW w sz (.slice a n k) n xs) (hn : 0 < n) : ∃ b o, a = some ⟨b, o, none⟩ := by
  obtain ⟨_, h⟩ := h
  rcases h with ⟨a, k, h, h0⟩|⟨b, o, k, c, E, fr, h, _⟩
  · omega
  · simp only [Value.slice.injEq] at h
    exact ⟨b, o, h.1⟩
def u8v (n : Int) : Value := .int .u8 n
end Go.Sl
namespace Go.Sl
open Go Go.ChangeShapes Go.WideShapes Go.ChangeAt Go.RowKit
theorem St.below {W w' : World} {L L' : List Asrt} (H : St W w' L) (hh : Has L (old W) L') : Below W.heap.size W w' :=
  ⟨H.os, H.tape, H.output, H.size, fun k hk => (H.pick hh).old_get hk⟩
variable {H : Type} {enc : TypeId × Value → H} {P : Program}
theorem trodAll_stays (hl : laidOutB P = true) {W W' : World} {base : Nat} {sp' : Nat → Bool} : ∀ (ts : List TypeId) (vs : List Value) (ds : List (DataW H)) (ps : List MemPlace), (∀ t ∈ ts, P.readableRec t = true ∧ t < P.types.size) →
    DataW.TrodAll enc P W base (fun _ => true) true ts vs ds ps → (∀ p ∈ ps, W.sameAt W' p) → (∀ p ∈ ps, sp' p.block = true) → DataW.TrodAll enc P W' base sp' true ts vs ds ps := by
  intro ts
  induction ts with
  | nil =>
    intro vs ds ps _ h _ _
    cases vs <;> cases ds <;> first|exact h|exact h.elim
  | cons t ts ih =>
    intro vs ds ps ht h hs hsp
    cases vs with
    | nil => exact h.elim
    | cons v vs =>
      cases ds with
      | nil => exact h.elim
      | cons d ds =>
        obtain ⟨p, q, h1, h2, rfl⟩ := h
        exact ⟨p, q, WideElems.Trod_stays hl (ht t (by simp)).1 (ht t (by simp)).2 h1 (fun x hx => hs x (by simp [hx])) (fun x hx => hsp x (by simp [hx])),
          ih vs ds q (fun u hu => ht u (by simp [hu])) h2 (fun x hx => hs x (by simp [hx])) (fun x hx => hsp x (by simp [hx])), rfl⟩
theorem law_post {f : Func} {s : ChangeSpec} {apart fresh handsOn again : Bool} {W W' : World} {args : Array Value} {ds gs : List (DataW H)} {before : List MemPlace} {tb : TypeId}
    (hl : laidOutB P = true) (hts : ∀ t ∈ f.params.toList, P.readableRec t = true ∧ t < P.types.size) (hr : f.resultTypes = #[tb]) (htb : P.underlying tb = some .bool) (hvs : s.vars = [])
    (hW : DataW.Whole enc P f.params.toList s.vars apart W args.toList ds gs before)
    (hfn : s.fn H (ds ++ gs) = { results := [.lit (.bool true)], args := ds }) (hb : Below W.heap.size W W') :
    s.post enc P f apart fresh handsOn again W args (.bool true) W' := by
  have hlt := hW.lt
  have hW' := hW
  obtain ⟨p, q, hA, hV, rfl, hz, hn⟩ := hW
  rw [hvs] at hV
  obtain ⟨rfl, rfl⟩ := trodVars_none hV
  simp only [List.append_nil] at hW' hfn hlt hz hn
  have hsame : ∀ x ∈ p, W.sameAt W' x := fun x hx => hb.same (hlt x hx)
  have hargs : ∀ sp : Nat → Bool, (∀ x ∈ p, sp x.block = true) → DataW.TrodAll enc P W' 0 sp true f.params.toList args.toList ds p := fun sp hsp => trodAll_stays hl _ _ _ _ hts hA hsame hsp
  have hres : ∀ (b : Nat) (sp : Nat → Bool) (hd : Bool), DataW.TrodAll enc P W' b sp hd f.resultTypes.toList ((Value.bool true).resultList f.resultTypes.size) [.lit (.bool true)] [] := by
    intro b sp hd
    rw [hr]
    exact trodAll_cons_mk (shut_bool htb _) trodAll_mk0
  have hok : ∀ (j : Nat) (t : TypeId) (r : Value), f.resultTypes[j]? = some t → ((Value.bool true).resultList f.resultTypes.size)[j]? = some r → Value.okWide P W' .any 0 t r :=
    ok_one hr rfl (okWide_bool_mk htb _)
  have hold : ∀ x ∈ p, (fun b => decide (b < W.heap.size)) x.block = true := fun x hx => by simpa using hlt x hx
  refine ⟨ds, [], p, [], p, [], hW', ?_, ?_, ?_, hb.frame _, fun _ => ?_⟩
  · simp only [List.append_nil, hfn]; exact hres _ _ _
  · simp only [List.append_nil, hfn]; exact hargs _ hold
  · rw [hvs]; simp only [List.append_nil, hfn]; rfl
  · refine ⟨hok, [.lit (.bool true)] ++ ds, [], ([] ++ p) ++ [], ⟨[] ++ p, [], trodAll_append (hargs _ (fun _ _ => rfl)) (hres _ _ _), ?_, rfl, ?_, ?_⟩, ?_⟩
    · rw [hvs]; rfl
    · intro b off hp
      simp only [List.append_nil, List.nil_append] at hp
      rw [hb.frozen (hlt _ hp)]
      exact hz b off hp
    · intro ha
      simpa using hn ha
    · intro x hx _
      simpa using hx
end Go.Sl
namespace Go.Sl
open Go Go.ChangeShapes Go.WideShapes Go.ChangeAt Go.RowKit
theorem list_of {α : Type} {Q : Nat → α → Prop} : ∀ (n : Nat), (∀ i, i < n → ∃ a, Q i a) → ∃ l : List α, l.length = n ∧ ∀ i (h : i < l.length), Q i l[i]
  | 0, _ => ⟨[], rfl, fun i h => absurd h (Nat.not_lt_zero _)⟩
  | n + 1, h => by
    obtain ⟨l, hl, hq⟩ := list_of n (fun i hi => h i (by omega))
    obtain ⟨a, ha⟩ := h n (by omega)
    refine ⟨l ++ [a], by simp [hl], fun i hi => ?_⟩
    by_cases e : i < l.length
    · rw [List.getElem_append_left e]; exact hq i e
    · have : i = n := by simp at hi; omega
      subst this
      rw [List.getElem_append_right (by omega)]
      simpa [hl] using ha
variable {H : Type} {enc : TypeId × Value → H} {P : Program} {w : World} {base : Nat} {spare : Nat → Bool} {held : Bool}
theorem cell_block {w : World} {a : Addr} {v : Value} (h : w.cell? a = some v) : ∃ c E fr, w.heap[a.block]? = some (.cells c E fr) ∧ a.spot = none ∧ c[a.off]? = some v := by
  unfold World.cell? at h
  split at h
  · rename_i c E fr he
    split at h
    · cases h
    · rename_i hs
      exact ⟨c, E, fr, he, by simpa using hs, h⟩
  · cases h
theorem Addr.add_eq {a : Addr} (h : a.spot = none) (n : Nat) : a.add n = ⟨a.block, a.off + n, none⟩ := by
  unfold Addr.add
  split
  · subst_vars; cases a; simp_all
  · rfl
theorem open_slr {α : Type} {encd : α → List Value} {good : α → DataW H → Prop} {Wt : DataW H → Prop} {t e : TypeId} {sz fuel : Nat} {cs : List Value} {x : DataW H × List MemPlace} (ht : P.underlying t = some (.slice e)) (hc : P.cellsOf e = sz) (hsz : 0 < sz)
    (he : ∀ a, (encd a).length = sz)
    (hel : ∀ (n : Nat) (cs : List Value) y, DataW.trod enc P w base spare held n e cs = some y → Wt y.1 → ∃ a : α, cs = encd a ∧ good a y.1) (h : DataW.trod enc P w base spare held fuel t cs = some x) (hwt : ∀ es rs, x.1 = .slice es rs → ∀ d ∈ es, Wt d) :
    ∃ (v : Value) (l : List α), cs = [v] ∧ SlW w sz v l.length (l.flatMap encd) ∧ l.length ≤ 9223372036854775807 ∧ (l = [] ∨ ∃ es rs, x.1 = .slice es rs ∧ es.length = l.length ∧ ∀ i (h : i < l.length), ∃ d, es[i]? = some d ∧ good l[i] d) := by
  rcases DataW.trod_slice ht h with ⟨rfl, _⟩|⟨a, len, cap, elems, rest, n, _, rfl, hx, hb, hl, hm, hlen, hel2, _, _⟩
  · exact ⟨_, [], rfl, ⟨by simp, .inl ⟨_, _, rfl, rfl⟩⟩, by simp, .inl rfl⟩
  · have hm : cap ≤ 9223372036854775807 := by unfold Go.maxLen at hm; omega
    rw [hc] at hel2
    have each : ∀ i, i < len → ∃ z : α, (w.cells? base (a.add (i * sz)) sz = some (encd z)) ∧ ∃ y, elems[i]? = some y ∧ good z y.1 := by
      intro i hi
      have h2 := hel2 i hi
      have h3 : ∃ y, elems[i]? = some y := ⟨elems[i]'(by omega), List.getElem?_eq_getElem (by omega)⟩
      obtain ⟨y, hy⟩ := h3
      rw [hy] at h2
      obtain ⟨cs', h4, h5⟩ := Option.bind_eq_some_iff.1 h2
      obtain ⟨z, rfl, hz⟩ := hel _ _ _ h5 (hwt (elems.map (·.1)) (rest.map (·.1)) (by rw [hx]) y.1 (List.mem_map.2 ⟨y, List.mem_of_getElem? hy, rfl⟩))
      exact ⟨z, h4, y, hy, hz⟩
    obtain ⟨l, hll, hq⟩ := list_of (Q := fun i z => (w.cells? base (a.add (i * sz)) sz = some (encd z)) ∧ ∃ y, elems[i]? = some y ∧ good z y.1) len each
    refine ⟨_, l, rfl, ?_, by omega, .inr ⟨elems.map (·.1), rest.map (·.1), by rw [hx], by simp [hlen, hll], fun i hi => ?_⟩⟩
    · rw [hll]
      have hfl : (l.flatMap encd).length = len * sz := by rw [flat_len he, hll]
      refine ⟨hfl, ?_⟩
      by_cases h0 : len = 0
      · exact .inl ⟨_, _, rfl, h0⟩
      · right
        have hcell : ∀ i j (h1 : i < l.length) (h2 : j < sz), w.cell? ((a.add (i * sz)).add j) = (encd l[i])[j]? := by
          intro i j h1 h2
          have h3 := (World.cells?_some (hq i h1).1).2.2 j h2
          exact h3
        have h00 := hcell 0 0 (by omega) hsz
        rw [Nat.zero_mul] at h00
        have ha0 : (a.add 0).add 0 = a := by simp [Addr.add]
        rw [ha0] at h00
        have hsome : ∃ v, (encd (l[0]'(by omega)))[0]? = some v := ⟨_, List.getElem?_eq_getElem (by rw [he]; exact hsz)⟩
        obtain ⟨v0, hv0⟩ := hsome
        obtain ⟨c, E, fr, hbk, hsp, _⟩ := cell_block (h00.trans hv0)
        have hat : ∀ i j (h1 : i < l.length) (h2 : j < sz), c[a.off + (i * sz + j)]? = (l.flatMap encd)[i * sz + j]? := by
          intro i j h1 h2
          have h3 := hcell i j h1 h2
          have e1 : (a.add (i * sz)).add j = ⟨a.block, a.off + (i * sz + j), none⟩ := by
            rw [Addr.add_eq hsp, Addr.add_eq rfl]; simp [Nat.add_assoc]
          rw [e1] at h3
          unfold World.cell? at h3
          rw [hbk] at h3
          simp only [Option.isSome_none, Bool.false_eq_true, if_false] at h3
          rw [h3, ← flat_get he l i h1, List.getElem?_take_of_lt h2, List.getElem?_drop]
        have hk : ∀ k, k < len * sz → c[a.off + k]? = (l.flatMap encd)[k]? := by
          intro k hk
          have h1 : k / sz < l.length := by rw [hll]; exact Nat.div_lt_of_lt_mul (by rwa [Nat.mul_comm] at hk)
          have h2 := hat (k / sz) (k % sz) h1 (Nat.mod_lt _ hsz)
          have h3 : k / sz * sz + k % sz = k := by rw [Nat.mul_comm]; exact Nat.div_add_mod k sz
          rwa [h3] at h2
        have hle : a.off + len * sz ≤ c.size := by
          have hpos : 0 < len * sz := Nat.mul_pos (by omega) hsz
          have h4 := hk (len * sz - 1) (by omega)
          rw [List.getElem?_eq_getElem (by omega)] at h4
          have := (Array.getElem?_eq_some_iff.1 h4).1
          omega
        refine ⟨a.block, a.off, cap, c, E, fr, ?_, hbk, hle, ?_⟩
        · cases a; simp_all
        · apply List.ext_getElem?
          intro k
          by_cases hk' : k < len * sz
          · rw [Array.getElem?_toList, Array.getElem?_extract_of_lt (by omega), ← hk k hk', Array.getElem?_eq_getElem (by omega)]
          · rw [List.getElem?_eq_none (by simp; omega), List.getElem?_eq_none (by omega)]
    · obtain ⟨y, h1, h2⟩ := (hq i hi).2
      exact ⟨y.1, by rw [List.getElem?_map, h1]; rfl, h2⟩
theorem open_slg {α : Type} {encd : α → List Value} {good : α → Prop} {Wt : DataW H → Prop} {t e : TypeId} {sz fuel : Nat} {cs : List Value} {x : DataW H × List MemPlace} (ht : P.underlying t = some (.slice e)) (hc : P.cellsOf e = sz) (hsz : 0 < sz)
    (he : ∀ a, (encd a).length = sz)
    (hel : ∀ (n : Nat) (cs : List Value) y, DataW.trod enc P w base spare held n e cs = some y → Wt y.1 → ∃ a : α, cs = encd a ∧ good a) (h : DataW.trod enc P w base spare held fuel t cs = some x) (hwt : ∀ es rs, x.1 = .slice es rs → ∀ d ∈ es, Wt d) :
    ∃ (v : Value) (l : List α), cs = [v] ∧ SlW w sz v l.length (l.flatMap encd) ∧ (∀ a ∈ l, good a) ∧ l.length ≤ 9223372036854775807 ∧ (l = [] ∨ ∃ es rs, x.1 = .slice es rs ∧ es.length = l.length) := by
  obtain ⟨v, l, h1, h2, h3, h4⟩ := open_slr (good := fun a _ => good a) (Wt := Wt) ht hc hsz he hel h hwt
  refine ⟨v, l, h1, h2, ?_, h3, ?_⟩
  · intro a ha
    rcases h4 with rfl|⟨es, rs, _, _, hg⟩
    · simp at ha
    · obtain ⟨i, hi, rfl⟩ := List.getElem_of_mem ha
      obtain ⟨d, _, hd⟩ := hg i hi
      exact hd
  · rcases h4 with rfl|⟨es, rs, h5, h6, _⟩
    · exact .inl rfl
    · exact .inr ⟨es, rs, h5, h6⟩
def Small (P : Program) (t : TypeId) (d : DataW H) : Prop := ∀ n ∈ d.weights P t, n ≤ 140737488351232
theorem weightsAll_mem {P : Program} {e : TypeId} : ∀ {es : List (DataW H)} {d : DataW H}, d ∈ es → ∀ n ∈ d.weights P e, n ∈ DataW.weightsAll P e es
  | a :: es, d, hd, n, hn => by
    simp only [DataW.weightsAll, List.mem_append]
    rcases List.mem_cons.1 hd with rfl|hd
    · exact .inl hn
    · exact .inr (weightsAll_mem hd n hn)
theorem Small.elems {P : Program} {t e : TypeId} {es rs : List (DataW H)} (ht : P.underlying t = some (.slice e)) (h : Small P t (.slice es rs)) : (∀ d ∈ es, Small P e d) ∧ es.length * P.bytesOf e ≤ 140737488351232 := by
  constructor
  · intro d hd n hn
    refine h n ?_
    simp only [DataW.weights, ht, List.mem_cons, List.mem_append]
    exact .inr (.inl (weightsAll_mem hd n hn))
  · have := h ((es.length + rs.length) * P.bytesOf e) (by simp [DataW.weights, ht])
    exact Nat.le_trans (Nat.mul_le_mul_right _ (by omega)) this
theorem Small.part {P : Program} {t : TypeId} {fs : Array Field} {ds : List (DataW H)} {j : Nat} {f : Field} {d : DataW H} (ht : P.underlying t = some (.struct fs)) (h : Small P t (.agg ds)) (hf : fs[j]? = some f) (hd : ds[j]? = some d) : Small P f.type d := by
  intro n hn
  refine h n ?_
  simp only [DataW.weights, ht]
  exact DataW.weights_mem_each (j := j) (by simp [hf]) hd n hn
theorem open_sls {α : Type} {encd : α → List Value} {good : α → Prop} {t e : TypeId} {sz by' fuel : Nat} {cs : List Value} {x : DataW H × List MemPlace} (ht : P.underlying t = some (.slice e)) (hc : P.cellsOf e = sz) (hsz : 0 < sz) (hby : P.bytesOf e = by')
    (he : ∀ a, (encd a).length = sz)
    (hel : ∀ (n : Nat) (cs : List Value) y, DataW.trod enc P w base spare held n e cs = some y → Small P e y.1 → ∃ a : α, cs = encd a ∧ good a) (h : DataW.trod enc P w base spare held fuel t cs = some x) (hs : Small P t x.1) :
    ∃ (v : Value) (l : List α), cs = [v] ∧ SlW w sz v l.length (l.flatMap encd) ∧ (∀ a ∈ l, good a) ∧ l.length * by' ≤ 140737488351232 := by
  obtain ⟨v, l, h1, h2, h3, h4, h5⟩ := open_slg (Wt := Small P e) ht hc hsz he hel h (fun es rs hx d hd => (Small.elems ht (hx ▸ hs)).1 d hd)
  refine ⟨v, l, h1, h2, h3, ?_⟩
  rcases h5 with rfl|⟨es, rs, hx, hl⟩
  · simp
  · rw [← hl, ← hby]; exact (Small.elems ht (hx ▸ hs)).2
theorem flat_one {α : Type} {f : α → Value} (l : List α) : l.flatMap (fun a => [f a]) = l.map f := by induction l <;> simp_all
theorem open_bytess {t e : TypeId} {fuel : Nat} {cs : List Value} {x : DataW H × List MemPlace} (ht : P.underlying t = some (.slice e)) (he : P.underlying e = some (.int .u8)) (hc : P.cellsOf e = 1) (hby : P.bytesOf e = 1) (h : DataW.trod enc P w base spare held fuel t cs = some x) (hs : Small P t x.1) :
    ∃ (v : Value) (l : List Int), cs = [v] ∧ SlW w 1 v l.length (l.map u8v) ∧ (∀ a ∈ l, (Lit.int .u8 a).wf = true) ∧ l.length ≤ 140737488351232 := by
  obtain ⟨v, l, h1, h2, h3, h4⟩ := open_sls (encd := fun n : Int => [u8v n]) (good := fun n => (Lit.int .u8 n).wf = true) ht hc (by decide) hby (fun _ => rfl) (fun n cs y hy _ => by
    obtain ⟨m, rfl, _, hw⟩ := DataW.trod_int he hy
    exact ⟨m, rfl, hw⟩) h hs
  rw [flat_one] at h2
  exact ⟨v, l, h1, h2, h3, by omega⟩
end Go.Sl
namespace Go.Sl
open Go
section
variable {P : Program} {T T' : Nat} {x y : Operand} {ρ : Env} {xs ys : Array Value} {la lb : List Lit} {m D D' : Nat} {p : Prop} [Decidable p]
theorem run_eq_agg (w : World) (hk : P.keyTypeAt m T = true) (hm : m ≤ 10000) (fx : (Value.agg xs).formed P T = true) (fy : (Value.agg ys).formed P T = true) (ha : P.keyLits D T xs.toList = some la) (hb : P.keyLits D' T ys.toList = some lb) (hp : p ↔ la = lb) :
    (Op.equal T (.agg xs) (.agg ys)).run P w = .ok (decide p) w := by
  have e : Op.maxDepth = (10000 - m) + m := by unfold Op.maxDepth; omega
  obtain ⟨r, hr, hiff⟩ := run_equalIn_deep (P := P) (10000 - m) m T hk w D D' (.agg xs) (.agg ys) la lb fx fy ha hb
  unfold Op.equal
  rw [e, hr]
  congr 1
  by_cases h : p
  · rw [hiff.2 (hp.1 h), decide_eq_true h]
  · rw [decide_eq_false h]
    cases r
    · rfl
    · exact absurd (hp.2 (hiff.1 rfl)) h
theorem run_guard_agg {op : BinOp} (w : World) (hg : P.eqGuardType P.depth T = false) : (eqGuard op T x y (.agg xs) (.agg ys)).run P w = .ok () w := by
  unfold eqGuard
  cases op <;> first
    | rfl
    | (show (program >>= fun p => if !(p.eqGuardType p.depth T) then pure () else _ : Sem Unit).run P w = _
       rw [run_bind P _ _ w w P rfl, hg]; rfl)
theorem Zf7 (hx : ev ρ x = .agg xs) (hy : ev ρ y = .agg ys) (hk : P.keyTypeAt m T = true) (hm : m ≤ 10000) (hg : P.eqGuardType P.depth T = false) (fx : (Value.agg xs).formed P T = true) (fy : (Value.agg ys).formed P T = true)
    (ha : P.keyLits D T xs.toList = some la) (hb : P.keyLits D' T ys.toList = some lb) (hp : p ↔ la = lb) : PV P (.binOp .neq T x y T') ρ (.bool (decide ¬p)) := by
  intro oo w ho; unfold execOp; rw [ho]
  refine op_run_value ?_
  rw [hx, hy, run_bind P _ _ w w () (run_guard_agg w hg)]
  show (Op.equal T (.agg xs) (.agg ys) >>= fun b => pure (Value.bool !b) : Sem Value).run P w = _
  rw [run_bind P _ _ w w _ (run_eq_agg w hk hm fx fy ha hb hp)]
  show (Result.ok (Value.bool !(decide p)) w : Result Value) = _
  simp
end
theorem SlW.cellsAt {α : Type} {enc : α → List Value} {w : World} {b o sz k : Nat} {l : List α} (he : ∀ a, (enc a).length = sz) (hsz : 0 < sz) (h : SlW w sz (.slice (some ⟨b, o, none⟩) l.length k) l.length (l.flatMap enc)) {i : Nat} (hi : i < l.length) :
    ∃ c E fr, w.heap[b]? = some (.cells c E fr) ∧ o + i * sz + sz ≤ c.size ∧ c.extract (o + i * sz) (o + i * sz + sz) = (enc l[i]).toArray := by
  obtain ⟨xb, xo, xk, xc, xE, xfr, hxv, hxb, hxs, hxe⟩ := h.elemN he hsz (by omega)
  simp only [Value.slice.injEq, Option.some.injEq, Addr.mk.injEq] at hxv
  obtain ⟨⟨rfl, rfl, _⟩, _, rfl⟩ := hxv
  exact ⟨xc, xE, xfr, hxb, hxe i hi⟩
theorem lits_int {P : Program} {e : TypeId} {k : IntKind} {d : Nat} {n : Int} (he : P.underlying e = some (.int k)) (hw : (Lit.int k n).wf = true) : P.keyLits (d + 1) e [.int k n] = some [.int k n] := by
  unfold Program.keyLits; simp [he, hw]
theorem lits_arr {P : Program} {t e : TypeId} {k : IntKind} {d n : Nat} (ht : P.underlying t = some (.array n e)) (he : P.underlying e = some (.int k)) (hc : P.cellsOf e = 1) (hct : P.cellsOf t = n) (l : List Int) (hl : l.length = n) (hw : ∀ x ∈ l, (Lit.int k x).wf = true) :
    P.keyLits (d + 2) t (l.map (.int k)) = some (l.map (.int k)) := by
  unfold Program.keyLits
  rw [ht]
  simp only [List.length_map]
  rw [if_pos (by omega), hc]
  have h1 : ∀ (j : Nat) (r : List Int), l.drop j = r → ((List.range' j r.length).mapM fun i => P.keyLits (d + 1) e (((l.map (Value.int k)).drop (i * 1)).take 1)) = some (r.map fun x => [Lit.int k x]) := by
    intro j r
    induction r generalizing j with
    | nil => intro _; rfl
    | cons a r ih =>
      intro hr
      rw [List.length_cons, List.range'_succ, List.mapM_cons]
      have h2 : ((l.map (Value.int k)).drop (j * 1)).take 1 = [.int k a] := by rw [Nat.mul_one, ← List.map_drop, hr]; rfl
      have ha : a ∈ l := List.mem_of_mem_drop (by rw [hr]; simp : a ∈ l.drop j)
      have hd : l.drop (j + 1) = r := by rw [← List.drop_drop, hr]; rfl
      rw [h2, lits_int he (hw a ha), ih (j + 1) hd]
      rfl
  have h3 := h1 0 l rfl
  rw [← List.range_eq_range', hl] at h3
  rw [h3]
  simp only [Option.map_some, Option.some.injEq]
  clear h3 h1 hl hw
  induction l <;> simp_all
end Go.Sl
namespace Go.Sl
open Go
def Imp (M N : List Asrt) : Prop := ∀ h, SatF M h → SatF N h
theorem Imp.refl (M : List Asrt) : Imp M M := fun _ h => h
theorem Imp.trans {A B C : List Asrt} (h : Imp A B) (h' : Imp B C) : Imp A C := fun f x => h' f (h f x)
theorem Imp.arr {M N : List Asrt} (h : Arr M N) : Imp M N := fun _ hs => h.sat hs
theorem Imp.has {M N : List Asrt} {A : Asrt} (h : Has M A N) : Imp M (A :: N) := fun _ hs => h.front hs
theorem Imp.unhas {M N : List Asrt} {A : Asrt} (h : Has M A N) : Imp (A :: N) M := fun _ hs => h.back hs
theorem Imp.cons {M N : List Asrt} {A : Asrt} (h : Imp M N) : Imp (A :: M) (A :: N) := fun _ hs => hs.imp h
theorem Imp.swap {M : List Asrt} {A B : Asrt} : Imp (A :: B :: M) (B :: A :: M) := fun _ hs => hs.swap
theorem Imp.head {M : List Asrt} {A B : Asrt} (h : ∀ f, A.on f → B.on f) : Imp (A :: M) (B :: M) := fun _ hs => hs.head h
theorem Imp.tail {M : List Asrt} {A : Asrt} : Imp (A :: M) M := fun _ hs => hs.tail
theorem Imp.app {L M : List Asrt} : Imp (L ++ M) (all L :: M) := fun _ hs => hs.app
theorem Imp.unapp {L M : List Asrt} : Imp (all L :: M) (L ++ M) := fun _ hs => hs.unapp
theorem Imp.left {L M N : List Asrt} (h : Imp M N) : Imp (L ++ M) (L ++ N) := by
  induction L with
  | nil => exact h
  | cons A L ih => exact ih.cons
theorem Imp.comm {L M : List Asrt} : Imp (L ++ M) (M ++ L) := by
  have h1 : Imp (L ++ M) (all L :: M) := Imp.app
  have h2 : Imp (all L :: M) (all L :: all M :: []) := Imp.cons (by have := Imp.app (L := M) (M := []); rwa [List.append_nil] at this)
  have h3 : Imp (all M :: all L :: []) (M ++ [all L]) := Imp.unapp
  have h4 : Imp (M ++ [all L]) (M ++ L) := Imp.left (by have := Imp.unapp (L := L) (M := []); rwa [List.append_nil] at this)
  exact h1.trans (h2.trans (Imp.swap.trans (h3.trans h4)))
theorem St.ent {w0 w : World} {M N : List Asrt} (H : St w0 w M) (h : Imp M N) : St w0 w N := H.imp h
theorem St.enx {w0 w : World} {F : Asrt} {M N : List Asrt} (H : St w0 w (F :: M)) (h : Imp M N) : St w0 w (F :: N) := H.imp h.cons
inductive Take : List Asrt → List Asrt → List Asrt → Prop
  | nil {L} : Take L [] L
  | cons {L L' A M R} : Has L A L' → Take L' M R → Take L (A :: M) R
  | all {L} : Take L L []
  | skip {L A M R} : Take L M R → Take (A :: L) M (A :: R)
theorem Take.ent {L M R : List Asrt} (h : Take L M R) : Imp L (M ++ R) := by
  induction h with
  | nil => exact Imp.refl _
  | cons hh _ ih => exact (Imp.has hh).trans ih.cons
  | all => rw [List.append_nil]; exact Imp.refl _
  | @skip L A M R _ ih =>
    refine ih.cons.trans ?_
    have h1 : Imp (A :: (M ++ R)) ((M ++ R) ++ [A]) := Imp.comm (L := [A]) (M := M ++ R)
    rw [List.append_assoc] at h1
    exact h1.trans (Imp.left (Imp.comm (L := R) (M := [A])))
inductive App : List Asrt → List Asrt → List Asrt → Prop
  | nil {R} : App [] R R
  | cons {A M R N} : App M R N → App (A :: M) R (A :: N)
  | flip {M R N} : App R M N → App M R N
  | any {M R} : App M R (M ++ R)
theorem App.imp {M R N : List Asrt} (h : App M R N) : Imp (M ++ R) N := by
  induction h with
  | nil => exact Imp.refl _
  | cons _ ih => exact ih.cons
  | flip _ ih => exact Imp.comm.trans ih
  | any => exact Imp.refl _

abbrev XK := Env → List Asrt → Prop
abbrev XQ := Exit → Env → List Asrt → Prop
def xOps (P : Program) (w0 : World) (ops : Array Oper) (l : List Oper) (ρ : Env) (M : List Asrt) (K : XK) : Prop :=
  ∀ F w, St w0 w (F :: M) → denOps P ops l ρ w (fun ρ' w' => ∃ M', St w0 w' (F :: M') ∧ K ρ' M')
def xC (P : Program) (w0 : World) (c : Code) (ρ : Env) (M : List Asrt) (Q : XQ) : Prop :=
  ∀ F w, St w0 w (F :: M) → den P c ρ w (fun e ρ' w' => ∃ M', St w0 w' (F :: M') ∧ Q e ρ' M')
def Con (P : Program) (F : FuncId) (args : List Value) (M : List Asrt) (Φ : Value → List Asrt → Prop) : Prop :=
  ∀ w0 Fr w, St w0 w (Fr :: M) → Calls P F args.toArray w (Ret fun v w' => ∃ M', St w0 w' (Fr :: M') ∧ Φ v M')

def xthen (k : XK) (Q : XQ) : XQ := fun e ρ M => match e with|.normal => k ρ M|e => Q e ρ M
def xblk (id : Nat) (Q : XQ) : XQ := fun e ρ M => match e with|.exit id' => if id' = id then Q .normal ρ M else Q (.exit id') ρ M|e => Q e ρ M
def xcut {S : Type} (I : S → Prop) (Mf : S → List Asrt) (U : S → List (Nat × Value)) (Q : XQ) : XQ := fun e ρ M => match e with|.normal => ∃ s, I s ∧ Imp M (Mf s) ∧ Fits ρ (U s)|e => Q e ρ M
def xloop {S : Type} (I : S → Prop) (Mf : S → List Asrt) (U : S → List (Nat × Value)) (μ : S → Nat) (m : Nat) (Q : XQ) : XQ := fun e ρ M => match e with|.normal => ∃ s, μ s < m ∧ I s ∧ Imp M (Mf s) ∧ Fits ρ (U s)|e => Q e ρ M

section code
variable {P : Program} {w0 : World} {x y c : Code} {ρ : Env} {M N : List Asrt} {Q : XQ} {k : XK} {id : Nat}
theorem zA (h : xC P w0 x ρ M (xthen (fun ρ' M' => xC P w0 y ρ' M' Q) Q)) : xC P w0 (.seq x y) ρ M Q := by
  intro F w H
  show den P x ρ w _
  refine Zab x ρ w ?_ (h F w H)
  rintro e ρ' w' ⟨M', H', hq⟩
  cases e <;> first
    | exact hq F w' H'
    | exact ⟨M', H', hq⟩
theorem Zgb {l : List Oper} (h : xOps P w0 l.toArray l ρ M (fun ρ' M' => Q .normal ρ' M')) : xC P w0 (.region id l.toArray false) ρ M Q := fun F w H => h F w H
theorem zB (h : Q .normal ρ M) : xC P w0 .skip ρ M Q := fun F w H => ⟨M, H, h⟩
theorem zE (h : Q (.exit id) ρ M) : xC P w0 (.exit id) ρ M Q := fun F w H => ⟨M, H, h⟩
theorem zD (h : Q .normal ρ M) : xC P w0 (.label id) ρ M Q := fun F w H => ⟨M, H, h⟩
theorem zF (h : Q .ret ρ M) : xC P w0 .ret ρ M Q := fun F w H => ⟨M, H, h⟩
theorem zC (h : xC P w0 c ρ M (xblk id Q)) : xC P w0 (.block id c) ρ M Q := by
  intro F w H
  refine Zaj (Zab c ρ w ?_ (h F w H))
  rintro e ρ' w' ⟨M', H', hq⟩
  cases e with
  | exit id' =>
    simp only [xblk] at hq
    show if id' = id then _ else _
    by_cases e : id' = id
    · rw [if_pos e]; rw [if_pos e] at hq; exact ⟨M', H', hq⟩
    · rw [if_neg e]; rw [if_neg e] at hq; exact ⟨M', H', hq⟩
  | _ => exact ⟨M', H', hq⟩
theorem Zge {cc : Operand} (ht : ev ρ cc = .bool true) (h : xC P w0 x ρ M Q) : xC P w0 (.cond cc x y) ρ M Q := fun F w H => Zao ht (h F w H)
theorem Zgf {cc : Operand} (ht : ev ρ cc = .bool false) (h : xC P w0 y ρ M Q) : xC P w0 (.cond cc x y) ρ M Q := fun F w H => Zap ht (h F w H)
theorem Zgg {cc : Operand} {p : Prop} [Decidable p] (ht : ev ρ cc = .bool (decide p)) (h1 : p → xC P w0 x ρ M Q) (h2 : ¬ p → xC P w0 y ρ M Q) : xC P w0 (.cond cc x y) ρ M Q :=
  fun F w H => Zaq ht (fun hp => h1 hp F w H) (fun hp => h2 hp F w H)
theorem Zgh {cc : Operand} {t : Bool} (ht : ev ρ cc = .bool t) (h1 : t = true → xC P w0 x ρ M Q) (h2 : t = false → xC P w0 y ρ M Q) : xC P w0 (.cond cc x y) ρ M Q :=
  fun F w H => Zan ht (fun hp => h1 hp F w H) (fun hp => h2 hp F w H)
theorem zG (h : k ρ M) : xthen k Q .normal ρ M := h
theorem zH (h : Q (.exit id) ρ M) : xthen k Q (.exit id) ρ M := h
theorem zI (h : Q .ret ρ M) : xthen k Q .ret ρ M := h
theorem zJ (h : Q .normal ρ M) : xblk id Q .normal ρ M := h
theorem zL (h : Q .ret ρ M) : xblk id Q .ret ρ M := h
theorem zK (h : Q .normal ρ M) : xblk id Q (.exit id) ρ M := by simp only [xblk, if_true]; exact h
theorem zM {id' : Nat} (hne : Nat.beq id' id = false) (h : Q (.exit id') ρ M) : xblk id Q (.exit id') ρ M := by
  simp only [xblk]
  rw [if_neg (fun e => by rw [e, beq_self] at hne; cases hne)]; exact h
section cuts
variable {S : Type} {I : S → Prop} {Mf : S → List Asrt} {U : S → List (Nat × Value)} {μ : S → Nat} {m : Nat}
theorem Zgk (s : S) (hI : I s) (hM : Imp M (Mf s)) (hf : Fits ρ (U s)) : xcut I Mf U Q .normal ρ M := ⟨s, hI, hM, hf⟩
theorem zP (h : Q (.exit id) ρ M) : xloop I Mf U μ m Q (.exit id) ρ M := h
theorem zQ (h : Q .ret ρ M) : xloop I Mf U μ m Q .ret ρ M := h
theorem Zgl (s : S) (hm : μ s < m) (hI : I s) (hM : Imp M (Mf s)) (hf : Fits ρ (U s)) : xloop I Mf U μ m Q .normal ρ M := ⟨s, hm, hI, hM, hf⟩
end cuts
theorem Zgn {S : Type} {k : XK} (mods : List (Nat × Nat)) (hm : cIn mods x = true) (I : S → Prop) (Mf : S → List Asrt) (U : S → List (Nat × Value))
    (h : xC P w0 x ρ M (xcut I Mf U Q)) (kk : ∀ s u, I s → k (over (U s) (patch mods u ρ)) (Mf s)) : xC P w0 x ρ M (xthen k Q) := by
  intro F w H
  refine Zab x ρ w ?_ (Zac (mods := mods) x ρ w hm (h F w H))
  rintro e ρ' w' ⟨ha, M', H', hq⟩
  cases e <;> first
    | (obtain ⟨s, hI, hM, hf⟩ := hq
       have hk := kk s ρ' hI
       rw [patch_agree ha, over_fits hf] at hk
       exact ⟨Mf s, H'.enx hM, hk⟩)
    | exact ⟨M', H', hq⟩
theorem Zgo {S : Type} (mods : List (Nat × Nat)) (hm : cIn mods c = true) (I : S → Prop) (Mf : S → List Asrt) (U : S → List (Nat × Value)) (μ : S → Nat) (s0 : S) (h0 : I s0) (hM : Imp M (Mf s0)) (hf : Fits ρ (U s0))
    (round : ∀ s u, I s → xC P w0 c (over (U s) (patch mods u ρ)) (Mf s) (xloop I Mf U μ (μ s) Q)) : xC P w0 (.loop c) ρ M Q := by
  intro F w H
  refine Zad mods hm (fun s w' => I s ∧ St w0 w' (F :: Mf s)) U μ s0 ⟨h0, H.enx hM⟩ hf ?_
  rintro s w' u ⟨hI, H'⟩
  refine Zab _ _ _ ?_ (round s u hI F w' H')
  rintro e ρ' w'' ⟨M', H'', hq⟩
  cases e <;> first
    | exact (let ⟨s', hlt, hI', hM', hf'⟩ := hq; ⟨s', hlt, ⟨hI', H''.enx hM'⟩, hf'⟩)
    | exact ⟨M', H'', hq⟩
def xng (Q : XQ) : XQ := fun e ρ M => match e with|.goto _ => False|e => Q e ρ M
theorem Zng (h : Q .normal ρ M) : xng Q .normal ρ M := h
theorem Zni (h : Q .ret ρ M) : xng Q .ret ρ M := h
section goes
variable {S : Type} {I : S → Prop} {Mf : S → List Asrt} {U : S → List (Nat × Value)} {l : Nat}
end goes
-- pieces
theorem Zgp (h : Imp M N) (k : xC P w0 c ρ N Q) : xC P w0 c ρ M Q := fun F w H => k F w (H.enx h)
theorem Zgq {p : Prop} (k : p → xC P w0 c ρ M Q) : xC P w0 c ρ (pur p :: M) Q := fun F w H => k (H.swap.pur_get) F w (H.enx Imp.tail)
theorem Zgr {α : Type} {A : α → Asrt} (k : ∀ a, xC P w0 c ρ (A a :: M) Q) : xC P w0 c ρ (ex A :: M) Q := by
  intro F w H
  obtain ⟨a, H⟩ := H.swap.ex_get
  exact k a F w H.swap
theorem Zgs {L : List Asrt} (k : xC P w0 c ρ (L ++ M) Q) : xC P w0 c ρ (all L :: M) Q := fun F w H => k F w (H.enx Imp.unapp)
theorem Zgt {p : Prop} (hp : ∀ F w, St w0 w (F :: M) → p) (k : p → xC P w0 c ρ M Q) : xC P w0 c ρ M Q := fun F w H => k (hp F w H) F w H
theorem Zgu {α : Type} {A : α → List Asrt} (hp : ∀ F w, St w0 w (F :: M) → ∃ a, St w0 w (F :: A a)) (k : ∀ a, xC P w0 c ρ (A a) Q) : xC P w0 c ρ M Q := by
  intro F w H
  obtain ⟨a, H⟩ := hp F w H
  exact k a F w H
end code

section ops
variable {P : Program} {w0 : World} {ops : Array Oper} {l : List Oper} {ρ : Env} {M N : List Asrt} {K : XK}
theorem Zgw (h : Imp M N) (k : xOps P w0 ops l ρ N K) : xOps P w0 ops l ρ M K := fun F w H => k F w (H.enx h)
theorem Zg0 {p : Prop} (hp : ∀ F w, St w0 w (F :: M) → p) (k : p → xOps P w0 ops l ρ M K) : xOps P w0 ops l ρ M K := fun F w H => k (hp F w H) F w H
theorem Zg2 {R N : List Asrt} (h : App M R N) (k : xOps P w0 ops l ρ N K) : xOps P w0 ops l ρ (M ++ R) K := Zgw h.imp k
theorem Zg3 (h : K ρ M) : xOps P w0 ops [] ρ M K := fun F w H => ⟨M, H, h⟩
end ops

-- calls and results
theorem fn_den {P : Program} {f : FuncId} {fn : Func} {c : Code} {rs : List ResultVar} {n : Nat} {args : List Value} {M : List Asrt} {Φ : Value → List Asrt → Prop}
    (hf : P.funcs[f]? = some fn) (hb : fn.body = some c) (hr : fn.results.toList = rs) (hn : fn.ntmps = n) (hm : P.follows .mixedOrders = true) (hfit : (Nat.ble args.length n && cfits n c) = true)
    (h : ∀ w0, xC P w0 c (nth args) M (fun e ρ M' => match e with|.normal|.ret => ∃ vs N, (∀ F w, St w0 w (F :: M') → resE P ρ w rs vs) ∧ Φ (packV vs) N ∧ Imp M' N|_ => False)) : Con P f args M Φ := by
  intro w0 Fr w H
  refine calls_den args hf hb hr hn hm hfit (Zab c _ _ ?_ (h w0 Fr w H))
  rintro e ρ' w' ⟨M', H', hq⟩
  cases e <;> first
    | (obtain ⟨vs, N, hvs, hΦ, hN⟩ := hq
       exact ⟨vs, hvs Fr w' H', N, H'.enx hN, hΦ⟩)
    | exact hq.elim
def retX (P : Program) (w0 : World) (rs : List ResultVar) (Φ : Value → List Asrt → Prop) : XQ := fun e ρ M' => match e with|.normal|.ret => ∃ vs N, (∀ F w, St w0 w (F :: M') → resE P ρ w rs vs) ∧ Φ (packV vs) N ∧ Imp M' N|_ => False
theorem fn_x {P : Program} {f : FuncId} {fn : Func} {c : Code} {rs : List ResultVar} {n : Nat} {args : List Value} {M : List Asrt} {Φ : Value → List Asrt → Prop}
    (hf : P.funcs[f]? = some fn) (hb : fn.body = some c) (hr : fn.results.toList = rs) (hn : fn.ntmps = n) (hm : P.follows .mixedOrders = true) (hfit : (Nat.ble args.length n && cfits n c) = true)
    (h : ∀ w0, xC P w0 c (nth args) M (retX P w0 rs Φ)) : Con P f args M Φ := fn_den hf hb hr hn hm hfit h
section res
variable {P : Program} {w0 : World} {ρ : Env} {M N : List Asrt} {Φ : Value → List Asrt → Prop}
def resX (P : Program) (w0 : World) (ρ : Env) (M : List Asrt) (rs : List ResultVar) (vs : List Value) : Prop := ∀ F w, St w0 w (F :: M) → resE P ρ w rs vs
theorem Zg7 : resX P w0 ρ M [] [] := fun _ _ _ => rfl
theorem Zg8 {t : Nat} {v : Value} {rs : List ResultVar} {vs : List Value} (hv : ρ t = v) (h : resX P w0 ρ M rs vs) : resX P w0 ρ M (.tmp t :: rs) (v :: vs) := by
  intro F w H; subst hv; exact ⟨vs, rfl, h F w H⟩
theorem Zg9 {t : Nat} {k : IntKind} {n : Int} {rs : List ResultVar} {vs : List Value} (hv : ρ t = .int k n) (h : resX P w0 ρ M rs vs) : resX P w0 ρ M (.tmp t :: rs) (.int k n :: vs) := Zg8 hv h
theorem Zha {t : Nat} {b : Bool} {rs : List ResultVar} {vs : List Value} (hv : ρ t = .bool b) (h : resX P w0 ρ M rs vs) : resX P w0 ρ M (.tmp t :: rs) (.bool b :: vs) := Zg8 hv h
theorem Zhb {t : Nat} {a : Option Addr} {rs : List ResultVar} {vs : List Value} (hv : ρ t = .pointer a) (h : resX P w0 ρ M rs vs) : resX P w0 ρ M (.tmp t :: rs) (.pointer a :: vs) := Zg8 hv h
theorem Zhc {t : Nat} {a : Option Addr} {l c : Nat} {rs : List ResultVar} {vs : List Value} (hv : ρ t = .slice a l c) (h : resX P w0 ρ M rs vs) : resX P w0 ρ M (.tmp t :: rs) (.slice a l c :: vs) := Zg8 hv h
theorem Zhe {T n by' b E t : Nat} {z : Value} {cs : Array Value} {M' : List Asrt} {rs : List ResultVar} {vs : List Value} [hs : TyAggr P T] [hi : TyI P T n by' z] (hv : ρ t = .pointer (some ⟨b, 0, none⟩)) (hm : Has M (cl b cs E) M') (hn : cs.size = n)
    (h : resX P w0 ρ M rs vs) : resX P w0 ρ M (.cell t T :: rs) (.agg cs :: vs) := by
  intro F w H
  refine ⟨⟨b, 0, none⟩, .agg cs, vs, hv, ?_, rfl, h F w H⟩
  have := run_loadVar (P := P) (T := T) (n := n) (o := 0) ((H.pick (.there hm)).cl_get) (by omega)
  rw [this, Nat.zero_add, ← hn]
  simp
theorem Zhf {T b E t : Nat} {v : Value} {M' : List Asrt} {rs : List ResultVar} {vs : List Value} [hs : TyScal P T] (hv : ρ t = .pointer (some ⟨b, 0, none⟩)) (hm : Has M (cl b #[v] E) M')
    (h : resX P w0 ρ M rs vs) : resX P w0 ρ M (.cell t T :: rs) (v :: vs) := by
  intro F w H
  refine ⟨⟨b, 0, none⟩, v, vs, hv, ?_, rfl, h F w H⟩
  unfold loadVar
  rw [run_bind P _ _ w w _ (run_isAgg hs.h)]
  exact run_load1 ((H.pick (.there hm)).cl_get) rfl
theorem rx0 (h : ∃ N, Φ (.tuple #[]) N ∧ Imp M N) : retX P w0 [] Φ .ret ρ M := by obtain ⟨N, h, hM⟩ := h; exact ⟨[], N, fun _ _ _ => rfl, h, hM⟩
theorem rx0n (h : ∃ N, Φ (.tuple #[]) N ∧ Imp M N) : retX P w0 [] Φ .normal ρ M := by obtain ⟨N, h, hM⟩ := h; exact ⟨[], N, fun _ _ _ => rfl, h, hM⟩
theorem rx1 {r : ResultVar} {v : Value} (hr : resX P w0 ρ M [r] [v]) (h : ∃ N, Φ v N ∧ Imp M N) : retX P w0 [r] Φ .ret ρ M := by obtain ⟨N, h, hM⟩ := h; exact ⟨[v], N, hr, h, hM⟩
theorem rx2 {r r' : ResultVar} {v v' : Value} (hr : resX P w0 ρ M [r, r'] [v, v']) (h : ∃ N, Φ (.tuple #[v, v']) N ∧ Imp M N) : retX P w0 [r, r'] Φ .ret ρ M := by obtain ⟨N, h, hM⟩ := h; exact ⟨[v, v'], N, hr, h, hM⟩
theorem rx3 {r r' r2 : ResultVar} {v v' v2 : Value} (hr : resX P w0 ρ M [r, r', r2] [v, v', v2]) (h : ∃ N, Φ (.tuple #[v, v', v2]) N ∧ Imp M N) : retX P w0 [r, r', r2] Φ .ret ρ M := by obtain ⟨N, h, hM⟩ := h; exact ⟨[v, v', v2], N, hr, h, hM⟩
end res
theorem Con.mono {P : Program} {F : FuncId} {args : List Value} {M : List Asrt} {Φ Ψ : Value → List Asrt → Prop} (h : Con P F args M Φ) (hi : ∀ v M', Φ v M' → ∃ N, Imp M' N ∧ Ψ v N) : Con P F args M Ψ := by
  intro w0 Fr w H
  refine (h w0 Fr w H).mono (Ret.mono ?_)
  rintro v w' ⟨M', H', hφ⟩
  obtain ⟨N, hN, hψ⟩ := hi v M' hφ
  exact ⟨N, H'.enx hN, hψ⟩
theorem Con.pre {P : Program} {F : FuncId} {args : List Value} {M N : List Asrt} {Φ : Value → List Asrt → Prop} (h : Con P F args N Φ) (hi : Imp M N) : Con P F args M Φ := fun w0 Fr w H => h w0 Fr w (H.enx hi)
theorem Con.pur {P : Program} {F : FuncId} {args : List Value} {M : List Asrt} {p : Prop} {Φ : Value → List Asrt → Prop} (h : p → Con P F args M Φ) : Con P F args (Sl.pur p :: M) Φ := fun w0 Fr w H => h (H.swap.pur_get) w0 Fr w (H.enx Imp.tail)
theorem Con.ex {P : Program} {F : FuncId} {args : List Value} {M : List Asrt} {α : Type} {A : α → Asrt} {Φ : Value → List Asrt → Prop} (h : ∀ a, Con P F args (A a :: M) Φ) : Con P F args (Sl.ex A :: M) Φ := by
  intro w0 Fr w H
  obtain ⟨a, H⟩ := H.swap.ex_get
  exact h a w0 Fr w H.swap
theorem Con.get {P : Program} {F : FuncId} {args : List Value} {M : List Asrt} {p : Prop} {Φ : Value → List Asrt → Prop} (hp : ∀ w0 w Fr, St w0 w (Fr :: M) → p) (h : p → Con P F args M Φ) : Con P F args M Φ := fun w0 Fr w H => h (hp _ _ _ H) w0 Fr w H
end Go.Sl
namespace Go.Sl
open Go
attribute [local irreducible] pt old
section
variable {P : Program} {w0 : World} {ops : Array Oper} {dst : Option Nat} {ty T E : TypeId} {pos : String} {after : Array Edge} {rest l : List Oper} {ρ : Env} {K : XK} {M M' M2 : List Asrt} {x y : Operand} {b o : Nat} {c c' : Array Value}
theorem Zhg {op : Op} {v : Value} (h : PV P op ρ v) (k : xOps P w0 ops rest (put ρ dst v) M K) : xOps P w0 ops (⟨dst, op, ty, pos, after, none⟩ :: rest) ρ M K :=
  fun F w H => Zcz h (k F w H)
theorem Zhh {op : Op} {j : Nat} {b : Bool} (hg : yl ops ρ j = some b) (h : xOps P w0 ops (⟨dst, op, ty, pos, after, none⟩ :: rest) ρ M K) : xOps P w0 ops (⟨dst, op, ty, pos, after, some (j, b)⟩ :: rest) ρ M K :=
  fun F w H => Zc0 hg (h F w H)
theorem Zhi {op : Op} {j : Nat} {b : Bool} (hg : yl ops ρ j = some (!b)) (h : xOps P w0 ops rest (put ρ dst undef) M K) : xOps P w0 ops (⟨dst, op, ty, pos, after, some (j, b)⟩ :: rest) ρ M K :=
  fun F w H => Zc1 hg (h F w H)
theorem Zhj {op : Op} {j : Nat} {b : Bool} (hg : yl ops ρ j = none) (h : xOps P w0 ops rest (put ρ dst undef) M K) : xOps P w0 ops (⟨dst, op, ty, pos, after, some (j, b)⟩ :: rest) ρ M K :=
  fun F w H => Zc2 hg (h F w H)
theorem Zhm (d : Nat) {t : Bool} (hd : ρ d = .bool t) (e : t = true) (h : xOps P w0 ops l (put ρ (some d) (.bool true)) M K) : xOps P w0 ops l ρ M K := by
  subst e; rwa [put_self hd] at h
theorem Zhn (d : Nat) {t : Bool} (hd : ρ d = .bool t) (e : t = false) (h : xOps P w0 ops l (put ρ (some d) (.bool false)) M K) : xOps P w0 ops l ρ M K := by
  subst e; rwa [put_self hd] at h
-- loads
theorem Zhp [hs : TyScal P T] {v : Value} (hx : ev ρ x = .pointer (some ⟨b, o, none⟩)) (hm : Has M (cl b c E) M') (hv : c[o]? = some v) (k : xOps P w0 ops rest (put ρ dst v) M K) :
    xOps P w0 ops (⟨dst, .load T x, ty, pos, after, none⟩ :: rest) ρ M K := fun F w H => Zc5 H hx (.there hm) hv (k F w H)
theorem Zhq [hs : TyAggr P T] {n by' : Nat} {z : Value} {cs : Array Value} [hi : TyI P T n by' z] (hx : ev ρ x = .pointer (some ⟨b, o, none⟩)) (hm : Has M (cl b c E) M') (hv : o + n ≤ c.size) (hc : c.extract o (o + n) = cs) (k : xOps P w0 ops rest (put ρ dst (.agg cs)) M K) :
    xOps P w0 ops (⟨dst, .load T x, ty, pos, after, none⟩ :: rest) ρ M K := fun F w H => Zc7 H hx (.there hm) hv (by rw [hc]; exact k F w H)
theorem Zhr [hs : TyAggr P T] {n by' : Nat} {z : Value} [hi : TyI P T n by' z] (hx : ev ρ x = .pointer (some ⟨b, 0, none⟩)) (hm : Has M (cl b c E) M') (hv : c.size = n) (k : xOps P w0 ops rest (put ρ dst (.agg c)) M K) :
    xOps P w0 ops (⟨dst, .load T x, ty, pos, after, none⟩ :: rest) ρ M K := fun F w H => Zdf H hx (.there hm) hv (k F w H)
-- stores
theorem Zhs {by' : Nat} {z v : Value} [hi : TyI P T 1 by' z] (hx : ev ρ x = .pointer (some ⟨b, o, none⟩)) (hy : ev ρ y = v) (h1 : oneC v = true) (hm : Repl M (cl b c E) (cl b c' E) M2) (hv : o < c.size) (hc : c.setIfInBounds o v = c')
    (k : xOps P w0 ops rest (put ρ dst undef) M2 K) : xOps P w0 ops (⟨dst, .store T x y, ty, pos, after, none⟩ :: rest) ρ M K := by
  subst hc; exact fun F w H => Zda H hx hy h1 (.there hm) hv (fun w' H' => k F w' H')
theorem Zht {by' : Nat} {z : Value} {kk : IntKind} {v : Int} [hi : TyI P T 1 by' z] (hx : ev ρ x = .pointer (some ⟨b, o, none⟩)) (hy : ev ρ y = .int kk v) (hm : Repl M (cl b c E) (cl b c' E) M2) (hv : o < c.size) (hc : c.setIfInBounds o (.int kk v) = c')
    (k : xOps P w0 ops rest (put ρ dst undef) M2 K) : xOps P w0 ops (⟨dst, .store T x y, ty, pos, after, none⟩ :: rest) ρ M K := Zhs hx hy rfl hm hv hc k
theorem Zhu {by' : Nat} {z : Value} {v : Bool} [hi : TyI P T 1 by' z] (hx : ev ρ x = .pointer (some ⟨b, o, none⟩)) (hy : ev ρ y = .bool v) (hm : Repl M (cl b c E) (cl b c' E) M2) (hv : o < c.size) (hc : c.setIfInBounds o (.bool v) = c')
    (k : xOps P w0 ops rest (put ρ dst undef) M2 K) : xOps P w0 ops (⟨dst, .store T x y, ty, pos, after, none⟩ :: rest) ρ M K := Zhs hx hy rfl hm hv hc k
theorem Zhv {by' : Nat} {z : Value} {v : Option Addr} [hi : TyI P T 1 by' z] (hx : ev ρ x = .pointer (some ⟨b, o, none⟩)) (hy : ev ρ y = .pointer v) (hm : Repl M (cl b c E) (cl b c' E) M2) (hv : o < c.size) (hc : c.setIfInBounds o (.pointer v) = c')
    (k : xOps P w0 ops rest (put ρ dst undef) M2 K) : xOps P w0 ops (⟨dst, .store T x y, ty, pos, after, none⟩ :: rest) ρ M K := Zhs hx hy rfl hm hv hc k
theorem Zhw {by' : Nat} {z : Value} {v : Option Addr} {l cc : Nat} [hi : TyI P T 1 by' z] (hx : ev ρ x = .pointer (some ⟨b, o, none⟩)) (hy : ev ρ y = .slice v l cc) (hm : Repl M (cl b c E) (cl b c' E) M2) (hv : o < c.size) (hc : c.setIfInBounds o (.slice v l cc) = c')
    (k : xOps P w0 ops rest (put ρ dst undef) M2 K) : xOps P w0 ops (⟨dst, .store T x y, ty, pos, after, none⟩ :: rest) ρ M K := Zhs hx hy rfl hm hv hc k
theorem Zhx {n by' : Nat} {z : Value} {vs : Array Value} [hi : TyI P T n by' z] (hx : ev ρ x = .pointer (some ⟨b, o, none⟩)) (hy : ev ρ y = .agg vs) (hm : Repl M (cl b c E) (cl b c' E) M2) (hn : vs.size = n) (h1 : vs.toList.all oneC = true) (hv : o + n ≤ c.size) (hc : wr c o vs.toList = c')
    (k : xOps P w0 ops rest (put ρ dst undef) M2 K) : xOps P w0 ops (⟨dst, .store T x y, ty, pos, after, none⟩ :: rest) ρ M K := by
  subst hc; exact fun F w H => Zdg H hx hy hn h1 (.there hm) hv (fun w' H' => k F w' H')
theorem Zhy {n by' : Nat} {z : Value} {vs : Array Value} [hi : TyI P T n by' z] (hx : ev ρ x = .pointer (some ⟨b, 0, none⟩)) (hy : ev ρ y = .agg vs) (hm : Repl M (cl b c E) (cl b vs E) M2) (hn : vs.size = n) (h1 : vs.toList.all oneC = true) (hv : c.size = n)
    (k : xOps P w0 ops rest (put ρ dst undef) M2 K) : xOps P w0 ops (⟨dst, .store T x y, ty, pos, after, none⟩ :: rest) ρ M K :=
  fun F w H => Zdh H hx hy hn h1 (.there hm) hv (fun w' H' => k F w' H')
-- new blocks
theorem Zhz {n by' : Nat} {z : Value} {cs : Array Value} [hi : TyI P T n by' z] (hz : z.cells = cs) (k : ∀ b, xOps P w0 ops rest (put ρ dst (.pointer (some ⟨b, 0, none⟩))) (cl b cs T :: M) K) :
    xOps P w0 ops (⟨dst, .alloc T, ty, pos, after, none⟩ :: rest) ρ M K := by
  subst hz; exact fun F w H => Zdi H (fun w' b H' => k b F w' H'.swap)
theorem Zh0 {v : Value} {cs : Array Value} (hx : ev ρ x = v) (hz : v.cells = cs) (k : ∀ b, xOps P w0 ops rest (put ρ dst (.pointer (some ⟨b, 0, none⟩))) (cl b cs T :: M) K) :
    xOps P w0 ops (⟨dst, .box T x, ty, pos, after, none⟩ :: rest) ρ M K := by
  subst hz; exact fun F w H => Zdj H hx (fun w' b H' => k b F w' H'.swap)
theorem Zh1 {kk : IntKind} {n : Int} (hx : ev ρ x = .int kk n) (k : ∀ b, xOps P w0 ops rest (put ρ dst (.pointer (some ⟨b, 0, none⟩))) (cl b #[.int kk n] T :: M) K) :
    xOps P w0 ops (⟨dst, .box T x, ty, pos, after, none⟩ :: rest) ρ M K := Zh0 hx rfl k
theorem Zh3 {n : Option Addr} (hx : ev ρ x = .pointer n) (k : ∀ b, xOps P w0 ops rest (put ρ dst (.pointer (some ⟨b, 0, none⟩))) (cl b #[.pointer n] T :: M) K) :
    xOps P w0 ops (⟨dst, .box T x, ty, pos, after, none⟩ :: rest) ρ M K := Zh0 hx rfl k
theorem Zh4 {n : Option Addr} {l cc : Nat} (hx : ev ρ x = .slice n l cc) (k : ∀ b, xOps P w0 ops rest (put ρ dst (.pointer (some ⟨b, 0, none⟩))) (cl b #[.slice n l cc] T :: M) K) :
    xOps P w0 ops (⟨dst, .box T x, ty, pos, after, none⟩ :: rest) ρ M K := Zh0 hx rfl k
theorem Zh5 {cs : Array Value} (hx : ev ρ x = .agg cs) (k : ∀ b, xOps P w0 ops rest (put ρ dst (.pointer (some ⟨b, 0, none⟩))) (cl b cs T :: M) K) :
    xOps P w0 ops (⟨dst, .box T x, ty, pos, after, none⟩ :: rest) ρ M K := Zh0 hx rfl k
theorem Zh6 {n by' : Nat} {z : Value} {len cap : Nat} [hs : TySlice P T E] [hi : TyI P E n by' z] (hl : ev ρ x = .int .i64 len) (hc : ev ρ y = .int .i64 cap) (hle : len ≤ cap) (hcap : cap ≤ 9223372036854775807) (hb : cap * by' ≤ 281474976710656) (h0 : 0 < n)
    (k : ∀ b, xOps P w0 ops rest (put ρ dst (.slice (some ⟨b, 0, none⟩) len cap)) (cl b (List.replicate cap z.cells.toList).flatten.toArray E :: M) K) :
    xOps P w0 ops (⟨dst, .makeSlice T x y, ty, pos, after, none⟩ :: rest) ρ M K := fun F w H => Zdk H hl hc hle hcap hb h0 (fun w' b H' => k b F w' H'.swap)
theorem Zh7 {n by' : Nat} {z : Value} {len : Nat} {ps : Array (Nat × Operand)} {cs : Array Value} [hs : TySlice P T E] [hi : TyI P E n by' z] (hlen : len * n ≤ 16777216) (h0 : 0 < n)
    (hf : Instr.fill (fun i => some (i * n, n)) (List.replicate len z.cells.toList).flatten.toArray (partsV ρ ps) = some cs)
    (k : ∀ b, xOps P w0 ops rest (put ρ dst (.slice (some ⟨b, 0, none⟩) len len)) (cl b cs E :: M) K) :
    xOps P w0 ops (⟨dst, .buildSlice T len ps, ty, pos, after, none⟩ :: rest) ρ M K := fun F w H => Zdl H hlen h0 hf (fun w' b H' => k b F w' H'.swap)
-- calls
theorem Zh8 {F : FuncId} {f : Operand} {ars : Array Operand} {ts : Array TypeId} {fi ca : Array Value} {vs : List Value} {M1 R : List Asrt} {Φ : Value → List Asrt → Prop} (hf : ev ρ f = .func (.func F) fi ca) (hb : callable P F = true)
    (hc : Con P F vs M1 Φ) (ha : argL ρ fi ars ca = vs) (hs : Take M M1 R) (k : ∀ v M', Φ v M' → xOps P w0 ops rest (put ρ dst v) (M' ++ R) K) :
    xOps P w0 ops (⟨dst, .call { callee := .value f, args := ars, argTypes := ts }, ty, pos, after, none⟩ :: rest) ρ M K := by
  intro F' w H
  have H1 : St w0 w (F' :: (M1 ++ R)) := H.enx hs.ent
  have H2 : St w0 w (all (F' :: R) :: M1) := by
    refine H1.ent (Imp.trans (Imp.cons Imp.app) (Imp.trans Imp.swap ?_))
    have h3 : Imp (all M1 :: (F' :: R)) ((F' :: R) ++ [all M1]) := Imp.comm (L := [all M1]) (M := F' :: R)
    refine h3.trans (Imp.app.trans (Imp.cons ?_))
    have := Imp.unapp (L := M1) (M := [])
    rwa [List.append_nil] at this
  refine Zdp hf hb (hc w0 _ w H2) ha ?_
  rintro v w' ⟨M', H', hφ⟩
  exact k v M' hφ F' w' (H'.ent (Imp.unapp.trans (Imp.cons Imp.comm)))
def extv (P : Program) (F : FuncId) (args : List Value) (v : Value) : Prop := ∀ w, (callFunc F args.toArray).run P w = .ok (.value v) w
theorem Zh9 {F : FuncId} {f : Operand} {ars : Array Operand} {ts : Array TypeId} {fi ca : Array Value} {vs : List Value} {v : Value} (hf : ev ρ f = .func (.func F) fi ca) (h : extv P F vs v) (ha : argL ρ fi ars ca = vs) :
    PV P (.call { callee := .value f, args := ars, argTypes := ts }) ρ v := by
  intro oo w ho
  unfold execOp
  subst ha
  simp only [ho, resolve, hf, Deferred.ofValue, pure_bind, invoke]
  have : fi ++ Array.map (ev ρ) ars ++ ca = (argL ρ fi ars ca).toArray := by
    apply Array.ext'
    simp [argL]
  rw [this]
  exact h w
-- slices
def Rd (M : List Asrt) (size : Nat) (v : Value) (n : Nat) (xs : List Value) : Prop := ∀ w0 F w, St w0 w (F :: M) → SlW w size v n xs
theorem Rd.own {size n : Nat} {v : Value} {xs : List Value} (hm : Has M (own E size v n xs) M') : Rd M size v n xs := fun _ _ _ H => (H.pick (.there hm)).own_sl
theorem Rd.old {W : World} {size n : Nat} {v : Value} {xs : List Value} (hm : Has M (old W) M') (h : SlW W size v n xs) : Rd M size v n xs := fun _ _ _ H => (H.pick (.there hm)).old_sl h
theorem Rd.cl {size n k : Nat} {xs : List Value} (hm : Has M (cl b c E) M') (hx : xs.length = n * size) (hle : o + n * size ≤ c.size) (h : (c.extract o (o + n * size)).toList = xs) : Rd M size (.slice (some ⟨b, o, none⟩) n k) n xs :=
  fun _ _ _ H => ⟨hx, .inr ⟨b, o, k, c, E, (0, 0), rfl, (H.pick (.there hm)).cl_get, hle, h⟩⟩
theorem Rd.nil {size k : Nat} {a : Option Addr} : Rd M size (.slice a 0 k) 0 [] := fun _ _ _ H => ⟨by simp, .inl ⟨a, k, rfl, rfl⟩⟩
theorem Rd.imp {size n : Nat} {v : Value} {xs : List Value} (h : Rd M size v n xs) (hi : Imp M' M) : Rd M' size v n xs := fun _ _ _ H => h _ _ _ (H.enx hi)
theorem Rd.someAt {w : World} {F : Asrt} {size n k : Nat} {a : Option Addr} {xs : List Value} (h : Rd M size (.slice a n k) n xs) (hn : 0 < n) (H : St w0 w (F :: M)) : ∃ b o, a = some ⟨b, o, none⟩ := (h _ _ _ H).isSome hn
theorem Rd.len {w : World} {F : Asrt} {size n : Nat} {v : Value} {xs : List Value} (h : Rd M size v n xs) (H : St w0 w (F :: M)) : ∃ a k, v = .slice a n k := SlW.len (h _ _ _ H)
theorem Zia {size by' n m T' E' : Nat} {z v sv : Value} {xs news : List Value} [hs : TySlice P T E] [hi : TyI P E size by' z] [ht : TySlice P T' E']
    (hx : ev ρ x = v) (hy : ev ρ y = sv) (hm : Has M (own E size v n xs) M') (hsl : Rd M size sv m news)
    (h1 : news.all oneC = true) (hby : by' ≠ 0) (hb : (n + m) * by' ≤ 140737488355328)
    (k : ∀ a' c', xOps P w0 ops rest (put ρ dst (.slice a' (n + m) c')) (own E size (.slice a' (n + m) c') (n + m) (xs ++ news) :: M') K) :
    xOps P w0 ops (⟨dst, .call { callee := .builtin .append, args := #[x, y], argTypes := #[T, T'] }, ty, pos, after, none⟩ :: rest) ρ M K :=
  fun F w H => Zfu H hx hy (.there hm) (hsl _ _ _ H) h1 hby hb (fun a' c' w' H' => k a' c' F w' H'.swap)
theorem Zib {size by' n dl dc T' : Nat} {z sv : Value} {xs : List Value} [hs : TySlice P T E] [hi : TyI P E size by' z] {E0 : Nat}
    (hx : ev ρ x = .slice (some ⟨b, o, none⟩) dl dc) (hy : ev ρ y = sv) (hsl : Rd M size sv n xs) (hm : Repl M (cl b c E0) (cl b c' E0) M2) (hle : o + dl * size ≤ c.size) (h1 : xs.all oneC = true) (hc : wr c o (xs.take (min n dl * size)) = c')
    (k : xOps P w0 ops rest (put ρ dst (.int .i64 (min n dl : Nat))) M2 K) :
    xOps P w0 ops (⟨dst, .call { callee := .builtin .copy, args := #[x, y], argTypes := #[T, T'] }, ty, pos, after, none⟩ :: rest) ρ M K :=
  fun F w H => Zfv H hx hy (hsl _ _ _ H) (.there hm) hle h1 hc (fun w' H' => k F w' H')
end
section maps
variable {P : Program} {w0 : World} {ops : Array Oper} {dst : Option Nat} {ty : TypeId} {pos : String} {after : Array Edge} {rest : List Oper} {ρ : Env} {K : XK} {M M' M2 : List Asrt}
variable {x y z' : Operand} {T Kt E b : Nat} {α : Type} {A : Value → α → Asrt} {d : α} {f : Int → α} {k : Int} {v : Value}
theorem Zif {α : Type} (A : Value → α → Asrt) (d : α) (kk : ∀ b, xOps P w0 ops rest (put ρ dst (.map (some b))) (omap b A d (fun _ => d) :: M) K) :
    xOps P w0 ops (⟨dst, .makeMap T none, ty, pos, after, none⟩ :: rest) ρ M K := fun F w H => Zfl H A d (fun w' b H' => kk b F w' H'.swap)
theorem Zig {by' : Nat} [hm : TyMap P T Kt E] [hk : TyInt P Kt .i64] [hz : TyI P E 1 by' (.slice none 0 0)] (hx : ev ρ x = .map (some b)) (hy : ev ρ y = .int .i64 k) (hh : Has M (ohole b A d f k v) M') (kk : xOps P w0 ops rest (put ρ dst v) M K) :
    xOps P w0 ops (⟨dst, .lookup T x y false, ty, pos, after, none⟩ :: rest) ρ M K := fun F w H => Zfm H hx hy (.there hh) (kk F w H)
theorem Zih [hm : TyMap P T Kt E] [hk : TyInt P Kt .i64] {v' : Value} (hx : ev ρ x = .map (some b)) (hy : ev ρ y = .int .i64 k) (hz : ev ρ z' = v') (hh : Repl M (ohole b A d f k v) (oheld b A d f k v') M2) (kk : xOps P w0 ops rest (put ρ dst undef) M2 K) :
    xOps P w0 ops (⟨dst, .mapUpdate T x y z', ty, pos, after, none⟩ :: rest) ρ M K := fun F w H => Zfo H hx hy hz (.there hh) (fun w' H' => kk F w' H')
theorem Zii {K2 : Nat} [hm : TyMap P T Kt E] [hk : TyInt P Kt .i64] (hx : ev ρ x = .map (some b)) (hy : ev ρ y = .int .i64 k) (hh : Repl M (ohole b A d f k v) (omap b A d (upd f k d)) M2) (kk : xOps P w0 ops rest (put ρ dst (.tuple #[])) M2 K) :
    xOps P w0 ops (⟨dst, .call { callee := .builtin .delete, args := #[x, y], argTypes := #[T, K2] }, ty, pos, after, none⟩ :: rest) ρ M K := fun F w H => Zfp H hx hy (.there hh) (fun w' H' => kk F w' H')
end maps
end Go.Sl
namespace Go.Sl
open Go

inductive Ord
  | nil
  | q (i : Nat) (r : Ord)
  | r (i : Nat) (r : Ord)
  | e (i : Nat) (n : Bool) (r : Ord)
  | a (i : Nat) (r : Ord)
  | alt (x y : Ord)

section
variable {P : Program} {ops : Array Oper} {w0 : World} {F0 : Asrt} {SM : List Asrt} {KW : Env → World → Prop}
def SMw (w0 : World) (SM : List Asrt) (w : World) : Prop := ∃ F, St w0 w (F :: SM)
def CX (P : Program) (w0 : World) (F0 : Asrt) (ops : Array Oper) (SM : List Asrt) (KW : Env → World → Prop) : Ord → Env → List Asrt → Prop
  | .nil, ρ, M => ∀ w, St w0 w (F0 :: M) → KW ρ w
  | .q i r, ρ, M => ∃ o v, ops[i]? = some o ∧ YS P ops (fun _ => True) o ρ v ∧ CX P w0 F0 ops SM KW r (put ρ o.dst v) M
  | .r i r, ρ, M => ∃ o v, ops[i]? = some o ∧ YS P ops (SMw w0 SM) o ρ v ∧ CX P w0 F0 ops SM KW r (put ρ o.dst v) M
  | .e i n r, ρ, M => ∃ o, ops[i]? = some o ∧ ∀ F w, St w0 w (F :: M) → denI P ops o ρ w (fun ρ' w' => ∃ M', St w0 w' (F :: M') ∧ (n = true → Imp M' SM) ∧ CX P w0 F0 ops SM KW r ρ' M')
  | .a i r, ρ, M => ∃ d T ty pos z, ops[i]? = some ⟨some d, .alloc T, ty, pos, #[], none⟩ ∧ (∃ n by', TyI P T n by' z) ∧ ∀ b, CX P w0 F0 ops SM KW r (put ρ (some d) (.pointer (some ⟨b, 0, none⟩))) (cl b z.cells T :: M)
  | .alt x y, ρ, M => CX P w0 F0 ops SM KW x ρ M ∧ CX P w0 F0 ops SM KW y ρ M

theorem CX_mono : ∀ (r : Ord) {ρ : Env} {M N : List Asrt}, Imp N M → CX P w0 F0 ops SM KW r ρ M → CX P w0 F0 ops SM KW r ρ N
  | .nil, ρ, M, N, hi, h => fun w H => h w (H.enx hi)
  | .q i r, ρ, M, N, hi, h => by obtain ⟨o, v, h1, h2, h3⟩ := h; exact ⟨o, v, h1, h2, CX_mono r hi h3⟩
  | .r i r, ρ, M, N, hi, h => by obtain ⟨o, v, h1, h2, h3⟩ := h; exact ⟨o, v, h1, h2, CX_mono r hi h3⟩
  | .e i n r, ρ, M, N, hi, h => by obtain ⟨o, h1, h2⟩ := h; exact ⟨o, h1, fun F w H => h2 F w (H.enx hi)⟩
  | .a i r, ρ, M, N, hi, h => by obtain ⟨d, T, ty, pos, z, h1, h2, h3⟩ := h; exact ⟨d, T, ty, pos, z, h1, h2, fun b => CX_mono r hi.cons (h3 b)⟩
  | .alt x y, ρ, M, N, hi, h => ⟨CX_mono x hi h.1, CX_mono y hi h.2⟩

theorem denI_apart' {o : Oper} {ρ : Env} {w : World} {d : Option Nat} {v : Value} {X : Env → World → Prop} (hs : ∀ cs b, o.op ≠ .select cs b) (h1 : ∀ k, d = some k → k ∉ o.looksAt ops) (h2 : ∀ k, d = some k → o.dst ≠ some k)
    (h : denI P ops o ρ w (fun ρ' w' => X (put ρ' d v) w')) : denI P ops o (put ρ d v) w X := by
  unfold denI at *
  rw [wanted_apart h1]
  split
  · rename_i hw
    rw [if_pos hw] at h
    unfold opW at *
    rw [exec_apart hs h1]
    cases hr : (execOp (ev ρ) o).run P w with
    | halt x w' => rw [hr] at h; exact h.elim
    | ok x w' =>
      rw [hr] at h
      cases x <;> simp only [After] at h ⊢ <;> first
        | (rw [put_comm h2]; exact h)
        | (refine Calls.mono h (Ret.mono fun u w'' hq => ?_)
           rw [put_comm h2]; exact hq)
        | (refine RoundIn.mono h (Ret.mono fun u w'' hq => ?_)
           rw [put_comm h2]; exact hq)
        | exact h.elim
  · rename_i hw
    rw [if_neg hw] at h
    rw [put_comm h2]; exact h

theorem YS.apart' {S : World → Prop} {o : Oper} {ρ : Env} {v u : Value} {d : Option Nat} (hs : ∀ cs b, o.op ≠ .select cs b) (h1 : ∀ k, d = some k → k ∉ o.looksAt ops) (h : YS P ops S o ρ v) : YS P ops S o (put ρ d u) v := by
  unfold YS at *
  rw [wanted_apart h1, exec_apart hs h1]
  exact h
theorem TyI.zero_eq {T n n' by' by2 : Nat} {z z' : Value} (h : TyI P T n by' z) (h' : TyI P T n' by2 z') : z = z' := by
  obtain ⟨i, hi, _, _, hz⟩ := h.out
  obtain ⟨j, hj, _, _, hz'⟩ := h'.out
  rw [hi] at hj; cases hj
  rw [hz] at hz'; cases hz'; rfl

def del (a : Nat) : Ord → Ord
  | .nil => .nil
  | .q i r => .q i (del a r)
  | .r i r => .r i (del a r)
  | .e i n r => .e i n (del a r)
  | .a i r => bif Nat.beq i a then r else .a i (del a r)
  | .alt x y => .alt (del a x) (del a y)
def apO (ops : Array Oper) (d i : Nat) : Bool := match ops[i]? with
  | some o => noSel o && !((o.looksAt ops).contains d) && (o.dst != some d)
  | none => false
def apA (ops : Array Oper) (d a : Nat) : Ord → Bool
  | .nil => false
  | .q i r => apO ops d i && apA ops d a r
  | .r i r => apO ops d i && apA ops d a r
  | .e i _ r => apO ops d i && apA ops d a r
  | .a i r => bif Nat.beq i a then true else (apO ops d i && apA ops d a r)
  | .alt x y => apA ops d a x && apA ops d a y
theorem apO_spec {d i : Nat} {o : Oper} (ho : ops[i]? = some o) (h : apO ops d i = true) : (∀ cs b, o.op ≠ .select cs b) ∧ (∀ k, some d = some k → k ∉ o.looksAt ops) ∧ (∀ k, some d = some k → o.dst ≠ some k) := by
  unfold apO at h
  rw [ho] at h
  simp only [Bool.and_eq_true, Bool.not_eq_true', bne_iff_ne, ne_eq] at h
  refine ⟨noSel_spec h.1.1, fun k hk => ?_, fun k hk => ?_⟩
  · cases hk; have := h.1.2; simpa using this
  · cases hk; exact h.2
theorem early {a d T : Nat} {ty : TypeId} {pos : String} {z : Value} {n by' : Nat} (ho : ops[a]? = some ⟨some d, .alloc T, ty, pos, #[], none⟩) (hz : TyI P T n by' z) (b : Nat) : ∀ (r : Ord) {ρ : Env} {M : List Asrt}, apA ops d a r = true →
    CX P w0 F0 ops SM KW r ρ M → CX P w0 F0 ops SM KW (del a r) (put ρ (some d) (.pointer (some ⟨b, 0, none⟩))) (cl b z.cells T :: M)
  | .nil, ρ, M, ha, h => by simp [apA] at ha
  | .q i r, ρ, M, ha, h => by
    simp only [apA, Bool.and_eq_true] at ha
    obtain ⟨o, v, h1, h2, h3⟩ := h
    obtain ⟨s1, s2, s3⟩ := apO_spec h1 ha.1
    refine ⟨o, v, h1, h2.apart' s1 s2, ?_⟩
    rw [put_comm s3]
    exact early ho hz b r ha.2 h3
  | .r i r, ρ, M, ha, h => by
    simp only [apA, Bool.and_eq_true] at ha
    obtain ⟨o, v, h1, h2, h3⟩ := h
    obtain ⟨s1, s2, s3⟩ := apO_spec h1 ha.1
    refine ⟨o, v, h1, h2.apart' s1 s2, ?_⟩
    rw [put_comm s3]
    exact early ho hz b r ha.2 h3
  | .e i m r, ρ, M, ha, h => by
    simp only [apA, Bool.and_eq_true] at ha
    obtain ⟨o, h1, h2⟩ := h
    obtain ⟨s1, s2, s3⟩ := apO_spec h1 ha.1
    refine ⟨o, h1, fun F w H => denI_apart' s1 s2 s3 ?_⟩
    have H2 : St w0 w (all [F, cl b z.cells T] :: M) := H.ent (Imp.app (L := [F, cl b z.cells T]))
    refine denI_mono ?_ (h2 _ w H2)
    rintro v w' ⟨M', H', hn, hk⟩
    exact ⟨cl b z.cells T :: M', H'.ent Imp.unapp, fun e => Imp.tail.trans (hn e), early ho hz b r ha.2 hk⟩
  | .a i r, ρ, M, ha, h => by
    obtain ⟨d', T', ty', pos', z', h1, h2, h3⟩ := h
    simp only [apA, del] at ha ⊢
    cases hia : Nat.beq i a with
    | true =>
      have e := Nat.eq_of_beq_eq_true hia
      subst e
      rw [ho] at h1
      cases h1
      obtain ⟨n', by2, hz'⟩ := h2
      have e := hz.zero_eq hz'
      subst e
      exact h3 b
    | false =>
      rw [hia] at ha
      simp only [cond_false, Bool.and_eq_true] at ha ⊢
      obtain ⟨s1, s2, s3⟩ := apO_spec h1 ha.1
      refine ⟨d', T', ty', pos', z', h1, h2, fun b' => ?_⟩
      have s3' : ∀ k, some d = some k → some d' ≠ some k := s3
      rw [put_comm s3']
      exact CX_mono _ Imp.swap (early ho hz b r ha.2 (h3 b'))
  | .alt x y, ρ, M, ha, h => by
    simp only [apA, Bool.and_eq_true] at ha
    exact ⟨early ho hz b x ha.1 h.1, early ho hz b y ha.2 h.2⟩
def takeP (ops : Array Oper) (bef : Array Nat) (listed : Array Bool) (i : Nat) : Bool :=
  (List.range ops.size).all fun j => listed.getD j true || j == i || (bef.getD j 0).testBit i ||
    ((match ops[i]?, ops[j]? with|some oi, some oj => noSel oi && noSel oj && oi.apart ops oj|_, _ => false))
theorem takeP_set {bef : Array Nat} {listed : Array Bool} {i j : Nat} (h : takeP ops bef listed i = true) : takeP ops bef (listed.setIfInBounds j true) i = true := by
  refine List.all_eq_true.2 fun k hk => ?_
  have := List.all_eq_true.1 h k hk
  simp only [Bool.or_eq_true] at this ⊢
  rw [getD_set]
  split
  · exact .inl (.inl (.inl rfl))
  · exact this
variable {S : World → Prop} {need : Nat → Bool} {K : Env → World → Prop}
theorem denN_takeP {bef : Array Nat} (hb : befOk ops bef = true) {i : Nat} {o : Oper} {v : Value} (ho : ops[i]? = some o) : ∀ (f : Nat) (listed : Array Bool) (ρ : Env) (w : World), listed.size = ops.size → closed ops bef listed →
    i ∈ Region.ready .any ops listed → takeP ops bef listed i = true → (need i = true → ∀ w, S w) ∨ need i = false → YS P ops (fun _ => True) o ρ v → denN P ops S need f (listed.setIfInBounds i true) (put ρ o.dst v) w K → denN P ops S need (f + 1) listed ρ w K := by
  intro f
  induction f with
  | zero =>
    intro listed ρ w hsz hc hi ht hnd hy h
    refine ⟨fun e => (by rw [e] at hi; cases hi), fun j hj oj hoj => ?_⟩
    by_cases hji : j = i
    · subst hji
      rw [ho] at hoj; cases hoj
      have hS : need j = true → S w := fun e => by
        rcases hnd with h|h
        · exact h e w
        · rw [h] at e; cases e
      unfold denI
      cases hw : Region.wanted o (yl ops ρ) with
      | true =>
        rw [if_pos rfl]; unfold opW
        rw [hy.1 hw w trivial]
        exact ⟨hS, h⟩
      | false =>
        rw [if_neg (by simp)]
        rw [← hy.2 hw]
        exact ⟨hS, h⟩
    · have := ready_set (i := j) (j := i) hj (fun e => hji e.symm)
      rw [h.1] at this; cases this
  | succ f ih =>
    intro listed ρ w hsz hc hi ht hnd hy h
    refine ⟨fun e => (by rw [e] at hi; cases hi), fun j hj oj hoj => ?_⟩
    by_cases hji : j = i
    · subst hji
      rw [ho] at hoj; cases hoj
      have hS : need j = true → S w := fun e => by
        rcases hnd with h|h
        · exact h e w
        · rw [h] at e; cases e
      unfold denI
      cases hw : Region.wanted o (yl ops ρ) with
      | true =>
        rw [if_pos rfl]; unfold opW
        rw [hy.1 hw w trivial]
        exact ⟨hS, h⟩
      | false =>
        rw [if_neg (by simp)]
        rw [← hy.2 hw]
        exact ⟨hS, h⟩
    · have hjr := ready_spec hj
      have hir := ready_spec hi
      have htj := List.all_eq_true.1 ht j (by simpa using hjr.1)
      have hbj := closed_ready hsz hb hc hj hir.1 hir.2.1
      rw [hjr.2.1, hbj, ho, hoj] at htj
      simp only [Bool.false_or, Bool.or_eq_true, beq_iff_eq, hji, false_or, Bool.and_eq_true, Bool.false_eq_true, or_false] at htj
      obtain ⟨⟨hsi, hsj⟩, hap⟩ := htj
      have hap := Oper.apart_spec hap
      have hh := h.2 j (ready_set hj (fun e => hji e.symm)) oj hoj
      refine denI_mono ?_ (denI_apart (noSel_spec hsj) hap.1 hap.2.1 hh)
      intro u w' ⟨hSw, hk⟩
      refine ⟨hSw, ?_⟩
      refine ih (listed.setIfInBounds j true) (put ρ oj.dst u) w' (by simpa using hsz) (closed_set hsz hb hc hj) (ready_set hi hji) (takeP_set ht) hnd (hy.apart (noSel_spec hsi) hap.2.2) ?_
      rw [Array.setIfInBounds_comm _ _ hji]
      exact hk

def isFl (ops : Array Oper) (j : Nat) : Option Nat := match ops[j]? with
  | some ⟨some d, .alloc _, _, _, after, none⟩ => if after.size = 0 then some d else none
  | _ => none
def heads : Ord → List Nat
  | .e i _ _ => [i]
  | .a i _ => [i]
  | .alt x y => heads x ++ heads y
  | _ => []
def brs (ops : Array Oper) (nd : List Nat) (ck : Bool → Ord → Array Bool → Bool) (s : Bool) : Ord → Array Bool → Bool
  | .e i n r, listed => (nd.contains i == n) && ck n r (listed.setIfInBounds i true)
  | .a i r, listed => (isFl ops i).isSome && (!nd.contains i || s) && ck s r (listed.setIfInBounds i true)
  | .alt x y, listed => brs ops nd ck s x listed && brs ops nd ck s y listed
  | _, _ => false
def chkX (ops : Array Oper) (bef : Array Nat) (nd : List Nat) : Nat → Bool → Ord → Array Bool → Bool
  | 0, _, .nil, listed => (Region.ready .any ops listed).isEmpty
  | 0, _, _, _ => false
  | _ + 1, _, .nil, _ => false
  | f + 1, s, .q i r, listed => (Region.ready .any ops listed).contains i && takeP ops bef listed i && !nd.contains i && chkX ops bef nd f s r (listed.setIfInBounds i true)
  | f + 1, s, .r i r, listed => (Region.ready .any ops listed).contains i && s && takeOk ops bef nd.contains listed i && chkX ops bef nd f s r (listed.setIfInBounds i true)
  | f + 1, s, o, listed =>
    ((Region.ready .any ops listed).all fun j => (heads o).contains j || (match isFl ops j with
        | some d => apA ops d j o && (!nd.contains j || s) && chkX ops bef nd f s (del j o) (listed.setIfInBounds j true)
        | none => false)) &&
      !(Region.ready .any ops listed).isEmpty && brs ops nd (chkX ops bef nd f) s o listed
theorem isFl_spec {j d : Nat} (h : isFl ops j = some d) : ∃ T ty pos, ops[j]? = some ⟨some d, .alloc T, ty, pos, #[], none⟩ := by
  unfold isFl at h
  split at h
  · rename_i d' T ty pos after ho
    split at h
    · rename_i hz
      cases h
      have : after = #[] := Array.eq_empty_of_size_eq_zero hz
      subst this
      exact ⟨T, ty, pos, ho⟩
    · cases h
  · cases h
theorem brs_head {nd : List Nat} {ck : Bool → Ord → Array Bool → Bool} {s : Bool} {listed : Array Bool} {j : Nat} : ∀ (r : Ord) {ρ : Env} {M : List Asrt}, brs ops nd ck s r listed = true → (heads r).contains j = true → CX P w0 F0 ops SM KW r ρ M →
    (∃ n r', (nd.contains j == n) = true ∧ ck n r' (listed.setIfInBounds j true) = true ∧ CX P w0 F0 ops SM KW (.e j n r') ρ M) ∨
    (∃ r', (isFl ops j).isSome = true ∧ (!nd.contains j || s) = true ∧ ck s r' (listed.setIfInBounds j true) = true ∧ CX P w0 F0 ops SM KW (.a j r') ρ M)
  | .nil, ρ, M, hb, hj, h => by simp [heads] at hj
  | .q i r, ρ, M, hb, hj, h => by simp [heads] at hj
  | .r i r, ρ, M, hb, hj, h => by simp [heads] at hj
  | .e i n r, ρ, M, hb, hj, h => by
    simp only [heads, List.contains_cons, List.contains_nil, Bool.or_false, beq_iff_eq] at hj
    subst hj
    simp only [brs, Bool.and_eq_true] at hb
    exact .inl ⟨n, r, hb.1, hb.2, h⟩
  | .a i r, ρ, M, hb, hj, h => by
    simp only [heads, List.contains_cons, List.contains_nil, Bool.or_false, beq_iff_eq] at hj
    subst hj
    simp only [brs, Bool.and_eq_true] at hb
    exact .inr ⟨r, hb.1.1, hb.1.2, hb.2, h⟩
  | .alt x y, ρ, M, hb, hj, h => by
    simp only [brs, Bool.and_eq_true] at hb
    simp only [heads, List.contains_eq_mem, List.mem_append, decide_eq_true_eq] at hj
    rcases hj with hj|hj
    · exact brs_head x hb.1 (by simpa using hj) h.1
    · exact brs_head y hb.2 (by simpa using hj) h.2
theorem alloc_den {T d : Nat} {ty : TypeId} {pos : String} {z : Value} {n by' : Nat} {ρ : Env} {w : World} {L : List Asrt} {K : Env → World → Prop} (hz : TyI P T n by' z) (H : St w0 w L)
    (k : ∀ w' b, St w0 w' (cl b z.cells T :: L) → K (put ρ (some d) (.pointer (some ⟨b, 0, none⟩))) w') : denI P ops ⟨some d, .alloc T, ty, pos, #[], none⟩ ρ w K := by
  have h : denOps P ops [⟨some d, .alloc T, ty, pos, #[], none⟩] ρ w K := Zdi (hi := hz) H (fun w' b H' => Zcx (k w' b H'))
  exact h
def zOk (P : Program) (ops : Array Oper) : Prop := ∀ (j d : Nat), isFl ops j = some d → ∀ T ty pos, ops[j]? = some ⟨some d, .alloc T, ty, pos, #[], none⟩ → ∃ n by' z, TyI P T n by' z
theorem CX_sound {bef : Array Nat} {nd : List Nat} (hb : befOk ops bef = true) (hz : zOk P ops) : ∀ (f : Nat) (s : Bool) (r : Ord) (listed : Array Bool) (ρ : Env) (w : World) (M : List Asrt), listed.size = ops.size → closed ops bef listed →
    chkX ops bef nd f s r listed = true → (s = true → Imp M SM) → St w0 w (F0 :: M) → CX P w0 F0 ops SM KW r ρ M → denN P ops (SMw w0 SM) nd.contains f listed ρ w KW := by
  intro f
  induction f with
  | zero =>
    intro s r listed ρ w M hsz hcl hc hs H h
    cases r <;> simp only [chkX, Bool.false_eq_true] at hc
    exact ⟨by simpa using hc, h w H⟩
  | succ f ih =>
    intro s r listed ρ w M hsz hcl hc hs H h
    have key : ∀ o : Ord, (((Region.ready .any ops listed).all fun j => (heads o).contains j || (match isFl ops j with
        | some d => apA ops d j o && (!nd.contains j || s) && chkX ops bef nd f s (del j o) (listed.setIfInBounds j true)
        | none => false)) &&
      !(Region.ready .any ops listed).isEmpty && brs ops nd (chkX ops bef nd f) s o listed) = true → CX P w0 F0 ops SM KW o ρ M → denN P ops (SMw w0 SM) nd.contains (f + 1) listed ρ w KW := by
      intro o hc h
      simp only [Bool.and_eq_true] at hc
      obtain ⟨⟨hall, hne⟩, hbr⟩ := hc
      refine ⟨fun e => (by rw [e] at hne; simp at hne), fun j hj oj hoj => ?_⟩
      have hcl' := closed_set hsz hb hcl hj
      have hsz' : (listed.setIfInBounds j true).size = ops.size := by simpa using hsz
      have hjc := List.all_eq_true.1 hall j hj
      by_cases hh : (heads o).contains j = true
      · rcases brs_head o hbr hh h with ⟨n, r', h1, h2, o', h3, h4⟩|⟨r', h1, h2, h3, d, T, ty, pos, z, h4, ⟨n', by', h5⟩, h6⟩
        · rw [hoj] at h3; cases h3
          refine denI_mono ?_ (h4 F0 w H)
          rintro u w' ⟨M', H', hn, hk⟩
          refine ⟨fun e => ⟨F0, H'.enx (hn ?_)⟩, ih n r' _ _ _ M' hsz' hcl' h2 hn H' hk⟩
          have := eq_of_beq h1
          rw [← this]; exact e
        · rw [hoj] at h4; cases h4
          refine alloc_den h5 H ?_
          intro w' b H'
          have H2 := H'.swap
          have hs' : s = true → Imp (cl b z.cells T :: M) SM := fun e => Imp.tail.trans (hs e)
          refine ⟨fun e => ⟨F0, H2.enx (hs' ?_)⟩, ih s r' _ _ _ _ hsz' hcl' h3 hs' H2 (h6 b)⟩
          rw [e] at h2; simpa using h2
      · rw [Bool.or_eq_true] at hjc
        rcases hjc with hjc|hjc
        · exact absurd hjc hh
        · split at hjc
          · rename_i d hd
            obtain ⟨T, ty, pos, ho⟩ := isFl_spec hd
            rw [hoj] at ho; cases ho
            simp only [Bool.and_eq_true] at hjc
            obtain ⟨⟨ha, hnd⟩, hck⟩ := hjc
            obtain ⟨n', by', z, h5⟩ := hz j d hd T ty pos hoj
            refine alloc_den h5 H ?_
            intro w' b H'
            have H2 := H'.swap
            have hs' : s = true → Imp (cl b z.cells T :: M) SM := fun e => Imp.tail.trans (hs e)
            refine ⟨fun e => ⟨F0, H2.enx (hs' ?_)⟩, ih s (del j o) _ _ _ _ hsz' hcl' hck hs' H2 (early hoj h5 b o ha h)⟩
            rw [e] at hnd; simpa using hnd
          · cases hjc
    cases r with
    | nil => simp [chkX] at hc
    | q i r =>
      simp only [chkX, Bool.and_eq_true, List.contains_iff_mem] at hc
      obtain ⟨⟨⟨hi, ht⟩, hn⟩, hr⟩ := hc
      obtain ⟨o, v, ho, hy, h⟩ := h
      exact denN_takeP hb ho f listed ρ w hsz hcl hi ht (.inr (by simpa using hn)) hy (ih s r _ _ w M (by simpa using hsz) (closed_set hsz hb hcl hi) hr hs H h)
    | r i r =>
      simp only [chkX, Bool.and_eq_true, List.contains_iff_mem] at hc
      obtain ⟨⟨⟨hi, hsT⟩, ht⟩, hr⟩ := hc
      obtain ⟨o, v, ho, hy, h⟩ := h
      exact denN_take hb ho f listed ρ w hsz hcl hi ht hy ⟨F0, H.enx (hs hsT)⟩ (ih s r _ _ w M (by simpa using hsz) (closed_set hsz hb hcl hi) hr hs H h)
    | e i n r => exact key _ (by simpa only [chkX] using hc) h
    | a i r => exact key _ (by simpa only [chkX] using hc) h
    | alt x y => exact key _ (by simpa only [chkX] using hc) h

def drawX (ops : Array Oper) (nd : List Nat) (r : Ord) : Bool :=
  befOk ops (Region.before ops) && chkX ops (Region.before ops) nd ops.size true r (Array.replicate ops.size false)
def cX (P : Program) (w0 : World) (ops : Array Oper) (SM : List Asrt) (r : Ord) (ρ : Env) (M : List Asrt) (K : XK) : Prop :=
  ∀ F0, CX P w0 F0 ops SM (fun ρ' w' => ∃ M', St w0 w' (F0 :: M') ∧ K ρ' M') r ρ M
def zOkB (P : Program) (ops : Array Oper) : Bool := (List.range ops.size).all fun j => match ops[j]? with
  | some ⟨some _, .alloc T, _, _, _, none⟩ => match P.info? T with
    | some i => match i.zero with
      | some z => z.cells.size == i.size
      | none => false
    | none => false
  | _ => true
theorem zOk_of (h : zOkB P ops = true) : zOk P ops := by
  intro j d hj T ty pos ho
  have hlt : j < ops.size := (Array.getElem?_eq_some_iff.1 ho).1
  have := List.all_eq_true.1 h j (by simpa using hlt)
  rw [ho] at this
  simp only [] at this
  cases hi : P.info? T with
  | none => rw [hi] at this; cases this
  | some i =>
    rw [hi] at this
    simp only [] at this
    cases hz : i.zero with
    | none => rw [hz] at this; cases this
    | some z =>
      rw [hz] at this
      exact ⟨i.size, i.bytes, z, by rw [hi]; simp [hz], by simpa using this⟩
theorem Zij {id : Nat} {ρ : Env} {M : List Asrt} {Q : XQ} (SM : List Asrt) (nd : List Nat) (r : Ord) (hz : zOkB P ops = true) (hchk : drawX ops nd r = true) (hS : Imp M SM) (h : cX P w0 ops SM r ρ M (fun ρ' M' => Q .normal ρ' M')) : xC P w0 (.region id ops true) ρ M Q := by
  intro F w H
  simp only [drawX, Bool.and_eq_true] at hchk
  refine denN_sound (S := SMw w0 SM) (need := nd.contains) _ _ _ _ (CX_sound hchk.1 (zOk_of hz) ops.size true r _ ρ _ M (by simp) ?_ hchk.2 (fun _ => hS) (H.drawn _) (h F))
  intro p hp hlp
  simp [hp] at hlp
end
section
variable {P : Program} {w0 : World} {ops : Array Oper} {SM M N : List Asrt} {r : Ord} {ρ : Env} {K : XK} {i : Nat} {dst : Option Nat} {op : Op} {ty T : TypeId} {pos : String} {after : Array Edge} {x : Operand}
theorem Zik (h : K ρ M) : cX P w0 ops SM .nil ρ M K := fun F0 w H => ⟨M, H, h⟩
theorem Zim {v : Value} (ho : ops[i]? = some ⟨dst, op, ty, pos, after, none⟩) (h : PV P op ρ v) (k : cX P w0 ops SM r (put ρ dst v) M K) : cX P w0 ops SM (.q i r) ρ M K :=
  fun F0 => ⟨_, v, ho, ⟨fun _ w _ => h _ w rfl, fun e => by simp [Region.wanted] at e⟩, k F0⟩
theorem Zin {v : Value} {j : Nat} {b : Bool} (ho : ops[i]? = some ⟨dst, op, ty, pos, after, some (j, b)⟩) (hg : yl ops ρ j = some b) (h : PV P op ρ v) (k : cX P w0 ops SM r (put ρ dst v) M K) : cX P w0 ops SM (.q i r) ρ M K :=
  fun F0 => ⟨_, v, ho, ⟨fun _ w _ => h _ w rfl, fun e => by simp [Region.wanted, hg] at e⟩, k F0⟩
theorem Zio {j : Nat} {b : Bool} (ho : ops[i]? = some ⟨dst, op, ty, pos, after, some (j, b)⟩) (hg : yl ops ρ j = some (!b)) (k : cX P w0 ops SM r (put ρ dst undef) M K) : cX P w0 ops SM (.q i r) ρ M K :=
  fun F0 => ⟨_, undef, ho, ⟨fun e => by simp [Region.wanted, hg] at e, fun _ => rfl⟩, k F0⟩
theorem Zip {j : Nat} {b : Bool} (ho : ops[i]? = some ⟨dst, op, ty, pos, after, some (j, b)⟩) (hg : yl ops ρ j = none) (k : cX P w0 ops SM r (put ρ dst undef) M K) : cX P w0 ops SM (.q i r) ρ M K :=
  fun F0 => ⟨_, undef, ho, ⟨fun e => by simp [Region.wanted, hg] at e, fun _ => rfl⟩, k F0⟩
theorem Ziq {o : Oper} {n : Bool} (ho : ops[i]? = some o) (h : xOps P w0 ops [o] ρ M (fun ρ' M' => (n = true → Imp M' SM) ∧ cX P w0 ops SM r ρ' M' K)) : cX P w0 ops SM (.e i n r) ρ M K := by
  intro F0
  refine ⟨o, ho, fun F w H => ?_⟩
  refine denI_mono (K := fun ρ' w' => ∃ M', St w0 w' (F :: M') ∧ (n = true → Imp M' SM) ∧ cX P w0 ops SM r ρ' M' K) ?_ (h F w H)
  rintro v w' ⟨M', H', hn, hk⟩
  exact ⟨M', H', hn, hk F0⟩
theorem Zir {d n by' : Nat} {z : Value} {cs : Array Value} [hi : TyI P T n by' z] (ho : ops[i]? = some ⟨some d, .alloc T, ty, pos, #[], none⟩) (hz : z.cells = cs) (k : ∀ b, cX P w0 ops SM r (put ρ (some d) (.pointer (some ⟨b, 0, none⟩))) (cl b cs T :: M) K) : cX P w0 ops SM (.a i r) ρ M K := by
  subst hz; exact fun F0 => ⟨d, T, ty, pos, z, ho, ⟨n, by', hi⟩, fun b => k b F0⟩
theorem Zis {a b : Ord} (h1 : cX P w0 ops SM a ρ M K) (h2 : cX P w0 ops SM b ρ M K) : cX P w0 ops SM (.alt a b) ρ M K := fun F0 => ⟨h1 F0, h2 F0⟩
theorem Zit {v : Value} (ho : ops[i]? = some ⟨dst, op, ty, pos, after, none⟩) (h : ∀ (F : Asrt) w, St w0 w (F :: SM) → (execOp (ev ρ) ⟨dst, op, ty, pos, after, none⟩).run P w = .ok (.value v) w) (k : cX P w0 ops SM r (put ρ dst v) M K) : cX P w0 ops SM (.r i r) ρ M K :=
  fun F0 => ⟨_, v, ho, ⟨fun _ w ⟨F, H⟩ => h F w H, fun e => by simp [Region.wanted] at e⟩, k F0⟩
theorem Ziu {v : Value} {j : Nat} {b : Bool} (ho : ops[i]? = some ⟨dst, op, ty, pos, after, some (j, b)⟩) (hg : yl ops ρ j = some b) (h : ∀ (F : Asrt) w, St w0 w (F :: SM) → (execOp (ev ρ) ⟨dst, op, ty, pos, after, some (j, b)⟩).run P w = .ok (.value v) w) (k : cX P w0 ops SM r (put ρ dst v) M K) : cX P w0 ops SM (.r i r) ρ M K :=
  fun F0 => ⟨_, v, ho, ⟨fun _ w ⟨F, H⟩ => h F w H, fun e => by simp [Region.wanted, hg] at e⟩, k F0⟩
theorem run_ld {b o E : Nat} {c : Array Value} {v : Value} {w : World} {oo : Oper} {M' : List Asrt} [hs : TyScal P T] (hoo : oo.op = .load T x) (hx : ev ρ x = .pointer (some ⟨b, o, none⟩)) (hm : Has SM (cl b c E) M') (hv : c[o]? = some v) {F : Asrt} (H : St w0 w (F :: SM)) : (execOp (ev ρ) oo).run P w = .ok (.value v) w := by
  have hr : (Instr.loadAt T (ev ρ x)).run P w = .ok v w := by
    rw [hx]; unfold Instr.loadAt
    rw [run_bind P _ _ w w _ rfl]; unfold loadVar
    rw [run_bind P _ _ w w _ (run_isAgg hs.h)]
    exact run_load1 ((H.pick (.there hm)).cl_get) hv
  unfold execOp; rw [hoo]
  exact op_run_value hr
theorem Ziv {b o E : Nat} {c : Array Value} {v : Value} {M' : List Asrt} [hs : TyScal P T] (ho : ops[i]? = some ⟨dst, .load T x, ty, pos, after, none⟩) (hx : ev ρ x = .pointer (some ⟨b, o, none⟩)) (hm : Has SM (cl b c E) M') (hv : c[o]? = some v) (k : cX P w0 ops SM r (put ρ dst v) M K) : cX P w0 ops SM (.r i r) ρ M K :=
  Zit ho (fun F w H => run_ld rfl hx hm hv H) k
theorem Ziw {b o E j : Nat} {t : Bool} {c : Array Value} {v : Value} {M' : List Asrt} [hs : TyScal P T] (ho : ops[i]? = some ⟨dst, .load T x, ty, pos, after, some (j, t)⟩) (hg : yl ops ρ j = some t) (hx : ev ρ x = .pointer (some ⟨b, o, none⟩)) (hm : Has SM (cl b c E) M') (hv : c[o]? = some v) (k : cX P w0 ops SM r (put ρ dst v) M K) : cX P w0 ops SM (.r i r) ρ M K :=
  Ziu ho hg (fun F w H => run_ld rfl hx hm hv H) k
theorem run_lda {b o E n by' : Nat} {z : Value} {c cs : Array Value} {w : World} {oo : Oper} {M' : List Asrt} [hs : TyAggr P T] [hi : TyI P T n by' z] (hoo : oo.op = .load T x) (hx : ev ρ x = .pointer (some ⟨b, o, none⟩)) (hm : Has SM (cl b c E) M') (hv : o + n ≤ c.size) (hc : c.extract o (o + n) = cs) {F : Asrt} (H : St w0 w (F :: SM)) : (execOp (ev ρ) oo).run P w = .ok (.value (.agg cs)) w := by
  have hr := run_loadAgg (P := P) (ρ := ρ) (x := x) (T := T) (n := n) ((H.pick (.there hm)).cl_get) hv hx
  rw [hc] at hr
  unfold execOp; rw [hoo]
  exact op_run_value hr
theorem Zix {b o E n by' : Nat} {z : Value} {c cs : Array Value} {M' : List Asrt} [hs : TyAggr P T] [hi : TyI P T n by' z] (ho : ops[i]? = some ⟨dst, .load T x, ty, pos, after, none⟩) (hx : ev ρ x = .pointer (some ⟨b, o, none⟩)) (hm : Has SM (cl b c E) M') (hv : o + n ≤ c.size) (hc : c.extract o (o + n) = cs) (k : cX P w0 ops SM r (put ρ dst (.agg cs)) M K) : cX P w0 ops SM (.r i r) ρ M K :=
  Zit ho (fun F w H => run_lda rfl hx hm hv hc H) k
theorem Ziy {b E n by' : Nat} {z : Value} {c : Array Value} {M' : List Asrt} [hs : TyAggr P T] [hi : TyI P T n by' z] (ho : ops[i]? = some ⟨dst, .load T x, ty, pos, after, none⟩) (hx : ev ρ x = .pointer (some ⟨b, 0, none⟩)) (hm : Has SM (cl b c E) M') (hv : c.size = n) (k : cX P w0 ops SM r (put ρ dst (.agg c)) M K) : cX P w0 ops SM (.r i r) ρ M K :=
  Zix ho hx hm (by omega) (by rw [Nat.zero_add, ← hv]; simp) k
theorem Ziz {v : Value} (ho : ops[i]? = some ⟨dst, op, ty, pos, after, none⟩) (h : PV P op ρ v) (k : cX P w0 ops SM r (put ρ dst v) M K) : cX P w0 ops SM (.r i r) ρ M K :=
  fun F0 => ⟨_, v, ho, ⟨fun _ w _ => h _ w rfl, fun e => by simp [Region.wanted] at e⟩, k F0⟩
theorem Zi0 {v : Value} {j : Nat} {b : Bool} (ho : ops[i]? = some ⟨dst, op, ty, pos, after, some (j, b)⟩) (hg : yl ops ρ j = some b) (h : PV P op ρ v) (k : cX P w0 ops SM r (put ρ dst v) M K) : cX P w0 ops SM (.r i r) ρ M K :=
  fun F0 => ⟨_, v, ho, ⟨fun _ w _ => h _ w rfl, fun e => by simp [Region.wanted, hg] at e⟩, k F0⟩
theorem Zi1 {j : Nat} {b : Bool} (ho : ops[i]? = some ⟨dst, op, ty, pos, after, some (j, b)⟩) (hg : yl ops ρ j = some (!b)) (k : cX P w0 ops SM r (put ρ dst undef) M K) : cX P w0 ops SM (.r i r) ρ M K :=
  fun F0 => ⟨_, undef, ho, ⟨fun e => by simp [Region.wanted, hg] at e, fun _ => rfl⟩, k F0⟩
theorem Zi2 {j : Nat} {b : Bool} (ho : ops[i]? = some ⟨dst, op, ty, pos, after, some (j, b)⟩) (hg : yl ops ρ j = none) (k : cX P w0 ops SM r (put ρ dst undef) M K) : cX P w0 ops SM (.r i r) ρ M K :=
  fun F0 => ⟨_, undef, ho, ⟨fun e => by simp [Region.wanted, hg] at e, fun _ => rfl⟩, k F0⟩
theorem Zi3 {b o E n by' j : Nat} {t : Bool} {z : Value} {c cs : Array Value} {M' : List Asrt} [hs : TyAggr P T] [hi : TyI P T n by' z] (ho : ops[i]? = some ⟨dst, .load T x, ty, pos, after, some (j, t)⟩) (hg : yl ops ρ j = some t) (hx : ev ρ x = .pointer (some ⟨b, o, none⟩)) (hm : Has SM (cl b c E) M') (hv : o + n ≤ c.size) (hc : c.extract o (o + n) = cs) (k : cX P w0 ops SM r (put ρ dst (.agg cs)) M K) : cX P w0 ops SM (.r i r) ρ M K :=
  Ziu ho hg (fun F w H => run_lda rfl hx hm hv hc H) k
theorem Zi4 {b E n by' j : Nat} {t : Bool} {z : Value} {c : Array Value} {M' : List Asrt} [hs : TyAggr P T] [hi : TyI P T n by' z] (ho : ops[i]? = some ⟨dst, .load T x, ty, pos, after, some (j, t)⟩) (hg : yl ops ρ j = some t) (hx : ev ρ x = .pointer (some ⟨b, 0, none⟩)) (hm : Has SM (cl b c E) M') (hv : c.size = n) (k : cX P w0 ops SM r (put ρ dst (.agg c)) M K) : cX P w0 ops SM (.r i r) ρ M K :=
  Zi3 ho hg hx hm (by omega) (by rw [Nat.zero_add, ← hv]; simp) k
theorem Zi5 (d : Nat) {t : Bool} (hd : ρ d = .bool t) (e : t = true) (h : cX P w0 ops SM r (put ρ (some d) (.bool true)) M K) : cX P w0 ops SM r ρ M K := by
  subst e; rwa [put_self hd] at h
theorem Zi6 (d : Nat) {t : Bool} (hd : ρ d = .bool t) (e : t = false) (h : cX P w0 ops SM r (put ρ (some d) (.bool false)) M K) : cX P w0 ops SM r ρ M K := by
  subst e; rwa [put_self hd] at h
end
end Go.Sl
