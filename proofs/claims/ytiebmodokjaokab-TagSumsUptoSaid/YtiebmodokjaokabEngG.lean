/- The engine, seventh part: regions whose order is drawn. One order serves for all, where what only reads reads the same throughout. -/
import Derived.Test.YtiebmodokjaokabEngF
set_option linter.unusedVariables false
set_option linter.unusedSimpArgs false
namespace Go.Sl
open Go

section
variable {P : Program} {ops : Array Oper} {S : World → Prop} {need : Nat → Bool} {K : Env → World → Prop}

def denN (P : Program) (ops : Array Oper) (S : World → Prop) (need : Nat → Bool) : Nat → Array Bool → Env → World → (Env → World → Prop) → Prop
  | 0, listed, ρ, w, K => Region.ready .any ops listed = [] ∧ K ρ w
  | f + 1, listed, ρ, w, K => (Region.ready .any ops listed = [] → K ρ w) ∧
      ∀ i ∈ Region.ready .any ops listed, ∀ o, ops[i]? = some o → denI P ops o ρ w (fun ρ' w' => (need i = true → S w') ∧ denN P ops S need f (listed.setIfInBounds i true) ρ' w' K)

theorem denN_sound : ∀ (f : Nat) (listed : Array Bool) (ρ : Env) (w : World), denN P ops S need f listed ρ w K → denAny P ops f listed ρ w K
  | 0, _, _, _, h => h
  | f + 1, listed, ρ, w, h => ⟨h.1, fun i hi o ho => denI_mono (fun v w' hk => denN_sound f _ _ _ hk.2) (h.2 i hi o ho)⟩

/-- Slots that an operation looks at. -/
theorem ev_put_apart {ρ : Env} {d : Option Nat} {v : Value} {x : Operand} (h : ∀ k, d = some k → x ≠ .tmp k) : ev (put ρ d v) x = ev ρ x := by
  cases d with
  | none => rfl
  | some k =>
    cases x with
    | tmp t => exact put_ne _ _ _ _ (fun e => h k rfl (by rw [e]))
    | _ => rfl
theorem put_comm {ρ : Env} {a b : Option Nat} {u v : Value} (h : ∀ k, a = some k → b ≠ some k) : put (put ρ a u) b v = put (put ρ b v) a u := by
  cases a with
  | none => rfl
  | some k =>
    cases b with
    | none => rfl
    | some l =>
      have hne : k ≠ l := fun e => h k rfl (by rw [e])
      funext t
      by_cases e : t = l
      · subst e; rw [put_same, put_ne _ _ _ _ (Ne.symm hne), put_same]
      · rw [put_ne _ _ _ _ e]
        by_cases e' : t = k
        · subst e'; rw [put_same, put_same]
        · rw [put_ne _ _ _ _ e', put_ne _ _ _ _ e', put_ne _ _ _ _ e]
theorem exec_apart {ρ : Env} {o : Oper} {d : Option Nat} {v : Value} (hs : ∀ cs b, o.op ≠ .select cs b) (h : ∀ k, d = some k → k ∉ o.looksAt ops) : execOp (ev (put ρ d v)) o = execOp (ev ρ) o := by
  refine execOp_congr o hs fun x hx => ev_put_apart fun k hk e => h k hk ?_
  subst e
  simp only [Oper.looksAt, List.mem_append, List.mem_filterMap]
  exact .inl ⟨.tmp k, by simpa using hx, rfl⟩
theorem wanted_apart {ρ : Env} {o : Oper} {d : Option Nat} {v : Value} (h : ∀ k, d = some k → k ∉ o.looksAt ops) : Region.wanted o (yl ops (put ρ d v)) = Region.wanted o (yl ops ρ) := by
  unfold Region.wanted
  cases hg : o.guard with
  | none => rfl
  | some jb =>
    obtain ⟨j, b⟩ := jb
    simp only []
    have : yl ops (put ρ d v) j = yl ops ρ j := by
      unfold yl
      cases hd : (ops[j]?).bind (·.dst) with
      | none => rfl
      | some t =>
        simp only []
        cases d with
        | none => rfl
        | some k =>
          have hne : t ≠ k := by
            intro e; subst e
            refine h t rfl ?_
            simp only [Oper.looksAt, List.mem_append, hg, hd]
            exact .inr (by simp)
          rw [put_ne _ _ _ _ hne]
    rw [this]

/-- Operation o yields v in every world that meets S. -/
def YS (P : Program) (ops : Array Oper) (S : World → Prop) (o : Oper) (ρ : Env) (v : Value) : Prop :=
  (Region.wanted o (yl ops ρ) = true → ∀ w, S w → (execOp (ev ρ) o).run P w = .ok (.value v) w) ∧ (Region.wanted o (yl ops ρ) = false → v = undef)

theorem denI_apart {o : Oper} {ρ : Env} {w : World} {d : Option Nat} {v : Value} {X : Env → World → Prop} (hs : ∀ cs b, o.op ≠ .select cs b) (h1 : ∀ k, d = some k → k ∉ o.looksAt ops) (h2 : ∀ k, d = some k → o.dst ≠ some k)
    (h : denI P ops o (put ρ d v) w X) : denI P ops o ρ w (fun ρ' w' => X (put ρ' d v) w') := by
  unfold denI at *
  rw [wanted_apart h1] at h
  split
  · rename_i hw
    rw [if_pos hw] at h
    unfold opW at *
    rw [exec_apart hs h1] at h
    cases hr : (execOp (ev ρ) o).run P w with
    | halt x w' => rw [hr] at h; exact h.elim
    | ok x w' =>
      rw [hr] at h
      cases x <;> simp only [After] at h ⊢ <;> first
        | (rw [← put_comm h2]; exact h)
        | (refine Calls.mono h (Ret.mono fun u w'' hq => ?_)
           rw [← put_comm h2]; exact hq)
        | exact h.elim
  · rename_i hw
    rw [if_neg hw] at h
    rw [← put_comm h2]; exact h

theorem YS.apart {o o2 : Oper} {ρ : Env} {v u : Value} (hs : ∀ cs b, o.op ≠ .select cs b) (h1 : ∀ k, o2.dst = some k → k ∉ o.looksAt ops) (h : YS P ops S o ρ v) : YS P ops S o (put ρ o2.dst u) v := by
  unfold YS at *
  rw [wanted_apart h1, exec_apart hs h1]
  exact h

def noSel (o : Oper) : Bool := match o.op with | .select _ _ => false | _ => true
theorem noSel_spec {o : Oper} (h : noSel o = true) : ∀ cs b, o.op ≠ .select cs b := by
  intro cs b e
  simp [noSel, e] at h

/-- bef j: what has to be done ahead of j, whatever the order. -/
def befOk (ops : Array Oper) (bef : Array Nat) : Bool :=
  (List.range ops.size).all fun j => (List.range ops.size).all fun q => !(bef.getD j 0).testBit q ||
    ((ops[j]?).map fun o => o.after.toList.any fun e => Region.binds .any e && (e.on == q || (bef.getD e.on 0).testBit q)).getD false
def closed (ops : Array Oper) (bef : Array Nat) (listed : Array Bool) : Prop :=
  ∀ p, p < ops.size → listed.getD p true = true → ∀ q, q < ops.size → (bef.getD p 0).testBit q = true → listed.getD q true = true
/-- i may be taken now: all that could come ahead of it leaves it alone, and shows S anew. -/
def takeOk (ops : Array Oper) (bef : Array Nat) (need : Nat → Bool) (listed : Array Bool) (i : Nat) : Bool :=
  (List.range ops.size).all fun j => listed.getD j true || j == i || (bef.getD j 0).testBit i ||
    (need j && (match ops[i]?, ops[j]? with | some oi, some oj => noSel oi && noSel oj && oi.apart ops oj | _, _ => false))

theorem ready_spec {listed : Array Bool} {j : Nat} (h : j ∈ Region.ready .any ops listed) :
    j < ops.size ∧ listed.getD j true = false ∧ ∀ o, ops[j]? = some o → ∀ e ∈ o.after.toList, Region.binds .any e = true → listed.getD e.on false = true := by
  simp only [Region.ready, List.mem_filter, List.mem_range, Bool.and_eq_true, Bool.not_eq_true'] at h
  refine ⟨h.1, h.2.1, fun o ho e he hb => ?_⟩
  have h3 := h.2.2
  simp only [ho, Option.map_some, Option.getD_some, Array.all_eq_true_iff_forall_mem, Bool.or_eq_true, Bool.not_eq_true'] at h3
  rcases h3 e (by simpa using he) with h | h
  · rw [hb] at h; cases h
  · exact h
theorem ready_mk {listed : Array Bool} {j : Nat} (h1 : j < ops.size) (h2 : listed.getD j true = false) (h3 : ∀ o, ops[j]? = some o → ∀ e ∈ o.after.toList, Region.binds .any e = true → listed.getD e.on false = true) : j ∈ Region.ready .any ops listed := by
  simp only [Region.ready, List.mem_filter, List.mem_range, Bool.and_eq_true, Bool.not_eq_true']
  refine ⟨h1, h2, ?_⟩
  simp only [Array.getElem?_eq_getElem h1, Option.map_some, Option.getD_some, Array.all_eq_true_iff_forall_mem, Bool.or_eq_true, Bool.not_eq_true']
  intro e he
  by_cases hb : Region.binds .any e = true
  · exact .inr (h3 _ (Array.getElem?_eq_getElem h1) e (by simpa using he) hb)
  · exact .inl (by simpa using hb)
theorem getD_set {l : Array Bool} {i j : Nat} {d : Bool} : (l.setIfInBounds i true).getD j d = if i = j ∧ j < l.size then true else l.getD j d := by
  simp only [Array.getD_eq_getD_getElem?, Array.getElem?_setIfInBounds]
  by_cases h : i = j
  · subst h
    by_cases h2 : i < l.size
    · simp [h2]
    · simp [h2]
  · simp [h]
theorem getD_true_of_false {l : Array Bool} {i : Nat} (h : l.getD i false = true) : l.getD i true = true := by
  simp only [Array.getD_eq_getD_getElem?] at *
  cases hl : l[i]? with
  | none => rw [hl] at h; cases h
  | some b => rw [hl] at h; exact h

theorem closed_ready {bef : Array Nat} {listed : Array Bool} {i j : Nat} (hsz : listed.size = ops.size) (hb : befOk ops bef = true) (hc : closed ops bef listed) (hj : j ∈ Region.ready .any ops listed) (hi : i < ops.size) (hli : listed.getD i true = false) : (bef.getD j 0).testBit i = false := by
  obtain ⟨h1, h2, h3⟩ := ready_spec hj
  cases hbit : (bef.getD j 0).testBit i with
  | false => rfl
  | true =>
    exfalso
    have hh := List.all_eq_true.1 (List.all_eq_true.1 hb j (by simpa using h1)) i (by simpa using hi)
    rw [hbit] at hh
    simp only [Bool.not_true, Bool.false_or] at hh
    rw [Array.getElem?_eq_getElem h1] at hh
    simp only [Option.map_some, Option.getD_some, List.any_eq_true, Bool.and_eq_true, Bool.or_eq_true, beq_iff_eq] at hh
    obtain ⟨e, he, heb, hq⟩ := hh
    have hl := h3 _ (Array.getElem?_eq_getElem h1) e he heb
    rcases hq with hq | hq
    · rw [hq] at hl
      rw [getD_true_of_false hl] at hli; cases hli
    · by_cases hes : e.on < ops.size
      · rw [hc e.on hes (getD_true_of_false hl) i hi hq] at hli; cases hli
      · simp only [Array.getD_eq_getD_getElem?] at hl
        rw [Array.getElem?_eq_none (by omega)] at hl
        cases hl
theorem closed_set {bef : Array Nat} {listed : Array Bool} {i : Nat} (hsz : listed.size = ops.size) (hb : befOk ops bef = true) (hc : closed ops bef listed) (hi : i ∈ Region.ready .any ops listed) : closed ops bef (listed.setIfInBounds i true) := by
  intro p hp hl q hq hbit
  rw [getD_set] at hl ⊢
  by_cases hiq : i = q ∧ q < listed.size
  · rw [if_pos hiq]
  · rw [if_neg hiq]
    by_cases hip : i = p ∧ p < listed.size
    · cases hlq : listed.getD q true with
      | true => rfl
      | false =>
        have := closed_ready hsz hb hc hi hq hlq
        rw [hip.1, hbit] at this; cases this
    · rw [if_neg hip] at hl
      exact hc p hp hl q hq hbit
theorem takeOk_set {bef : Array Nat} {need : Nat → Bool} {listed : Array Bool} {i j : Nat} (h : takeOk ops bef need listed i = true) : takeOk ops bef need (listed.setIfInBounds j true) i = true := by
  refine List.all_eq_true.2 fun k hk => ?_
  have := List.all_eq_true.1 h k hk
  simp only [Bool.or_eq_true] at this ⊢
  rw [getD_set]
  split
  · exact .inl (.inl (.inl rfl))
  · exact this
theorem ready_set {listed : Array Bool} {i j : Nat} (hi : i ∈ Region.ready .any ops listed) (hne : j ≠ i) : i ∈ Region.ready .any ops (listed.setIfInBounds j true) := by
  obtain ⟨h1, h2, h3⟩ := ready_spec hi
  refine ready_mk h1 (by rw [getD_set, if_neg (fun h => hne h.1)]; exact h2) fun o ho e he hb => ?_
  rw [getD_set]
  split
  · rfl
  · exact h3 o ho e he hb

theorem denN_take {bef : Array Nat} (hb : befOk ops bef = true) {i : Nat} {o : Oper} {v : Value} (ho : ops[i]? = some o) : ∀ (f : Nat) (listed : Array Bool) (ρ : Env) (w : World), listed.size = ops.size → closed ops bef listed →
    i ∈ Region.ready .any ops listed → takeOk ops bef need listed i = true → YS P ops S o ρ v → S w → denN P ops S need f (listed.setIfInBounds i true) (put ρ o.dst v) w K → denN P ops S need (f + 1) listed ρ w K := by
  intro f
  induction f with
  | zero =>
    intro listed ρ w hsz hc hi ht hy hS h
    refine ⟨fun e => (by rw [e] at hi; cases hi), fun j hj oj hoj => ?_⟩
    by_cases hji : j = i
    · subst hji
      rw [ho] at hoj; cases hoj
      unfold denI
      cases hw : Region.wanted o (yl ops ρ) with
      | true =>
        rw [if_pos rfl]; unfold opW
        rw [hy.1 hw w hS]
        exact ⟨fun _ => hS, h⟩
      | false =>
        rw [if_neg (by simp)]
        rw [← hy.2 hw]
        exact ⟨fun _ => hS, h⟩
    · have := ready_set (i := j) (j := i) hj (fun e => hji e.symm)
      rw [h.1] at this; cases this
  | succ f ih =>
    intro listed ρ w hsz hc hi ht hy hS h
    refine ⟨fun e => (by rw [e] at hi; cases hi), fun j hj oj hoj => ?_⟩
    by_cases hji : j = i
    · subst hji
      rw [ho] at hoj; cases hoj
      unfold denI
      cases hw : Region.wanted o (yl ops ρ) with
      | true =>
        rw [if_pos rfl]; unfold opW
        rw [hy.1 hw w hS]
        exact ⟨fun _ => hS, h⟩
      | false =>
        rw [if_neg (by simp)]
        rw [← hy.2 hw]
        exact ⟨fun _ => hS, h⟩
    · have hjr := ready_spec hj
      have hir := ready_spec hi
      have htj := List.all_eq_true.1 ht j (by simpa using hjr.1)
      have hbj := closed_ready hsz hb hc hj hir.1 hir.2.1
      rw [hjr.2.1, hbj, ho, hoj] at htj
      simp only [Bool.false_or, Bool.or_eq_true, beq_iff_eq, hji, false_or, Bool.and_eq_true, Bool.false_eq_true, or_false] at htj
      obtain ⟨hn, ⟨hsi, hsj⟩, hap⟩ := htj
      have hap := Oper.apart_spec hap
      have hh := h.2 j (ready_set hj (fun e => hji e.symm)) oj hoj
      refine denI_mono ?_ (denI_apart (noSel_spec hsj) hap.1 hap.2.1 hh)
      intro u w' ⟨hSw, hk⟩
      refine ⟨fun _ => hSw hn, ?_⟩
      refine ih (listed.setIfInBounds j true) (put ρ oj.dst u) w' (by simpa using hsz) (closed_set hsz hb hc hj) (ready_set hi hji) (takeOk_set ht) (hy.apart (noSel_spec hsi) hap.2.2) (hSw hn) ?_
      rw [Array.setIfInBounds_comm _ _ hji]
      exact hk

/-- The order in which a region is walked: of each operation its number, whether it only reads, whether S has to be shown behind it. -/
def denS (P : Program) (ops : Array Oper) (S : World → Prop) (K : Env → World → Prop) : List (Nat × Bool × Bool) → Env → World → Prop
  | [], ρ, w => K ρ w
  | (i, true, _) :: r, ρ, w => ∃ o v, ops[i]? = some o ∧ YS P ops S o ρ v ∧ S w ∧ denS P ops S K r (put ρ o.dst v) w
  | (i, false, n) :: r, ρ, w => ∃ o, ops[i]? = some o ∧ denI P ops o ρ w (fun ρ' w' => (n = true → S w') ∧ denS P ops S K r ρ' w')
def needOf (ord : List (Nat × Bool × Bool)) (j : Nat) : Bool := ord.any fun p => p.1 == j && (p.2.1 || p.2.2)
def chkS (ops : Array Oper) (bef : Array Nat) (need : Nat → Bool) : List (Nat × Bool × Bool) → Array Bool → Bool
  | [], listed => (Region.ready .any ops listed).isEmpty
  | (i, true, _) :: r, listed => (Region.ready .any ops listed).contains i && takeOk ops bef need listed i && chkS ops bef need r (listed.setIfInBounds i true)
  | (i, false, n) :: r, listed => (Region.ready .any ops listed == [i]) && (need i == n) && chkS ops bef need r (listed.setIfInBounds i true)

theorem denS_sound {bef : Array Nat} (hb : befOk ops bef = true) : ∀ (r : List (Nat × Bool × Bool)) (f : Nat) (listed : Array Bool) (ρ : Env) (w : World), r.length = f → listed.size = ops.size → closed ops bef listed → chkS ops bef need r listed = true →
    denS P ops S K r ρ w → denN P ops S need f listed ρ w K
  | [], 0, listed, ρ, w, _, _, _, hc, h => ⟨by simpa [chkS] using hc, h⟩
  | (i, true, n) :: r, f + 1, listed, ρ, w, hl, hsz, hcl, hc, h => by
    simp only [chkS, Bool.and_eq_true, List.contains_iff_mem] at hc
    obtain ⟨⟨hi, ht⟩, hr⟩ := hc
    obtain ⟨o, v, ho, hy, hS, h⟩ := h
    exact denN_take hb ho f listed ρ w hsz hcl hi ht hy hS (denS_sound hb r f _ _ w (by simpa using hl) (by simpa using hsz) (closed_set hsz hb hcl hi) hr h)
  | (i, false, n) :: r, f + 1, listed, ρ, w, hl, hsz, hcl, hc, h => by
    simp only [chkS, Bool.and_eq_true, beq_iff_eq] at hc
    obtain ⟨⟨hi, hn⟩, hr⟩ := hc
    obtain ⟨o, ho, h⟩ := h
    refine ⟨fun e => (by rw [e] at hi; cases hi), fun j hj oj hoj => ?_⟩
    have hmem : i ∈ Region.ready .any ops listed := by rw [hi]; exact .head _
    rw [hi] at hj
    simp only [List.mem_singleton] at hj
    subst hj
    rw [ho] at hoj; cases hoj
    refine denI_mono ?_ h
    intro u w' ⟨hSw, hk⟩
    exact ⟨fun hh => hSw (hn ▸ hh), denS_sound hb r f _ _ w' (by simpa using hl) (by simpa using hsz) (closed_set hsz hb hcl hmem) hr hk⟩

def drawOk (ops : Array Oper) (ord : List (Nat × Bool × Bool)) : Bool :=
  befOk ops (Region.before ops) && (ord.length == ops.size) && chkS ops (Region.before ops) (needOf ord) ord (Array.replicate ops.size false)
theorem den_draw {id : Nat} {ρ : Env} {w : World} {Q : Exit → Env → World → Prop} (S : World → Prop) (ord : List (Nat × Bool × Bool)) (hchk : drawOk ops ord = true) (h : ∀ w', w' = { w with drawn := w.drawn + 1 } → denS P ops S (Q .normal) ord ρ w') :
    den P (.region id ops true) ρ w Q := by
  simp only [drawOk, Bool.and_eq_true, beq_iff_eq] at hchk
  obtain ⟨⟨hb, hl⟩, hc⟩ := hchk
  refine denN_sound (S := S) (need := needOf ord) _ _ _ _ (denS_sound hb ord _ _ _ _ hl (by simp) ?_ hc (h _ rfl))
  intro p hp hlp
  simp [hp] at hlp
end

/-- Which operations only read. -/
def quietOp : Op → Bool
  | .store .. | .entryStore .. | .mapUpdate .. | .mapEntry .. | .insert .. | .alloc _ | .box .. | .buildSlice .. | .makeSlice .. | .makeMap .. | .makeChan .. | .range .. | .next .. | .entry _ | .go _ | .defer _ | .panic _ | .send .. | .recv .. | .select .. | .ready _ | .waits _ => false
  | .call { callee := .builtin b, .. } => match b with | .len | .cap | .max | .min | .real | .imag => true | _ => false
  | .call _ => false
  | _ => true
/-- The order: what only reads as soon as it may come; an effect where nothing else may. -/
def mkOrd (ops : Array Oper) (bef : Array Nat) : (fuel : Nat) → Array Bool → List (Nat × Bool)
  | 0, _ => []
  | f + 1, listed =>
    let r := Region.ready .any ops listed
    match r.find? (fun i => ((ops[i]?).map fun o => quietOp o.op).getD false) with
    | some i => (i, true) :: mkOrd ops bef f (listed.setIfInBounds i true)
    | none => match r with
      | i :: _ => (i, false) :: mkOrd ops bef f (listed.setIfInBounds i true)
      | [] => []
def theOrd (ops : Array Oper) : List (Nat × Bool × Bool) :=
  let bef := Region.before ops
  let l := mkOrd ops bef ops.size (Array.replicate ops.size false)
  l.map fun (j, q) => (j, q, !q && l.any fun (i, q') => q' && i != j && !(bef.getD j 0).testBit i)

section rules
variable {P : Program} {ops : Array Oper} {S : World → Prop} {K : Env → World → Prop} {r : List (Nat × Bool × Bool)} {ρ : Env} {w : World} {i : Nat} {dst : Option Nat} {op : Op} {ty : TypeId} {pos : String} {after : Array Edge} {n : Bool}
theorem ds_nil (h : K ρ w) : denS P ops S K [] ρ w := h
theorem ds_pv {v : Value} (ho : ops[i]? = some ⟨dst, op, ty, pos, after, none⟩) (h : PV P op ρ v) (hS : S w) (k : denS P ops S K r (put ρ dst v) w) : denS P ops S K ((i, true, n) :: r) ρ w :=
  ⟨_, v, ho, ⟨fun _ w' _ => h _ w' rfl, fun e => by cases e⟩, hS, k⟩
theorem ds_gy {j : Nat} {b : Bool} {v : Value} (ho : ops[i]? = some ⟨dst, op, ty, pos, after, some (j, b)⟩) (hg : yl ops ρ j = some b) (h : PV P op ρ v) (hS : S w) (k : denS P ops S K r (put ρ dst v) w) : denS P ops S K ((i, true, n) :: r) ρ w :=
  ⟨_, v, ho, ⟨fun _ w' _ => h _ w' rfl, fun e => by simp [Region.wanted, hg] at e⟩, hS, k⟩
theorem ds_gn {j : Nat} {b : Bool} (ho : ops[i]? = some ⟨dst, op, ty, pos, after, some (j, b)⟩) (hg : yl ops ρ j = some (!b)) (hS : S w) (k : denS P ops S K r (put ρ dst undef) w) : denS P ops S K ((i, true, n) :: r) ρ w :=
  ⟨_, undef, ho, ⟨fun e => by simp [Region.wanted, hg] at e, fun _ => rfl⟩, hS, k⟩
/-- An operation that reads: in every world that meets S. -/
theorem ds_rd {v : Value} (ho : ops[i]? = some ⟨dst, op, ty, pos, after, none⟩) (h : ∀ w', S w' → denOps P ops [⟨dst, op, ty, pos, after, none⟩] ρ w' (fun ρ' w'' => w'' = w' ∧ ρ' = put ρ dst v ∧ (execOp (ev ρ) ⟨dst, op, ty, pos, after, none⟩).run P w' = .ok (.value v) w')) (hS : S w) (k : denS P ops S K r (put ρ dst v) w) : denS P ops S K ((i, true, n) :: r) ρ w := by
  refine ⟨_, v, ho, ⟨fun _ w' hS' => ?_, fun e => by cases e⟩, hS, k⟩
  have := h w' hS'
  have h : denI P ops _ ρ w' _ := this
  unfold denI at h
  rw [if_pos (by rfl)] at h
  unfold opW at h
  cases hr : (execOp (ev ρ) ⟨dst, op, ty, pos, after, none⟩).run P w' with
  | halt x w'' => rw [hr] at h; exact h.elim
  | ok x w'' =>
    rw [hr] at h
    cases x <;> simp only [After, denOps] at h <;> first
      | exact h.2.2
      | exact h.elim
      | (obtain ⟨e, w3, fr, ⟨u, _, _, _, hh⟩, _⟩ := h []
         exact hh)
/-- A load. -/
theorem ds_load {w0 : World} {L L' : List Asrt} {x : Operand} {b o E T : Nat} {c : Array Value} {v : Value} [hs : TyScal P T] (ho : ops[i]? = some ⟨dst, .load T x, ty, pos, after, none⟩) (hx : ev ρ x = .pointer (some ⟨b, o, none⟩)) (HS : ∀ w', S w' → St w0 w' L) (hm : Has L (cl b c E) L') (hv : c[o]? = some v) (hS : S w)
    (k : denS P ops S K r (put ρ dst v) w) : denS P ops S K ((i, true, n) :: r) ρ w := by
  refine ⟨_, v, ho, ⟨fun _ w' hS' => ?_, fun e => by cases e⟩, hS, k⟩
  have hr : (Instr.loadAt T (ev ρ x)).run P w' = .ok v w' := by
    rw [hx]; unfold Instr.loadAt
    rw [run_bind P _ _ w' w' _ rfl]; unfold loadVar
    rw [run_bind P _ _ w' w' _ (run_isAgg hs.h)]
    exact run_load1 ((HS w' hS').pick hm).cl_get hv
  exact op_run_value hr
theorem ds_load_gy {w0 : World} {L L' : List Asrt} {x : Operand} {b o E T j : Nat} {bb : Bool} {c : Array Value} {v : Value} [hs : TyScal P T] (ho : ops[i]? = some ⟨dst, .load T x, ty, pos, after, some (j, bb)⟩) (hg : yl ops ρ j = some bb) (hx : ev ρ x = .pointer (some ⟨b, o, none⟩)) (HS : ∀ w', S w' → St w0 w' L) (hm : Has L (cl b c E) L') (hv : c[o]? = some v) (hS : S w)
    (k : denS P ops S K r (put ρ dst v) w) : denS P ops S K ((i, true, n) :: r) ρ w := by
  refine ⟨_, v, ho, ⟨fun _ w' hS' => ?_, fun e => by simp [Region.wanted, hg] at e⟩, hS, k⟩
  have hr : (Instr.loadAt T (ev ρ x)).run P w' = .ok v w' := by
    rw [hx]; unfold Instr.loadAt
    rw [run_bind P _ _ w' w' _ rfl]; unfold loadVar
    rw [run_bind P _ _ w' w' _ (run_isAgg hs.h)]
    exact run_load1 ((HS w' hS').pick hm).cl_get hv
  exact op_run_value hr
/-- An effect: as in a list that holds it alone. -/
theorem ds_eff {o : Oper} (ho : ops[i]? = some o) (h : denOps P ops [o] ρ w (fun ρ' w' => (n = true → S w') ∧ denS P ops S K r ρ' w')) : denS P ops S K ((i, false, n) :: r) ρ w := ⟨o, ho, h⟩
end rules
end Go.Sl
