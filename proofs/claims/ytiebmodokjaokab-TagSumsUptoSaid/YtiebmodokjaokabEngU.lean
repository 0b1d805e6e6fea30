/- The engine over pieces alone: regions whose order is drawn. What only reads comes as soon as it may, what makes a block of its own as late as it may; of what does more, one at a time, or both orders. -/
import Derived.Test.YtiebmodokjaokabEngT
set_option linter.unusedVariables false
set_option linter.unusedSimpArgs false
namespace Go.Sl
open Go

inductive Ord
  | nil
  | q (i : Nat) (r : Ord)
  | r (i : Nat) (r : Ord)
  | e (i : Nat) (n : Bool) (r : Ord)
  | a (i : Nat) (r : Ord)
  | alt (x y : Ord)

section
variable {P : Program} {ops : Array Oper} {w0 : World} {F0 : Asrt} {SM : List Asrt} {KW : Env → World → Prop}
def SMw (w0 : World) (SM : List Asrt) (w : World) : Prop := ∃ F, St w0 w (F :: SM)
def CX (P : Program) (w0 : World) (F0 : Asrt) (ops : Array Oper) (SM : List Asrt) (KW : Env → World → Prop) : Ord → Env → List Asrt → Prop
  | .nil, ρ, M => ∀ w, St w0 w (F0 :: M) → KW ρ w
  | .q i r, ρ, M => ∃ o v, ops[i]? = some o ∧ YS P ops (fun _ => True) o ρ v ∧ CX P w0 F0 ops SM KW r (put ρ o.dst v) M
  | .r i r, ρ, M => ∃ o v, ops[i]? = some o ∧ YS P ops (SMw w0 SM) o ρ v ∧ CX P w0 F0 ops SM KW r (put ρ o.dst v) M
  | .e i n r, ρ, M => ∃ o, ops[i]? = some o ∧ ∀ F w, St w0 w (F :: M) → denI P ops o ρ w (fun ρ' w' => ∃ M', St w0 w' (F :: M') ∧ (n = true → Imp M' SM) ∧ CX P w0 F0 ops SM KW r ρ' M')
  | .a i r, ρ, M => ∃ d T ty pos z, ops[i]? = some ⟨some d, .alloc T, ty, pos, #[], none⟩ ∧ (∃ n by', TyI P T n by' z) ∧ ∀ b, CX P w0 F0 ops SM KW r (put ρ (some d) (.pointer (some ⟨b, 0, none⟩))) (cl b z.cells T :: M)
  | .alt x y, ρ, M => CX P w0 F0 ops SM KW x ρ M ∧ CX P w0 F0 ops SM KW y ρ M

theorem CX_mono : ∀ (r : Ord) {ρ : Env} {M N : List Asrt}, Imp N M → CX P w0 F0 ops SM KW r ρ M → CX P w0 F0 ops SM KW r ρ N
  | .nil, ρ, M, N, hi, h => fun w H => h w (H.enx hi)
  | .q i r, ρ, M, N, hi, h => by obtain ⟨o, v, h1, h2, h3⟩ := h; exact ⟨o, v, h1, h2, CX_mono r hi h3⟩
  | .r i r, ρ, M, N, hi, h => by obtain ⟨o, v, h1, h2, h3⟩ := h; exact ⟨o, v, h1, h2, CX_mono r hi h3⟩
  | .e i n r, ρ, M, N, hi, h => by obtain ⟨o, h1, h2⟩ := h; exact ⟨o, h1, fun F w H => h2 F w (H.enx hi)⟩
  | .a i r, ρ, M, N, hi, h => by obtain ⟨d, T, ty, pos, z, h1, h2, h3⟩ := h; exact ⟨d, T, ty, pos, z, h1, h2, fun b => CX_mono r hi.cons (h3 b)⟩
  | .alt x y, ρ, M, N, hi, h => ⟨CX_mono x hi h.1, CX_mono y hi h.2⟩

theorem denI_apart' {o : Oper} {ρ : Env} {w : World} {d : Option Nat} {v : Value} {X : Env → World → Prop} (hs : ∀ cs b, o.op ≠ .select cs b) (h1 : ∀ k, d = some k → k ∉ o.looksAt ops) (h2 : ∀ k, d = some k → o.dst ≠ some k)
    (h : denI P ops o ρ w (fun ρ' w' => X (put ρ' d v) w')) : denI P ops o (put ρ d v) w X := by
  unfold denI at *
  rw [wanted_apart h1]
  split
  · rename_i hw
    rw [if_pos hw] at h
    unfold opW at *
    rw [exec_apart hs h1]
    cases hr : (execOp (ev ρ) o).run P w with
    | halt x w' => rw [hr] at h; exact h.elim
    | ok x w' =>
      rw [hr] at h
      cases x <;> simp only [After] at h ⊢ <;> first
        | (rw [put_comm h2]; exact h)
        | (refine Calls.mono h (Ret.mono fun u w'' hq => ?_)
           rw [put_comm h2]; exact hq)
        | exact h.elim
  · rename_i hw
    rw [if_neg hw] at h
    rw [put_comm h2]; exact h

theorem YS.apart' {S : World → Prop} {o : Oper} {ρ : Env} {v u : Value} {d : Option Nat} (hs : ∀ cs b, o.op ≠ .select cs b) (h1 : ∀ k, d = some k → k ∉ o.looksAt ops) (h : YS P ops S o ρ v) : YS P ops S o (put ρ d u) v := by
  unfold YS at *
  rw [wanted_apart h1, exec_apart hs h1]
  exact h
theorem TyI.zero_eq {T n n' by' by2 : Nat} {z z' : Value} (h : TyI P T n by' z) (h' : TyI P T n' by2 z') : z = z' := by
  obtain ⟨i, hi, _, _, hz⟩ := h.out
  obtain ⟨j, hj, _, _, hz'⟩ := h'.out
  rw [hi] at hj; cases hj
  rw [hz] at hz'; cases hz'; rfl

def del (a : Nat) : Ord → Ord
  | .nil => .nil
  | .q i r => .q i (del a r)
  | .r i r => .r i (del a r)
  | .e i n r => .e i n (del a r)
  | .a i r => bif Nat.beq i a then r else .a i (del a r)
  | .alt x y => .alt (del a x) (del a y)
/-- Nothing ahead of the making of a looks at its slot d, or writes it. -/
def apO (ops : Array Oper) (d i : Nat) : Bool := match ops[i]? with
  | some o => noSel o && !((o.looksAt ops).contains d) && (o.dst != some d)
  | none => false
def apA (ops : Array Oper) (d a : Nat) : Ord → Bool
  | .nil => false
  | .q i r => apO ops d i && apA ops d a r
  | .r i r => apO ops d i && apA ops d a r
  | .e i _ r => apO ops d i && apA ops d a r
  | .a i r => bif Nat.beq i a then true else (apO ops d i && apA ops d a r)
  | .alt x y => apA ops d a x && apA ops d a y
theorem apO_spec {d i : Nat} {o : Oper} (ho : ops[i]? = some o) (h : apO ops d i = true) : (∀ cs b, o.op ≠ .select cs b) ∧ (∀ k, some d = some k → k ∉ o.looksAt ops) ∧ (∀ k, some d = some k → o.dst ≠ some k) := by
  unfold apO at h
  rw [ho] at h
  simp only [Bool.and_eq_true, Bool.not_eq_true', bne_iff_ne, ne_eq] at h
  refine ⟨noSel_spec h.1.1, fun k hk => ?_, fun k hk => ?_⟩
  · cases hk; have := h.1.2; simpa using this
  · cases hk; exact h.2
theorem early {a d T : Nat} {ty : TypeId} {pos : String} {z : Value} {n by' : Nat} (ho : ops[a]? = some ⟨some d, .alloc T, ty, pos, #[], none⟩) (hz : TyI P T n by' z) (b : Nat) : ∀ (r : Ord) {ρ : Env} {M : List Asrt}, apA ops d a r = true →
    CX P w0 F0 ops SM KW r ρ M → CX P w0 F0 ops SM KW (del a r) (put ρ (some d) (.pointer (some ⟨b, 0, none⟩))) (cl b z.cells T :: M)
  | .nil, ρ, M, ha, h => by simp [apA] at ha
  | .q i r, ρ, M, ha, h => by
    simp only [apA, Bool.and_eq_true] at ha
    obtain ⟨o, v, h1, h2, h3⟩ := h
    obtain ⟨s1, s2, s3⟩ := apO_spec h1 ha.1
    refine ⟨o, v, h1, h2.apart' s1 s2, ?_⟩
    rw [put_comm s3]
    exact early ho hz b r ha.2 h3
  | .r i r, ρ, M, ha, h => by
    simp only [apA, Bool.and_eq_true] at ha
    obtain ⟨o, v, h1, h2, h3⟩ := h
    obtain ⟨s1, s2, s3⟩ := apO_spec h1 ha.1
    refine ⟨o, v, h1, h2.apart' s1 s2, ?_⟩
    rw [put_comm s3]
    exact early ho hz b r ha.2 h3
  | .e i m r, ρ, M, ha, h => by
    simp only [apA, Bool.and_eq_true] at ha
    obtain ⟨o, h1, h2⟩ := h
    obtain ⟨s1, s2, s3⟩ := apO_spec h1 ha.1
    refine ⟨o, h1, fun F w H => denI_apart' s1 s2 s3 ?_⟩
    have H2 : St w0 w (all [F, cl b z.cells T] :: M) := H.ent (Imp.app (L := [F, cl b z.cells T]))
    refine denI_mono ?_ (h2 _ w H2)
    rintro v w' ⟨M', H', hn, hk⟩
    exact ⟨cl b z.cells T :: M', H'.ent Imp.unapp, fun e => Imp.tail.trans (hn e), early ho hz b r ha.2 hk⟩
  | .a i r, ρ, M, ha, h => by
    obtain ⟨d', T', ty', pos', z', h1, h2, h3⟩ := h
    simp only [apA, del] at ha ⊢
    cases hia : Nat.beq i a with
    | true =>
      have e := Nat.eq_of_beq_eq_true hia
      subst e
      rw [ho] at h1
      cases h1
      obtain ⟨n', by2, hz'⟩ := h2
      have e := hz.zero_eq hz'
      subst e
      exact h3 b
    | false =>
      rw [hia] at ha
      simp only [cond_false, Bool.and_eq_true] at ha ⊢
      obtain ⟨s1, s2, s3⟩ := apO_spec h1 ha.1
      refine ⟨d', T', ty', pos', z', h1, h2, fun b' => ?_⟩
      have s3' : ∀ k, some d = some k → some d' ≠ some k := s3
      rw [put_comm s3']
      exact CX_mono _ Imp.swap (early ho hz b r ha.2 (h3 b'))
  | .alt x y, ρ, M, ha, h => by
    simp only [apA, Bool.and_eq_true] at ha
    exact ⟨early ho hz b x ha.1 h.1, early ho hz b y ha.2 h.2⟩

/-- i may be taken now: all that could come ahead of it leaves its slots alone. -/
def takeP (ops : Array Oper) (bef : Array Nat) (listed : Array Bool) (i : Nat) : Bool :=
  (List.range ops.size).all fun j => listed.getD j true || j == i || (bef.getD j 0).testBit i ||
    ((match ops[i]?, ops[j]? with | some oi, some oj => noSel oi && noSel oj && oi.apart ops oj | _, _ => false))
theorem takeP_set {bef : Array Nat} {listed : Array Bool} {i j : Nat} (h : takeP ops bef listed i = true) : takeP ops bef (listed.setIfInBounds j true) i = true := by
  refine List.all_eq_true.2 fun k hk => ?_
  have := List.all_eq_true.1 h k hk
  simp only [Bool.or_eq_true] at this ⊢
  rw [getD_set]
  split
  · exact .inl (.inl (.inl rfl))
  · exact this
variable {S : World → Prop} {need : Nat → Bool} {K : Env → World → Prop}
theorem denN_takeP {bef : Array Nat} (hb : befOk ops bef = true) {i : Nat} {o : Oper} {v : Value} (ho : ops[i]? = some o) : ∀ (f : Nat) (listed : Array Bool) (ρ : Env) (w : World), listed.size = ops.size → closed ops bef listed →
    i ∈ Region.ready .any ops listed → takeP ops bef listed i = true → (need i = true → ∀ w, S w) ∨ need i = false → YS P ops (fun _ => True) o ρ v → denN P ops S need f (listed.setIfInBounds i true) (put ρ o.dst v) w K → denN P ops S need (f + 1) listed ρ w K := by
  intro f
  induction f with
  | zero =>
    intro listed ρ w hsz hc hi ht hnd hy h
    refine ⟨fun e => (by rw [e] at hi; cases hi), fun j hj oj hoj => ?_⟩
    by_cases hji : j = i
    · subst hji
      rw [ho] at hoj; cases hoj
      have hS : need j = true → S w := fun e => by
        rcases hnd with h | h
        · exact h e w
        · rw [h] at e; cases e
      unfold denI
      cases hw : Region.wanted o (yl ops ρ) with
      | true =>
        rw [if_pos rfl]; unfold opW
        rw [hy.1 hw w trivial]
        exact ⟨hS, h⟩
      | false =>
        rw [if_neg (by simp)]
        rw [← hy.2 hw]
        exact ⟨hS, h⟩
    · have := ready_set (i := j) (j := i) hj (fun e => hji e.symm)
      rw [h.1] at this; cases this
  | succ f ih =>
    intro listed ρ w hsz hc hi ht hnd hy h
    refine ⟨fun e => (by rw [e] at hi; cases hi), fun j hj oj hoj => ?_⟩
    by_cases hji : j = i
    · subst hji
      rw [ho] at hoj; cases hoj
      have hS : need j = true → S w := fun e => by
        rcases hnd with h | h
        · exact h e w
        · rw [h] at e; cases e
      unfold denI
      cases hw : Region.wanted o (yl ops ρ) with
      | true =>
        rw [if_pos rfl]; unfold opW
        rw [hy.1 hw w trivial]
        exact ⟨hS, h⟩
      | false =>
        rw [if_neg (by simp)]
        rw [← hy.2 hw]
        exact ⟨hS, h⟩
    · have hjr := ready_spec hj
      have hir := ready_spec hi
      have htj := List.all_eq_true.1 ht j (by simpa using hjr.1)
      have hbj := closed_ready hsz hb hc hj hir.1 hir.2.1
      rw [hjr.2.1, hbj, ho, hoj] at htj
      simp only [Bool.false_or, Bool.or_eq_true, beq_iff_eq, hji, false_or, Bool.and_eq_true, Bool.false_eq_true, or_false] at htj
      obtain ⟨⟨hsi, hsj⟩, hap⟩ := htj
      have hap := Oper.apart_spec hap
      have hh := h.2 j (ready_set hj (fun e => hji e.symm)) oj hoj
      refine denI_mono ?_ (denI_apart (noSel_spec hsj) hap.1 hap.2.1 hh)
      intro u w' ⟨hSw, hk⟩
      refine ⟨hSw, ?_⟩
      refine ih (listed.setIfInBounds j true) (put ρ oj.dst u) w' (by simpa using hsz) (closed_set hsz hb hc hj) (ready_set hi hji) (takeP_set ht) hnd (hy.apart (noSel_spec hsi) hap.2.2) ?_
      rw [Array.setIfInBounds_comm _ _ hji]
      exact hk

def isFl (ops : Array Oper) (j : Nat) : Option Nat := match ops[j]? with
  | some ⟨some d, .alloc _, _, _, after, none⟩ => if after.size = 0 then some d else none
  | _ => none
def heads : Ord → List Nat
  | .e i _ _ => [i]
  | .a i _ => [i]
  | .alt x y => heads x ++ heads y
  | _ => []
def brs (ops : Array Oper) (nd : List Nat) (ck : Bool → Ord → Array Bool → Bool) (s : Bool) : Ord → Array Bool → Bool
  | .e i n r, listed => (nd.contains i == n) && ck n r (listed.setIfInBounds i true)
  | .a i r, listed => (isFl ops i).isSome && (!nd.contains i || s) && ck s r (listed.setIfInBounds i true)
  | .alt x y, listed => brs ops nd ck s x listed && brs ops nd ck s y listed
  | _, _ => false
/-- The order serves: nd tells behind which operations S holds, s whether it holds now. -/
def chkX (ops : Array Oper) (bef : Array Nat) (nd : List Nat) : Nat → Bool → Ord → Array Bool → Bool
  | 0, _, .nil, listed => (Region.ready .any ops listed).isEmpty
  | 0, _, _, _ => false
  | _ + 1, _, .nil, _ => false
  | f + 1, s, .q i r, listed => (Region.ready .any ops listed).contains i && takeP ops bef listed i && !nd.contains i && chkX ops bef nd f s r (listed.setIfInBounds i true)
  | f + 1, s, .r i r, listed => (Region.ready .any ops listed).contains i && s && takeOk ops bef nd.contains listed i && chkX ops bef nd f s r (listed.setIfInBounds i true)
  | f + 1, s, o, listed =>
    ((Region.ready .any ops listed).all fun j => (heads o).contains j || (match isFl ops j with
        | some d => apA ops d j o && (!nd.contains j || s) && chkX ops bef nd f s (del j o) (listed.setIfInBounds j true)
        | none => false)) &&
      !(Region.ready .any ops listed).isEmpty && brs ops nd (chkX ops bef nd f) s o listed
theorem isFl_spec {j d : Nat} (h : isFl ops j = some d) : ∃ T ty pos, ops[j]? = some ⟨some d, .alloc T, ty, pos, #[], none⟩ := by
  unfold isFl at h
  split at h
  · rename_i d' T ty pos after ho
    split at h
    · rename_i hz
      cases h
      have : after = #[] := Array.eq_empty_of_size_eq_zero hz
      subst this
      exact ⟨T, ty, pos, ho⟩
    · cases h
  · cases h
theorem brs_head {nd : List Nat} {ck : Bool → Ord → Array Bool → Bool} {s : Bool} {listed : Array Bool} {j : Nat} : ∀ (r : Ord) {ρ : Env} {M : List Asrt}, brs ops nd ck s r listed = true → (heads r).contains j = true → CX P w0 F0 ops SM KW r ρ M →
    (∃ n r', (nd.contains j == n) = true ∧ ck n r' (listed.setIfInBounds j true) = true ∧ CX P w0 F0 ops SM KW (.e j n r') ρ M) ∨
    (∃ r', (isFl ops j).isSome = true ∧ (!nd.contains j || s) = true ∧ ck s r' (listed.setIfInBounds j true) = true ∧ CX P w0 F0 ops SM KW (.a j r') ρ M)
  | .nil, ρ, M, hb, hj, h => by simp [heads] at hj
  | .q i r, ρ, M, hb, hj, h => by simp [heads] at hj
  | .r i r, ρ, M, hb, hj, h => by simp [heads] at hj
  | .e i n r, ρ, M, hb, hj, h => by
    simp only [heads, List.contains_cons, List.contains_nil, Bool.or_false, beq_iff_eq] at hj
    subst hj
    simp only [brs, Bool.and_eq_true] at hb
    exact .inl ⟨n, r, hb.1, hb.2, h⟩
  | .a i r, ρ, M, hb, hj, h => by
    simp only [heads, List.contains_cons, List.contains_nil, Bool.or_false, beq_iff_eq] at hj
    subst hj
    simp only [brs, Bool.and_eq_true] at hb
    exact .inr ⟨r, hb.1.1, hb.1.2, hb.2, h⟩
  | .alt x y, ρ, M, hb, hj, h => by
    simp only [brs, Bool.and_eq_true] at hb
    simp only [heads, List.contains_eq_mem, List.mem_append, decide_eq_true_eq] at hj
    rcases hj with hj | hj
    · exact brs_head x hb.1 (by simpa using hj) h.1
    · exact brs_head y hb.2 (by simpa using hj) h.2
theorem alloc_den {T d : Nat} {ty : TypeId} {pos : String} {z : Value} {n by' : Nat} {ρ : Env} {w : World} {L : List Asrt} {K : Env → World → Prop} (hz : TyI P T n by' z) (H : St w0 w L)
    (k : ∀ w' b, St w0 w' (cl b z.cells T :: L) → K (put ρ (some d) (.pointer (some ⟨b, 0, none⟩))) w') : denI P ops ⟨some d, .alloc T, ty, pos, #[], none⟩ ρ w K := by
  have h : denOps P ops [⟨some d, .alloc T, ty, pos, #[], none⟩] ρ w K := d_alloc (hi := hz) H (fun w' b H' => d_nil (k w' b H'))
  exact h
/-- All blocks that a region makes for itself have a type with a zero. -/
def zOk (P : Program) (ops : Array Oper) : Prop := ∀ (j d : Nat), isFl ops j = some d → ∀ T ty pos, ops[j]? = some ⟨some d, .alloc T, ty, pos, #[], none⟩ → ∃ n by' z, TyI P T n by' z
theorem CX_sound {bef : Array Nat} {nd : List Nat} (hb : befOk ops bef = true) (hz : zOk P ops) : ∀ (f : Nat) (s : Bool) (r : Ord) (listed : Array Bool) (ρ : Env) (w : World) (M : List Asrt), listed.size = ops.size → closed ops bef listed →
    chkX ops bef nd f s r listed = true → (s = true → Imp M SM) → St w0 w (F0 :: M) → CX P w0 F0 ops SM KW r ρ M → denN P ops (SMw w0 SM) nd.contains f listed ρ w KW := by
  intro f
  induction f with
  | zero =>
    intro s r listed ρ w M hsz hcl hc hs H h
    cases r <;> simp only [chkX, Bool.false_eq_true] at hc
    exact ⟨by simpa using hc, h w H⟩
  | succ f ih =>
    intro s r listed ρ w M hsz hcl hc hs H h
    have key : ∀ o : Ord, (((Region.ready .any ops listed).all fun j => (heads o).contains j || (match isFl ops j with
        | some d => apA ops d j o && (!nd.contains j || s) && chkX ops bef nd f s (del j o) (listed.setIfInBounds j true)
        | none => false)) &&
      !(Region.ready .any ops listed).isEmpty && brs ops nd (chkX ops bef nd f) s o listed) = true → CX P w0 F0 ops SM KW o ρ M → denN P ops (SMw w0 SM) nd.contains (f + 1) listed ρ w KW := by
      intro o hc h
      simp only [Bool.and_eq_true] at hc
      obtain ⟨⟨hall, hne⟩, hbr⟩ := hc
      refine ⟨fun e => (by rw [e] at hne; simp at hne), fun j hj oj hoj => ?_⟩
      have hcl' := closed_set hsz hb hcl hj
      have hsz' : (listed.setIfInBounds j true).size = ops.size := by simpa using hsz
      have hjc := List.all_eq_true.1 hall j hj
      by_cases hh : (heads o).contains j = true
      · rcases brs_head o hbr hh h with ⟨n, r', h1, h2, o', h3, h4⟩ | ⟨r', h1, h2, h3, d, T, ty, pos, z, h4, ⟨n', by', h5⟩, h6⟩
        · rw [hoj] at h3; cases h3
          refine denI_mono ?_ (h4 F0 w H)
          rintro u w' ⟨M', H', hn, hk⟩
          refine ⟨fun e => ⟨F0, H'.enx (hn ?_)⟩, ih n r' _ _ _ M' hsz' hcl' h2 hn H' hk⟩
          have := eq_of_beq h1
          rw [← this]; exact e
        · rw [hoj] at h4; cases h4
          refine alloc_den h5 H ?_
          intro w' b H'
          have H2 := H'.swap
          have hs' : s = true → Imp (cl b z.cells T :: M) SM := fun e => Imp.tail.trans (hs e)
          refine ⟨fun e => ⟨F0, H2.enx (hs' ?_)⟩, ih s r' _ _ _ _ hsz' hcl' h3 hs' H2 (h6 b)⟩
          rw [e] at h2; simpa using h2
      · rw [Bool.or_eq_true] at hjc
        rcases hjc with hjc | hjc
        · exact absurd hjc hh
        · split at hjc
          · rename_i d hd
            obtain ⟨T, ty, pos, ho⟩ := isFl_spec hd
            rw [hoj] at ho; cases ho
            simp only [Bool.and_eq_true] at hjc
            obtain ⟨⟨ha, hnd⟩, hck⟩ := hjc
            obtain ⟨n', by', z, h5⟩ := hz j d hd T ty pos hoj
            refine alloc_den h5 H ?_
            intro w' b H'
            have H2 := H'.swap
            have hs' : s = true → Imp (cl b z.cells T :: M) SM := fun e => Imp.tail.trans (hs e)
            refine ⟨fun e => ⟨F0, H2.enx (hs' ?_)⟩, ih s (del j o) _ _ _ _ hsz' hcl' hck hs' H2 (early hoj h5 b o ha h)⟩
            rw [e] at hnd; simpa using hnd
          · cases hjc
    cases r with
    | nil => simp [chkX] at hc
    | q i r =>
      simp only [chkX, Bool.and_eq_true, List.contains_iff_mem] at hc
      obtain ⟨⟨⟨hi, ht⟩, hn⟩, hr⟩ := hc
      obtain ⟨o, v, ho, hy, h⟩ := h
      exact denN_takeP hb ho f listed ρ w hsz hcl hi ht (.inr (by simpa using hn)) hy (ih s r _ _ w M (by simpa using hsz) (closed_set hsz hb hcl hi) hr hs H h)
    | r i r =>
      simp only [chkX, Bool.and_eq_true, List.contains_iff_mem] at hc
      obtain ⟨⟨⟨hi, hsT⟩, ht⟩, hr⟩ := hc
      obtain ⟨o, v, ho, hy, h⟩ := h
      exact denN_take hb ho f listed ρ w hsz hcl hi ht hy ⟨F0, H.enx (hs hsT)⟩ (ih s r _ _ w M (by simpa using hsz) (closed_set hsz hb hcl hi) hr hs H h)
    | e i n r => exact key _ (by simpa only [chkX] using hc) h
    | a i r => exact key _ (by simpa only [chkX] using hc) h
    | alt x y => exact key _ (by simpa only [chkX] using hc) h

def drawX (ops : Array Oper) (nd : List Nat) (r : Ord) : Bool :=
  befOk ops (Region.before ops) && chkX ops (Region.before ops) nd ops.size true r (Array.replicate ops.size false)
/-- A region whose order is drawn, along one order, or some. -/
def cX (P : Program) (w0 : World) (ops : Array Oper) (SM : List Asrt) (r : Ord) (ρ : Env) (M : List Asrt) (K : XK) : Prop :=
  ∀ F0, CX P w0 F0 ops SM (fun ρ' w' => ∃ M', St w0 w' (F0 :: M') ∧ K ρ' M') r ρ M
def zOkB (P : Program) (ops : Array Oper) : Bool := (List.range ops.size).all fun j => match ops[j]? with
  | some ⟨some _, .alloc T, _, _, _, none⟩ => match P.info? T with
    | some i => match i.zero with
      | some z => z.cells.size == i.size
      | none => false
    | none => false
  | _ => true
theorem zOk_of (h : zOkB P ops = true) : zOk P ops := by
  intro j d hj T ty pos ho
  have hlt : j < ops.size := (Array.getElem?_eq_some_iff.1 ho).1
  have := List.all_eq_true.1 h j (by simpa using hlt)
  rw [ho] at this
  simp only [] at this
  cases hi : P.info? T with
  | none => rw [hi] at this; cases this
  | some i =>
    rw [hi] at this
    simp only [] at this
    cases hz : i.zero with
    | none => rw [hz] at this; cases this
    | some z =>
      rw [hz] at this
      exact ⟨i.size, i.bytes, z, by rw [hi]; simp [hz], by simpa using this⟩
theorem x_draw {id : Nat} {ρ : Env} {M : List Asrt} {Q : XQ} (SM : List Asrt) (nd : List Nat) (r : Ord) (hz : zOkB P ops = true) (hchk : drawX ops nd r = true) (hS : Imp M SM) (h : cX P w0 ops SM r ρ M (fun ρ' M' => Q .normal ρ' M')) : xC P w0 (.region id ops true) ρ M Q := by
  intro F w H
  simp only [drawX, Bool.and_eq_true] at hchk
  refine denN_sound (S := SMw w0 SM) (need := nd.contains) _ _ _ _ (CX_sound hchk.1 (zOk_of hz) ops.size true r _ ρ _ M (by simp) ?_ hchk.2 (fun _ => hS) (H.drawn _) (h F))
  intro p hp hlp
  simp [hp] at hlp
end
section
variable {P : Program} {w0 : World} {ops : Array Oper} {SM M N : List Asrt} {r : Ord} {ρ : Env} {K : XK} {i : Nat} {dst : Option Nat} {op : Op} {ty T : TypeId} {pos : String} {after : Array Edge} {x : Operand}
theorem cx_nil (h : K ρ M) : cX P w0 ops SM .nil ρ M K := fun F0 w H => ⟨M, H, h⟩
theorem cx_imp (h : Imp M N) (k : cX P w0 ops SM r ρ N K) : cX P w0 ops SM r ρ M K := fun F0 => CX_mono r h (k F0)
theorem cx_q {v : Value} (ho : ops[i]? = some ⟨dst, op, ty, pos, after, none⟩) (h : PV P op ρ v) (k : cX P w0 ops SM r (put ρ dst v) M K) : cX P w0 ops SM (.q i r) ρ M K :=
  fun F0 => ⟨_, v, ho, ⟨fun _ w _ => h _ w rfl, fun e => by simp [Region.wanted] at e⟩, k F0⟩
theorem cx_qy {v : Value} {j : Nat} {b : Bool} (ho : ops[i]? = some ⟨dst, op, ty, pos, after, some (j, b)⟩) (hg : yl ops ρ j = some b) (h : PV P op ρ v) (k : cX P w0 ops SM r (put ρ dst v) M K) : cX P w0 ops SM (.q i r) ρ M K :=
  fun F0 => ⟨_, v, ho, ⟨fun _ w _ => h _ w rfl, fun e => by simp [Region.wanted, hg] at e⟩, k F0⟩
theorem cx_qn {j : Nat} {b : Bool} (ho : ops[i]? = some ⟨dst, op, ty, pos, after, some (j, b)⟩) (hg : yl ops ρ j = some (!b)) (k : cX P w0 ops SM r (put ρ dst undef) M K) : cX P w0 ops SM (.q i r) ρ M K :=
  fun F0 => ⟨_, undef, ho, ⟨fun e => by simp [Region.wanted, hg] at e, fun _ => rfl⟩, k F0⟩
theorem cx_qu {j : Nat} {b : Bool} (ho : ops[i]? = some ⟨dst, op, ty, pos, after, some (j, b)⟩) (hg : yl ops ρ j = none) (k : cX P w0 ops SM r (put ρ dst undef) M K) : cX P w0 ops SM (.q i r) ρ M K :=
  fun F0 => ⟨_, undef, ho, ⟨fun e => by simp [Region.wanted, hg] at e, fun _ => rfl⟩, k F0⟩
theorem cx_e {o : Oper} {n : Bool} (ho : ops[i]? = some o) (h : xOps P w0 ops [o] ρ M (fun ρ' M' => (n = true → Imp M' SM) ∧ cX P w0 ops SM r ρ' M' K)) : cX P w0 ops SM (.e i n r) ρ M K := by
  intro F0
  refine ⟨o, ho, fun F w H => ?_⟩
  refine denI_mono (K := fun ρ' w' => ∃ M', St w0 w' (F :: M') ∧ (n = true → Imp M' SM) ∧ cX P w0 ops SM r ρ' M' K) ?_ (h F w H)
  rintro v w' ⟨M', H', hn, hk⟩
  exact ⟨M', H', hn, hk F0⟩
theorem cx_a {d n by' : Nat} {z : Value} {cs : Array Value} [hi : TyI P T n by' z] (ho : ops[i]? = some ⟨some d, .alloc T, ty, pos, #[], none⟩) (hz : z.cells = cs) (k : ∀ b, cX P w0 ops SM r (put ρ (some d) (.pointer (some ⟨b, 0, none⟩))) (cl b cs T :: M) K) : cX P w0 ops SM (.a i r) ρ M K := by
  subst hz; exact fun F0 => ⟨d, T, ty, pos, z, ho, ⟨n, by', hi⟩, fun b => k b F0⟩
theorem cx_alt {a b : Ord} (h1 : cX P w0 ops SM a ρ M K) (h2 : cX P w0 ops SM b ρ M K) : cX P w0 ops SM (.alt a b) ρ M K := fun F0 => ⟨h1 F0, h2 F0⟩
/-- What only reads. -/
theorem cx_rd {v : Value} (ho : ops[i]? = some ⟨dst, op, ty, pos, after, none⟩) (h : ∀ (F : Asrt) w, St w0 w (F :: SM) → (execOp (ev ρ) ⟨dst, op, ty, pos, after, none⟩).run P w = .ok (.value v) w) (k : cX P w0 ops SM r (put ρ dst v) M K) : cX P w0 ops SM (.r i r) ρ M K :=
  fun F0 => ⟨_, v, ho, ⟨fun _ w ⟨F, H⟩ => h F w H, fun e => by simp [Region.wanted] at e⟩, k F0⟩
theorem cx_rdy {v : Value} {j : Nat} {b : Bool} (ho : ops[i]? = some ⟨dst, op, ty, pos, after, some (j, b)⟩) (hg : yl ops ρ j = some b) (h : ∀ (F : Asrt) w, St w0 w (F :: SM) → (execOp (ev ρ) ⟨dst, op, ty, pos, after, some (j, b)⟩).run P w = .ok (.value v) w) (k : cX P w0 ops SM r (put ρ dst v) M K) : cX P w0 ops SM (.r i r) ρ M K :=
  fun F0 => ⟨_, v, ho, ⟨fun _ w ⟨F, H⟩ => h F w H, fun e => by simp [Region.wanted, hg] at e⟩, k F0⟩
theorem run_ld {b o E : Nat} {c : Array Value} {v : Value} {w : World} {oo : Oper} {M' : List Asrt} [hs : TyScal P T] (hoo : oo.op = .load T x) (hx : ev ρ x = .pointer (some ⟨b, o, none⟩)) (hm : Has SM (cl b c E) M') (hv : c[o]? = some v) {F : Asrt} (H : St w0 w (F :: SM)) : (execOp (ev ρ) oo).run P w = .ok (.value v) w := by
  have hr : (Instr.loadAt T (ev ρ x)).run P w = .ok v w := by
    rw [hx]; unfold Instr.loadAt
    rw [run_bind P _ _ w w _ rfl]; unfold loadVar
    rw [run_bind P _ _ w w _ (run_isAgg hs.h)]
    exact run_load1 ((H.pick (.there hm)).cl_get) hv
  unfold execOp; rw [hoo]
  exact op_run_value hr
theorem cx_load {b o E : Nat} {c : Array Value} {v : Value} {M' : List Asrt} [hs : TyScal P T] (ho : ops[i]? = some ⟨dst, .load T x, ty, pos, after, none⟩) (hx : ev ρ x = .pointer (some ⟨b, o, none⟩)) (hm : Has SM (cl b c E) M') (hv : c[o]? = some v) (k : cX P w0 ops SM r (put ρ dst v) M K) : cX P w0 ops SM (.r i r) ρ M K :=
  cx_rd ho (fun F w H => run_ld rfl hx hm hv H) k
theorem cx_loady {b o E j : Nat} {t : Bool} {c : Array Value} {v : Value} {M' : List Asrt} [hs : TyScal P T] (ho : ops[i]? = some ⟨dst, .load T x, ty, pos, after, some (j, t)⟩) (hg : yl ops ρ j = some t) (hx : ev ρ x = .pointer (some ⟨b, o, none⟩)) (hm : Has SM (cl b c E) M') (hv : c[o]? = some v) (k : cX P w0 ops SM r (put ρ dst v) M K) : cX P w0 ops SM (.r i r) ρ M K :=
  cx_rdy ho hg (fun F w H => run_ld rfl hx hm hv H) k
theorem run_lda {b o E n by' : Nat} {z : Value} {c cs : Array Value} {w : World} {oo : Oper} {M' : List Asrt} [hs : TyAggr P T] [hi : TyI P T n by' z] (hoo : oo.op = .load T x) (hx : ev ρ x = .pointer (some ⟨b, o, none⟩)) (hm : Has SM (cl b c E) M') (hv : o + n ≤ c.size) (hc : c.extract o (o + n) = cs) {F : Asrt} (H : St w0 w (F :: SM)) : (execOp (ev ρ) oo).run P w = .ok (.value (.agg cs)) w := by
  have hr := run_loadAgg (P := P) (ρ := ρ) (x := x) (T := T) (n := n) ((H.pick (.there hm)).cl_get) hv hx
  rw [hc] at hr
  unfold execOp; rw [hoo]
  exact op_run_value hr
theorem cx_load_agg {b o E n by' : Nat} {z : Value} {c cs : Array Value} {M' : List Asrt} [hs : TyAggr P T] [hi : TyI P T n by' z] (ho : ops[i]? = some ⟨dst, .load T x, ty, pos, after, none⟩) (hx : ev ρ x = .pointer (some ⟨b, o, none⟩)) (hm : Has SM (cl b c E) M') (hv : o + n ≤ c.size) (hc : c.extract o (o + n) = cs) (k : cX P w0 ops SM r (put ρ dst (.agg cs)) M K) : cX P w0 ops SM (.r i r) ρ M K :=
  cx_rd ho (fun F w H => run_lda rfl hx hm hv hc H) k
theorem cx_load_all {b E n by' : Nat} {z : Value} {c : Array Value} {M' : List Asrt} [hs : TyAggr P T] [hi : TyI P T n by' z] (ho : ops[i]? = some ⟨dst, .load T x, ty, pos, after, none⟩) (hx : ev ρ x = .pointer (some ⟨b, 0, none⟩)) (hm : Has SM (cl b c E) M') (hv : c.size = n) (k : cX P w0 ops SM r (put ρ dst (.agg c)) M K) : cX P w0 ops SM (.r i r) ρ M K :=
  cx_load_agg ho hx hm (by omega) (by rw [Nat.zero_add, ← hv]; simp) k
theorem YS.weak {S : World → Prop} {o : Oper} {v : Value} (h : YS P ops (fun _ => True) o ρ v) : YS P ops S o ρ v := ⟨fun e w _ => h.1 e w trivial, h.2⟩
theorem cx_p {v : Value} (ho : ops[i]? = some ⟨dst, op, ty, pos, after, none⟩) (h : PV P op ρ v) (k : cX P w0 ops SM r (put ρ dst v) M K) : cX P w0 ops SM (.r i r) ρ M K :=
  fun F0 => ⟨_, v, ho, ⟨fun _ w _ => h _ w rfl, fun e => by simp [Region.wanted] at e⟩, k F0⟩
theorem cx_py {v : Value} {j : Nat} {b : Bool} (ho : ops[i]? = some ⟨dst, op, ty, pos, after, some (j, b)⟩) (hg : yl ops ρ j = some b) (h : PV P op ρ v) (k : cX P w0 ops SM r (put ρ dst v) M K) : cX P w0 ops SM (.r i r) ρ M K :=
  fun F0 => ⟨_, v, ho, ⟨fun _ w _ => h _ w rfl, fun e => by simp [Region.wanted, hg] at e⟩, k F0⟩
theorem cx_pn {j : Nat} {b : Bool} (ho : ops[i]? = some ⟨dst, op, ty, pos, after, some (j, b)⟩) (hg : yl ops ρ j = some (!b)) (k : cX P w0 ops SM r (put ρ dst undef) M K) : cX P w0 ops SM (.r i r) ρ M K :=
  fun F0 => ⟨_, undef, ho, ⟨fun e => by simp [Region.wanted, hg] at e, fun _ => rfl⟩, k F0⟩
theorem cx_pu {j : Nat} {b : Bool} (ho : ops[i]? = some ⟨dst, op, ty, pos, after, some (j, b)⟩) (hg : yl ops ρ j = none) (k : cX P w0 ops SM r (put ρ dst undef) M K) : cX P w0 ops SM (.r i r) ρ M K :=
  fun F0 => ⟨_, undef, ho, ⟨fun e => by simp [Region.wanted, hg] at e, fun _ => rfl⟩, k F0⟩
theorem cx_load_aggy {b o E n by' j : Nat} {t : Bool} {z : Value} {c cs : Array Value} {M' : List Asrt} [hs : TyAggr P T] [hi : TyI P T n by' z] (ho : ops[i]? = some ⟨dst, .load T x, ty, pos, after, some (j, t)⟩) (hg : yl ops ρ j = some t) (hx : ev ρ x = .pointer (some ⟨b, o, none⟩)) (hm : Has SM (cl b c E) M') (hv : o + n ≤ c.size) (hc : c.extract o (o + n) = cs) (k : cX P w0 ops SM r (put ρ dst (.agg cs)) M K) : cX P w0 ops SM (.r i r) ρ M K :=
  cx_rdy ho hg (fun F w H => run_lda rfl hx hm hv hc H) k
theorem cx_load_ally {b E n by' j : Nat} {t : Bool} {z : Value} {c : Array Value} {M' : List Asrt} [hs : TyAggr P T] [hi : TyI P T n by' z] (ho : ops[i]? = some ⟨dst, .load T x, ty, pos, after, some (j, t)⟩) (hg : yl ops ρ j = some t) (hx : ev ρ x = .pointer (some ⟨b, 0, none⟩)) (hm : Has SM (cl b c E) M') (hv : c.size = n) (k : cX P w0 ops SM r (put ρ dst (.agg c)) M K) : cX P w0 ops SM (.r i r) ρ M K :=
  cx_load_aggy ho hg hx hm (by omega) (by rw [Nat.zero_add, ← hv]; simp) k
theorem cx_isT (d : Nat) {t : Bool} (hd : ρ d = .bool t) (e : t = true) (h : cX P w0 ops SM r (put ρ (some d) (.bool true)) M K) : cX P w0 ops SM r ρ M K := by
  subst e; rwa [put_self hd] at h
theorem cx_isF (d : Nat) {t : Bool} (hd : ρ d = .bool t) (e : t = false) (h : cX P w0 ops SM r (put ρ (some d) (.bool false)) M K) : cX P w0 ops SM r ρ M K := by
  subst e; rwa [put_self hd] at h
theorem cx_case (d : Nat) {p : Prop} [Decidable p] (hd : ρ d = .bool (decide p)) (h1 : p → cX P w0 ops SM r (put ρ (some d) (.bool true)) M K) (h2 : ¬ p → cX P w0 ops SM r (put ρ (some d) (.bool false)) M K) : cX P w0 ops SM r ρ M K := by
  by_cases hp : p
  · exact cx_isT d hd (decide_eq_true hp) (h1 hp)
  · exact cx_isF d hd (decide_eq_false hp) (h2 hp)
theorem cx_load_sl {b o m kk j : Nat} {xs : List Value} {v : Value} [hs : TyScal P T] (ho : ops[i]? = some ⟨dst, .load T x, ty, pos, after, none⟩) (hx : ev ρ x = .pointer (some ⟨b, o + j, none⟩)) (HS : Rd SM 1 (.slice (some ⟨b, o, none⟩) m kk) m xs) (hj : j < m) (hv : xs[j]? = some v) (k : cX P w0 ops SM r (put ρ dst v) M K) : cX P w0 ops SM (.r i r) ρ M K := by
  refine cx_rd ho (fun F w H => ?_) k
  obtain ⟨c, E, fr, hb, hc⟩ := (HS _ _ _ H).cellAt hj
  have hr : (Instr.loadAt T (ev ρ x)).run P w = .ok v w := by
    rw [hx]; unfold Instr.loadAt
    rw [run_bind P _ _ w w _ rfl]; unfold loadVar
    rw [run_bind P _ _ w w _ (run_isAgg hs.h)]
    exact run_load1 hb (hc.trans hv)
  exact op_run_value hr
end
end Go.Sl
