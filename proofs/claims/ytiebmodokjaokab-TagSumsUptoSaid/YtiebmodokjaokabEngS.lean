/- The engine over pieces alone: a state is an environment and a list of pieces; each rule holds whatever else stands in memory. -/
import Derived.Test.YtiebmodokjaokabEngR
set_option linter.unusedVariables false
set_option linter.unusedSimpArgs false
namespace Go.Sl
open Go

/-- What the first list says, the second one says. -/
def Imp (M N : List Asrt) : Prop := ∀ h, SatF M h → SatF N h
theorem Imp.refl (M : List Asrt) : Imp M M := fun _ h => h
theorem Imp.trans {A B C : List Asrt} (h : Imp A B) (h' : Imp B C) : Imp A C := fun f x => h' f (h f x)
theorem Imp.arr {M N : List Asrt} (h : Arr M N) : Imp M N := fun _ hs => h.sat hs
theorem Imp.has {M N : List Asrt} {A : Asrt} (h : Has M A N) : Imp M (A :: N) := fun _ hs => h.front hs
theorem Imp.unhas {M N : List Asrt} {A : Asrt} (h : Has M A N) : Imp (A :: N) M := fun _ hs => h.back hs
theorem Imp.cons {M N : List Asrt} {A : Asrt} (h : Imp M N) : Imp (A :: M) (A :: N) := fun _ hs => hs.imp h
theorem Imp.swap {M : List Asrt} {A B : Asrt} : Imp (A :: B :: M) (B :: A :: M) := fun _ hs => hs.swap
theorem Imp.head {M : List Asrt} {A B : Asrt} (h : ∀ f, A.on f → B.on f) : Imp (A :: M) (B :: M) := fun _ hs => hs.head h
theorem Imp.tail {M : List Asrt} {A : Asrt} : Imp (A :: M) M := fun _ hs => hs.tail
theorem Imp.app {L M : List Asrt} : Imp (L ++ M) (all L :: M) := fun _ hs => hs.app
theorem Imp.unapp {L M : List Asrt} : Imp (all L :: M) (L ++ M) := fun _ hs => hs.unapp
theorem Imp.left {L M N : List Asrt} (h : Imp M N) : Imp (L ++ M) (L ++ N) := by
  induction L with
  | nil => exact h
  | cons A L ih => exact ih.cons
theorem Imp.comm {L M : List Asrt} : Imp (L ++ M) (M ++ L) := by
  have h1 : Imp (L ++ M) (all L :: M) := Imp.app
  have h2 : Imp (all L :: M) (all L :: all M :: []) := Imp.cons (by have := Imp.app (L := M) (M := []); rwa [List.append_nil] at this)
  have h3 : Imp (all M :: all L :: []) (M ++ [all L]) := Imp.unapp
  have h4 : Imp (M ++ [all L]) (M ++ L) := Imp.left (by have := Imp.unapp (L := L) (M := []); rwa [List.append_nil] at this)
  exact h1.trans (h2.trans (Imp.swap.trans (h3.trans h4)))
theorem St.ent {w0 w : World} {M N : List Asrt} (H : St w0 w M) (h : Imp M N) : St w0 w N := H.imp h
theorem St.enx {w0 w : World} {F : Asrt} {M N : List Asrt} (H : St w0 w (F :: M)) (h : Imp M N) : St w0 w (F :: N) := H.imp h.cons

/-- The list holds these; without them the last one. -/
inductive Take : List Asrt → List Asrt → List Asrt → Prop
  | nil {L} : Take L [] L
  | cons {L L' A M R} : Has L A L' → Take L' M R → Take L (A :: M) R
  | all {L} : Take L L []
  | skip {L A M R} : Take L M R → Take (A :: L) M (A :: R)
theorem Take.ent {L M R : List Asrt} (h : Take L M R) : Imp L (M ++ R) := by
  induction h with
  | nil => exact Imp.refl _
  | cons hh _ ih => exact (Imp.has hh).trans ih.cons
  | all => rw [List.append_nil]; exact Imp.refl _
  | @skip L A M R _ ih =>
    refine ih.cons.trans ?_
    have h1 : Imp (A :: (M ++ R)) ((M ++ R) ++ [A]) := Imp.comm (L := [A]) (M := M ++ R)
    rw [List.append_assoc] at h1
    exact h1.trans (Imp.left (Imp.comm (L := R) (M := [A])))
inductive App : List Asrt → List Asrt → List Asrt → Prop
  | nil {R} : App [] R R
  | cons {A M R N} : App M R N → App (A :: M) R (A :: N)
  | flip {M R N} : App R M N → App M R N
  | any {M R} : App M R (M ++ R)
theorem App.imp {M R N : List Asrt} (h : App M R N) : Imp (M ++ R) N := by
  induction h with
  | nil => exact Imp.refl _
  | cons _ ih => exact ih.cons
  | flip _ ih => exact Imp.comm.trans ih
  | any => exact Imp.refl _

abbrev XK := Env → List Asrt → Prop
abbrev XQ := Exit → Env → List Asrt → Prop
def xOps (P : Program) (w0 : World) (ops : Array Oper) (l : List Oper) (ρ : Env) (M : List Asrt) (K : XK) : Prop :=
  ∀ F w, St w0 w (F :: M) → denOps P ops l ρ w (fun ρ' w' => ∃ M', St w0 w' (F :: M') ∧ K ρ' M')
def xC (P : Program) (w0 : World) (c : Code) (ρ : Env) (M : List Asrt) (Q : XQ) : Prop :=
  ∀ F w, St w0 w (F :: M) → den P c ρ w (fun e ρ' w' => ∃ M', St w0 w' (F :: M') ∧ Q e ρ' M')
/-- What a call does: out of the pieces M a value and pieces that meet Φ. -/
def Con (P : Program) (F : FuncId) (args : List Value) (M : List Asrt) (Φ : Value → List Asrt → Prop) : Prop :=
  ∀ w0 Fr w, St w0 w (Fr :: M) → Calls P F args.toArray w (Ret fun v w' => ∃ M', St w0 w' (Fr :: M') ∧ Φ v M')

def xthen (k : XK) (Q : XQ) : XQ := fun e ρ M => match e with | .normal => k ρ M | e => Q e ρ M
def xblk (id : Nat) (Q : XQ) : XQ := fun e ρ M => match e with | .exit id' => if id' = id then Q .normal ρ M else Q (.exit id') ρ M | e => Q e ρ M
def xcut {S : Type} (I : S → Prop) (Mf : S → List Asrt) (U : S → List (Nat × Value)) (Q : XQ) : XQ := fun e ρ M => match e with | .normal => ∃ s, I s ∧ Imp M (Mf s) ∧ Fits ρ (U s) | e => Q e ρ M
def xloop {S : Type} (I : S → Prop) (Mf : S → List Asrt) (U : S → List (Nat × Value)) (μ : S → Nat) (m : Nat) (Q : XQ) : XQ := fun e ρ M => match e with | .normal => ∃ s, μ s < m ∧ I s ∧ Imp M (Mf s) ∧ Fits ρ (U s) | e => Q e ρ M

section code
variable {P : Program} {w0 : World} {x y c : Code} {ρ : Env} {M N : List Asrt} {Q : XQ} {k : XK} {id : Nat}
theorem zA (h : xC P w0 x ρ M (xthen (fun ρ' M' => xC P w0 y ρ' M' Q) Q)) : xC P w0 (.seq x y) ρ M Q := by
  intro F w H
  show den P x ρ w _
  refine den_mono x ρ w ?_ (h F w H)
  rintro e ρ' w' ⟨M', H', hq⟩
  cases e <;> first
    | exact hq F w' H'
    | exact ⟨M', H', hq⟩
theorem x_reg {l : List Oper} (h : xOps P w0 l.toArray l ρ M (fun ρ' M' => Q .normal ρ' M')) : xC P w0 (.region id l.toArray false) ρ M Q := fun F w H => h F w H
theorem x_seqr {l : List Oper} (h : xOps P w0 l.toArray l ρ M (fun ρ' M' => xC P w0 y ρ' M' Q)) : xC P w0 (.seq (.region id l.toArray false) y) ρ M Q := zA (x_reg h)
theorem zB (h : Q .normal ρ M) : xC P w0 .skip ρ M Q := fun F w H => ⟨M, H, h⟩
theorem x_seqs (h : xC P w0 y ρ M Q) : xC P w0 (.seq .skip y) ρ M Q := zA (zB h)
theorem zE (h : Q (.exit id) ρ M) : xC P w0 (.exit id) ρ M Q := fun F w H => ⟨M, H, h⟩
theorem zD (h : Q .normal ρ M) : xC P w0 (.label id) ρ M Q := fun F w H => ⟨M, H, h⟩
theorem zF (h : Q .ret ρ M) : xC P w0 .ret ρ M Q := fun F w H => ⟨M, H, h⟩
theorem zC (h : xC P w0 c ρ M (xblk id Q)) : xC P w0 (.block id c) ρ M Q := by
  intro F w H
  refine den_block (den_mono c ρ w ?_ (h F w H))
  rintro e ρ' w' ⟨M', H', hq⟩
  cases e with
  | exit id' =>
    simp only [xblk] at hq
    show if id' = id then _ else _
    by_cases e : id' = id
    · rw [if_pos e]; rw [if_pos e] at hq; exact ⟨M', H', hq⟩
    · rw [if_neg e]; rw [if_neg e] at hq; exact ⟨M', H', hq⟩
  | _ => exact ⟨M', H', hq⟩
theorem x_cond_t {cc : Operand} (ht : ev ρ cc = .bool true) (h : xC P w0 x ρ M Q) : xC P w0 (.cond cc x y) ρ M Q := fun F w H => den_cond_t ht (h F w H)
theorem x_cond_f {cc : Operand} (ht : ev ρ cc = .bool false) (h : xC P w0 y ρ M Q) : xC P w0 (.cond cc x y) ρ M Q := fun F w H => den_cond_f ht (h F w H)
theorem x_cond_p {cc : Operand} {p : Prop} [Decidable p] (ht : ev ρ cc = .bool (decide p)) (h1 : p → xC P w0 x ρ M Q) (h2 : ¬ p → xC P w0 y ρ M Q) : xC P w0 (.cond cc x y) ρ M Q :=
  fun F w H => den_cond_p ht (fun hp => h1 hp F w H) (fun hp => h2 hp F w H)
theorem x_cond_b {cc : Operand} {t : Bool} (ht : ev ρ cc = .bool t) (h1 : t = true → xC P w0 x ρ M Q) (h2 : t = false → xC P w0 y ρ M Q) : xC P w0 (.cond cc x y) ρ M Q :=
  fun F w H => den_cond ht (fun hp => h1 hp F w H) (fun hp => h2 hp F w H)
/-- The test is known. -/
theorem x_cond_T {cc : Operand} {t : Bool} (ht : ev ρ cc = .bool t) (e : t = true) (h : xC P w0 x ρ M Q) : xC P w0 (.cond cc x y) ρ M Q := x_cond_t (by rw [ht, e]) h
theorem x_cond_F {cc : Operand} {t : Bool} (ht : ev ρ cc = .bool t) (e : t = false) (h : xC P w0 y ρ M Q) : xC P w0 (.cond cc x y) ρ M Q := x_cond_f (by rw [ht, e]) h
theorem zG (h : k ρ M) : xthen k Q .normal ρ M := h
theorem zH (h : Q (.exit id) ρ M) : xthen k Q (.exit id) ρ M := h
theorem zI (h : Q .ret ρ M) : xthen k Q .ret ρ M := h
theorem zJ (h : Q .normal ρ M) : xblk id Q .normal ρ M := h
theorem zL (h : Q .ret ρ M) : xblk id Q .ret ρ M := h
theorem zK (h : Q .normal ρ M) : xblk id Q (.exit id) ρ M := by simp only [xblk, if_true]; exact h
theorem zM {id' : Nat} (hne : Nat.beq id' id = false) (h : Q (.exit id') ρ M) : xblk id Q (.exit id') ρ M := by
  simp only [xblk]
  rw [if_neg (fun e => by rw [e, beq_self] at hne; cases hne)]; exact h
section cuts
variable {S : Type} {I : S → Prop} {Mf : S → List Asrt} {U : S → List (Nat × Value)} {μ : S → Nat} {m : Nat}
theorem zN (h : Q (.exit id) ρ M) : xcut I Mf U Q (.exit id) ρ M := h
theorem zO (h : Q .ret ρ M) : xcut I Mf U Q .ret ρ M := h
theorem x_cut_n (s : S) (hI : I s) (hM : Imp M (Mf s)) (hf : Fits ρ (U s)) : xcut I Mf U Q .normal ρ M := ⟨s, hI, hM, hf⟩
theorem zP (h : Q (.exit id) ρ M) : xloop I Mf U μ m Q (.exit id) ρ M := h
theorem zQ (h : Q .ret ρ M) : xloop I Mf U μ m Q .ret ρ M := h
theorem x_loop_n (s : S) (hm : μ s < m) (hI : I s) (hM : Imp M (Mf s)) (hf : Fits ρ (U s)) : xloop I Mf U μ m Q .normal ρ M := ⟨s, hm, hI, hM, hf⟩
end cuts
theorem x_cut {S : Type} (mods : List (Nat × Nat)) (hm : cIn mods x = true) (I : S → Prop) (Mf : S → List Asrt) (U : S → List (Nat × Value))
    (h : xC P w0 x ρ M (xcut I Mf U Q)) (k : ∀ s u, I s → xC P w0 y (over (U s) (patch mods u ρ)) (Mf s) Q) : xC P w0 (.seq x y) ρ M Q := by
  intro F w H
  refine den_cut mods hm (fun s w' => I s ∧ St w0 w' (F :: Mf s)) U (den_mono x ρ w ?_ (h F w H)) ?_
  · rintro e ρ' w' ⟨M', H', hq⟩
    cases e <;> first
      | exact (let ⟨s, hI, hM, hf⟩ := hq; ⟨s, ⟨hI, H'.enx hM⟩, hf⟩)
      | exact ⟨M', H', hq⟩
  · rintro s w' u ⟨hI, H'⟩
    exact k s u hI F w' H'
theorem x_cutt {S : Type} {k : XK} (mods : List (Nat × Nat)) (hm : cIn mods x = true) (I : S → Prop) (Mf : S → List Asrt) (U : S → List (Nat × Value))
    (h : xC P w0 x ρ M (xcut I Mf U Q)) (kk : ∀ s u, I s → k (over (U s) (patch mods u ρ)) (Mf s)) : xC P w0 x ρ M (xthen k Q) := by
  intro F w H
  refine den_mono x ρ w ?_ (den_agree (mods := mods) x ρ w hm (h F w H))
  rintro e ρ' w' ⟨ha, M', H', hq⟩
  cases e <;> first
    | (obtain ⟨s, hI, hM, hf⟩ := hq
       have hk := kk s ρ' hI
       rw [patch_agree ha, over_fits hf] at hk
       exact ⟨Mf s, H'.enx hM, hk⟩)
    | exact ⟨M', H', hq⟩
theorem x_loop {S : Type} (mods : List (Nat × Nat)) (hm : cIn mods c = true) (I : S → Prop) (Mf : S → List Asrt) (U : S → List (Nat × Value)) (μ : S → Nat) (s0 : S) (h0 : I s0) (hM : Imp M (Mf s0)) (hf : Fits ρ (U s0))
    (round : ∀ s u, I s → xC P w0 c (over (U s) (patch mods u ρ)) (Mf s) (xloop I Mf U μ (μ s) Q)) : xC P w0 (.loop c) ρ M Q := by
  intro F w H
  refine den_loop mods hm (fun s w' => I s ∧ St w0 w' (F :: Mf s)) U μ s0 ⟨h0, H.enx hM⟩ hf ?_
  rintro s w' u ⟨hI, H'⟩
  refine den_mono _ _ _ ?_ (round s u hI F w' H')
  rintro e ρ' w'' ⟨M', H'', hq⟩
  cases e <;> first
    | exact (let ⟨s', hlt, hI', hM', hf'⟩ := hq; ⟨s', hlt, ⟨hI', H''.enx hM'⟩, hf'⟩)
    | exact ⟨M', H'', hq⟩
-- pieces
theorem x_ent (h : Imp M N) (k : xC P w0 c ρ N Q) : xC P w0 c ρ M Q := fun F w H => k F w (H.enx h)
theorem x_pur {p : Prop} (k : p → xC P w0 c ρ M Q) : xC P w0 c ρ (pur p :: M) Q := fun F w H => k (H.swap.pur_get) F w (H.enx Imp.tail)
theorem x_ex {α : Type} {A : α → Asrt} (k : ∀ a, xC P w0 c ρ (A a :: M) Q) : xC P w0 c ρ (ex A :: M) Q := by
  intro F w H
  obtain ⟨a, H⟩ := H.swap.ex_get
  exact k a F w H.swap
theorem x_all {L : List Asrt} (k : xC P w0 c ρ (L ++ M) Q) : xC P w0 c ρ (all L :: M) Q := fun F w H => k F w (H.enx Imp.unapp)
/-- What the pieces tell. -/
theorem x_get {p : Prop} (hp : ∀ F w, St w0 w (F :: M) → p) (k : p → xC P w0 c ρ M Q) : xC P w0 c ρ M Q := fun F w H => k (hp F w H) F w H
/-- A case whatever the pieces. -/
theorem x_getw {α : Type} {A : α → List Asrt} (hp : ∀ F w, St w0 w (F :: M) → ∃ a, St w0 w (F :: A a)) (k : ∀ a, xC P w0 c ρ (A a) Q) : xC P w0 c ρ M Q := by
  intro F w H
  obtain ⟨a, H⟩ := hp F w H
  exact k a F w H
theorem x_mono {Q' : XQ} (hq : ∀ e ρ M, Q e ρ M → Q' e ρ M) (h : xC P w0 c ρ M Q) : xC P w0 c ρ M Q' := by
  intro F w H
  refine den_mono c ρ w ?_ (h F w H)
  rintro e ρ' w' ⟨M', H', hh⟩
  exact ⟨M', H', hq _ _ _ hh⟩
end code

section ops
variable {P : Program} {w0 : World} {ops : Array Oper} {l : List Oper} {ρ : Env} {M N : List Asrt} {K : XK}
theorem xo_ent (h : Imp M N) (k : xOps P w0 ops l ρ N K) : xOps P w0 ops l ρ M K := fun F w H => k F w (H.enx h)
theorem xo_pur {p : Prop} (k : p → xOps P w0 ops l ρ M K) : xOps P w0 ops l ρ (pur p :: M) K := fun F w H => k (H.swap.pur_get) F w (H.enx Imp.tail)
theorem xo_ex {α : Type} {A : α → Asrt} (k : ∀ a, xOps P w0 ops l ρ (A a :: M) K) : xOps P w0 ops l ρ (ex A :: M) K := by
  intro F w H
  obtain ⟨a, H⟩ := H.swap.ex_get
  exact k a F w H.swap
theorem xo_all {L : List Asrt} (k : xOps P w0 ops l ρ (L ++ M) K) : xOps P w0 ops l ρ (all L :: M) K := fun F w H => k F w (H.enx Imp.unapp)
theorem xo_get {p : Prop} (hp : ∀ F w, St w0 w (F :: M) → p) (k : p → xOps P w0 ops l ρ M K) : xOps P w0 ops l ρ M K := fun F w H => k (hp F w H) F w H
theorem xo_getw {α : Type} {A : α → List Asrt} (hp : ∀ F w, St w0 w (F :: M) → ∃ a, St w0 w (F :: A a)) (k : ∀ a, xOps P w0 ops l ρ (A a) K) : xOps P w0 ops l ρ M K := by
  intro F w H
  obtain ⟨a, H⟩ := hp F w H
  exact k a F w H
theorem xo_app {R N : List Asrt} (h : App M R N) (k : xOps P w0 ops l ρ N K) : xOps P w0 ops l ρ (M ++ R) K := xo_ent h.imp k
theorem x_nil (h : K ρ M) : xOps P w0 ops [] ρ M K := fun F w H => ⟨M, H, h⟩
theorem xo_mono {K' : XK} (hk : ∀ ρ M, K ρ M → K' ρ M) (h : xOps P w0 ops l ρ M K) : xOps P w0 ops l ρ M K' := by
  intro F w H
  refine denOps_mono _ _ _ ?_ (h F w H)
  rintro ρ' w' ⟨M', H', hh⟩
  exact ⟨M', H', hk _ _ hh⟩
theorem xo_app2 {l2 : List Oper} (h : xOps P w0 ops l ρ M (fun ρ' M' => xOps P w0 ops l2 ρ' M' K)) : xOps P w0 ops (l ++ l2) ρ M K := by
  intro F w H
  have key : ∀ (l : List Oper) (ρ : Env) (w : World), denOps P ops l ρ w (fun ρ' w' => ∃ M', St w0 w' (F :: M') ∧ xOps P w0 ops l2 ρ' M' K) → denOps P ops (l ++ l2) ρ w (fun ρ' w' => ∃ M', St w0 w' (F :: M') ∧ K ρ' M') := by
    intro l
    induction l with
    | nil => rintro ρ w ⟨M', H', hh⟩; exact hh F w H'
    | cons o l ih => exact fun ρ w h => denI_mono (fun v w' hk => ih _ _ hk) (show denI P ops o ρ w _ from h)
  exact key l ρ w (h F w H)
theorem denOps_agree' {mods : List (Nat × Nat)} {K : Env → World → Prop} : ∀ (l : List Oper) (ρ : Env) (w : World), l.all (dIn mods) = true → denOps P ops l ρ w K → denOps P ops l ρ w (fun ρ' w' => Agree mods ρ ρ' ∧ K ρ' w')
  | [], ρ, w, _, h => ⟨Agree.refl _ _, h⟩
  | o :: rest, ρ, w, hd, h => by
    simp only [List.all_cons, Bool.and_eq_true] at hd
    refine denI_mono (o := o) (fun v w' hk => ?_) (show denI P ops o ρ w _ from h)
    exact denOps_mono _ _ _ (fun ρ' w'' ⟨ha, hq⟩ => ⟨(agree_put hd.1 v).trans ha, hq⟩) (denOps_agree' rest _ _ hd.2 hk)
/-- A cut within a region: behind its first n operations. -/
theorem xo_cut {S : Type} (n : Nat) (mods : List (Nat × Nat)) (hm : (l.take n).all (dIn mods) = true) (I : S → Prop) (Mf : S → List Asrt) (U : S → List (Nat × Value))
    (h : xOps P w0 ops (l.take n) ρ M (fun ρ' M' => ∃ s, I s ∧ Imp M' (Mf s) ∧ Fits ρ' (U s))) (k : ∀ s u, I s → xOps P w0 ops (l.drop n) (over (U s) (patch mods u ρ)) (Mf s) K) : xOps P w0 ops l ρ M K := by
  rw [← List.take_append_drop n l]
  refine xo_app2 ?_
  intro F w H
  refine denOps_mono _ _ _ ?_ (denOps_agree' _ _ _ hm (h F w H))
  rintro ρ' w' ⟨ha, M', H', s, hI, hM, hf⟩
  have hk := k s ρ' hI
  rw [patch_agree ha, over_fits hf] at hk
  exact ⟨Mf s, H'.enx hM, hk⟩
end ops

-- calls and results
theorem fn_den {P : Program} {f : FuncId} {fn : Func} {c : Code} {rs : List ResultVar} {n : Nat} {args : List Value} {M : List Asrt} {Φ : Value → List Asrt → Prop}
    (hf : P.funcs[f]? = some fn) (hb : fn.body = some c) (hr : fn.results.toList = rs) (hn : fn.ntmps = n) (hm : P.follows .mixedOrders = true) (hfit : (Nat.ble args.length n && cfits n c) = true)
    (h : ∀ w0, xC P w0 c (nth args) M (fun e ρ M' => match e with | .normal | .ret => ∃ vs N, (∀ F w, St w0 w (F :: M') → resE P ρ w rs vs) ∧ Φ (packV vs) N ∧ Imp M' N | _ => False)) : Con P f args M Φ := by
  intro w0 Fr w H
  refine calls_den args hf hb hr hn hm hfit (den_mono c _ _ ?_ (h w0 Fr w H))
  rintro e ρ' w' ⟨M', H', hq⟩
  cases e <;> first
    | (obtain ⟨vs, N, hvs, hΦ, hN⟩ := hq
       exact ⟨vs, hvs Fr w' H', N, H'.enx hN, hΦ⟩)
    | exact hq.elim
def retX (P : Program) (w0 : World) (rs : List ResultVar) (Φ : Value → List Asrt → Prop) : XQ := fun e ρ M' => match e with | .normal | .ret => ∃ vs N, (∀ F w, St w0 w (F :: M') → resE P ρ w rs vs) ∧ Φ (packV vs) N ∧ Imp M' N | _ => False
theorem fn_x {P : Program} {f : FuncId} {fn : Func} {c : Code} {rs : List ResultVar} {n : Nat} {args : List Value} {M : List Asrt} {Φ : Value → List Asrt → Prop}
    (hf : P.funcs[f]? = some fn) (hb : fn.body = some c) (hr : fn.results.toList = rs) (hn : fn.ntmps = n) (hm : P.follows .mixedOrders = true) (hfit : (Nat.ble args.length n && cfits n c) = true)
    (h : ∀ w0, xC P w0 c (nth args) M (retX P w0 rs Φ)) : Con P f args M Φ := fn_den hf hb hr hn hm hfit h
section res
variable {P : Program} {w0 : World} {ρ : Env} {M N : List Asrt} {Φ : Value → List Asrt → Prop}
def resX (P : Program) (w0 : World) (ρ : Env) (M : List Asrt) (rs : List ResultVar) (vs : List Value) : Prop := ∀ F w, St w0 w (F :: M) → resE P ρ w rs vs
theorem rx_nil : resX P w0 ρ M [] [] := fun _ _ _ => rfl
theorem rx_tmp {t : Nat} {v : Value} {rs : List ResultVar} {vs : List Value} (hv : ρ t = v) (h : resX P w0 ρ M rs vs) : resX P w0 ρ M (.tmp t :: rs) (v :: vs) := by
  intro F w H; subst hv; exact ⟨vs, rfl, h F w H⟩
theorem rx_int {t : Nat} {k : IntKind} {n : Int} {rs : List ResultVar} {vs : List Value} (hv : ρ t = .int k n) (h : resX P w0 ρ M rs vs) : resX P w0 ρ M (.tmp t :: rs) (.int k n :: vs) := rx_tmp hv h
theorem rx_bool {t : Nat} {b : Bool} {rs : List ResultVar} {vs : List Value} (hv : ρ t = .bool b) (h : resX P w0 ρ M rs vs) : resX P w0 ρ M (.tmp t :: rs) (.bool b :: vs) := rx_tmp hv h
theorem rx_ptr {t : Nat} {a : Option Addr} {rs : List ResultVar} {vs : List Value} (hv : ρ t = .pointer a) (h : resX P w0 ρ M rs vs) : resX P w0 ρ M (.tmp t :: rs) (.pointer a :: vs) := rx_tmp hv h
theorem rx_slice {t : Nat} {a : Option Addr} {l c : Nat} {rs : List ResultVar} {vs : List Value} (hv : ρ t = .slice a l c) (h : resX P w0 ρ M rs vs) : resX P w0 ρ M (.tmp t :: rs) (.slice a l c :: vs) := rx_tmp hv h
theorem rx_agg {t : Nat} {a : Array Value} {rs : List ResultVar} {vs : List Value} (hv : ρ t = .agg a) (h : resX P w0 ρ M rs vs) : resX P w0 ρ M (.tmp t :: rs) (.agg a :: vs) := rx_tmp hv h
theorem rx_cell {T n by' b E t : Nat} {z : Value} {cs : Array Value} {M' : List Asrt} {rs : List ResultVar} {vs : List Value} [hs : TyAggr P T] [hi : TyI P T n by' z] (hv : ρ t = .pointer (some ⟨b, 0, none⟩)) (hm : Has M (cl b cs E) M') (hn : cs.size = n)
    (h : resX P w0 ρ M rs vs) : resX P w0 ρ M (.cell t T :: rs) (.agg cs :: vs) := by
  intro F w H
  refine ⟨⟨b, 0, none⟩, .agg cs, vs, hv, ?_, rfl, h F w H⟩
  have := run_loadVar (P := P) (T := T) (n := n) (o := 0) ((H.pick (.there hm)).cl_get) (by omega)
  rw [this, Nat.zero_add, ← hn]
  simp
theorem rx_cell1 {T b E t : Nat} {v : Value} {M' : List Asrt} {rs : List ResultVar} {vs : List Value} [hs : TyScal P T] (hv : ρ t = .pointer (some ⟨b, 0, none⟩)) (hm : Has M (cl b #[v] E) M')
    (h : resX P w0 ρ M rs vs) : resX P w0 ρ M (.cell t T :: rs) (v :: vs) := by
  intro F w H
  refine ⟨⟨b, 0, none⟩, v, vs, hv, ?_, rfl, h F w H⟩
  unfold loadVar
  rw [run_bind P _ _ w w _ (run_isAgg hs.h)]
  exact run_load1 ((H.pick (.there hm)).cl_get) rfl
theorem rx0 (h : ∃ N, Φ (.tuple #[]) N ∧ Imp M N) : retX P w0 [] Φ .ret ρ M := by obtain ⟨N, h, hM⟩ := h; exact ⟨[], N, fun _ _ _ => rfl, h, hM⟩
theorem rx0n (h : ∃ N, Φ (.tuple #[]) N ∧ Imp M N) : retX P w0 [] Φ .normal ρ M := by obtain ⟨N, h, hM⟩ := h; exact ⟨[], N, fun _ _ _ => rfl, h, hM⟩
theorem rx1 {r : ResultVar} {v : Value} (hr : resX P w0 ρ M [r] [v]) (h : ∃ N, Φ v N ∧ Imp M N) : retX P w0 [r] Φ .ret ρ M := by obtain ⟨N, h, hM⟩ := h; exact ⟨[v], N, hr, h, hM⟩
theorem rx2 {r r' : ResultVar} {v v' : Value} (hr : resX P w0 ρ M [r, r'] [v, v']) (h : ∃ N, Φ (.tuple #[v, v']) N ∧ Imp M N) : retX P w0 [r, r'] Φ .ret ρ M := by obtain ⟨N, h, hM⟩ := h; exact ⟨[v, v'], N, hr, h, hM⟩
theorem rx3 {r r' r2 : ResultVar} {v v' v2 : Value} (hr : resX P w0 ρ M [r, r', r2] [v, v', v2]) (h : ∃ N, Φ (.tuple #[v, v', v2]) N ∧ Imp M N) : retX P w0 [r, r', r2] Φ .ret ρ M := by obtain ⟨N, h, hM⟩ := h; exact ⟨[v, v', v2], N, hr, h, hM⟩
end res
/-- A contract, its post weakened. -/
theorem Con.mono {P : Program} {F : FuncId} {args : List Value} {M : List Asrt} {Φ Ψ : Value → List Asrt → Prop} (h : Con P F args M Φ) (hi : ∀ v M', Φ v M' → ∃ N, Imp M' N ∧ Ψ v N) : Con P F args M Ψ := by
  intro w0 Fr w H
  refine (h w0 Fr w H).mono (Ret.mono ?_)
  rintro v w' ⟨M', H', hφ⟩
  obtain ⟨N, hN, hψ⟩ := hi v M' hφ
  exact ⟨N, H'.enx hN, hψ⟩
theorem Con.pre {P : Program} {F : FuncId} {args : List Value} {M N : List Asrt} {Φ : Value → List Asrt → Prop} (h : Con P F args N Φ) (hi : Imp M N) : Con P F args M Φ := fun w0 Fr w H => h w0 Fr w (H.enx hi)
theorem Con.pur {P : Program} {F : FuncId} {args : List Value} {M : List Asrt} {p : Prop} {Φ : Value → List Asrt → Prop} (h : p → Con P F args M Φ) : Con P F args (Sl.pur p :: M) Φ := fun w0 Fr w H => h (H.swap.pur_get) w0 Fr w (H.enx Imp.tail)
theorem Con.ex {P : Program} {F : FuncId} {args : List Value} {M : List Asrt} {α : Type} {A : α → Asrt} {Φ : Value → List Asrt → Prop} (h : ∀ a, Con P F args (A a :: M) Φ) : Con P F args (Sl.ex A :: M) Φ := by
  intro w0 Fr w H
  obtain ⟨a, H⟩ := H.swap.ex_get
  exact h a w0 Fr w H.swap
theorem Con.get {P : Program} {F : FuncId} {args : List Value} {M : List Asrt} {p : Prop} {Φ : Value → List Asrt → Prop} (hp : ∀ w0 w Fr, St w0 w (Fr :: M) → p) (h : p → Con P F args M Φ) : Con P F args M Φ := fun w0 Fr w H => h (hp _ _ _ H) w0 Fr w H
/-- A contract in the older form. -/
theorem Con.of {P : Program} {F : FuncId} {args : List Value} {M : List Asrt} {Φ : Value → List Asrt → Prop} (h : ∀ w0 w L, St w0 w (M ++ L) → Calls P F args.toArray w (Ret fun v w' => ∃ M', St w0 w' (M' ++ L) ∧ Φ v M')) : Con P F args M Φ := by
  intro w0 Fr w H
  refine (h w0 w [Fr] (H.ent (Imp.comm (L := [Fr]) (M := M)))).mono (Ret.mono ?_)
  rintro v w' ⟨M', H', hφ⟩
  exact ⟨M', H'.ent (Imp.comm (L := M') (M := [Fr])), hφ⟩
/-- ... and back. -/
theorem Con.calls {P : Program} {F : FuncId} {args : List Value} {M L : List Asrt} {Φ : Value → List Asrt → Prop} (h : Con P F args M Φ) {w0 w : World} (H : St w0 w (M ++ L)) : Calls P F args.toArray w (Ret fun v w' => ∃ M', St w0 w' (M' ++ L) ∧ Φ v M') := by
  have H2 : St w0 w (all L :: M) := H.ent (Imp.comm.trans Imp.app)
  refine (h w0 _ w H2).mono (Ret.mono ?_)
  rintro v w' ⟨M', H', hφ⟩
  exact ⟨M', H'.ent (Imp.unapp.trans Imp.comm), hφ⟩
end Go.Sl
