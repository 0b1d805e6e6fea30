/- Parts of the proof, joined: EngS, EngT, EngU, EngV, EngW, EngY, EngZ, EngL, EngX, EngJ, Ty, HbS, HbA. -/
import Derived.Test.YthodgeekgpkieaaLawHostPlaysM0
import Derived.Laws.Bits64
import Derived.Laws.BitsLemmas
import Derived.Laws.BitsAllLaws
import Derived.OpenShut
import Derived.Test.YthodgeekgpkieaaProg
/- The engine over pieces alone: a state is an environment and a list of pieces; each rule holds whatever else stands in memory. -/
set_option linter.unusedVariables false
set_option linter.unusedSimpArgs false
namespace Go.Sl
open Go

/-- What the first list says, the second one says. -/
def Imp (M N : List Asrt) : Prop := ∀ h, SatF M h → SatF N h
theorem Imp.refl (M : List Asrt) : Imp M M := fun _ h => h
theorem Imp.trans {A B C : List Asrt} (h : Imp A B) (h' : Imp B C) : Imp A C := fun f x => h' f (h f x)
theorem Imp.arr {M N : List Asrt} (h : Arr M N) : Imp M N := fun _ hs => h.sat hs
theorem Imp.has {M N : List Asrt} {A : Asrt} (h : Has M A N) : Imp M (A :: N) := fun _ hs => h.front hs
theorem Imp.unhas {M N : List Asrt} {A : Asrt} (h : Has M A N) : Imp (A :: N) M := fun _ hs => h.back hs
theorem Imp.cons {M N : List Asrt} {A : Asrt} (h : Imp M N) : Imp (A :: M) (A :: N) := fun _ hs => hs.imp h
theorem Imp.swap {M : List Asrt} {A B : Asrt} : Imp (A :: B :: M) (B :: A :: M) := fun _ hs => hs.swap
theorem Imp.head {M : List Asrt} {A B : Asrt} (h : ∀ f, A.on f → B.on f) : Imp (A :: M) (B :: M) := fun _ hs => hs.head h
theorem Imp.tail {M : List Asrt} {A : Asrt} : Imp (A :: M) M := fun _ hs => hs.tail
theorem Imp.app {L M : List Asrt} : Imp (L ++ M) (all L :: M) := fun _ hs => hs.app
theorem Imp.unapp {L M : List Asrt} : Imp (all L :: M) (L ++ M) := fun _ hs => hs.unapp
theorem Imp.left {L M N : List Asrt} (h : Imp M N) : Imp (L ++ M) (L ++ N) := by
  induction L with
  | nil => exact h
  | cons A L ih => exact ih.cons
theorem Imp.comm {L M : List Asrt} : Imp (L ++ M) (M ++ L) := by
  have h1 : Imp (L ++ M) (all L :: M) := Imp.app
  have h2 : Imp (all L :: M) (all L :: all M :: []) := Imp.cons (by have := Imp.app (L := M) (M := []); rwa [List.append_nil] at this)
  have h3 : Imp (all M :: all L :: []) (M ++ [all L]) := Imp.unapp
  have h4 : Imp (M ++ [all L]) (M ++ L) := Imp.left (by have := Imp.unapp (L := L) (M := []); rwa [List.append_nil] at this)
  exact h1.trans (h2.trans (Imp.swap.trans (h3.trans h4)))
theorem St.ent {w0 w : World} {M N : List Asrt} (H : St w0 w M) (h : Imp M N) : St w0 w N := H.imp h
theorem St.enx {w0 w : World} {F : Asrt} {M N : List Asrt} (H : St w0 w (F :: M)) (h : Imp M N) : St w0 w (F :: N) := H.imp h.cons

/-- The list holds these; without them the last one. -/
inductive Take : List Asrt → List Asrt → List Asrt → Prop
  | nil {L} : Take L [] L
  | cons {L L' A M R} : Has L A L' → Take L' M R → Take L (A :: M) R
  | all {L} : Take L L []
  | skip {L A M R} : Take L M R → Take (A :: L) M (A :: R)
theorem Take.ent {L M R : List Asrt} (h : Take L M R) : Imp L (M ++ R) := by
  induction h with
  | nil => exact Imp.refl _
  | cons hh _ ih => exact (Imp.has hh).trans ih.cons
  | all => rw [List.append_nil]; exact Imp.refl _
  | @skip L A M R _ ih =>
    refine ih.cons.trans ?_
    have h1 : Imp (A :: (M ++ R)) ((M ++ R) ++ [A]) := Imp.comm (L := [A]) (M := M ++ R)
    rw [List.append_assoc] at h1
    exact h1.trans (Imp.left (Imp.comm (L := R) (M := [A])))
inductive App : List Asrt → List Asrt → List Asrt → Prop
  | nil {R} : App [] R R
  | cons {A M R N} : App M R N → App (A :: M) R (A :: N)
  | flip {M R N} : App R M N → App M R N
  | any {M R} : App M R (M ++ R)
theorem App.imp {M R N : List Asrt} (h : App M R N) : Imp (M ++ R) N := by
  induction h with
  | nil => exact Imp.refl _
  | cons _ ih => exact ih.cons
  | flip _ ih => exact Imp.comm.trans ih
  | any => exact Imp.refl _

abbrev XK := Env → List Asrt → Prop
abbrev XQ := Exit → Env → List Asrt → Prop
def xOps (P : Program) (w0 : World) (ops : Array Oper) (l : List Oper) (ρ : Env) (M : List Asrt) (K : XK) : Prop :=
  ∀ F w, St w0 w (F :: M) → denOps P ops l ρ w (fun ρ' w' => ∃ M', St w0 w' (F :: M') ∧ K ρ' M')
def xC (P : Program) (w0 : World) (c : Code) (ρ : Env) (M : List Asrt) (Q : XQ) : Prop :=
  ∀ F w, St w0 w (F :: M) → den P c ρ w (fun e ρ' w' => ∃ M', St w0 w' (F :: M') ∧ Q e ρ' M')
/-- What a call does: out of the pieces M a value and pieces that meet Φ. -/
def Con (P : Program) (F : FuncId) (args : List Value) (M : List Asrt) (Φ : Value → List Asrt → Prop) : Prop :=
  ∀ w0 Fr w, St w0 w (Fr :: M) → Calls P F args.toArray w (Ret fun v w' => ∃ M', St w0 w' (Fr :: M') ∧ Φ v M')

def xthen (k : XK) (Q : XQ) : XQ := fun e ρ M => match e with|.normal => k ρ M|e => Q e ρ M
def xblk (id : Nat) (Q : XQ) : XQ := fun e ρ M => match e with|.exit id' => if id' = id then Q .normal ρ M else Q (.exit id') ρ M|e => Q e ρ M
def xcut {S : Type} (I : S → Prop) (Mf : S → List Asrt) (U : S → List (Nat × Value)) (Q : XQ) : XQ := fun e ρ M => match e with|.normal => ∃ s, I s ∧ Imp M (Mf s) ∧ Fits ρ (U s)|e => Q e ρ M
def xloop {S : Type} (I : S → Prop) (Mf : S → List Asrt) (U : S → List (Nat × Value)) (μ : S → Nat) (m : Nat) (Q : XQ) : XQ := fun e ρ M => match e with|.normal => ∃ s, μ s < m ∧ I s ∧ Imp M (Mf s) ∧ Fits ρ (U s)|e => Q e ρ M

section code
variable {P : Program} {w0 : World} {x y c : Code} {ρ : Env} {M N : List Asrt} {Q : XQ} {k : XK} {id : Nat}
theorem zA (h : xC P w0 x ρ M (xthen (fun ρ' M' => xC P w0 y ρ' M' Q) Q)) : xC P w0 (.seq x y) ρ M Q := by
  intro F w H
  show den P x ρ w _
  refine Zab x ρ w ?_ (h F w H)
  rintro e ρ' w' ⟨M', H', hq⟩
  cases e <;> first
    | exact hq F w' H'
    | exact ⟨M', H', hq⟩
theorem Zgb {l : List Oper} (h : xOps P w0 l.toArray l ρ M (fun ρ' M' => Q .normal ρ' M')) : xC P w0 (.region id l.toArray false) ρ M Q := fun F w H => h F w H
theorem Zgc {l : List Oper} (h : xOps P w0 l.toArray l ρ M (fun ρ' M' => xC P w0 y ρ' M' Q)) : xC P w0 (.seq (.region id l.toArray false) y) ρ M Q := zA (Zgb h)
theorem zB (h : Q .normal ρ M) : xC P w0 .skip ρ M Q := fun F w H => ⟨M, H, h⟩
theorem Zgd (h : xC P w0 y ρ M Q) : xC P w0 (.seq .skip y) ρ M Q := zA (zB h)
theorem zE (h : Q (.exit id) ρ M) : xC P w0 (.exit id) ρ M Q := fun F w H => ⟨M, H, h⟩
theorem zD (h : Q .normal ρ M) : xC P w0 (.label id) ρ M Q := fun F w H => ⟨M, H, h⟩
theorem zF (h : Q .ret ρ M) : xC P w0 .ret ρ M Q := fun F w H => ⟨M, H, h⟩
theorem zC (h : xC P w0 c ρ M (xblk id Q)) : xC P w0 (.block id c) ρ M Q := by
  intro F w H
  refine Zaj (Zab c ρ w ?_ (h F w H))
  rintro e ρ' w' ⟨M', H', hq⟩
  cases e with
  | exit id' =>
    simp only [xblk] at hq
    show if id' = id then _ else _
    by_cases e : id' = id
    · rw [if_pos e]; rw [if_pos e] at hq; exact ⟨M', H', hq⟩
    · rw [if_neg e]; rw [if_neg e] at hq; exact ⟨M', H', hq⟩
  | _ => exact ⟨M', H', hq⟩
theorem Zge {cc : Operand} (ht : ev ρ cc = .bool true) (h : xC P w0 x ρ M Q) : xC P w0 (.cond cc x y) ρ M Q := fun F w H => Zao ht (h F w H)
theorem Zgf {cc : Operand} (ht : ev ρ cc = .bool false) (h : xC P w0 y ρ M Q) : xC P w0 (.cond cc x y) ρ M Q := fun F w H => Zap ht (h F w H)
theorem Zgg {cc : Operand} {p : Prop} [Decidable p] (ht : ev ρ cc = .bool (decide p)) (h1 : p → xC P w0 x ρ M Q) (h2 : ¬ p → xC P w0 y ρ M Q) : xC P w0 (.cond cc x y) ρ M Q :=
  fun F w H => Zaq ht (fun hp => h1 hp F w H) (fun hp => h2 hp F w H)
theorem Zgh {cc : Operand} {t : Bool} (ht : ev ρ cc = .bool t) (h1 : t = true → xC P w0 x ρ M Q) (h2 : t = false → xC P w0 y ρ M Q) : xC P w0 (.cond cc x y) ρ M Q :=
  fun F w H => Zan ht (fun hp => h1 hp F w H) (fun hp => h2 hp F w H)
/-- The test is known. -/
theorem Zgi {cc : Operand} {t : Bool} (ht : ev ρ cc = .bool t) (e : t = true) (h : xC P w0 x ρ M Q) : xC P w0 (.cond cc x y) ρ M Q := Zge (by rw [ht, e]) h
theorem Zgj {cc : Operand} {t : Bool} (ht : ev ρ cc = .bool t) (e : t = false) (h : xC P w0 y ρ M Q) : xC P w0 (.cond cc x y) ρ M Q := Zgf (by rw [ht, e]) h
theorem zG (h : k ρ M) : xthen k Q .normal ρ M := h
theorem zH (h : Q (.exit id) ρ M) : xthen k Q (.exit id) ρ M := h
theorem zI (h : Q .ret ρ M) : xthen k Q .ret ρ M := h
theorem zJ (h : Q .normal ρ M) : xblk id Q .normal ρ M := h
theorem zL (h : Q .ret ρ M) : xblk id Q .ret ρ M := h
theorem zK (h : Q .normal ρ M) : xblk id Q (.exit id) ρ M := by simp only [xblk, if_true]; exact h
theorem zM {id' : Nat} (hne : Nat.beq id' id = false) (h : Q (.exit id') ρ M) : xblk id Q (.exit id') ρ M := by
  simp only [xblk]
  rw [if_neg (fun e => by rw [e, beq_self] at hne; cases hne)]; exact h
section cuts
variable {S : Type} {I : S → Prop} {Mf : S → List Asrt} {U : S → List (Nat × Value)} {μ : S → Nat} {m : Nat}
theorem zN (h : Q (.exit id) ρ M) : xcut I Mf U Q (.exit id) ρ M := h
theorem zO (h : Q .ret ρ M) : xcut I Mf U Q .ret ρ M := h
theorem Zgk (s : S) (hI : I s) (hM : Imp M (Mf s)) (hf : Fits ρ (U s)) : xcut I Mf U Q .normal ρ M := ⟨s, hI, hM, hf⟩
theorem zP (h : Q (.exit id) ρ M) : xloop I Mf U μ m Q (.exit id) ρ M := h
theorem zQ (h : Q .ret ρ M) : xloop I Mf U μ m Q .ret ρ M := h
theorem Zgl (s : S) (hm : μ s < m) (hI : I s) (hM : Imp M (Mf s)) (hf : Fits ρ (U s)) : xloop I Mf U μ m Q .normal ρ M := ⟨s, hm, hI, hM, hf⟩
end cuts
theorem Zgm {S : Type} (mods : List (Nat × Nat)) (hm : cIn mods x = true) (I : S → Prop) (Mf : S → List Asrt) (U : S → List (Nat × Value))
    (h : xC P w0 x ρ M (xcut I Mf U Q)) (k : ∀ s u, I s → xC P w0 y (over (U s) (patch mods u ρ)) (Mf s) Q) : xC P w0 (.seq x y) ρ M Q := by
  intro F w H
  refine Zae mods hm (fun s w' => I s ∧ St w0 w' (F :: Mf s)) U (Zab x ρ w ?_ (h F w H)) ?_
  · rintro e ρ' w' ⟨M', H', hq⟩
    cases e <;> first
      | exact (let ⟨s, hI, hM, hf⟩ := hq; ⟨s, ⟨hI, H'.enx hM⟩, hf⟩)
      | exact ⟨M', H', hq⟩
  · rintro s w' u ⟨hI, H'⟩
    exact k s u hI F w' H'
theorem Zgn {S : Type} {k : XK} (mods : List (Nat × Nat)) (hm : cIn mods x = true) (I : S → Prop) (Mf : S → List Asrt) (U : S → List (Nat × Value))
    (h : xC P w0 x ρ M (xcut I Mf U Q)) (kk : ∀ s u, I s → k (over (U s) (patch mods u ρ)) (Mf s)) : xC P w0 x ρ M (xthen k Q) := by
  intro F w H
  refine Zab x ρ w ?_ (Zac (mods := mods) x ρ w hm (h F w H))
  rintro e ρ' w' ⟨ha, M', H', hq⟩
  cases e <;> first
    | (obtain ⟨s, hI, hM, hf⟩ := hq
       have hk := kk s ρ' hI
       rw [patch_agree ha, over_fits hf] at hk
       exact ⟨Mf s, H'.enx hM, hk⟩)
    | exact ⟨M', H', hq⟩
theorem Zgo {S : Type} (mods : List (Nat × Nat)) (hm : cIn mods c = true) (I : S → Prop) (Mf : S → List Asrt) (U : S → List (Nat × Value)) (μ : S → Nat) (s0 : S) (h0 : I s0) (hM : Imp M (Mf s0)) (hf : Fits ρ (U s0))
    (round : ∀ s u, I s → xC P w0 c (over (U s) (patch mods u ρ)) (Mf s) (xloop I Mf U μ (μ s) Q)) : xC P w0 (.loop c) ρ M Q := by
  intro F w H
  refine Zad mods hm (fun s w' => I s ∧ St w0 w' (F :: Mf s)) U μ s0 ⟨h0, H.enx hM⟩ hf ?_
  rintro s w' u ⟨hI, H'⟩
  refine Zab _ _ _ ?_ (round s u hI F w' H')
  rintro e ρ' w'' ⟨M', H'', hq⟩
  cases e <;> first
    | exact (let ⟨s', hlt, hI', hM', hf'⟩ := hq; ⟨s', hlt, ⟨hI', H''.enx hM'⟩, hf'⟩)
    | exact ⟨M', H'', hq⟩
/-- By a jump to the label l: what I, Mf and U say of it. -/
def xgo {S : Type} (l : Nat) (I : S → Prop) (Mf : S → List Asrt) (U : S → List (Nat × Value)) (Q : XQ) : XQ := fun e ρ M => match e with|.goto l' => l' = l ∧ ∃ s, I s ∧ Imp M (Mf s) ∧ Fits ρ (U s)|e => Q e ρ M
def xng (Q : XQ) : XQ := fun e ρ M => match e with|.goto _ => False|e => Q e ρ M
theorem Znd {l : Nat} (h : Q (.goto l) ρ M) : xC P w0 (.goto l) ρ M Q := fun F w H => ⟨M, H, h⟩
theorem Zne {l : Nat} (h : Q (.goto l) ρ M) : xthen k Q (.goto l) ρ M := h
theorem Znf {l : Nat} (h : Q (.goto l) ρ M) : xblk id Q (.goto l) ρ M := h
theorem Zng (h : Q .normal ρ M) : xng Q .normal ρ M := h
theorem Znh (h : Q (.exit id) ρ M) : xng Q (.exit id) ρ M := h
theorem Zni (h : Q .ret ρ M) : xng Q .ret ρ M := h
section goes
variable {S : Type} {I : S → Prop} {Mf : S → List Asrt} {U : S → List (Nat × Value)} {l : Nat}
theorem Znj (h : Q .normal ρ M) : xgo l I Mf U Q .normal ρ M := h
theorem Znk (h : Q (.exit id) ρ M) : xgo l I Mf U Q (.exit id) ρ M := h
theorem Znl (h : Q .ret ρ M) : xgo l I Mf U Q .ret ρ M := h
theorem Znm (s : S) (hI : I s) (hM : Imp M (Mf s)) (hf : Fits ρ (U s)) : xgo l I Mf U Q (.goto l) ρ M := ⟨rfl, s, hI, hM, hf⟩
theorem Znn {rest : Code} (hm : P.follows .mixedOrders = true) (l : Nat) (hf : findLabel x l = some rest) (I : S → Prop) (Mf : S → List Asrt) (U : S → List (Nat × Value)) (first : xC P w0 x ρ M (xgo l I Mf U Q))
    (kk : ∀ s u, I s → xC P w0 rest (over (U s) u) (Mf s) (xng Q)) : xC P w0 (.scope x) ρ M Q := by
  intro F w H
  refine Znc hm l hf (fun ρ' w' => ∃ s, I s ∧ St w0 w' (F :: Mf s) ∧ Fits ρ' (U s)) (Zab x ρ w ?_ (first F w H)) ?_
  · rintro e ρ' w' ⟨M', H', hq⟩
    cases e with
    | goto l' => exact (let ⟨hl, s, hI, hM, hf⟩ := hq; ⟨hl, s, hI, H'.enx hM, hf⟩)
    | _ => exact ⟨M', H', hq⟩
  · rintro ρ' w' ⟨s, hI, H', hfits⟩
    have h2 := kk s ρ' hI
    rw [over_fits hfits] at h2
    refine Zab rest ρ' w' ?_ (h2 F w' H')
    rintro e ρ'' w'' ⟨M', H'', hq⟩
    cases e with
    | goto l' => exact hq.elim
    | _ => exact ⟨M', H'', hq⟩
end goes
-- pieces
theorem Zgp (h : Imp M N) (k : xC P w0 c ρ N Q) : xC P w0 c ρ M Q := fun F w H => k F w (H.enx h)
theorem Zgq {p : Prop} (k : p → xC P w0 c ρ M Q) : xC P w0 c ρ (pur p :: M) Q := fun F w H => k (H.swap.pur_get) F w (H.enx Imp.tail)
theorem Zgr {α : Type} {A : α → Asrt} (k : ∀ a, xC P w0 c ρ (A a :: M) Q) : xC P w0 c ρ (ex A :: M) Q := by
  intro F w H
  obtain ⟨a, H⟩ := H.swap.ex_get
  exact k a F w H.swap
theorem Zgs {L : List Asrt} (k : xC P w0 c ρ (L ++ M) Q) : xC P w0 c ρ (all L :: M) Q := fun F w H => k F w (H.enx Imp.unapp)
/-- What the pieces tell. -/
theorem Zgt {p : Prop} (hp : ∀ F w, St w0 w (F :: M) → p) (k : p → xC P w0 c ρ M Q) : xC P w0 c ρ M Q := fun F w H => k (hp F w H) F w H
/-- A case whatever the pieces. -/
theorem Zgu {α : Type} {A : α → List Asrt} (hp : ∀ F w, St w0 w (F :: M) → ∃ a, St w0 w (F :: A a)) (k : ∀ a, xC P w0 c ρ (A a) Q) : xC P w0 c ρ M Q := by
  intro F w H
  obtain ⟨a, H⟩ := hp F w H
  exact k a F w H
theorem Zgv {Q' : XQ} (hq : ∀ e ρ M, Q e ρ M → Q' e ρ M) (h : xC P w0 c ρ M Q) : xC P w0 c ρ M Q' := by
  intro F w H
  refine Zab c ρ w ?_ (h F w H)
  rintro e ρ' w' ⟨M', H', hh⟩
  exact ⟨M', H', hq _ _ _ hh⟩
end code

section ops
variable {P : Program} {w0 : World} {ops : Array Oper} {l : List Oper} {ρ : Env} {M N : List Asrt} {K : XK}
theorem Zgw (h : Imp M N) (k : xOps P w0 ops l ρ N K) : xOps P w0 ops l ρ M K := fun F w H => k F w (H.enx h)
theorem Zgx {p : Prop} (k : p → xOps P w0 ops l ρ M K) : xOps P w0 ops l ρ (pur p :: M) K := fun F w H => k (H.swap.pur_get) F w (H.enx Imp.tail)
theorem Zgy {α : Type} {A : α → Asrt} (k : ∀ a, xOps P w0 ops l ρ (A a :: M) K) : xOps P w0 ops l ρ (ex A :: M) K := by
  intro F w H
  obtain ⟨a, H⟩ := H.swap.ex_get
  exact k a F w H.swap
theorem Zgz {L : List Asrt} (k : xOps P w0 ops l ρ (L ++ M) K) : xOps P w0 ops l ρ (all L :: M) K := fun F w H => k F w (H.enx Imp.unapp)
theorem Zg0 {p : Prop} (hp : ∀ F w, St w0 w (F :: M) → p) (k : p → xOps P w0 ops l ρ M K) : xOps P w0 ops l ρ M K := fun F w H => k (hp F w H) F w H
theorem Zg1 {α : Type} {A : α → List Asrt} (hp : ∀ F w, St w0 w (F :: M) → ∃ a, St w0 w (F :: A a)) (k : ∀ a, xOps P w0 ops l ρ (A a) K) : xOps P w0 ops l ρ M K := by
  intro F w H
  obtain ⟨a, H⟩ := hp F w H
  exact k a F w H
theorem Zg2 {R N : List Asrt} (h : App M R N) (k : xOps P w0 ops l ρ N K) : xOps P w0 ops l ρ (M ++ R) K := Zgw h.imp k
theorem Zg3 (h : K ρ M) : xOps P w0 ops [] ρ M K := fun F w H => ⟨M, H, h⟩
theorem Zg4 {K' : XK} (hk : ∀ ρ M, K ρ M → K' ρ M) (h : xOps P w0 ops l ρ M K) : xOps P w0 ops l ρ M K' := by
  intro F w H
  refine denOps_mono _ _ _ ?_ (h F w H)
  rintro ρ' w' ⟨M', H', hh⟩
  exact ⟨M', H', hk _ _ hh⟩
theorem Zg5 {l2 : List Oper} (h : xOps P w0 ops l ρ M (fun ρ' M' => xOps P w0 ops l2 ρ' M' K)) : xOps P w0 ops (l ++ l2) ρ M K := by
  intro F w H
  have key : ∀ (l : List Oper) (ρ : Env) (w : World), denOps P ops l ρ w (fun ρ' w' => ∃ M', St w0 w' (F :: M') ∧ xOps P w0 ops l2 ρ' M' K) → denOps P ops (l ++ l2) ρ w (fun ρ' w' => ∃ M', St w0 w' (F :: M') ∧ K ρ' M') := by
    intro l
    induction l with
    | nil => rintro ρ w ⟨M', H', hh⟩; exact hh F w H'
    | cons o l ih => exact fun ρ w h => denI_mono (fun v w' hk => ih _ _ hk) (show denI P ops o ρ w _ from h)
  exact key l ρ w (h F w H)
theorem denOps_agree' {mods : List (Nat × Nat)} {K : Env → World → Prop} : ∀ (l : List Oper) (ρ : Env) (w : World), l.all (dIn mods) = true → denOps P ops l ρ w K → denOps P ops l ρ w (fun ρ' w' => Agree mods ρ ρ' ∧ K ρ' w')
  | [], ρ, w, _, h => ⟨Agree.refl _ _, h⟩
  | o :: rest, ρ, w, hd, h => by
    simp only [List.all_cons, Bool.and_eq_true] at hd
    refine denI_mono (o := o) (fun v w' hk => ?_) (show denI P ops o ρ w _ from h)
    exact denOps_mono _ _ _ (fun ρ' w'' ⟨ha, hq⟩ => ⟨(agree_put hd.1 v).trans ha, hq⟩) (denOps_agree' rest _ _ hd.2 hk)
/-- A cut within a region: behind its first n operations. -/
theorem Zg6 {S : Type} (n : Nat) (mods : List (Nat × Nat)) (hm : (l.take n).all (dIn mods) = true) (I : S → Prop) (Mf : S → List Asrt) (U : S → List (Nat × Value))
    (h : xOps P w0 ops (l.take n) ρ M (fun ρ' M' => ∃ s, I s ∧ Imp M' (Mf s) ∧ Fits ρ' (U s))) (k : ∀ s u, I s → xOps P w0 ops (l.drop n) (over (U s) (patch mods u ρ)) (Mf s) K) : xOps P w0 ops l ρ M K := by
  rw [← List.take_append_drop n l]
  refine Zg5 ?_
  intro F w H
  refine denOps_mono _ _ _ ?_ (denOps_agree' _ _ _ hm (h F w H))
  rintro ρ' w' ⟨ha, M', H', s, hI, hM, hf⟩
  have hk := k s ρ' hI
  rw [patch_agree ha, over_fits hf] at hk
  exact ⟨Mf s, H'.enx hM, hk⟩
end ops

-- calls and results
theorem fn_den {P : Program} {f : FuncId} {fn : Func} {c : Code} {rs : List ResultVar} {n : Nat} {args : List Value} {M : List Asrt} {Φ : Value → List Asrt → Prop}
    (hf : P.funcs[f]? = some fn) (hb : fn.body = some c) (hr : fn.results.toList = rs) (hn : fn.ntmps = n) (hm : P.follows .mixedOrders = true) (hfit : (Nat.ble args.length n && cfits n c) = true)
    (h : ∀ w0, xC P w0 c (nth args) M (fun e ρ M' => match e with|.normal|.ret => ∃ vs N, (∀ F w, St w0 w (F :: M') → resE P ρ w rs vs) ∧ Φ (packV vs) N ∧ Imp M' N|_ => False)) : Con P f args M Φ := by
  intro w0 Fr w H
  refine calls_den args hf hb hr hn hm hfit (Zab c _ _ ?_ (h w0 Fr w H))
  rintro e ρ' w' ⟨M', H', hq⟩
  cases e <;> first
    | (obtain ⟨vs, N, hvs, hΦ, hN⟩ := hq
       exact ⟨vs, hvs Fr w' H', N, H'.enx hN, hΦ⟩)
    | exact hq.elim
def retX (P : Program) (w0 : World) (rs : List ResultVar) (Φ : Value → List Asrt → Prop) : XQ := fun e ρ M' => match e with|.normal|.ret => ∃ vs N, (∀ F w, St w0 w (F :: M') → resE P ρ w rs vs) ∧ Φ (packV vs) N ∧ Imp M' N|_ => False
theorem fn_x {P : Program} {f : FuncId} {fn : Func} {c : Code} {rs : List ResultVar} {n : Nat} {args : List Value} {M : List Asrt} {Φ : Value → List Asrt → Prop}
    (hf : P.funcs[f]? = some fn) (hb : fn.body = some c) (hr : fn.results.toList = rs) (hn : fn.ntmps = n) (hm : P.follows .mixedOrders = true) (hfit : (Nat.ble args.length n && cfits n c) = true)
    (h : ∀ w0, xC P w0 c (nth args) M (retX P w0 rs Φ)) : Con P f args M Φ := fn_den hf hb hr hn hm hfit h
section res
variable {P : Program} {w0 : World} {ρ : Env} {M N : List Asrt} {Φ : Value → List Asrt → Prop}
def resX (P : Program) (w0 : World) (ρ : Env) (M : List Asrt) (rs : List ResultVar) (vs : List Value) : Prop := ∀ F w, St w0 w (F :: M) → resE P ρ w rs vs
theorem Zg7 : resX P w0 ρ M [] [] := fun _ _ _ => rfl
theorem Zg8 {t : Nat} {v : Value} {rs : List ResultVar} {vs : List Value} (hv : ρ t = v) (h : resX P w0 ρ M rs vs) : resX P w0 ρ M (.tmp t :: rs) (v :: vs) := by
  intro F w H; subst hv; exact ⟨vs, rfl, h F w H⟩
theorem Zg9 {t : Nat} {k : IntKind} {n : Int} {rs : List ResultVar} {vs : List Value} (hv : ρ t = .int k n) (h : resX P w0 ρ M rs vs) : resX P w0 ρ M (.tmp t :: rs) (.int k n :: vs) := Zg8 hv h
theorem Zha {t : Nat} {b : Bool} {rs : List ResultVar} {vs : List Value} (hv : ρ t = .bool b) (h : resX P w0 ρ M rs vs) : resX P w0 ρ M (.tmp t :: rs) (.bool b :: vs) := Zg8 hv h
theorem Zhb {t : Nat} {a : Option Addr} {rs : List ResultVar} {vs : List Value} (hv : ρ t = .pointer a) (h : resX P w0 ρ M rs vs) : resX P w0 ρ M (.tmp t :: rs) (.pointer a :: vs) := Zg8 hv h
theorem Zhc {t : Nat} {a : Option Addr} {l c : Nat} {rs : List ResultVar} {vs : List Value} (hv : ρ t = .slice a l c) (h : resX P w0 ρ M rs vs) : resX P w0 ρ M (.tmp t :: rs) (.slice a l c :: vs) := Zg8 hv h
theorem Zhd {t : Nat} {a : Array Value} {rs : List ResultVar} {vs : List Value} (hv : ρ t = .agg a) (h : resX P w0 ρ M rs vs) : resX P w0 ρ M (.tmp t :: rs) (.agg a :: vs) := Zg8 hv h
theorem Zhe {T n by' b E t : Nat} {z : Value} {cs : Array Value} {M' : List Asrt} {rs : List ResultVar} {vs : List Value} [hs : TyAggr P T] [hi : TyI P T n by' z] (hv : ρ t = .pointer (some ⟨b, 0, none⟩)) (hm : Has M (cl b cs E) M') (hn : cs.size = n)
    (h : resX P w0 ρ M rs vs) : resX P w0 ρ M (.cell t T :: rs) (.agg cs :: vs) := by
  intro F w H
  refine ⟨⟨b, 0, none⟩, .agg cs, vs, hv, ?_, rfl, h F w H⟩
  have := run_loadVar (P := P) (T := T) (n := n) (o := 0) ((H.pick (.there hm)).cl_get) (by omega)
  rw [this, Nat.zero_add, ← hn]
  simp
theorem Zhf {T b E t : Nat} {v : Value} {M' : List Asrt} {rs : List ResultVar} {vs : List Value} [hs : TyScal P T] (hv : ρ t = .pointer (some ⟨b, 0, none⟩)) (hm : Has M (cl b #[v] E) M')
    (h : resX P w0 ρ M rs vs) : resX P w0 ρ M (.cell t T :: rs) (v :: vs) := by
  intro F w H
  refine ⟨⟨b, 0, none⟩, v, vs, hv, ?_, rfl, h F w H⟩
  unfold loadVar
  rw [run_bind P _ _ w w _ (run_isAgg hs.h)]
  exact run_load1 ((H.pick (.there hm)).cl_get) rfl
theorem rx0 (h : ∃ N, Φ (.tuple #[]) N ∧ Imp M N) : retX P w0 [] Φ .ret ρ M := by obtain ⟨N, h, hM⟩ := h; exact ⟨[], N, fun _ _ _ => rfl, h, hM⟩
theorem rx0n (h : ∃ N, Φ (.tuple #[]) N ∧ Imp M N) : retX P w0 [] Φ .normal ρ M := by obtain ⟨N, h, hM⟩ := h; exact ⟨[], N, fun _ _ _ => rfl, h, hM⟩
theorem rx1 {r : ResultVar} {v : Value} (hr : resX P w0 ρ M [r] [v]) (h : ∃ N, Φ v N ∧ Imp M N) : retX P w0 [r] Φ .ret ρ M := by obtain ⟨N, h, hM⟩ := h; exact ⟨[v], N, hr, h, hM⟩
theorem rx2 {r r' : ResultVar} {v v' : Value} (hr : resX P w0 ρ M [r, r'] [v, v']) (h : ∃ N, Φ (.tuple #[v, v']) N ∧ Imp M N) : retX P w0 [r, r'] Φ .ret ρ M := by obtain ⟨N, h, hM⟩ := h; exact ⟨[v, v'], N, hr, h, hM⟩
theorem rx3 {r r' r2 : ResultVar} {v v' v2 : Value} (hr : resX P w0 ρ M [r, r', r2] [v, v', v2]) (h : ∃ N, Φ (.tuple #[v, v', v2]) N ∧ Imp M N) : retX P w0 [r, r', r2] Φ .ret ρ M := by obtain ⟨N, h, hM⟩ := h; exact ⟨[v, v', v2], N, hr, h, hM⟩
end res
/-- A contract, its post weakened. -/
theorem Con.mono {P : Program} {F : FuncId} {args : List Value} {M : List Asrt} {Φ Ψ : Value → List Asrt → Prop} (h : Con P F args M Φ) (hi : ∀ v M', Φ v M' → ∃ N, Imp M' N ∧ Ψ v N) : Con P F args M Ψ := by
  intro w0 Fr w H
  refine (h w0 Fr w H).mono (Ret.mono ?_)
  rintro v w' ⟨M', H', hφ⟩
  obtain ⟨N, hN, hψ⟩ := hi v M' hφ
  exact ⟨N, H'.enx hN, hψ⟩
theorem Con.pre {P : Program} {F : FuncId} {args : List Value} {M N : List Asrt} {Φ : Value → List Asrt → Prop} (h : Con P F args N Φ) (hi : Imp M N) : Con P F args M Φ := fun w0 Fr w H => h w0 Fr w (H.enx hi)
theorem Con.pur {P : Program} {F : FuncId} {args : List Value} {M : List Asrt} {p : Prop} {Φ : Value → List Asrt → Prop} (h : p → Con P F args M Φ) : Con P F args (Sl.pur p :: M) Φ := fun w0 Fr w H => h (H.swap.pur_get) w0 Fr w (H.enx Imp.tail)
theorem Con.ex {P : Program} {F : FuncId} {args : List Value} {M : List Asrt} {α : Type} {A : α → Asrt} {Φ : Value → List Asrt → Prop} (h : ∀ a, Con P F args (A a :: M) Φ) : Con P F args (Sl.ex A :: M) Φ := by
  intro w0 Fr w H
  obtain ⟨a, H⟩ := H.swap.ex_get
  exact h a w0 Fr w H.swap
theorem Con.get {P : Program} {F : FuncId} {args : List Value} {M : List Asrt} {p : Prop} {Φ : Value → List Asrt → Prop} (hp : ∀ w0 w Fr, St w0 w (Fr :: M) → p) (h : p → Con P F args M Φ) : Con P F args M Φ := fun w0 Fr w H => h (hp _ _ _ H) w0 Fr w H
/-- A contract in the older form. -/
theorem Con.of {P : Program} {F : FuncId} {args : List Value} {M : List Asrt} {Φ : Value → List Asrt → Prop} (h : ∀ w0 w L, St w0 w (M ++ L) → Calls P F args.toArray w (Ret fun v w' => ∃ M', St w0 w' (M' ++ L) ∧ Φ v M')) : Con P F args M Φ := by
  intro w0 Fr w H
  refine (h w0 w [Fr] (H.ent (Imp.comm (L := [Fr]) (M := M)))).mono (Ret.mono ?_)
  rintro v w' ⟨M', H', hφ⟩
  exact ⟨M', H'.ent (Imp.comm (L := M') (M := [Fr])), hφ⟩
/-- ... and back. -/
theorem Con.calls {P : Program} {F : FuncId} {args : List Value} {M L : List Asrt} {Φ : Value → List Asrt → Prop} (h : Con P F args M Φ) {w0 w : World} (H : St w0 w (M ++ L)) : Calls P F args.toArray w (Ret fun v w' => ∃ M', St w0 w' (M' ++ L) ∧ Φ v M') := by
  have H2 : St w0 w (all L :: M) := H.ent (Imp.comm.trans Imp.app)
  refine (h w0 _ w H2).mono (Ret.mono ?_)
  rintro v w' ⟨M', H', hφ⟩
  exact ⟨M', H'.ent (Imp.unapp.trans Imp.comm), hφ⟩
end Go.Sl

/- The engine over pieces alone: one operation behind the other. -/
set_option linter.unusedVariables false
set_option linter.unusedSimpArgs false
namespace Go.Sl
open Go
attribute [local irreducible] cl pt own old

section
variable {P : Program} {w0 : World} {ops : Array Oper} {dst : Option Nat} {ty T E : TypeId} {pos : String} {after : Array Edge} {rest l : List Oper} {ρ : Env} {K : XK} {M M' M2 : List Asrt} {x y : Operand} {b o : Nat} {c c' : Array Value}
theorem Zhg {op : Op} {v : Value} (h : PV P op ρ v) (k : xOps P w0 ops rest (put ρ dst v) M K) : xOps P w0 ops (⟨dst, op, ty, pos, after, none⟩ :: rest) ρ M K :=
  fun F w H => Zcz h (k F w H)
theorem Zhh {op : Op} {j : Nat} {b : Bool} (hg : yl ops ρ j = some b) (h : xOps P w0 ops (⟨dst, op, ty, pos, after, none⟩ :: rest) ρ M K) : xOps P w0 ops (⟨dst, op, ty, pos, after, some (j, b)⟩ :: rest) ρ M K :=
  fun F w H => Zc0 hg (h F w H)
theorem Zhi {op : Op} {j : Nat} {b : Bool} (hg : yl ops ρ j = some (!b)) (h : xOps P w0 ops rest (put ρ dst undef) M K) : xOps P w0 ops (⟨dst, op, ty, pos, after, some (j, b)⟩ :: rest) ρ M K :=
  fun F w H => Zc1 hg (h F w H)
theorem Zhj {op : Op} {j : Nat} {b : Bool} (hg : yl ops ρ j = none) (h : xOps P w0 ops rest (put ρ dst undef) M K) : xOps P w0 ops (⟨dst, op, ty, pos, after, some (j, b)⟩ :: rest) ρ M K :=
  fun F w H => Zc2 hg (h F w H)
/-- A test split, or known. -/
theorem Zhk (d : Nat) {p : Prop} [Decidable p] (hd : ρ d = .bool (decide p)) (h1 : p → xOps P w0 ops l (put ρ (some d) (.bool true)) M K) (h2 : ¬ p → xOps P w0 ops l (put ρ (some d) (.bool false)) M K) : xOps P w0 ops l ρ M K :=
  fun F w H => Zc3 d hd (fun hp => h1 hp F w H) (fun hp => h2 hp F w H)
theorem Zhl (d : Nat) {t : Bool} (hd : ρ d = .bool t) (h1 : t = true → xOps P w0 ops l (put ρ (some d) (.bool true)) M K) (h2 : t = false → xOps P w0 ops l (put ρ (some d) (.bool false)) M K) : xOps P w0 ops l ρ M K :=
  fun F w H => Zc4 d hd (fun hp => h1 hp F w H) (fun hp => h2 hp F w H)
theorem Zhm (d : Nat) {t : Bool} (hd : ρ d = .bool t) (e : t = true) (h : xOps P w0 ops l (put ρ (some d) (.bool true)) M K) : xOps P w0 ops l ρ M K := by
  subst e; rwa [put_self hd] at h
theorem Zhn (d : Nat) {t : Bool} (hd : ρ d = .bool t) (e : t = false) (h : xOps P w0 ops l (put ρ (some d) (.bool false)) M K) : xOps P w0 ops l ρ M K := by
  subst e; rwa [put_self hd] at h
/-- What a slot holds, said otherwise. -/
theorem Zho (d : Nat) {v u : Value} (hd : ρ d = v) (e : v = u) (h : xOps P w0 ops l (put ρ (some d) u) M K) : xOps P w0 ops l ρ M K := by
  subst e; rwa [put_self hd] at h

-- loads
theorem Zhp [hs : TyScal P T] {v : Value} (hx : ev ρ x = .pointer (some ⟨b, o, none⟩)) (hm : Has M (cl b c E) M') (hv : c[o]? = some v) (k : xOps P w0 ops rest (put ρ dst v) M K) :
    xOps P w0 ops (⟨dst, .load T x, ty, pos, after, none⟩ :: rest) ρ M K := fun F w H => Zc5 H hx (.there hm) hv (k F w H)
theorem Zhq [hs : TyAggr P T] {n by' : Nat} {z : Value} {cs : Array Value} [hi : TyI P T n by' z] (hx : ev ρ x = .pointer (some ⟨b, o, none⟩)) (hm : Has M (cl b c E) M') (hv : o + n ≤ c.size) (hc : c.extract o (o + n) = cs) (k : xOps P w0 ops rest (put ρ dst (.agg cs)) M K) :
    xOps P w0 ops (⟨dst, .load T x, ty, pos, after, none⟩ :: rest) ρ M K := fun F w H => Zc7 H hx (.there hm) hv (by rw [hc]; exact k F w H)
theorem Zhr [hs : TyAggr P T] {n by' : Nat} {z : Value} [hi : TyI P T n by' z] (hx : ev ρ x = .pointer (some ⟨b, 0, none⟩)) (hm : Has M (cl b c E) M') (hv : c.size = n) (k : xOps P w0 ops rest (put ρ dst (.agg c)) M K) :
    xOps P w0 ops (⟨dst, .load T x, ty, pos, after, none⟩ :: rest) ρ M K := fun F w H => Zdf H hx (.there hm) hv (k F w H)
-- stores
theorem Zhs {by' : Nat} {z v : Value} [hi : TyI P T 1 by' z] (hx : ev ρ x = .pointer (some ⟨b, o, none⟩)) (hy : ev ρ y = v) (h1 : oneC v = true) (hm : Repl M (cl b c E) (cl b c' E) M2) (hv : o < c.size) (hc : c.setIfInBounds o v = c')
    (k : xOps P w0 ops rest (put ρ dst undef) M2 K) : xOps P w0 ops (⟨dst, .store T x y, ty, pos, after, none⟩ :: rest) ρ M K := by
  subst hc; exact fun F w H => Zda H hx hy h1 (.there hm) hv (fun w' H' => k F w' H')
theorem Zht {by' : Nat} {z : Value} {kk : IntKind} {v : Int} [hi : TyI P T 1 by' z] (hx : ev ρ x = .pointer (some ⟨b, o, none⟩)) (hy : ev ρ y = .int kk v) (hm : Repl M (cl b c E) (cl b c' E) M2) (hv : o < c.size) (hc : c.setIfInBounds o (.int kk v) = c')
    (k : xOps P w0 ops rest (put ρ dst undef) M2 K) : xOps P w0 ops (⟨dst, .store T x y, ty, pos, after, none⟩ :: rest) ρ M K := Zhs hx hy rfl hm hv hc k
theorem Zhu {by' : Nat} {z : Value} {v : Bool} [hi : TyI P T 1 by' z] (hx : ev ρ x = .pointer (some ⟨b, o, none⟩)) (hy : ev ρ y = .bool v) (hm : Repl M (cl b c E) (cl b c' E) M2) (hv : o < c.size) (hc : c.setIfInBounds o (.bool v) = c')
    (k : xOps P w0 ops rest (put ρ dst undef) M2 K) : xOps P w0 ops (⟨dst, .store T x y, ty, pos, after, none⟩ :: rest) ρ M K := Zhs hx hy rfl hm hv hc k
theorem Zhv {by' : Nat} {z : Value} {v : Option Addr} [hi : TyI P T 1 by' z] (hx : ev ρ x = .pointer (some ⟨b, o, none⟩)) (hy : ev ρ y = .pointer v) (hm : Repl M (cl b c E) (cl b c' E) M2) (hv : o < c.size) (hc : c.setIfInBounds o (.pointer v) = c')
    (k : xOps P w0 ops rest (put ρ dst undef) M2 K) : xOps P w0 ops (⟨dst, .store T x y, ty, pos, after, none⟩ :: rest) ρ M K := Zhs hx hy rfl hm hv hc k
theorem Zhw {by' : Nat} {z : Value} {v : Option Addr} {l cc : Nat} [hi : TyI P T 1 by' z] (hx : ev ρ x = .pointer (some ⟨b, o, none⟩)) (hy : ev ρ y = .slice v l cc) (hm : Repl M (cl b c E) (cl b c' E) M2) (hv : o < c.size) (hc : c.setIfInBounds o (.slice v l cc) = c')
    (k : xOps P w0 ops rest (put ρ dst undef) M2 K) : xOps P w0 ops (⟨dst, .store T x y, ty, pos, after, none⟩ :: rest) ρ M K := Zhs hx hy rfl hm hv hc k
theorem Zhx {n by' : Nat} {z : Value} {vs : Array Value} [hi : TyI P T n by' z] (hx : ev ρ x = .pointer (some ⟨b, o, none⟩)) (hy : ev ρ y = .agg vs) (hm : Repl M (cl b c E) (cl b c' E) M2) (hn : vs.size = n) (h1 : vs.toList.all oneC = true) (hv : o + n ≤ c.size) (hc : wr c o vs.toList = c')
    (k : xOps P w0 ops rest (put ρ dst undef) M2 K) : xOps P w0 ops (⟨dst, .store T x y, ty, pos, after, none⟩ :: rest) ρ M K := by
  subst hc; exact fun F w H => Zdg H hx hy hn h1 (.there hm) hv (fun w' H' => k F w' H')
theorem Zhy {n by' : Nat} {z : Value} {vs : Array Value} [hi : TyI P T n by' z] (hx : ev ρ x = .pointer (some ⟨b, 0, none⟩)) (hy : ev ρ y = .agg vs) (hm : Repl M (cl b c E) (cl b vs E) M2) (hn : vs.size = n) (h1 : vs.toList.all oneC = true) (hv : c.size = n)
    (k : xOps P w0 ops rest (put ρ dst undef) M2 K) : xOps P w0 ops (⟨dst, .store T x y, ty, pos, after, none⟩ :: rest) ρ M K :=
  fun F w H => Zdh H hx hy hn h1 (.there hm) hv (fun w' H' => k F w' H')
-- new blocks
theorem Zhz {n by' : Nat} {z : Value} {cs : Array Value} [hi : TyI P T n by' z] (hz : z.cells = cs) (k : ∀ b, xOps P w0 ops rest (put ρ dst (.pointer (some ⟨b, 0, none⟩))) (cl b cs T :: M) K) :
    xOps P w0 ops (⟨dst, .alloc T, ty, pos, after, none⟩ :: rest) ρ M K := by
  subst hz; exact fun F w H => Zdi H (fun w' b H' => k b F w' H'.swap)
theorem Zh0 {v : Value} {cs : Array Value} (hx : ev ρ x = v) (hz : v.cells = cs) (k : ∀ b, xOps P w0 ops rest (put ρ dst (.pointer (some ⟨b, 0, none⟩))) (cl b cs T :: M) K) :
    xOps P w0 ops (⟨dst, .box T x, ty, pos, after, none⟩ :: rest) ρ M K := by
  subst hz; exact fun F w H => Zdj H hx (fun w' b H' => k b F w' H'.swap)
theorem Zh1 {kk : IntKind} {n : Int} (hx : ev ρ x = .int kk n) (k : ∀ b, xOps P w0 ops rest (put ρ dst (.pointer (some ⟨b, 0, none⟩))) (cl b #[.int kk n] T :: M) K) :
    xOps P w0 ops (⟨dst, .box T x, ty, pos, after, none⟩ :: rest) ρ M K := Zh0 hx rfl k
theorem Zh2 {n : Bool} (hx : ev ρ x = .bool n) (k : ∀ b, xOps P w0 ops rest (put ρ dst (.pointer (some ⟨b, 0, none⟩))) (cl b #[.bool n] T :: M) K) :
    xOps P w0 ops (⟨dst, .box T x, ty, pos, after, none⟩ :: rest) ρ M K := Zh0 hx rfl k
theorem Zh3 {n : Option Addr} (hx : ev ρ x = .pointer n) (k : ∀ b, xOps P w0 ops rest (put ρ dst (.pointer (some ⟨b, 0, none⟩))) (cl b #[.pointer n] T :: M) K) :
    xOps P w0 ops (⟨dst, .box T x, ty, pos, after, none⟩ :: rest) ρ M K := Zh0 hx rfl k
theorem Zh4 {n : Option Addr} {l cc : Nat} (hx : ev ρ x = .slice n l cc) (k : ∀ b, xOps P w0 ops rest (put ρ dst (.pointer (some ⟨b, 0, none⟩))) (cl b #[.slice n l cc] T :: M) K) :
    xOps P w0 ops (⟨dst, .box T x, ty, pos, after, none⟩ :: rest) ρ M K := Zh0 hx rfl k
theorem Zh5 {cs : Array Value} (hx : ev ρ x = .agg cs) (k : ∀ b, xOps P w0 ops rest (put ρ dst (.pointer (some ⟨b, 0, none⟩))) (cl b cs T :: M) K) :
    xOps P w0 ops (⟨dst, .box T x, ty, pos, after, none⟩ :: rest) ρ M K := Zh0 hx rfl k
theorem Zh6 {n by' : Nat} {z : Value} {len cap : Nat} [hs : TySlice P T E] [hi : TyI P E n by' z] (hl : ev ρ x = .int .i64 len) (hc : ev ρ y = .int .i64 cap) (hle : len ≤ cap) (hcap : cap ≤ 9223372036854775807) (hb : cap * by' ≤ 281474976710656) (h0 : 0 < n)
    (k : ∀ b, xOps P w0 ops rest (put ρ dst (.slice (some ⟨b, 0, none⟩) len cap)) (cl b (List.replicate cap z.cells.toList).flatten.toArray E :: M) K) :
    xOps P w0 ops (⟨dst, .makeSlice T x y, ty, pos, after, none⟩ :: rest) ρ M K := fun F w H => Zdk H hl hc hle hcap hb h0 (fun w' b H' => k b F w' H'.swap)
theorem Zh7 {n by' : Nat} {z : Value} {len : Nat} {ps : Array (Nat × Operand)} {cs : Array Value} [hs : TySlice P T E] [hi : TyI P E n by' z] (hlen : len * n ≤ 16777216) (h0 : 0 < n)
    (hf : Instr.fill (fun i => some (i * n, n)) (List.replicate len z.cells.toList).flatten.toArray (partsV ρ ps) = some cs)
    (k : ∀ b, xOps P w0 ops rest (put ρ dst (.slice (some ⟨b, 0, none⟩) len len)) (cl b cs E :: M) K) :
    xOps P w0 ops (⟨dst, .buildSlice T len ps, ty, pos, after, none⟩ :: rest) ρ M K := fun F w H => Zdl H hlen h0 hf (fun w' b H' => k b F w' H'.swap)
-- calls
theorem Zh8 {F : FuncId} {f : Operand} {ars : Array Operand} {ts : Array TypeId} {fi ca : Array Value} {vs : List Value} {M1 R : List Asrt} {Φ : Value → List Asrt → Prop} (hf : ev ρ f = .func (.func F) fi ca) (hb : callable P F = true)
    (hc : Con P F vs M1 Φ) (ha : argL ρ fi ars ca = vs) (hs : Take M M1 R) (k : ∀ v M', Φ v M' → xOps P w0 ops rest (put ρ dst v) (M' ++ R) K) :
    xOps P w0 ops (⟨dst, .call { callee := .value f, args := ars, argTypes := ts }, ty, pos, after, none⟩ :: rest) ρ M K := by
  intro F' w H
  have H1 : St w0 w (F' :: (M1 ++ R)) := H.enx hs.ent
  have H2 : St w0 w (all (F' :: R) :: M1) := by
    refine H1.ent (Imp.trans (Imp.cons Imp.app) (Imp.trans Imp.swap ?_))
    have h3 : Imp (all M1 :: (F' :: R)) ((F' :: R) ++ [all M1]) := Imp.comm (L := [all M1]) (M := F' :: R)
    refine h3.trans (Imp.app.trans (Imp.cons ?_))
    have := Imp.unapp (L := M1) (M := [])
    rwa [List.append_nil] at this
  refine Zdp hf hb (hc w0 _ w H2) ha ?_
  rintro v w' ⟨M', H', hφ⟩
  exact k v M' hφ F' w' (H'.ent (Imp.unapp.trans (Imp.cons Imp.comm)))
/-- A function that the model itself answers. -/
def extv (P : Program) (F : FuncId) (args : List Value) (v : Value) : Prop := ∀ w, (callFunc F args.toArray).run P w = .ok (.value v) w
theorem Zh9 {F : FuncId} {f : Operand} {ars : Array Operand} {ts : Array TypeId} {fi ca : Array Value} {vs : List Value} {v : Value} (hf : ev ρ f = .func (.func F) fi ca) (h : extv P F vs v) (ha : argL ρ fi ars ca = vs) :
    PV P (.call { callee := .value f, args := ars, argTypes := ts }) ρ v := by
  intro oo w ho
  unfold execOp
  subst ha
  simp only [ho, resolve, hf, Deferred.ofValue, pure_bind, invoke]
  have : fi ++ Array.map (ev ρ) ars ++ ca = (argL ρ fi ars ca).toArray := by
    apply Array.ext'
    simp [argL]
  rw [this]
  exact h w
-- slices
/-- Among the pieces M the slice v has n elements, of the cells xs. -/
def Rd (M : List Asrt) (size : Nat) (v : Value) (n : Nat) (xs : List Value) : Prop := ∀ w0 F w, St w0 w (F :: M) → SlW w size v n xs
theorem Rd.own {size n : Nat} {v : Value} {xs : List Value} (hm : Has M (own E size v n xs) M') : Rd M size v n xs := fun _ _ _ H => (H.pick (.there hm)).own_sl
theorem Rd.old {W : World} {size n : Nat} {v : Value} {xs : List Value} (hm : Has M (old W) M') (h : SlW W size v n xs) : Rd M size v n xs := fun _ _ _ H => (H.pick (.there hm)).old_sl h
theorem Rd.cl {size n k : Nat} {xs : List Value} (hm : Has M (cl b c E) M') (hx : xs.length = n * size) (hle : o + n * size ≤ c.size) (h : (c.extract o (o + n * size)).toList = xs) : Rd M size (.slice (some ⟨b, o, none⟩) n k) n xs :=
  fun _ _ _ H => ⟨hx, .inr ⟨b, o, k, c, E, (0, 0), rfl, (H.pick (.there hm)).cl_get, hle, h⟩⟩
theorem Rd.nil {size k : Nat} {a : Option Addr} : Rd M size (.slice a 0 k) 0 [] := fun _ _ _ H => ⟨by simp, .inl ⟨a, k, rfl, rfl⟩⟩
theorem Rd.imp {size n : Nat} {v : Value} {xs : List Value} (h : Rd M size v n xs) (hi : Imp M' M) : Rd M' size v n xs := fun _ _ _ H => h _ _ _ (H.enx hi)
theorem Rd.someAt {w : World} {F : Asrt} {size n k : Nat} {a : Option Addr} {xs : List Value} (h : Rd M size (.slice a n k) n xs) (hn : 0 < n) (H : St w0 w (F :: M)) : ∃ b o, a = some ⟨b, o, none⟩ := (h _ _ _ H).isSome hn
theorem Rd.len {w : World} {F : Asrt} {size n : Nat} {v : Value} {xs : List Value} (h : Rd M size v n xs) (H : St w0 w (F :: M)) : ∃ a k, v = .slice a n k := SlW.len (h _ _ _ H)
theorem Zia {size by' n m T' E' : Nat} {z v sv : Value} {xs news : List Value} [hs : TySlice P T E] [hi : TyI P E size by' z] [ht : TySlice P T' E']
    (hx : ev ρ x = v) (hy : ev ρ y = sv) (hm : Has M (own E size v n xs) M') (hsl : Rd M size sv m news)
    (h1 : news.all oneC = true) (hby : by' ≠ 0) (hb : (n + m) * by' ≤ 140737488355328)
    (k : ∀ a' c', xOps P w0 ops rest (put ρ dst (.slice a' (n + m) c')) (own E size (.slice a' (n + m) c') (n + m) (xs ++ news) :: M') K) :
    xOps P w0 ops (⟨dst, .call { callee := .builtin .append, args := #[x, y], argTypes := #[T, T'] }, ty, pos, after, none⟩ :: rest) ρ M K :=
  fun F w H => Zfu H hx hy (.there hm) (hsl _ _ _ H) h1 hby hb (fun a' c' w' H' => k a' c' F w' H'.swap)
theorem Zib {size by' n dl dc T' : Nat} {z sv : Value} {xs : List Value} [hs : TySlice P T E] [hi : TyI P E size by' z] {E0 : Nat}
    (hx : ev ρ x = .slice (some ⟨b, o, none⟩) dl dc) (hy : ev ρ y = sv) (hsl : Rd M size sv n xs) (hm : Repl M (cl b c E0) (cl b c' E0) M2) (hle : o + dl * size ≤ c.size) (h1 : xs.all oneC = true) (hc : wr c o (xs.take (min n dl * size)) = c')
    (k : xOps P w0 ops rest (put ρ dst (.int .i64 (min n dl : Nat))) M2 K) :
    xOps P w0 ops (⟨dst, .call { callee := .builtin .copy, args := #[x, y], argTypes := #[T, T'] }, ty, pos, after, none⟩ :: rest) ρ M K :=
  fun F w H => Zfv H hx hy (hsl _ _ _ H) (.there hm) hle h1 hc (fun w' H' => k F w' H')
/-- An element of a slice, read. -/
theorem Zic {m k j : Nat} {xs : List Value} {v : Value} [hs : TyScal P T] (hx : ev ρ x = .pointer (some ⟨b, o + j, none⟩)) (HS : Rd M 1 (.slice (some ⟨b, o, none⟩) m k) m xs) (hj : j < m) (hv : xs[j]? = some v)
    (kk : xOps P w0 ops rest (put ρ dst v) M K) : xOps P w0 ops (⟨dst, .load T x, ty, pos, after, none⟩ :: rest) ρ M K := fun F w H => Zf5 hx (HS _ _ _ H) hj hv (kk F w H)
theorem Zid {k j sz by' : Nat} {z : Value} [hs : TyAggr P T] [hi : TyI P T sz by' z]
    {α : Type} {enc : α → List Value} {l : List α} (he : ∀ a, (enc a).length = sz) (hsz : 0 < sz) (hx : ev ρ x = .pointer (some ⟨b, o + j * sz, none⟩)) (HS : Rd M sz (.slice (some ⟨b, o, none⟩) l.length k) l.length (l.flatMap enc)) (hj : j < l.length)
    (kk : xOps P w0 ops rest (put ρ dst (.agg (enc l[j]).toArray)) M K) : xOps P w0 ops (⟨dst, .load T x, ty, pos, after, none⟩ :: rest) ρ M K := fun F w H => Zf9 he hsz hx (HS _ _ _ H) hj (kk F w H)
theorem Zie {k i j sz : Nat} {v : Value} [hs : TyScal P T]
    {α : Type} {enc : α → List Value} {l : List α} (he : ∀ a, (enc a).length = sz) (hsz : 0 < sz) (hx : ev ρ x = .pointer (some ⟨b, o + i * sz + j, none⟩)) (HS : Rd M sz (.slice (some ⟨b, o, none⟩) l.length k) l.length (l.flatMap enc)) (hi : i < l.length) (hj : j < sz) (hv : (enc l[i])[j]? = some v)
    (kk : xOps P w0 ops rest (put ρ dst v) M K) : xOps P w0 ops (⟨dst, .load T x, ty, pos, after, none⟩ :: rest) ρ M K := fun F w H => Zga he hsz hx (HS _ _ _ H) hi hj hv (kk F w H)
end
section maps
variable {P : Program} {w0 : World} {ops : Array Oper} {dst : Option Nat} {ty : TypeId} {pos : String} {after : Array Edge} {rest : List Oper} {ρ : Env} {K : XK} {M M' M2 : List Asrt}
variable {x y z' : Operand} {T Kt E b : Nat} {α : Type} {A : Value → α → Asrt} {d : α} {f : Int → α} {k : Int} {v : Value}
theorem Zif {α : Type} (A : Value → α → Asrt) (d : α) (kk : ∀ b, xOps P w0 ops rest (put ρ dst (.map (some b))) (omap b A d (fun _ => d) :: M) K) :
    xOps P w0 ops (⟨dst, .makeMap T none, ty, pos, after, none⟩ :: rest) ρ M K := fun F w H => Zfl H A d (fun w' b H' => kk b F w' H'.swap)
theorem Zig {by' : Nat} [hm : TyMap P T Kt E] [hk : TyInt P Kt .i64] [hz : TyI P E 1 by' (.slice none 0 0)] (hx : ev ρ x = .map (some b)) (hy : ev ρ y = .int .i64 k) (hh : Has M (ohole b A d f k v) M') (kk : xOps P w0 ops rest (put ρ dst v) M K) :
    xOps P w0 ops (⟨dst, .lookup T x y false, ty, pos, after, none⟩ :: rest) ρ M K := fun F w H => Zfm H hx hy (.there hh) (kk F w H)
theorem Zih [hm : TyMap P T Kt E] [hk : TyInt P Kt .i64] {v' : Value} (hx : ev ρ x = .map (some b)) (hy : ev ρ y = .int .i64 k) (hz : ev ρ z' = v') (hh : Repl M (ohole b A d f k v) (oheld b A d f k v') M2) (kk : xOps P w0 ops rest (put ρ dst undef) M2 K) :
    xOps P w0 ops (⟨dst, .mapUpdate T x y z', ty, pos, after, none⟩ :: rest) ρ M K := fun F w H => Zfo H hx hy hz (.there hh) (fun w' H' => kk F w' H')
theorem Zii {K2 : Nat} [hm : TyMap P T Kt E] [hk : TyInt P Kt .i64] (hx : ev ρ x = .map (some b)) (hy : ev ρ y = .int .i64 k) (hh : Repl M (ohole b A d f k v) (omap b A d (upd f k d)) M2) (kk : xOps P w0 ops rest (put ρ dst (.tuple #[])) M2 K) :
    xOps P w0 ops (⟨dst, .call { callee := .builtin .delete, args := #[x, y], argTypes := #[T, K2] }, ty, pos, after, none⟩ :: rest) ρ M K := fun F w H => Zfp H hx hy (.there hh) (fun w' H' => kk F w' H')
end maps
end Go.Sl

/- The engine over pieces alone: regions whose order is drawn. What only reads comes as soon as it may, what makes a block of its own as late as it may; of what does more, one at a time, or both orders. -/
set_option linter.unusedVariables false
set_option linter.unusedSimpArgs false
namespace Go.Sl
open Go

inductive Ord
  | nil
  | q (i : Nat) (r : Ord)
  | r (i : Nat) (r : Ord)
  | e (i : Nat) (n : Bool) (r : Ord)
  | a (i : Nat) (r : Ord)
  | alt (x y : Ord)

section
variable {P : Program} {ops : Array Oper} {w0 : World} {F0 : Asrt} {SM : List Asrt} {KW : Env → World → Prop}
def SMw (w0 : World) (SM : List Asrt) (w : World) : Prop := ∃ F, St w0 w (F :: SM)
def CX (P : Program) (w0 : World) (F0 : Asrt) (ops : Array Oper) (SM : List Asrt) (KW : Env → World → Prop) : Ord → Env → List Asrt → Prop
  | .nil, ρ, M => ∀ w, St w0 w (F0 :: M) → KW ρ w
  | .q i r, ρ, M => ∃ o v, ops[i]? = some o ∧ YS P ops (fun _ => True) o ρ v ∧ CX P w0 F0 ops SM KW r (put ρ o.dst v) M
  | .r i r, ρ, M => ∃ o v, ops[i]? = some o ∧ YS P ops (SMw w0 SM) o ρ v ∧ CX P w0 F0 ops SM KW r (put ρ o.dst v) M
  | .e i n r, ρ, M => ∃ o, ops[i]? = some o ∧ ∀ F w, St w0 w (F :: M) → denI P ops o ρ w (fun ρ' w' => ∃ M', St w0 w' (F :: M') ∧ (n = true → Imp M' SM) ∧ CX P w0 F0 ops SM KW r ρ' M')
  | .a i r, ρ, M => ∃ d T ty pos z, ops[i]? = some ⟨some d, .alloc T, ty, pos, #[], none⟩ ∧ (∃ n by', TyI P T n by' z) ∧ ∀ b, CX P w0 F0 ops SM KW r (put ρ (some d) (.pointer (some ⟨b, 0, none⟩))) (cl b z.cells T :: M)
  | .alt x y, ρ, M => CX P w0 F0 ops SM KW x ρ M ∧ CX P w0 F0 ops SM KW y ρ M

theorem CX_mono : ∀ (r : Ord) {ρ : Env} {M N : List Asrt}, Imp N M → CX P w0 F0 ops SM KW r ρ M → CX P w0 F0 ops SM KW r ρ N
  | .nil, ρ, M, N, hi, h => fun w H => h w (H.enx hi)
  | .q i r, ρ, M, N, hi, h => by obtain ⟨o, v, h1, h2, h3⟩ := h; exact ⟨o, v, h1, h2, CX_mono r hi h3⟩
  | .r i r, ρ, M, N, hi, h => by obtain ⟨o, v, h1, h2, h3⟩ := h; exact ⟨o, v, h1, h2, CX_mono r hi h3⟩
  | .e i n r, ρ, M, N, hi, h => by obtain ⟨o, h1, h2⟩ := h; exact ⟨o, h1, fun F w H => h2 F w (H.enx hi)⟩
  | .a i r, ρ, M, N, hi, h => by obtain ⟨d, T, ty, pos, z, h1, h2, h3⟩ := h; exact ⟨d, T, ty, pos, z, h1, h2, fun b => CX_mono r hi.cons (h3 b)⟩
  | .alt x y, ρ, M, N, hi, h => ⟨CX_mono x hi h.1, CX_mono y hi h.2⟩

theorem denI_apart' {o : Oper} {ρ : Env} {w : World} {d : Option Nat} {v : Value} {X : Env → World → Prop} (hs : ∀ cs b, o.op ≠ .select cs b) (h1 : ∀ k, d = some k → k ∉ o.looksAt ops) (h2 : ∀ k, d = some k → o.dst ≠ some k)
    (h : denI P ops o ρ w (fun ρ' w' => X (put ρ' d v) w')) : denI P ops o (put ρ d v) w X := by
  unfold denI at *
  rw [wanted_apart h1]
  split
  · rename_i hw
    rw [if_pos hw] at h
    unfold opW at *
    rw [exec_apart hs h1]
    cases hr : (execOp (ev ρ) o).run P w with
    | halt x w' => rw [hr] at h; exact h.elim
    | ok x w' =>
      rw [hr] at h
      cases x <;> simp only [After] at h ⊢ <;> first
        | (rw [put_comm h2]; exact h)
        | (refine Calls.mono h (Ret.mono fun u w'' hq => ?_)
           rw [put_comm h2]; exact hq)
        | exact h.elim
  · rename_i hw
    rw [if_neg hw] at h
    rw [put_comm h2]; exact h

theorem YS.apart' {S : World → Prop} {o : Oper} {ρ : Env} {v u : Value} {d : Option Nat} (hs : ∀ cs b, o.op ≠ .select cs b) (h1 : ∀ k, d = some k → k ∉ o.looksAt ops) (h : YS P ops S o ρ v) : YS P ops S o (put ρ d u) v := by
  unfold YS at *
  rw [wanted_apart h1, exec_apart hs h1]
  exact h
theorem TyI.zero_eq {T n n' by' by2 : Nat} {z z' : Value} (h : TyI P T n by' z) (h' : TyI P T n' by2 z') : z = z' := by
  obtain ⟨i, hi, _, _, hz⟩ := h.out
  obtain ⟨j, hj, _, _, hz'⟩ := h'.out
  rw [hi] at hj; cases hj
  rw [hz] at hz'; cases hz'; rfl

def del (a : Nat) : Ord → Ord
  | .nil => .nil
  | .q i r => .q i (del a r)
  | .r i r => .r i (del a r)
  | .e i n r => .e i n (del a r)
  | .a i r => bif Nat.beq i a then r else .a i (del a r)
  | .alt x y => .alt (del a x) (del a y)
/-- Nothing ahead of the making of a looks at its slot d, or writes it. -/
def apO (ops : Array Oper) (d i : Nat) : Bool := match ops[i]? with
  | some o => noSel o && !((o.looksAt ops).contains d) && (o.dst != some d)
  | none => false
def apA (ops : Array Oper) (d a : Nat) : Ord → Bool
  | .nil => false
  | .q i r => apO ops d i && apA ops d a r
  | .r i r => apO ops d i && apA ops d a r
  | .e i _ r => apO ops d i && apA ops d a r
  | .a i r => bif Nat.beq i a then true else (apO ops d i && apA ops d a r)
  | .alt x y => apA ops d a x && apA ops d a y
theorem apO_spec {d i : Nat} {o : Oper} (ho : ops[i]? = some o) (h : apO ops d i = true) : (∀ cs b, o.op ≠ .select cs b) ∧ (∀ k, some d = some k → k ∉ o.looksAt ops) ∧ (∀ k, some d = some k → o.dst ≠ some k) := by
  unfold apO at h
  rw [ho] at h
  simp only [Bool.and_eq_true, Bool.not_eq_true', bne_iff_ne, ne_eq] at h
  refine ⟨noSel_spec h.1.1, fun k hk => ?_, fun k hk => ?_⟩
  · cases hk; have := h.1.2; simpa using this
  · cases hk; exact h.2
theorem early {a d T : Nat} {ty : TypeId} {pos : String} {z : Value} {n by' : Nat} (ho : ops[a]? = some ⟨some d, .alloc T, ty, pos, #[], none⟩) (hz : TyI P T n by' z) (b : Nat) : ∀ (r : Ord) {ρ : Env} {M : List Asrt}, apA ops d a r = true →
    CX P w0 F0 ops SM KW r ρ M → CX P w0 F0 ops SM KW (del a r) (put ρ (some d) (.pointer (some ⟨b, 0, none⟩))) (cl b z.cells T :: M)
  | .nil, ρ, M, ha, h => by simp [apA] at ha
  | .q i r, ρ, M, ha, h => by
    simp only [apA, Bool.and_eq_true] at ha
    obtain ⟨o, v, h1, h2, h3⟩ := h
    obtain ⟨s1, s2, s3⟩ := apO_spec h1 ha.1
    refine ⟨o, v, h1, h2.apart' s1 s2, ?_⟩
    rw [put_comm s3]
    exact early ho hz b r ha.2 h3
  | .r i r, ρ, M, ha, h => by
    simp only [apA, Bool.and_eq_true] at ha
    obtain ⟨o, v, h1, h2, h3⟩ := h
    obtain ⟨s1, s2, s3⟩ := apO_spec h1 ha.1
    refine ⟨o, v, h1, h2.apart' s1 s2, ?_⟩
    rw [put_comm s3]
    exact early ho hz b r ha.2 h3
  | .e i m r, ρ, M, ha, h => by
    simp only [apA, Bool.and_eq_true] at ha
    obtain ⟨o, h1, h2⟩ := h
    obtain ⟨s1, s2, s3⟩ := apO_spec h1 ha.1
    refine ⟨o, h1, fun F w H => denI_apart' s1 s2 s3 ?_⟩
    have H2 : St w0 w (all [F, cl b z.cells T] :: M) := H.ent (Imp.app (L := [F, cl b z.cells T]))
    refine denI_mono ?_ (h2 _ w H2)
    rintro v w' ⟨M', H', hn, hk⟩
    exact ⟨cl b z.cells T :: M', H'.ent Imp.unapp, fun e => Imp.tail.trans (hn e), early ho hz b r ha.2 hk⟩
  | .a i r, ρ, M, ha, h => by
    obtain ⟨d', T', ty', pos', z', h1, h2, h3⟩ := h
    simp only [apA, del] at ha ⊢
    cases hia : Nat.beq i a with
    | true =>
      have e := Nat.eq_of_beq_eq_true hia
      subst e
      rw [ho] at h1
      cases h1
      obtain ⟨n', by2, hz'⟩ := h2
      have e := hz.zero_eq hz'
      subst e
      exact h3 b
    | false =>
      rw [hia] at ha
      simp only [cond_false, Bool.and_eq_true] at ha ⊢
      obtain ⟨s1, s2, s3⟩ := apO_spec h1 ha.1
      refine ⟨d', T', ty', pos', z', h1, h2, fun b' => ?_⟩
      have s3' : ∀ k, some d = some k → some d' ≠ some k := s3
      rw [put_comm s3']
      exact CX_mono _ Imp.swap (early ho hz b r ha.2 (h3 b'))
  | .alt x y, ρ, M, ha, h => by
    simp only [apA, Bool.and_eq_true] at ha
    exact ⟨early ho hz b x ha.1 h.1, early ho hz b y ha.2 h.2⟩

/-- i may be taken now: all that could come ahead of it leaves its slots alone. -/
def takeP (ops : Array Oper) (bef : Array Nat) (listed : Array Bool) (i : Nat) : Bool :=
  (List.range ops.size).all fun j => listed.getD j true || j == i || (bef.getD j 0).testBit i ||
    ((match ops[i]?, ops[j]? with|some oi, some oj => noSel oi && noSel oj && oi.apart ops oj|_, _ => false))
theorem takeP_set {bef : Array Nat} {listed : Array Bool} {i j : Nat} (h : takeP ops bef listed i = true) : takeP ops bef (listed.setIfInBounds j true) i = true := by
  refine List.all_eq_true.2 fun k hk => ?_
  have := List.all_eq_true.1 h k hk
  simp only [Bool.or_eq_true] at this ⊢
  rw [getD_set]
  split
  · exact .inl (.inl (.inl rfl))
  · exact this
variable {S : World → Prop} {need : Nat → Bool} {K : Env → World → Prop}
theorem denN_takeP {bef : Array Nat} (hb : befOk ops bef = true) {i : Nat} {o : Oper} {v : Value} (ho : ops[i]? = some o) : ∀ (f : Nat) (listed : Array Bool) (ρ : Env) (w : World), listed.size = ops.size → closed ops bef listed →
    i ∈ Region.ready .any ops listed → takeP ops bef listed i = true → (need i = true → ∀ w, S w) ∨ need i = false → YS P ops (fun _ => True) o ρ v → denN P ops S need f (listed.setIfInBounds i true) (put ρ o.dst v) w K → denN P ops S need (f + 1) listed ρ w K := by
  intro f
  induction f with
  | zero =>
    intro listed ρ w hsz hc hi ht hnd hy h
    refine ⟨fun e => (by rw [e] at hi; cases hi), fun j hj oj hoj => ?_⟩
    by_cases hji : j = i
    · subst hji
      rw [ho] at hoj; cases hoj
      have hS : need j = true → S w := fun e => by
        rcases hnd with h|h
        · exact h e w
        · rw [h] at e; cases e
      unfold denI
      cases hw : Region.wanted o (yl ops ρ) with
      | true =>
        rw [if_pos rfl]; unfold opW
        rw [hy.1 hw w trivial]
        exact ⟨hS, h⟩
      | false =>
        rw [if_neg (by simp)]
        rw [← hy.2 hw]
        exact ⟨hS, h⟩
    · have := ready_set (i := j) (j := i) hj (fun e => hji e.symm)
      rw [h.1] at this; cases this
  | succ f ih =>
    intro listed ρ w hsz hc hi ht hnd hy h
    refine ⟨fun e => (by rw [e] at hi; cases hi), fun j hj oj hoj => ?_⟩
    by_cases hji : j = i
    · subst hji
      rw [ho] at hoj; cases hoj
      have hS : need j = true → S w := fun e => by
        rcases hnd with h|h
        · exact h e w
        · rw [h] at e; cases e
      unfold denI
      cases hw : Region.wanted o (yl ops ρ) with
      | true =>
        rw [if_pos rfl]; unfold opW
        rw [hy.1 hw w trivial]
        exact ⟨hS, h⟩
      | false =>
        rw [if_neg (by simp)]
        rw [← hy.2 hw]
        exact ⟨hS, h⟩
    · have hjr := ready_spec hj
      have hir := ready_spec hi
      have htj := List.all_eq_true.1 ht j (by simpa using hjr.1)
      have hbj := closed_ready hsz hb hc hj hir.1 hir.2.1
      rw [hjr.2.1, hbj, ho, hoj] at htj
      simp only [Bool.false_or, Bool.or_eq_true, beq_iff_eq, hji, false_or, Bool.and_eq_true, Bool.false_eq_true, or_false] at htj
      obtain ⟨⟨hsi, hsj⟩, hap⟩ := htj
      have hap := Oper.apart_spec hap
      have hh := h.2 j (ready_set hj (fun e => hji e.symm)) oj hoj
      refine denI_mono ?_ (denI_apart (noSel_spec hsj) hap.1 hap.2.1 hh)
      intro u w' ⟨hSw, hk⟩
      refine ⟨hSw, ?_⟩
      refine ih (listed.setIfInBounds j true) (put ρ oj.dst u) w' (by simpa using hsz) (closed_set hsz hb hc hj) (ready_set hi hji) (takeP_set ht) hnd (hy.apart (noSel_spec hsi) hap.2.2) ?_
      rw [Array.setIfInBounds_comm _ _ hji]
      exact hk

def isFl (ops : Array Oper) (j : Nat) : Option Nat := match ops[j]? with
  | some ⟨some d, .alloc _, _, _, after, none⟩ => if after.size = 0 then some d else none
  | _ => none
def heads : Ord → List Nat
  | .e i _ _ => [i]
  | .a i _ => [i]
  | .alt x y => heads x ++ heads y
  | _ => []
def brs (ops : Array Oper) (nd : List Nat) (ck : Bool → Ord → Array Bool → Bool) (s : Bool) : Ord → Array Bool → Bool
  | .e i n r, listed => (nd.contains i == n) && ck n r (listed.setIfInBounds i true)
  | .a i r, listed => (isFl ops i).isSome && (!nd.contains i || s) && ck s r (listed.setIfInBounds i true)
  | .alt x y, listed => brs ops nd ck s x listed && brs ops nd ck s y listed
  | _, _ => false
/-- The order serves: nd tells behind which operations S holds, s whether it holds now. -/
def chkX (ops : Array Oper) (bef : Array Nat) (nd : List Nat) : Nat → Bool → Ord → Array Bool → Bool
  | 0, _, .nil, listed => (Region.ready .any ops listed).isEmpty
  | 0, _, _, _ => false
  | _ + 1, _, .nil, _ => false
  | f + 1, s, .q i r, listed => (Region.ready .any ops listed).contains i && takeP ops bef listed i && !nd.contains i && chkX ops bef nd f s r (listed.setIfInBounds i true)
  | f + 1, s, .r i r, listed => (Region.ready .any ops listed).contains i && s && takeOk ops bef nd.contains listed i && chkX ops bef nd f s r (listed.setIfInBounds i true)
  | f + 1, s, o, listed =>
    ((Region.ready .any ops listed).all fun j => (heads o).contains j || (match isFl ops j with
        | some d => apA ops d j o && (!nd.contains j || s) && chkX ops bef nd f s (del j o) (listed.setIfInBounds j true)
        | none => false)) &&
      !(Region.ready .any ops listed).isEmpty && brs ops nd (chkX ops bef nd f) s o listed
theorem isFl_spec {j d : Nat} (h : isFl ops j = some d) : ∃ T ty pos, ops[j]? = some ⟨some d, .alloc T, ty, pos, #[], none⟩ := by
  unfold isFl at h
  split at h
  · rename_i d' T ty pos after ho
    split at h
    · rename_i hz
      cases h
      have : after = #[] := Array.eq_empty_of_size_eq_zero hz
      subst this
      exact ⟨T, ty, pos, ho⟩
    · cases h
  · cases h
theorem brs_head {nd : List Nat} {ck : Bool → Ord → Array Bool → Bool} {s : Bool} {listed : Array Bool} {j : Nat} : ∀ (r : Ord) {ρ : Env} {M : List Asrt}, brs ops nd ck s r listed = true → (heads r).contains j = true → CX P w0 F0 ops SM KW r ρ M →
    (∃ n r', (nd.contains j == n) = true ∧ ck n r' (listed.setIfInBounds j true) = true ∧ CX P w0 F0 ops SM KW (.e j n r') ρ M) ∨
    (∃ r', (isFl ops j).isSome = true ∧ (!nd.contains j || s) = true ∧ ck s r' (listed.setIfInBounds j true) = true ∧ CX P w0 F0 ops SM KW (.a j r') ρ M)
  | .nil, ρ, M, hb, hj, h => by simp [heads] at hj
  | .q i r, ρ, M, hb, hj, h => by simp [heads] at hj
  | .r i r, ρ, M, hb, hj, h => by simp [heads] at hj
  | .e i n r, ρ, M, hb, hj, h => by
    simp only [heads, List.contains_cons, List.contains_nil, Bool.or_false, beq_iff_eq] at hj
    subst hj
    simp only [brs, Bool.and_eq_true] at hb
    exact .inl ⟨n, r, hb.1, hb.2, h⟩
  | .a i r, ρ, M, hb, hj, h => by
    simp only [heads, List.contains_cons, List.contains_nil, Bool.or_false, beq_iff_eq] at hj
    subst hj
    simp only [brs, Bool.and_eq_true] at hb
    exact .inr ⟨r, hb.1.1, hb.1.2, hb.2, h⟩
  | .alt x y, ρ, M, hb, hj, h => by
    simp only [brs, Bool.and_eq_true] at hb
    simp only [heads, List.contains_eq_mem, List.mem_append, decide_eq_true_eq] at hj
    rcases hj with hj|hj
    · exact brs_head x hb.1 (by simpa using hj) h.1
    · exact brs_head y hb.2 (by simpa using hj) h.2
theorem alloc_den {T d : Nat} {ty : TypeId} {pos : String} {z : Value} {n by' : Nat} {ρ : Env} {w : World} {L : List Asrt} {K : Env → World → Prop} (hz : TyI P T n by' z) (H : St w0 w L)
    (k : ∀ w' b, St w0 w' (cl b z.cells T :: L) → K (put ρ (some d) (.pointer (some ⟨b, 0, none⟩))) w') : denI P ops ⟨some d, .alloc T, ty, pos, #[], none⟩ ρ w K := by
  have h : denOps P ops [⟨some d, .alloc T, ty, pos, #[], none⟩] ρ w K := Zdi (hi := hz) H (fun w' b H' => Zcx (k w' b H'))
  exact h
/-- All blocks that a region makes for itself have a type with a zero. -/
def zOk (P : Program) (ops : Array Oper) : Prop := ∀ (j d : Nat), isFl ops j = some d → ∀ T ty pos, ops[j]? = some ⟨some d, .alloc T, ty, pos, #[], none⟩ → ∃ n by' z, TyI P T n by' z
theorem CX_sound {bef : Array Nat} {nd : List Nat} (hb : befOk ops bef = true) (hz : zOk P ops) : ∀ (f : Nat) (s : Bool) (r : Ord) (listed : Array Bool) (ρ : Env) (w : World) (M : List Asrt), listed.size = ops.size → closed ops bef listed →
    chkX ops bef nd f s r listed = true → (s = true → Imp M SM) → St w0 w (F0 :: M) → CX P w0 F0 ops SM KW r ρ M → denN P ops (SMw w0 SM) nd.contains f listed ρ w KW := by
  intro f
  induction f with
  | zero =>
    intro s r listed ρ w M hsz hcl hc hs H h
    cases r <;> simp only [chkX, Bool.false_eq_true] at hc
    exact ⟨by simpa using hc, h w H⟩
  | succ f ih =>
    intro s r listed ρ w M hsz hcl hc hs H h
    have key : ∀ o : Ord, (((Region.ready .any ops listed).all fun j => (heads o).contains j || (match isFl ops j with
        | some d => apA ops d j o && (!nd.contains j || s) && chkX ops bef nd f s (del j o) (listed.setIfInBounds j true)
        | none => false)) &&
      !(Region.ready .any ops listed).isEmpty && brs ops nd (chkX ops bef nd f) s o listed) = true → CX P w0 F0 ops SM KW o ρ M → denN P ops (SMw w0 SM) nd.contains (f + 1) listed ρ w KW := by
      intro o hc h
      simp only [Bool.and_eq_true] at hc
      obtain ⟨⟨hall, hne⟩, hbr⟩ := hc
      refine ⟨fun e => (by rw [e] at hne; simp at hne), fun j hj oj hoj => ?_⟩
      have hcl' := closed_set hsz hb hcl hj
      have hsz' : (listed.setIfInBounds j true).size = ops.size := by simpa using hsz
      have hjc := List.all_eq_true.1 hall j hj
      by_cases hh : (heads o).contains j = true
      · rcases brs_head o hbr hh h with ⟨n, r', h1, h2, o', h3, h4⟩|⟨r', h1, h2, h3, d, T, ty, pos, z, h4, ⟨n', by', h5⟩, h6⟩
        · rw [hoj] at h3; cases h3
          refine denI_mono ?_ (h4 F0 w H)
          rintro u w' ⟨M', H', hn, hk⟩
          refine ⟨fun e => ⟨F0, H'.enx (hn ?_)⟩, ih n r' _ _ _ M' hsz' hcl' h2 hn H' hk⟩
          have := eq_of_beq h1
          rw [← this]; exact e
        · rw [hoj] at h4; cases h4
          refine alloc_den h5 H ?_
          intro w' b H'
          have H2 := H'.swap
          have hs' : s = true → Imp (cl b z.cells T :: M) SM := fun e => Imp.tail.trans (hs e)
          refine ⟨fun e => ⟨F0, H2.enx (hs' ?_)⟩, ih s r' _ _ _ _ hsz' hcl' h3 hs' H2 (h6 b)⟩
          rw [e] at h2; simpa using h2
      · rw [Bool.or_eq_true] at hjc
        rcases hjc with hjc|hjc
        · exact absurd hjc hh
        · split at hjc
          · rename_i d hd
            obtain ⟨T, ty, pos, ho⟩ := isFl_spec hd
            rw [hoj] at ho; cases ho
            simp only [Bool.and_eq_true] at hjc
            obtain ⟨⟨ha, hnd⟩, hck⟩ := hjc
            obtain ⟨n', by', z, h5⟩ := hz j d hd T ty pos hoj
            refine alloc_den h5 H ?_
            intro w' b H'
            have H2 := H'.swap
            have hs' : s = true → Imp (cl b z.cells T :: M) SM := fun e => Imp.tail.trans (hs e)
            refine ⟨fun e => ⟨F0, H2.enx (hs' ?_)⟩, ih s (del j o) _ _ _ _ hsz' hcl' hck hs' H2 (early hoj h5 b o ha h)⟩
            rw [e] at hnd; simpa using hnd
          · cases hjc
    cases r with
    | nil => simp [chkX] at hc
    | q i r =>
      simp only [chkX, Bool.and_eq_true, List.contains_iff_mem] at hc
      obtain ⟨⟨⟨hi, ht⟩, hn⟩, hr⟩ := hc
      obtain ⟨o, v, ho, hy, h⟩ := h
      exact denN_takeP hb ho f listed ρ w hsz hcl hi ht (.inr (by simpa using hn)) hy (ih s r _ _ w M (by simpa using hsz) (closed_set hsz hb hcl hi) hr hs H h)
    | r i r =>
      simp only [chkX, Bool.and_eq_true, List.contains_iff_mem] at hc
      obtain ⟨⟨⟨hi, hsT⟩, ht⟩, hr⟩ := hc
      obtain ⟨o, v, ho, hy, h⟩ := h
      exact denN_take hb ho f listed ρ w hsz hcl hi ht hy ⟨F0, H.enx (hs hsT)⟩ (ih s r _ _ w M (by simpa using hsz) (closed_set hsz hb hcl hi) hr hs H h)
    | e i n r => exact key _ (by simpa only [chkX] using hc) h
    | a i r => exact key _ (by simpa only [chkX] using hc) h
    | alt x y => exact key _ (by simpa only [chkX] using hc) h

def drawX (ops : Array Oper) (nd : List Nat) (r : Ord) : Bool :=
  befOk ops (Region.before ops) && chkX ops (Region.before ops) nd ops.size true r (Array.replicate ops.size false)
/-- A region whose order is drawn, along one order, or some. -/
def cX (P : Program) (w0 : World) (ops : Array Oper) (SM : List Asrt) (r : Ord) (ρ : Env) (M : List Asrt) (K : XK) : Prop :=
  ∀ F0, CX P w0 F0 ops SM (fun ρ' w' => ∃ M', St w0 w' (F0 :: M') ∧ K ρ' M') r ρ M
def zOkB (P : Program) (ops : Array Oper) : Bool := (List.range ops.size).all fun j => match ops[j]? with
  | some ⟨some _, .alloc T, _, _, _, none⟩ => match P.info? T with
    | some i => match i.zero with
      | some z => z.cells.size == i.size
      | none => false
    | none => false
  | _ => true
theorem zOk_of (h : zOkB P ops = true) : zOk P ops := by
  intro j d hj T ty pos ho
  have hlt : j < ops.size := (Array.getElem?_eq_some_iff.1 ho).1
  have := List.all_eq_true.1 h j (by simpa using hlt)
  rw [ho] at this
  simp only [] at this
  cases hi : P.info? T with
  | none => rw [hi] at this; cases this
  | some i =>
    rw [hi] at this
    simp only [] at this
    cases hz : i.zero with
    | none => rw [hz] at this; cases this
    | some z =>
      rw [hz] at this
      exact ⟨i.size, i.bytes, z, by rw [hi]; simp [hz], by simpa using this⟩
theorem Zij {id : Nat} {ρ : Env} {M : List Asrt} {Q : XQ} (SM : List Asrt) (nd : List Nat) (r : Ord) (hz : zOkB P ops = true) (hchk : drawX ops nd r = true) (hS : Imp M SM) (h : cX P w0 ops SM r ρ M (fun ρ' M' => Q .normal ρ' M')) : xC P w0 (.region id ops true) ρ M Q := by
  intro F w H
  simp only [drawX, Bool.and_eq_true] at hchk
  refine denN_sound (S := SMw w0 SM) (need := nd.contains) _ _ _ _ (CX_sound hchk.1 (zOk_of hz) ops.size true r _ ρ _ M (by simp) ?_ hchk.2 (fun _ => hS) (H.drawn _) (h F))
  intro p hp hlp
  simp [hp] at hlp
end
section
variable {P : Program} {w0 : World} {ops : Array Oper} {SM M N : List Asrt} {r : Ord} {ρ : Env} {K : XK} {i : Nat} {dst : Option Nat} {op : Op} {ty T : TypeId} {pos : String} {after : Array Edge} {x : Operand}
theorem Zik (h : K ρ M) : cX P w0 ops SM .nil ρ M K := fun F0 w H => ⟨M, H, h⟩
theorem Zil (h : Imp M N) (k : cX P w0 ops SM r ρ N K) : cX P w0 ops SM r ρ M K := fun F0 => CX_mono r h (k F0)
theorem Zim {v : Value} (ho : ops[i]? = some ⟨dst, op, ty, pos, after, none⟩) (h : PV P op ρ v) (k : cX P w0 ops SM r (put ρ dst v) M K) : cX P w0 ops SM (.q i r) ρ M K :=
  fun F0 => ⟨_, v, ho, ⟨fun _ w _ => h _ w rfl, fun e => by simp [Region.wanted] at e⟩, k F0⟩
theorem Zin {v : Value} {j : Nat} {b : Bool} (ho : ops[i]? = some ⟨dst, op, ty, pos, after, some (j, b)⟩) (hg : yl ops ρ j = some b) (h : PV P op ρ v) (k : cX P w0 ops SM r (put ρ dst v) M K) : cX P w0 ops SM (.q i r) ρ M K :=
  fun F0 => ⟨_, v, ho, ⟨fun _ w _ => h _ w rfl, fun e => by simp [Region.wanted, hg] at e⟩, k F0⟩
theorem Zio {j : Nat} {b : Bool} (ho : ops[i]? = some ⟨dst, op, ty, pos, after, some (j, b)⟩) (hg : yl ops ρ j = some (!b)) (k : cX P w0 ops SM r (put ρ dst undef) M K) : cX P w0 ops SM (.q i r) ρ M K :=
  fun F0 => ⟨_, undef, ho, ⟨fun e => by simp [Region.wanted, hg] at e, fun _ => rfl⟩, k F0⟩
theorem Zip {j : Nat} {b : Bool} (ho : ops[i]? = some ⟨dst, op, ty, pos, after, some (j, b)⟩) (hg : yl ops ρ j = none) (k : cX P w0 ops SM r (put ρ dst undef) M K) : cX P w0 ops SM (.q i r) ρ M K :=
  fun F0 => ⟨_, undef, ho, ⟨fun e => by simp [Region.wanted, hg] at e, fun _ => rfl⟩, k F0⟩
theorem Ziq {o : Oper} {n : Bool} (ho : ops[i]? = some o) (h : xOps P w0 ops [o] ρ M (fun ρ' M' => (n = true → Imp M' SM) ∧ cX P w0 ops SM r ρ' M' K)) : cX P w0 ops SM (.e i n r) ρ M K := by
  intro F0
  refine ⟨o, ho, fun F w H => ?_⟩
  refine denI_mono (K := fun ρ' w' => ∃ M', St w0 w' (F :: M') ∧ (n = true → Imp M' SM) ∧ cX P w0 ops SM r ρ' M' K) ?_ (h F w H)
  rintro v w' ⟨M', H', hn, hk⟩
  exact ⟨M', H', hn, hk F0⟩
theorem Zir {d n by' : Nat} {z : Value} {cs : Array Value} [hi : TyI P T n by' z] (ho : ops[i]? = some ⟨some d, .alloc T, ty, pos, #[], none⟩) (hz : z.cells = cs) (k : ∀ b, cX P w0 ops SM r (put ρ (some d) (.pointer (some ⟨b, 0, none⟩))) (cl b cs T :: M) K) : cX P w0 ops SM (.a i r) ρ M K := by
  subst hz; exact fun F0 => ⟨d, T, ty, pos, z, ho, ⟨n, by', hi⟩, fun b => k b F0⟩
theorem Zis {a b : Ord} (h1 : cX P w0 ops SM a ρ M K) (h2 : cX P w0 ops SM b ρ M K) : cX P w0 ops SM (.alt a b) ρ M K := fun F0 => ⟨h1 F0, h2 F0⟩
/-- What only reads. -/
theorem Zit {v : Value} (ho : ops[i]? = some ⟨dst, op, ty, pos, after, none⟩) (h : ∀ (F : Asrt) w, St w0 w (F :: SM) → (execOp (ev ρ) ⟨dst, op, ty, pos, after, none⟩).run P w = .ok (.value v) w) (k : cX P w0 ops SM r (put ρ dst v) M K) : cX P w0 ops SM (.r i r) ρ M K :=
  fun F0 => ⟨_, v, ho, ⟨fun _ w ⟨F, H⟩ => h F w H, fun e => by simp [Region.wanted] at e⟩, k F0⟩
theorem Ziu {v : Value} {j : Nat} {b : Bool} (ho : ops[i]? = some ⟨dst, op, ty, pos, after, some (j, b)⟩) (hg : yl ops ρ j = some b) (h : ∀ (F : Asrt) w, St w0 w (F :: SM) → (execOp (ev ρ) ⟨dst, op, ty, pos, after, some (j, b)⟩).run P w = .ok (.value v) w) (k : cX P w0 ops SM r (put ρ dst v) M K) : cX P w0 ops SM (.r i r) ρ M K :=
  fun F0 => ⟨_, v, ho, ⟨fun _ w ⟨F, H⟩ => h F w H, fun e => by simp [Region.wanted, hg] at e⟩, k F0⟩
theorem run_ld {b o E : Nat} {c : Array Value} {v : Value} {w : World} {oo : Oper} {M' : List Asrt} [hs : TyScal P T] (hoo : oo.op = .load T x) (hx : ev ρ x = .pointer (some ⟨b, o, none⟩)) (hm : Has SM (cl b c E) M') (hv : c[o]? = some v) {F : Asrt} (H : St w0 w (F :: SM)) : (execOp (ev ρ) oo).run P w = .ok (.value v) w := by
  have hr : (Instr.loadAt T (ev ρ x)).run P w = .ok v w := by
    rw [hx]; unfold Instr.loadAt
    rw [run_bind P _ _ w w _ rfl]; unfold loadVar
    rw [run_bind P _ _ w w _ (run_isAgg hs.h)]
    exact run_load1 ((H.pick (.there hm)).cl_get) hv
  unfold execOp; rw [hoo]
  exact op_run_value hr
theorem Ziv {b o E : Nat} {c : Array Value} {v : Value} {M' : List Asrt} [hs : TyScal P T] (ho : ops[i]? = some ⟨dst, .load T x, ty, pos, after, none⟩) (hx : ev ρ x = .pointer (some ⟨b, o, none⟩)) (hm : Has SM (cl b c E) M') (hv : c[o]? = some v) (k : cX P w0 ops SM r (put ρ dst v) M K) : cX P w0 ops SM (.r i r) ρ M K :=
  Zit ho (fun F w H => run_ld rfl hx hm hv H) k
theorem Ziw {b o E j : Nat} {t : Bool} {c : Array Value} {v : Value} {M' : List Asrt} [hs : TyScal P T] (ho : ops[i]? = some ⟨dst, .load T x, ty, pos, after, some (j, t)⟩) (hg : yl ops ρ j = some t) (hx : ev ρ x = .pointer (some ⟨b, o, none⟩)) (hm : Has SM (cl b c E) M') (hv : c[o]? = some v) (k : cX P w0 ops SM r (put ρ dst v) M K) : cX P w0 ops SM (.r i r) ρ M K :=
  Ziu ho hg (fun F w H => run_ld rfl hx hm hv H) k
theorem run_lda {b o E n by' : Nat} {z : Value} {c cs : Array Value} {w : World} {oo : Oper} {M' : List Asrt} [hs : TyAggr P T] [hi : TyI P T n by' z] (hoo : oo.op = .load T x) (hx : ev ρ x = .pointer (some ⟨b, o, none⟩)) (hm : Has SM (cl b c E) M') (hv : o + n ≤ c.size) (hc : c.extract o (o + n) = cs) {F : Asrt} (H : St w0 w (F :: SM)) : (execOp (ev ρ) oo).run P w = .ok (.value (.agg cs)) w := by
  have hr := run_loadAgg (P := P) (ρ := ρ) (x := x) (T := T) (n := n) ((H.pick (.there hm)).cl_get) hv hx
  rw [hc] at hr
  unfold execOp; rw [hoo]
  exact op_run_value hr
theorem Zix {b o E n by' : Nat} {z : Value} {c cs : Array Value} {M' : List Asrt} [hs : TyAggr P T] [hi : TyI P T n by' z] (ho : ops[i]? = some ⟨dst, .load T x, ty, pos, after, none⟩) (hx : ev ρ x = .pointer (some ⟨b, o, none⟩)) (hm : Has SM (cl b c E) M') (hv : o + n ≤ c.size) (hc : c.extract o (o + n) = cs) (k : cX P w0 ops SM r (put ρ dst (.agg cs)) M K) : cX P w0 ops SM (.r i r) ρ M K :=
  Zit ho (fun F w H => run_lda rfl hx hm hv hc H) k
theorem Ziy {b E n by' : Nat} {z : Value} {c : Array Value} {M' : List Asrt} [hs : TyAggr P T] [hi : TyI P T n by' z] (ho : ops[i]? = some ⟨dst, .load T x, ty, pos, after, none⟩) (hx : ev ρ x = .pointer (some ⟨b, 0, none⟩)) (hm : Has SM (cl b c E) M') (hv : c.size = n) (k : cX P w0 ops SM r (put ρ dst (.agg c)) M K) : cX P w0 ops SM (.r i r) ρ M K :=
  Zix ho hx hm (by omega) (by rw [Nat.zero_add, ← hv]; simp) k
theorem YS.weak {S : World → Prop} {o : Oper} {v : Value} (h : YS P ops (fun _ => True) o ρ v) : YS P ops S o ρ v := ⟨fun e w _ => h.1 e w trivial, h.2⟩
theorem Ziz {v : Value} (ho : ops[i]? = some ⟨dst, op, ty, pos, after, none⟩) (h : PV P op ρ v) (k : cX P w0 ops SM r (put ρ dst v) M K) : cX P w0 ops SM (.r i r) ρ M K :=
  fun F0 => ⟨_, v, ho, ⟨fun _ w _ => h _ w rfl, fun e => by simp [Region.wanted] at e⟩, k F0⟩
theorem Zi0 {v : Value} {j : Nat} {b : Bool} (ho : ops[i]? = some ⟨dst, op, ty, pos, after, some (j, b)⟩) (hg : yl ops ρ j = some b) (h : PV P op ρ v) (k : cX P w0 ops SM r (put ρ dst v) M K) : cX P w0 ops SM (.r i r) ρ M K :=
  fun F0 => ⟨_, v, ho, ⟨fun _ w _ => h _ w rfl, fun e => by simp [Region.wanted, hg] at e⟩, k F0⟩
theorem Zi1 {j : Nat} {b : Bool} (ho : ops[i]? = some ⟨dst, op, ty, pos, after, some (j, b)⟩) (hg : yl ops ρ j = some (!b)) (k : cX P w0 ops SM r (put ρ dst undef) M K) : cX P w0 ops SM (.r i r) ρ M K :=
  fun F0 => ⟨_, undef, ho, ⟨fun e => by simp [Region.wanted, hg] at e, fun _ => rfl⟩, k F0⟩
theorem Zi2 {j : Nat} {b : Bool} (ho : ops[i]? = some ⟨dst, op, ty, pos, after, some (j, b)⟩) (hg : yl ops ρ j = none) (k : cX P w0 ops SM r (put ρ dst undef) M K) : cX P w0 ops SM (.r i r) ρ M K :=
  fun F0 => ⟨_, undef, ho, ⟨fun e => by simp [Region.wanted, hg] at e, fun _ => rfl⟩, k F0⟩
theorem Zi3 {b o E n by' j : Nat} {t : Bool} {z : Value} {c cs : Array Value} {M' : List Asrt} [hs : TyAggr P T] [hi : TyI P T n by' z] (ho : ops[i]? = some ⟨dst, .load T x, ty, pos, after, some (j, t)⟩) (hg : yl ops ρ j = some t) (hx : ev ρ x = .pointer (some ⟨b, o, none⟩)) (hm : Has SM (cl b c E) M') (hv : o + n ≤ c.size) (hc : c.extract o (o + n) = cs) (k : cX P w0 ops SM r (put ρ dst (.agg cs)) M K) : cX P w0 ops SM (.r i r) ρ M K :=
  Ziu ho hg (fun F w H => run_lda rfl hx hm hv hc H) k
theorem Zi4 {b E n by' j : Nat} {t : Bool} {z : Value} {c : Array Value} {M' : List Asrt} [hs : TyAggr P T] [hi : TyI P T n by' z] (ho : ops[i]? = some ⟨dst, .load T x, ty, pos, after, some (j, t)⟩) (hg : yl ops ρ j = some t) (hx : ev ρ x = .pointer (some ⟨b, 0, none⟩)) (hm : Has SM (cl b c E) M') (hv : c.size = n) (k : cX P w0 ops SM r (put ρ dst (.agg c)) M K) : cX P w0 ops SM (.r i r) ρ M K :=
  Zi3 ho hg hx hm (by omega) (by rw [Nat.zero_add, ← hv]; simp) k
theorem Zi5 (d : Nat) {t : Bool} (hd : ρ d = .bool t) (e : t = true) (h : cX P w0 ops SM r (put ρ (some d) (.bool true)) M K) : cX P w0 ops SM r ρ M K := by
  subst e; rwa [put_self hd] at h
theorem Zi6 (d : Nat) {t : Bool} (hd : ρ d = .bool t) (e : t = false) (h : cX P w0 ops SM r (put ρ (some d) (.bool false)) M K) : cX P w0 ops SM r ρ M K := by
  subst e; rwa [put_self hd] at h
theorem Zi7 (d : Nat) {p : Prop} [Decidable p] (hd : ρ d = .bool (decide p)) (h1 : p → cX P w0 ops SM r (put ρ (some d) (.bool true)) M K) (h2 : ¬ p → cX P w0 ops SM r (put ρ (some d) (.bool false)) M K) : cX P w0 ops SM r ρ M K := by
  by_cases hp : p
  · exact Zi5 d hd (decide_eq_true hp) (h1 hp)
  · exact Zi6 d hd (decide_eq_false hp) (h2 hp)
theorem Zi8 {b o m kk j : Nat} {xs : List Value} {v : Value} [hs : TyScal P T] (ho : ops[i]? = some ⟨dst, .load T x, ty, pos, after, none⟩) (hx : ev ρ x = .pointer (some ⟨b, o + j, none⟩)) (HS : Rd SM 1 (.slice (some ⟨b, o, none⟩) m kk) m xs) (hj : j < m) (hv : xs[j]? = some v) (k : cX P w0 ops SM r (put ρ dst v) M K) : cX P w0 ops SM (.r i r) ρ M K := by
  refine Zit ho (fun F w H => ?_) k
  obtain ⟨c, E, fr, hb, hc⟩ := (HS _ _ _ H).cellAt hj
  have hr : (Instr.loadAt T (ev ρ x)).run P w = .ok v w := by
    rw [hx]; unfold Instr.loadAt
    rw [run_bind P _ _ w w _ rfl]; unfold loadVar
    rw [run_bind P _ _ w w _ (run_isAgg hs.h)]
    exact run_load1 hb (hc.trans hv)
  exact op_run_value hr
end
end Go.Sl

/- The engine: whole numbers without a sign, as bits. -/
set_option linter.unusedVariables false
set_option linter.unusedSimpArgs false
namespace Go.Sl
open Go
theorem uwrap {k : IntKind} (hk : k.signed = false) (n : Int) : k.wrap n = ((BitVec.ofInt k.bits n).toNat : Int) := by
  have h : (2 ^ k.bits : Int) = ((2 ^ k.bits : Nat) : Int) := by push_cast; rfl
  have hp : (0 : Int) < ((2 ^ k.bits : Nat) : Int) := by exact_mod_cast Nat.two_pow_pos k.bits
  unfold IntKind.wrap
  rw [hk, BitVec.toNat_ofInt, h]
  simp only [Bool.false_and, Bool.false_eq_true, if_false]
  rw [Int.toNat_of_nonneg (Int.emod_nonneg _ (by omega))]
theorem ofInt_nat {w : Nat} (x : BitVec w) : BitVec.ofInt w (x.toNat : Int) = x := by
  apply BitVec.eq_of_toNat_eq
  rw [BitVec.toNat_ofInt, ← Int.natCast_emod]
  simp [Nat.mod_eq_of_lt x.isLt]
theorem uwrap_nat {k : IntKind} (hk : k.signed = false) (x : BitVec k.bits) : k.wrap (x.toNat : Int) = (x.toNat : Int) := by rw [uwrap hk, ofInt_nat]
section
variable {P : Program} {ρ : Env} {T T' : Nat} {a b : Operand} {k : IntKind} {x y : BitVec k.bits}
theorem pvu_add (hk : k.signed = false) (hx : ev ρ a = .int k x.toNat) (hy : ev ρ b = .int k y.toNat) : PV P (.binOp .add T a b T') ρ (.int k (x + y).toNat) := by
  have h := Zbd (P := P) (T := T) (T' := T') hx hy
  have e : BitVec.ofInt k.bits ((x.toNat : Int) + y.toNat) = x + y := by rw [BitVec.ofInt_add, ofInt_nat, ofInt_nat]
  rwa [uwrap hk, e] at h
theorem pvu_sub (hk : k.signed = false) (hx : ev ρ a = .int k x.toNat) (hy : ev ρ b = .int k y.toNat) : PV P (.binOp .sub T a b T') ρ (.int k (x - y).toNat) := by
  have h := Zbe (P := P) (T := T) (T' := T') hx hy
  have e : BitVec.ofInt k.bits ((x.toNat : Int) - y.toNat) = x - y := by rw [Int.sub_eq_add_neg, BitVec.ofInt_add, ofInt_nat, BitVec.ofInt_neg, ofInt_nat, BitVec.sub_eq_add_neg]
  rwa [uwrap hk, e] at h
theorem pvu_mul (hk : k.signed = false) (hx : ev ρ a = .int k x.toNat) (hy : ev ρ b = .int k y.toNat) : PV P (.binOp .mul T a b T') ρ (.int k (x * y).toNat) := by
  have h := Zbf (P := P) (T := T) (T' := T') hx hy
  have e : BitVec.ofInt k.bits ((x.toNat : Int) * y.toNat) = x * y := by rw [BitVec.ofInt_mul, ofInt_nat, ofInt_nat]
  rwa [uwrap hk, e] at h
theorem pvu_and (hk : k.signed = false) (hx : ev ρ a = .int k x.toNat) (hy : ev ρ b = .int k y.toNat) : PV P (.binOp .and T a b T') ρ (.int k (x &&& y).toNat) := by
  have h := Zbu (P := P) (T := T) (T' := T') hx hy
  rwa [ofInt_nat, ofInt_nat, uwrap_nat hk] at h
theorem pvu_or (hk : k.signed = false) (hx : ev ρ a = .int k x.toNat) (hy : ev ρ b = .int k y.toNat) : PV P (.binOp .or T a b T') ρ (.int k (x ||| y).toNat) := by
  have h := Zbv (P := P) (T := T) (T' := T') hx hy
  rwa [ofInt_nat, ofInt_nat, uwrap_nat hk] at h
theorem pvu_xor (hk : k.signed = false) (hx : ev ρ a = .int k x.toNat) (hy : ev ρ b = .int k y.toNat) : PV P (.binOp .xor T a b T') ρ (.int k (x ^^^ y).toNat) := by
  have h := Zbw (P := P) (T := T) (T' := T') hx hy
  rwa [ofInt_nat, ofInt_nat, uwrap_nat hk] at h
theorem pvu_andNot (hk : k.signed = false) (hx : ev ρ a = .int k x.toNat) (hy : ev ρ b = .int k y.toNat) : PV P (.binOp .andNot T a b T') ρ (.int k (x &&& ~~~ y).toNat) := by
  have h := Zbx (P := P) (T := T) (T' := T') hx hy
  rwa [ofInt_nat, ofInt_nat, uwrap_nat hk] at h
theorem pvu_shl {k' : IntKind} {m : Nat} (hk : k.signed = false) (hx : ev ρ a = .int k x.toNat) (hy : ev ρ b = .int k' (m : Int)) : PV P (.binOp .shl T a b T') ρ (.int k (x <<< m).toNat) := by
  have h := Zby (P := P) (T := T) (T' := T') hx hy (by omega)
  have e : BitVec.ofInt k.bits ((x.toNat : Int) * 2 ^ (min m k.bits)) = x <<< m := by
    apply BitVec.eq_of_toNat_eq
    rw [BitVec.toNat_shiftLeft, BitVec.toNat_ofInt, show ((x.toNat : Int) * 2 ^ (min m k.bits)) = ((x.toNat * 2 ^ (min m k.bits) : Nat) : Int) by push_cast; rfl, ← Int.natCast_emod, Int.toNat_natCast, Nat.shiftLeft_eq]
    rcases Nat.le_total m k.bits with hle|hle
    · rw [Nat.min_eq_left hle]
    · rw [Nat.min_eq_right hle]
      obtain ⟨d, rfl⟩ := Nat.exists_eq_add_of_le hle
      rw [Nat.pow_add, ← Nat.mul_assoc, Nat.mul_mod_left, Nat.mul_right_comm, Nat.mul_mod_left]
  rw [uwrap hk, Int.toNat_natCast, e] at h
  exact h
theorem pvu_shr {k' : IntKind} {m : Nat} (hk : k.signed = false) (hx : ev ρ a = .int k x.toNat) (hy : ev ρ b = .int k' (m : Int)) : PV P (.binOp .shr T a b T') ρ (.int k (x >>> m).toNat) := by
  have h := Zbz (P := P) (T := T) (T' := T') hx hy (by omega)
  have e : (x.toNat : Int).fdiv (2 ^ (min m k.bits)) = ((x >>> m).toNat : Int) := by
    have hp : (0 : Int) ≤ 2 ^ (min m k.bits) := by
      rw [show ((2 : Int) ^ (min m k.bits)) = ((2 ^ (min m k.bits) : Nat) : Int) by push_cast; rfl]
      exact Int.natCast_nonneg _
    rw [Int.fdiv_eq_ediv_of_nonneg _ hp, BitVec.toNat_ushiftRight, Nat.shiftRight_eq_div_pow]
    rcases Nat.le_total m k.bits with hle|hle
    · rw [Nat.min_eq_left hle]; push_cast; rfl
    · rw [Nat.min_eq_right hle]
      have h1 : x.toNat / 2 ^ k.bits = 0 := Nat.div_eq_of_lt x.isLt
      have h2 : x.toNat / 2 ^ m = 0 := Nat.div_eq_of_lt (Nat.lt_of_lt_of_le x.isLt (Nat.pow_le_pow_right (by omega) hle))
      rw [h2]
      have h3 : ((x.toNat : Int) / 2 ^ k.bits) = ((x.toNat / 2 ^ k.bits : Nat) : Int) := by push_cast; rfl
      rw [h3, h1]
  rw [Int.toNat_natCast, e] at h
  exact h
theorem pvu_not (hk : k.signed = false) (hx : ev ρ a = .int k x.toNat) : PV P (.unOp .xor T a) ρ (.int k (~~~ x).toNat) := by
  have h := Zb3 (P := P) (T := T) hx
  have e : BitVec.ofInt k.bits (if k.signed then -1 else k.max) = BitVec.allOnes k.bits := by
    rw [hk]; simp only [Bool.false_eq_true, if_false, IntKind.max, hk]
    apply BitVec.eq_of_toNat_eq
    have hp := Nat.two_pow_pos k.bits
    rw [BitVec.toNat_ofInt, BitVec.toNat_allOnes, show (2 ^ k.bits - 1 : Int) = ((2 ^ k.bits - 1 : Nat) : Int) by push_cast [Nat.one_le_two_pow]; rfl, ← Int.natCast_emod, Int.toNat_natCast, Nat.mod_eq_of_lt (by omega)]
  rw [e, ofInt_nat, uwrap_nat hk, BitVec.allOnes_xor] at h
  exact h
theorem pvu_neg (hk : k.signed = false) (hx : ev ρ a = .int k x.toNat) : PV P (.unOp .neg T a) ρ (.int k (- x).toNat) := by
  have h := Zb2 (P := P) (T := T) hx
  have e : BitVec.ofInt k.bits (0 - (x.toNat : Int)) = - x := by rw [Int.zero_sub, BitVec.ofInt_neg, ofInt_nat]
  rwa [uwrap hk, e] at h
theorem pvu_eql (hx : ev ρ a = .int k x.toNat) (hy : ev ρ b = .int k y.toNat) : PV P (.binOp .eql T a b T') ρ (.bool (decide (x = y))) := by
  have h := Zbr (P := P) (T := T) (T' := T') hx hy
  have e : decide ((x.toNat : Int) = y.toNat) = decide (x = y) := decide_eq_decide.2 ⟨fun h => BitVec.eq_of_toNat_eq (by omega), fun h => by rw [h]⟩
  rwa [e] at h
theorem pvu_neq (hx : ev ρ a = .int k x.toNat) (hy : ev ρ b = .int k y.toNat) : PV P (.binOp .neq T a b T') ρ (.bool (decide (x ≠ y))) := by
  have h := Zbs (P := P) (T := T) (T' := T') hx hy
  have e : decide ((x.toNat : Int) ≠ y.toNat) = decide (x ≠ y) := decide_eq_decide.2 ⟨fun h e => h (by rw [e]), fun h e => h (BitVec.eq_of_toNat_eq (by omega))⟩
  rwa [e] at h
theorem pvu_lss (hx : ev ρ a = .int k x.toNat) (hy : ev ρ b = .int k y.toNat) : PV P (.binOp .lss T a b T') ρ (.bool (decide (x.toNat < y.toNat))) := by
  have h := Zbn (P := P) (T := T) (T' := T') hx hy
  rwa [show decide ((x.toNat : Int) < y.toNat) = decide (x.toNat < y.toNat) from decide_eq_decide.2 (by omega)] at h
theorem pvu_leq (hx : ev ρ a = .int k x.toNat) (hy : ev ρ b = .int k y.toNat) : PV P (.binOp .leq T a b T') ρ (.bool (decide (x.toNat ≤ y.toNat))) := by
  have h := Zbo (P := P) (T := T) (T' := T') hx hy
  rwa [show decide ((x.toNat : Int) ≤ y.toNat) = decide (x.toNat ≤ y.toNat) from decide_eq_decide.2 (by omega)] at h
theorem pvu_gtr (hx : ev ρ a = .int k x.toNat) (hy : ev ρ b = .int k y.toNat) : PV P (.binOp .gtr T a b T') ρ (.bool (decide (y.toNat < x.toNat))) := by
  have h := Zbp (P := P) (T := T) (T' := T') hx hy
  rwa [show decide ((y.toNat : Int) < x.toNat) = decide (y.toNat < x.toNat) from decide_eq_decide.2 (by omega)] at h
theorem pvu_geq (hx : ev ρ a = .int k x.toNat) (hy : ev ρ b = .int k y.toNat) : PV P (.binOp .geq T a b T') ρ (.bool (decide (y.toNat ≤ x.toNat))) := by
  have h := Zbq (P := P) (T := T) (T' := T') hx hy
  rwa [show decide ((y.toNat : Int) ≤ x.toNat) = decide (y.toNat ≤ x.toNat) from decide_eq_decide.2 (by omega)] at h
theorem pvu_quo (hk : k.signed = false) (hx : ev ρ a = .int k x.toNat) (hy : ev ρ b = .int k y.toNat) (h0 : 0 < y.toNat) : PV P (.binOp .quo T a b T') ρ (.int k (x / y).toNat) := by
  have e : ((x.toNat : Int) / y.toNat) = ((x / y).toNat : Int) := by rw [BitVec.toNat_udiv]; push_cast; rfl
  have h := Zbm (P := P) (T := T) (T' := T') hx hy hk ⟨by omega, by omega, by rw [e, uwrap_nat hk]⟩
  rwa [e] at h
theorem pvu_rem (hx : ev ρ a = .int k x.toNat) (hy : ev ρ b = .int k y.toNat) (h0 : 0 < y.toNat) : PV P (.binOp .rem T a b T') ρ (.int k (x % y).toNat) := by
  have h := Zbk (P := P) (T := T) (T' := T') hx hy (by omega)
  have e : ((x.toNat : Int)).tmod y.toNat = ((x % y).toNat : Int) := by rw [BitVec.toNat_umod]; rfl
  rwa [e] at h
theorem pvu_conv {S D : Nat} {k' : IntKind} [hs : TyInt P S k] [hd : TyInt P D k'] (hk' : k'.signed = false) (hx : ev ρ a = .int k x.toNat) : PV P (.convert S D a) ρ (.int k' (x.setWidth k'.bits).toNat) := by
  have h := Zb4 (P := P) (S := S) (D := D) hx
  have e : BitVec.ofInt k'.bits (x.toNat : Int) = x.setWidth k'.bits := by
    apply BitVec.eq_of_toNat_eq
    rw [BitVec.toNat_ofInt, BitVec.toNat_setWidth, ← Int.natCast_emod, Int.toNat_natCast]
  rwa [uwrap hk', e] at h
theorem pvu_convI {S D : Nat} {k0 : IntKind} {n : Int} [hs : TyInt P S k0] [hd : TyInt P D k] (hk : k.signed = false) (hx : ev ρ a = .int k0 n) : PV P (.convert S D a) ρ (.int k (BitVec.ofInt k.bits n).toNat) := by
  have h := Zb4 (P := P) (S := S) (D := D) hx
  rwa [uwrap hk] at h
theorem pvu_convN {S D : Nat} [hs : TyInt P S k] [hd : TyInt P D .i64] (hx : ev ρ a = .int k x.toNat) (h : x.toNat < 9223372036854775808) : PV P (.convert S D a) ρ (.int .i64 x.toNat) := by
  refine Zb5 hx ?_
  rw [IntWalk.i64_in _ ⟨by omega, by omega⟩]
end

section
variable {P : Program} {ρ : Env} {T T' : Nat} {a b : Operand} {x y : BitVec 8}
theorem Zi9 (hx : ev ρ a = .int .u8 x.toNat) (hy : ev ρ b = .int .u8 y.toNat) : PV P (.binOp .add T a b T') ρ (.int .u8 (x + y).toNat) := pvu_add (k := .u8) rfl hx hy
theorem Zja (hx : ev ρ a = .int .u8 x.toNat) (hy : ev ρ b = .int .u8 y.toNat) : PV P (.binOp .sub T a b T') ρ (.int .u8 (x - y).toNat) := pvu_sub (k := .u8) rfl hx hy
theorem Zjb (hx : ev ρ a = .int .u8 x.toNat) (hy : ev ρ b = .int .u8 y.toNat) : PV P (.binOp .mul T a b T') ρ (.int .u8 (x * y).toNat) := pvu_mul (k := .u8) rfl hx hy
theorem Zjc (hx : ev ρ a = .int .u8 x.toNat) (hy : ev ρ b = .int .u8 y.toNat) : PV P (.binOp .and T a b T') ρ (.int .u8 (x &&& y).toNat) := pvu_and (k := .u8) rfl hx hy
theorem Zjd (hx : ev ρ a = .int .u8 x.toNat) (hy : ev ρ b = .int .u8 y.toNat) : PV P (.binOp .or T a b T') ρ (.int .u8 (x ||| y).toNat) := pvu_or (k := .u8) rfl hx hy
theorem Zje (hx : ev ρ a = .int .u8 x.toNat) (hy : ev ρ b = .int .u8 y.toNat) : PV P (.binOp .xor T a b T') ρ (.int .u8 (x ^^^ y).toNat) := pvu_xor (k := .u8) rfl hx hy
theorem Zjf (hx : ev ρ a = .int .u8 x.toNat) (hy : ev ρ b = .int .u8 y.toNat) : PV P (.binOp .andNot T a b T') ρ (.int .u8 (x &&& ~~~ y).toNat) := pvu_andNot (k := .u8) rfl hx hy
theorem Zjg {k' : IntKind} {m : Nat} (hx : ev ρ a = .int .u8 x.toNat) (hy : ev ρ b = .int k' (m : Int)) : PV P (.binOp .shl T a b T') ρ (.int .u8 (x <<< m).toNat) := pvu_shl (k := .u8) rfl hx hy
theorem Zjh {k' : IntKind} {m : Nat} (hx : ev ρ a = .int .u8 x.toNat) (hy : ev ρ b = .int k' (m : Int)) : PV P (.binOp .shr T a b T') ρ (.int .u8 (x >>> m).toNat) := pvu_shr (k := .u8) rfl hx hy
theorem Zji (hx : ev ρ a = .int .u8 x.toNat) : PV P (.unOp .xor T a) ρ (.int .u8 (~~~ x).toNat) := pvu_not (k := .u8) rfl hx
theorem Zjj (hx : ev ρ a = .int .u8 x.toNat) : PV P (.unOp .neg T a) ρ (.int .u8 (- x).toNat) := pvu_neg (k := .u8) rfl hx
theorem Zjk (hx : ev ρ a = .int .u8 x.toNat) (hy : ev ρ b = .int .u8 y.toNat) : PV P (.binOp .eql T a b T') ρ (.bool (decide (x = y))) := pvu_eql (k := .u8) hx hy
theorem Zjl (hx : ev ρ a = .int .u8 x.toNat) (hy : ev ρ b = .int .u8 y.toNat) : PV P (.binOp .neq T a b T') ρ (.bool (decide (x ≠ y))) := pvu_neq (k := .u8) hx hy
theorem Zjm (hx : ev ρ a = .int .u8 x.toNat) (hy : ev ρ b = .int .u8 y.toNat) : PV P (.binOp .lss T a b T') ρ (.bool (decide (x.toNat < y.toNat))) := pvu_lss (k := .u8) hx hy
theorem Zjn (hx : ev ρ a = .int .u8 x.toNat) (hy : ev ρ b = .int .u8 y.toNat) : PV P (.binOp .leq T a b T') ρ (.bool (decide (x.toNat ≤ y.toNat))) := pvu_leq (k := .u8) hx hy
theorem Zjo (hx : ev ρ a = .int .u8 x.toNat) (hy : ev ρ b = .int .u8 y.toNat) : PV P (.binOp .gtr T a b T') ρ (.bool (decide (y.toNat < x.toNat))) := pvu_gtr (k := .u8) hx hy
theorem Zjp (hx : ev ρ a = .int .u8 x.toNat) (hy : ev ρ b = .int .u8 y.toNat) : PV P (.binOp .geq T a b T') ρ (.bool (decide (y.toNat ≤ x.toNat))) := pvu_geq (k := .u8) hx hy
theorem Zjq (hx : ev ρ a = .int .u8 x.toNat) (hy : ev ρ b = .int .u8 y.toNat) (h0 : 0 < y.toNat := by first|omega|exact Nat.le_of_ble_eq_true rfl|(simp; done)|(simp; omega)|decide) : PV P (.binOp .quo T a b T') ρ (.int .u8 (x / y).toNat) := pvu_quo (k := .u8) rfl hx hy h0
theorem Zjr (hx : ev ρ a = .int .u8 x.toNat) (hy : ev ρ b = .int .u8 y.toNat) (h0 : 0 < y.toNat := by first|omega|exact Nat.le_of_ble_eq_true rfl|(simp; done)|(simp; omega)|decide) : PV P (.binOp .rem T a b T') ρ (.int .u8 (x % y).toNat) := pvu_rem (k := .u8) hx hy h0
theorem Zjs {S D : Nat} {n : Int} [hs : TyInt P S .i64] [hd : TyInt P D .u8] (hx : ev ρ a = .int .i64 n) : PV P (.convert S D a) ρ (.int .u8 (BitVec.ofInt 8 n).toNat) := pvu_convI (k := .u8) rfl hx
theorem Zjt {S D : Nat} [hs : TyInt P S .u8] [hd : TyInt P D .i64] (hx : ev ρ a = .int .u8 x.toNat) : PV P (.convert S D a) ρ (.int .i64 x.toNat) := pvu_convN (k := .u8) hx (Nat.lt_trans x.isLt (by decide))
theorem Zju {S D : Nat} [hs : TyInt P S .u8] [hd : TyInt P D .u8] (hx : ev ρ a = .int .u8 x.toNat) : PV P (.convert S D a) ρ (.int .u8 (x.setWidth 8).toNat) := pvu_conv (k := .u8) (k' := .u8) rfl hx
theorem Zjv {S D : Nat} [hs : TyInt P S .u8] [hd : TyInt P D .u16] (hx : ev ρ a = .int .u8 x.toNat) : PV P (.convert S D a) ρ (.int .u16 (x.setWidth 16).toNat) := pvu_conv (k := .u8) (k' := .u16) rfl hx
theorem Zjw {S D : Nat} [hs : TyInt P S .u8] [hd : TyInt P D .u32] (hx : ev ρ a = .int .u8 x.toNat) : PV P (.convert S D a) ρ (.int .u32 (x.setWidth 32).toNat) := pvu_conv (k := .u8) (k' := .u32) rfl hx
theorem Zjx {S D : Nat} [hs : TyInt P S .u8] [hd : TyInt P D .u64] (hx : ev ρ a = .int .u8 x.toNat) : PV P (.convert S D a) ρ (.int .u64 (x.setWidth 64).toNat) := pvu_conv (k := .u8) (k' := .u64) rfl hx
end
abbrev u8b (x : BitVec 8) : Value := .int .u8 x.toNat
section
variable {P : Program} {ρ : Env} {T T' : Nat} {a b : Operand} {x y : BitVec 16}
theorem Zjy (hx : ev ρ a = .int .u16 x.toNat) (hy : ev ρ b = .int .u16 y.toNat) : PV P (.binOp .add T a b T') ρ (.int .u16 (x + y).toNat) := pvu_add (k := .u16) rfl hx hy
theorem Zjz (hx : ev ρ a = .int .u16 x.toNat) (hy : ev ρ b = .int .u16 y.toNat) : PV P (.binOp .sub T a b T') ρ (.int .u16 (x - y).toNat) := pvu_sub (k := .u16) rfl hx hy
theorem Zj0 (hx : ev ρ a = .int .u16 x.toNat) (hy : ev ρ b = .int .u16 y.toNat) : PV P (.binOp .mul T a b T') ρ (.int .u16 (x * y).toNat) := pvu_mul (k := .u16) rfl hx hy
theorem Zj1 (hx : ev ρ a = .int .u16 x.toNat) (hy : ev ρ b = .int .u16 y.toNat) : PV P (.binOp .and T a b T') ρ (.int .u16 (x &&& y).toNat) := pvu_and (k := .u16) rfl hx hy
theorem Zj2 (hx : ev ρ a = .int .u16 x.toNat) (hy : ev ρ b = .int .u16 y.toNat) : PV P (.binOp .or T a b T') ρ (.int .u16 (x ||| y).toNat) := pvu_or (k := .u16) rfl hx hy
theorem Zj3 (hx : ev ρ a = .int .u16 x.toNat) (hy : ev ρ b = .int .u16 y.toNat) : PV P (.binOp .xor T a b T') ρ (.int .u16 (x ^^^ y).toNat) := pvu_xor (k := .u16) rfl hx hy
theorem Zj4 (hx : ev ρ a = .int .u16 x.toNat) (hy : ev ρ b = .int .u16 y.toNat) : PV P (.binOp .andNot T a b T') ρ (.int .u16 (x &&& ~~~ y).toNat) := pvu_andNot (k := .u16) rfl hx hy
theorem Zj5 {k' : IntKind} {m : Nat} (hx : ev ρ a = .int .u16 x.toNat) (hy : ev ρ b = .int k' (m : Int)) : PV P (.binOp .shl T a b T') ρ (.int .u16 (x <<< m).toNat) := pvu_shl (k := .u16) rfl hx hy
theorem Zj6 {k' : IntKind} {m : Nat} (hx : ev ρ a = .int .u16 x.toNat) (hy : ev ρ b = .int k' (m : Int)) : PV P (.binOp .shr T a b T') ρ (.int .u16 (x >>> m).toNat) := pvu_shr (k := .u16) rfl hx hy
theorem Zj7 (hx : ev ρ a = .int .u16 x.toNat) : PV P (.unOp .xor T a) ρ (.int .u16 (~~~ x).toNat) := pvu_not (k := .u16) rfl hx
theorem Zj8 (hx : ev ρ a = .int .u16 x.toNat) : PV P (.unOp .neg T a) ρ (.int .u16 (- x).toNat) := pvu_neg (k := .u16) rfl hx
theorem Zj9 (hx : ev ρ a = .int .u16 x.toNat) (hy : ev ρ b = .int .u16 y.toNat) : PV P (.binOp .eql T a b T') ρ (.bool (decide (x = y))) := pvu_eql (k := .u16) hx hy
theorem Zka (hx : ev ρ a = .int .u16 x.toNat) (hy : ev ρ b = .int .u16 y.toNat) : PV P (.binOp .neq T a b T') ρ (.bool (decide (x ≠ y))) := pvu_neq (k := .u16) hx hy
theorem Zkb (hx : ev ρ a = .int .u16 x.toNat) (hy : ev ρ b = .int .u16 y.toNat) : PV P (.binOp .lss T a b T') ρ (.bool (decide (x.toNat < y.toNat))) := pvu_lss (k := .u16) hx hy
theorem Zkc (hx : ev ρ a = .int .u16 x.toNat) (hy : ev ρ b = .int .u16 y.toNat) : PV P (.binOp .leq T a b T') ρ (.bool (decide (x.toNat ≤ y.toNat))) := pvu_leq (k := .u16) hx hy
theorem Zkd (hx : ev ρ a = .int .u16 x.toNat) (hy : ev ρ b = .int .u16 y.toNat) : PV P (.binOp .gtr T a b T') ρ (.bool (decide (y.toNat < x.toNat))) := pvu_gtr (k := .u16) hx hy
theorem Zke (hx : ev ρ a = .int .u16 x.toNat) (hy : ev ρ b = .int .u16 y.toNat) : PV P (.binOp .geq T a b T') ρ (.bool (decide (y.toNat ≤ x.toNat))) := pvu_geq (k := .u16) hx hy
theorem Zkf (hx : ev ρ a = .int .u16 x.toNat) (hy : ev ρ b = .int .u16 y.toNat) (h0 : 0 < y.toNat := by first|omega|exact Nat.le_of_ble_eq_true rfl|(simp; done)|(simp; omega)|decide) : PV P (.binOp .quo T a b T') ρ (.int .u16 (x / y).toNat) := pvu_quo (k := .u16) rfl hx hy h0
theorem Zkg (hx : ev ρ a = .int .u16 x.toNat) (hy : ev ρ b = .int .u16 y.toNat) (h0 : 0 < y.toNat := by first|omega|exact Nat.le_of_ble_eq_true rfl|(simp; done)|(simp; omega)|decide) : PV P (.binOp .rem T a b T') ρ (.int .u16 (x % y).toNat) := pvu_rem (k := .u16) hx hy h0
theorem Zkh {S D : Nat} {n : Int} [hs : TyInt P S .i64] [hd : TyInt P D .u16] (hx : ev ρ a = .int .i64 n) : PV P (.convert S D a) ρ (.int .u16 (BitVec.ofInt 16 n).toNat) := pvu_convI (k := .u16) rfl hx
theorem Zki {S D : Nat} [hs : TyInt P S .u16] [hd : TyInt P D .i64] (hx : ev ρ a = .int .u16 x.toNat) : PV P (.convert S D a) ρ (.int .i64 x.toNat) := pvu_convN (k := .u16) hx (Nat.lt_trans x.isLt (by decide))
theorem Zkj {S D : Nat} [hs : TyInt P S .u16] [hd : TyInt P D .u8] (hx : ev ρ a = .int .u16 x.toNat) : PV P (.convert S D a) ρ (.int .u8 (x.setWidth 8).toNat) := pvu_conv (k := .u16) (k' := .u8) rfl hx
theorem Zkk {S D : Nat} [hs : TyInt P S .u16] [hd : TyInt P D .u16] (hx : ev ρ a = .int .u16 x.toNat) : PV P (.convert S D a) ρ (.int .u16 (x.setWidth 16).toNat) := pvu_conv (k := .u16) (k' := .u16) rfl hx
theorem Zkl {S D : Nat} [hs : TyInt P S .u16] [hd : TyInt P D .u32] (hx : ev ρ a = .int .u16 x.toNat) : PV P (.convert S D a) ρ (.int .u32 (x.setWidth 32).toNat) := pvu_conv (k := .u16) (k' := .u32) rfl hx
theorem Zkm {S D : Nat} [hs : TyInt P S .u16] [hd : TyInt P D .u64] (hx : ev ρ a = .int .u16 x.toNat) : PV P (.convert S D a) ρ (.int .u64 (x.setWidth 64).toNat) := pvu_conv (k := .u16) (k' := .u64) rfl hx
end
abbrev u16b (x : BitVec 16) : Value := .int .u16 x.toNat
section
variable {P : Program} {ρ : Env} {T T' : Nat} {a b : Operand} {x y : BitVec 32}
theorem Zkn (hx : ev ρ a = .int .u32 x.toNat) (hy : ev ρ b = .int .u32 y.toNat) : PV P (.binOp .add T a b T') ρ (.int .u32 (x + y).toNat) := pvu_add (k := .u32) rfl hx hy
theorem Zko (hx : ev ρ a = .int .u32 x.toNat) (hy : ev ρ b = .int .u32 y.toNat) : PV P (.binOp .sub T a b T') ρ (.int .u32 (x - y).toNat) := pvu_sub (k := .u32) rfl hx hy
theorem Zkp (hx : ev ρ a = .int .u32 x.toNat) (hy : ev ρ b = .int .u32 y.toNat) : PV P (.binOp .mul T a b T') ρ (.int .u32 (x * y).toNat) := pvu_mul (k := .u32) rfl hx hy
theorem Zkq (hx : ev ρ a = .int .u32 x.toNat) (hy : ev ρ b = .int .u32 y.toNat) : PV P (.binOp .and T a b T') ρ (.int .u32 (x &&& y).toNat) := pvu_and (k := .u32) rfl hx hy
theorem Zkr (hx : ev ρ a = .int .u32 x.toNat) (hy : ev ρ b = .int .u32 y.toNat) : PV P (.binOp .or T a b T') ρ (.int .u32 (x ||| y).toNat) := pvu_or (k := .u32) rfl hx hy
theorem Zks (hx : ev ρ a = .int .u32 x.toNat) (hy : ev ρ b = .int .u32 y.toNat) : PV P (.binOp .xor T a b T') ρ (.int .u32 (x ^^^ y).toNat) := pvu_xor (k := .u32) rfl hx hy
theorem Zkt (hx : ev ρ a = .int .u32 x.toNat) (hy : ev ρ b = .int .u32 y.toNat) : PV P (.binOp .andNot T a b T') ρ (.int .u32 (x &&& ~~~ y).toNat) := pvu_andNot (k := .u32) rfl hx hy
theorem Zku {k' : IntKind} {m : Nat} (hx : ev ρ a = .int .u32 x.toNat) (hy : ev ρ b = .int k' (m : Int)) : PV P (.binOp .shl T a b T') ρ (.int .u32 (x <<< m).toNat) := pvu_shl (k := .u32) rfl hx hy
theorem Zkv {k' : IntKind} {m : Nat} (hx : ev ρ a = .int .u32 x.toNat) (hy : ev ρ b = .int k' (m : Int)) : PV P (.binOp .shr T a b T') ρ (.int .u32 (x >>> m).toNat) := pvu_shr (k := .u32) rfl hx hy
theorem Zkw (hx : ev ρ a = .int .u32 x.toNat) : PV P (.unOp .xor T a) ρ (.int .u32 (~~~ x).toNat) := pvu_not (k := .u32) rfl hx
theorem Zkx (hx : ev ρ a = .int .u32 x.toNat) : PV P (.unOp .neg T a) ρ (.int .u32 (- x).toNat) := pvu_neg (k := .u32) rfl hx
theorem Zky (hx : ev ρ a = .int .u32 x.toNat) (hy : ev ρ b = .int .u32 y.toNat) : PV P (.binOp .eql T a b T') ρ (.bool (decide (x = y))) := pvu_eql (k := .u32) hx hy
theorem Zkz (hx : ev ρ a = .int .u32 x.toNat) (hy : ev ρ b = .int .u32 y.toNat) : PV P (.binOp .neq T a b T') ρ (.bool (decide (x ≠ y))) := pvu_neq (k := .u32) hx hy
theorem Zk0 (hx : ev ρ a = .int .u32 x.toNat) (hy : ev ρ b = .int .u32 y.toNat) : PV P (.binOp .lss T a b T') ρ (.bool (decide (x.toNat < y.toNat))) := pvu_lss (k := .u32) hx hy
theorem Zk1 (hx : ev ρ a = .int .u32 x.toNat) (hy : ev ρ b = .int .u32 y.toNat) : PV P (.binOp .leq T a b T') ρ (.bool (decide (x.toNat ≤ y.toNat))) := pvu_leq (k := .u32) hx hy
theorem Zk2 (hx : ev ρ a = .int .u32 x.toNat) (hy : ev ρ b = .int .u32 y.toNat) : PV P (.binOp .gtr T a b T') ρ (.bool (decide (y.toNat < x.toNat))) := pvu_gtr (k := .u32) hx hy
theorem Zk3 (hx : ev ρ a = .int .u32 x.toNat) (hy : ev ρ b = .int .u32 y.toNat) : PV P (.binOp .geq T a b T') ρ (.bool (decide (y.toNat ≤ x.toNat))) := pvu_geq (k := .u32) hx hy
theorem Zk4 (hx : ev ρ a = .int .u32 x.toNat) (hy : ev ρ b = .int .u32 y.toNat) (h0 : 0 < y.toNat := by first|omega|exact Nat.le_of_ble_eq_true rfl|(simp; done)|(simp; omega)|decide) : PV P (.binOp .quo T a b T') ρ (.int .u32 (x / y).toNat) := pvu_quo (k := .u32) rfl hx hy h0
theorem Zk5 (hx : ev ρ a = .int .u32 x.toNat) (hy : ev ρ b = .int .u32 y.toNat) (h0 : 0 < y.toNat := by first|omega|exact Nat.le_of_ble_eq_true rfl|(simp; done)|(simp; omega)|decide) : PV P (.binOp .rem T a b T') ρ (.int .u32 (x % y).toNat) := pvu_rem (k := .u32) hx hy h0
theorem Zk6 {S D : Nat} {n : Int} [hs : TyInt P S .i64] [hd : TyInt P D .u32] (hx : ev ρ a = .int .i64 n) : PV P (.convert S D a) ρ (.int .u32 (BitVec.ofInt 32 n).toNat) := pvu_convI (k := .u32) rfl hx
theorem Zk7 {S D : Nat} [hs : TyInt P S .u32] [hd : TyInt P D .i64] (hx : ev ρ a = .int .u32 x.toNat) : PV P (.convert S D a) ρ (.int .i64 x.toNat) := pvu_convN (k := .u32) hx (Nat.lt_trans x.isLt (by decide))
theorem Zk8 {S D : Nat} [hs : TyInt P S .u32] [hd : TyInt P D .u8] (hx : ev ρ a = .int .u32 x.toNat) : PV P (.convert S D a) ρ (.int .u8 (x.setWidth 8).toNat) := pvu_conv (k := .u32) (k' := .u8) rfl hx
theorem Zk9 {S D : Nat} [hs : TyInt P S .u32] [hd : TyInt P D .u16] (hx : ev ρ a = .int .u32 x.toNat) : PV P (.convert S D a) ρ (.int .u16 (x.setWidth 16).toNat) := pvu_conv (k := .u32) (k' := .u16) rfl hx
theorem Zla {S D : Nat} [hs : TyInt P S .u32] [hd : TyInt P D .u32] (hx : ev ρ a = .int .u32 x.toNat) : PV P (.convert S D a) ρ (.int .u32 (x.setWidth 32).toNat) := pvu_conv (k := .u32) (k' := .u32) rfl hx
theorem Zlb {S D : Nat} [hs : TyInt P S .u32] [hd : TyInt P D .u64] (hx : ev ρ a = .int .u32 x.toNat) : PV P (.convert S D a) ρ (.int .u64 (x.setWidth 64).toNat) := pvu_conv (k := .u32) (k' := .u64) rfl hx
end
abbrev u32b (x : BitVec 32) : Value := .int .u32 x.toNat
section
variable {P : Program} {ρ : Env} {T T' : Nat} {a b : Operand} {x y : BitVec 64}
theorem Zlc (hx : ev ρ a = .int .u64 x.toNat) (hy : ev ρ b = .int .u64 y.toNat) : PV P (.binOp .add T a b T') ρ (.int .u64 (x + y).toNat) := pvu_add (k := .u64) rfl hx hy
theorem Zld (hx : ev ρ a = .int .u64 x.toNat) (hy : ev ρ b = .int .u64 y.toNat) : PV P (.binOp .sub T a b T') ρ (.int .u64 (x - y).toNat) := pvu_sub (k := .u64) rfl hx hy
theorem Zle (hx : ev ρ a = .int .u64 x.toNat) (hy : ev ρ b = .int .u64 y.toNat) : PV P (.binOp .mul T a b T') ρ (.int .u64 (x * y).toNat) := pvu_mul (k := .u64) rfl hx hy
theorem Zlf (hx : ev ρ a = .int .u64 x.toNat) (hy : ev ρ b = .int .u64 y.toNat) : PV P (.binOp .and T a b T') ρ (.int .u64 (x &&& y).toNat) := pvu_and (k := .u64) rfl hx hy
theorem Zlg (hx : ev ρ a = .int .u64 x.toNat) (hy : ev ρ b = .int .u64 y.toNat) : PV P (.binOp .or T a b T') ρ (.int .u64 (x ||| y).toNat) := pvu_or (k := .u64) rfl hx hy
theorem Zlh (hx : ev ρ a = .int .u64 x.toNat) (hy : ev ρ b = .int .u64 y.toNat) : PV P (.binOp .xor T a b T') ρ (.int .u64 (x ^^^ y).toNat) := pvu_xor (k := .u64) rfl hx hy
theorem Zli (hx : ev ρ a = .int .u64 x.toNat) (hy : ev ρ b = .int .u64 y.toNat) : PV P (.binOp .andNot T a b T') ρ (.int .u64 (x &&& ~~~ y).toNat) := pvu_andNot (k := .u64) rfl hx hy
theorem Zlj {k' : IntKind} {m : Nat} (hx : ev ρ a = .int .u64 x.toNat) (hy : ev ρ b = .int k' (m : Int)) : PV P (.binOp .shl T a b T') ρ (.int .u64 (x <<< m).toNat) := pvu_shl (k := .u64) rfl hx hy
theorem Zlk {k' : IntKind} {m : Nat} (hx : ev ρ a = .int .u64 x.toNat) (hy : ev ρ b = .int k' (m : Int)) : PV P (.binOp .shr T a b T') ρ (.int .u64 (x >>> m).toNat) := pvu_shr (k := .u64) rfl hx hy
theorem Zll (hx : ev ρ a = .int .u64 x.toNat) : PV P (.unOp .xor T a) ρ (.int .u64 (~~~ x).toNat) := pvu_not (k := .u64) rfl hx
theorem Zlm (hx : ev ρ a = .int .u64 x.toNat) : PV P (.unOp .neg T a) ρ (.int .u64 (- x).toNat) := pvu_neg (k := .u64) rfl hx
theorem Zln (hx : ev ρ a = .int .u64 x.toNat) (hy : ev ρ b = .int .u64 y.toNat) : PV P (.binOp .eql T a b T') ρ (.bool (decide (x = y))) := pvu_eql (k := .u64) hx hy
theorem Zlo (hx : ev ρ a = .int .u64 x.toNat) (hy : ev ρ b = .int .u64 y.toNat) : PV P (.binOp .neq T a b T') ρ (.bool (decide (x ≠ y))) := pvu_neq (k := .u64) hx hy
theorem Zlp (hx : ev ρ a = .int .u64 x.toNat) (hy : ev ρ b = .int .u64 y.toNat) : PV P (.binOp .lss T a b T') ρ (.bool (decide (x.toNat < y.toNat))) := pvu_lss (k := .u64) hx hy
theorem Zlq (hx : ev ρ a = .int .u64 x.toNat) (hy : ev ρ b = .int .u64 y.toNat) : PV P (.binOp .leq T a b T') ρ (.bool (decide (x.toNat ≤ y.toNat))) := pvu_leq (k := .u64) hx hy
theorem Zlr (hx : ev ρ a = .int .u64 x.toNat) (hy : ev ρ b = .int .u64 y.toNat) : PV P (.binOp .gtr T a b T') ρ (.bool (decide (y.toNat < x.toNat))) := pvu_gtr (k := .u64) hx hy
theorem Zls (hx : ev ρ a = .int .u64 x.toNat) (hy : ev ρ b = .int .u64 y.toNat) : PV P (.binOp .geq T a b T') ρ (.bool (decide (y.toNat ≤ x.toNat))) := pvu_geq (k := .u64) hx hy
theorem Zlt (hx : ev ρ a = .int .u64 x.toNat) (hy : ev ρ b = .int .u64 y.toNat) (h0 : 0 < y.toNat := by first|omega|exact Nat.le_of_ble_eq_true rfl|(simp; done)|(simp; omega)|decide) : PV P (.binOp .quo T a b T') ρ (.int .u64 (x / y).toNat) := pvu_quo (k := .u64) rfl hx hy h0
theorem Zlu (hx : ev ρ a = .int .u64 x.toNat) (hy : ev ρ b = .int .u64 y.toNat) (h0 : 0 < y.toNat := by first|omega|exact Nat.le_of_ble_eq_true rfl|(simp; done)|(simp; omega)|decide) : PV P (.binOp .rem T a b T') ρ (.int .u64 (x % y).toNat) := pvu_rem (k := .u64) hx hy h0
theorem Zlv {S D : Nat} {n : Int} [hs : TyInt P S .i64] [hd : TyInt P D .u64] (hx : ev ρ a = .int .i64 n) : PV P (.convert S D a) ρ (.int .u64 (BitVec.ofInt 64 n).toNat) := pvu_convI (k := .u64) rfl hx
theorem Zlw {S D : Nat} [hs : TyInt P S .u64] [hd : TyInt P D .i64] (hx : ev ρ a = .int .u64 x.toNat) (h : x.toNat < 9223372036854775808 := by first|omega|exact Nat.le_of_ble_eq_true rfl|(simp; done)|(simp; omega)|decide) : PV P (.convert S D a) ρ (.int .i64 x.toNat) := pvu_convN (k := .u64) hx h
theorem Zlx {S D : Nat} [hs : TyInt P S .u64] [hd : TyInt P D .u8] (hx : ev ρ a = .int .u64 x.toNat) : PV P (.convert S D a) ρ (.int .u8 (x.setWidth 8).toNat) := pvu_conv (k := .u64) (k' := .u8) rfl hx
theorem Zly {S D : Nat} [hs : TyInt P S .u64] [hd : TyInt P D .u16] (hx : ev ρ a = .int .u64 x.toNat) : PV P (.convert S D a) ρ (.int .u16 (x.setWidth 16).toNat) := pvu_conv (k := .u64) (k' := .u16) rfl hx
theorem Zlz {S D : Nat} [hs : TyInt P S .u64] [hd : TyInt P D .u32] (hx : ev ρ a = .int .u64 x.toNat) : PV P (.convert S D a) ρ (.int .u32 (x.setWidth 32).toNat) := pvu_conv (k := .u64) (k' := .u32) rfl hx
theorem Zl0 {S D : Nat} [hs : TyInt P S .u64] [hd : TyInt P D .u64] (hx : ev ρ a = .int .u64 x.toNat) : PV P (.convert S D a) ρ (.int .u64 (x.setWidth 64).toNat) := pvu_conv (k := .u64) (k' := .u64) rfl hx
end
abbrev u64b (x : BitVec 64) : Value := .int .u64 x.toNat

section
variable {P : Program} {ρ : Env} {x y : Operand} {k : IntKind} {S E by' bb o l c n : Nat} {z : Value}
theorem Zl1 [hs : TySlice P S E] [hi : TyI P E 1 by' z] (hx : ev ρ x = .slice (some ⟨bb, o, none⟩) l c) (hy : ev ρ y = .int k (n : Int)) (h : n < l := by first|omega|exact Nat.le_of_ble_eq_true rfl|(simp; done)|(simp; omega)|decide) : PV P (.indexAddr S x y) ρ (.pointer (some ⟨bb, o + n, none⟩)) := by
  have := Zcg (P := P) (S := S) hx hy h
  simpa using this
theorem Zl2 {sz : Nat} [hs : TyArr P S l E] [hi : TyI P E sz by' z] (hx : ev ρ x = .pointer (some ⟨bb, o, none⟩)) (hy : ev ρ y = .int k (n : Int)) (h : n < l := by first|omega|exact Nat.le_of_ble_eq_true rfl|(simp; done)|(simp; omega)|decide) : PV P (.indexAddr S x y) ρ (.pointer (some ⟨bb, o + n * sz, none⟩)) := by
  have := Zch (P := P) (S := S) hx hy ⟨by omega, by omega⟩
  simpa using this
theorem Zl3 [hs : TyArr P S l E] [hi : TyI P E 1 by' z] (hx : ev ρ x = .pointer (some ⟨bb, o, none⟩)) (hy : ev ρ y = .int k (n : Int)) (h : n < l := by first|omega|exact Nat.le_of_ble_eq_true rfl|(simp; done)|(simp; omega)|decide) : PV P (.indexAddr S x y) ρ (.pointer (some ⟨bb, o + n, none⟩)) := by
  have := Zl2 (P := P) (S := S) hx hy h
  simpa using this
theorem Zl4 [hs : TySlice P S E] [hi : TyI P E 1 by' z] (hx : ev ρ x = .slice (some ⟨bb, 0, none⟩) l c) (hy : ev ρ y = .int k (n : Int)) (h : n < l := by first|omega|exact Nat.le_of_ble_eq_true rfl|(simp; done)|(simp; omega)|decide) : PV P (.indexAddr S x y) ρ (.pointer (some ⟨bb, n, none⟩)) := by
  have := Zl1 (P := P) (S := S) hx hy h
  rwa [Nat.zero_add] at this
theorem Zl5 [hs : TyArr P S l E] [hi : TyI P E 1 by' z] (hx : ev ρ x = .pointer (some ⟨bb, 0, none⟩)) (hy : ev ρ y = .int k (n : Int)) (h : n < l := by first|omega|exact Nat.le_of_ble_eq_true rfl|(simp; done)|(simp; omega)|decide) : PV P (.indexAddr S x y) ρ (.pointer (some ⟨bb, n, none⟩)) := by
  have := Zl3 (P := P) (S := S) hx hy h
  rwa [Nat.zero_add] at this
theorem Zl6 {sz : Nat} [hs : TySlice P S E] [hi : TyI P E sz by' z] (hx : ev ρ x = .slice (some ⟨bb, 0, none⟩) l c) (hy : ev ρ y = .int k (n : Int)) (h : n < l := by first|omega|exact Nat.le_of_ble_eq_true rfl|(simp; done)|(simp; omega)|decide) : PV P (.indexAddr S x y) ρ (.pointer (some ⟨bb, n * sz, none⟩)) := by
  have := Zcg (P := P) (S := S) hx hy h
  rwa [Nat.zero_add] at this
theorem Zl7 {sz : Nat} [hs : TyArr P S l E] [hi : TyI P E sz by' z] (hx : ev ρ x = .pointer (some ⟨bb, 0, none⟩)) (hy : ev ρ y = .int k (n : Int)) (h : n < l := by first|omega|exact Nat.le_of_ble_eq_true rfl|(simp; done)|(simp; omega)|decide) : PV P (.indexAddr S x y) ρ (.pointer (some ⟨bb, n * sz, none⟩)) := by
  have := Zl2 (P := P) (S := S) hx hy h
  rwa [Nat.zero_add] at this
theorem Zl8 {S i off F sz : Nat} [hf : Fld P S i off F] [hi : TyI P F sz by' z] (hx : ev ρ x = .pointer (some ⟨bb, 0, none⟩)) (h0 : sz ≠ 0 := by first|omega|exact Nat.le_of_ble_eq_true rfl|(simp; done)|(simp; omega)|decide) : PV P (.fieldAddr S x i) ρ (.pointer (some ⟨bb, off, none⟩)) := by
  have := Zce (P := P) (S := S) (i := i) (F := F) (off := off) hx h0
  rwa [Nat.zero_add] at this
theorem Zl9 {A m : Nat} [hs : TyArr P A m E] (hx : ev ρ x = .slice (some ⟨bb, o, none⟩) l c) (h : m ≤ l := by first|omega|exact Nat.le_of_ble_eq_true rfl|(simp; done)|(simp; omega)|decide) : PV P (.sliceToArrayPointer A x) ρ (.pointer (some ⟨bb, o, none⟩)) := by
  intro oo w ho; unfold execOp; rw [ho]; refine op_run_value ?_; rw [hx]
  unfold Instr.arrayAt
  rw [run_bind P _ _ w w _ (run_under hs.h)]
  simp only []
  rw [if_neg (by omega)]
  rfl
end
section
variable {P : Program} {ρ : Env} {T T' : Nat} {x y : Operand} {a b : Nat}
theorem Zma (hx : ev ρ x = .int .i64 (a : Int)) (hy : ev ρ y = .int .i64 (b : Int)) (h : a + b ≤ 9223372036854775807 := by first|omega|exact Nat.le_of_ble_eq_true rfl|(simp; done)|(simp; omega)|decide) : PV P (.binOp .add T x y T') ρ (.int .i64 ((a + b : Nat) : Int)) := by
  have := Zbg (P := P) (T := T) (T' := T') hx hy ⟨by omega, by omega⟩
  rwa [← Int.natCast_add] at this
theorem Zmb (hx : ev ρ x = .int .i64 (a : Int)) (hy : ev ρ y = .int .i64 (b : Int)) (h : b ≤ a := by first|omega|exact Nat.le_of_ble_eq_true rfl|(simp; done)|(simp; omega)|decide) (ha : a ≤ 9223372036854775807 := by first|omega|exact Nat.le_of_ble_eq_true rfl|(simp; done)|(simp; omega)|decide) : PV P (.binOp .sub T x y T') ρ (.int .i64 ((a - b : Nat) : Int)) := by
  have := Zbh (P := P) (T := T) (T' := T') hx hy ⟨by omega, by omega⟩
  rwa [← Int.natCast_sub h] at this
theorem Zmc (hx : ev ρ x = .int .i64 (a : Int)) (hy : ev ρ y = .int .i64 (b : Int)) (h : a * b ≤ 9223372036854775807 := by first|omega|exact Nat.le_of_ble_eq_true rfl|(simp; done)|(simp; omega)|decide) : PV P (.binOp .mul T x y T') ρ (.int .i64 ((a * b : Nat) : Int)) := by
  have e : ((a : Int) * b) = ((a * b : Nat) : Int) := (Int.natCast_mul a b).symm
  have := Zbi (P := P) (T := T) (T' := T') hx hy (by rw [e]; exact ⟨by omega, by omega⟩)
  rwa [e] at this
theorem Zmd (hx : ev ρ x = .int .i64 (a : Int)) (hy : ev ρ y = .int .i64 (b : Int)) (h : 0 < b := by first|omega|exact Nat.le_of_ble_eq_true rfl|(simp; done)|(simp; omega)|decide) (ha : a ≤ 9223372036854775807 := by first|omega|exact Nat.le_of_ble_eq_true rfl|(simp; done)|(simp; omega)|decide) : PV P (.binOp .quo T x y T') ρ (.int .i64 ((a / b : Nat) : Int)) := by
  have := Zbj (P := P) (T := T) (T' := T') hx hy ⟨by omega, by omega, by omega⟩
  rwa [show ((a : Int) / b) = ((a / b : Nat) : Int) from by push_cast; rfl] at this
theorem Zme (hx : ev ρ x = .int .i64 (a : Int)) (hy : ev ρ y = .int .i64 (b : Int)) (h : 0 < b := by first|omega|exact Nat.le_of_ble_eq_true rfl|(simp; done)|(simp; omega)|decide) : PV P (.binOp .rem T x y T') ρ (.int .i64 ((a % b : Nat) : Int)) := by
  have := Zbl (P := P) (T := T) (T' := T') hx hy ⟨by omega, by omega⟩
  rwa [show ((a : Int) % b) = ((a % b : Nat) : Int) from by push_cast; rfl] at this
theorem Zmf {k : IntKind} (hx : ev ρ x = .int k (a : Int)) (hy : ev ρ y = .int k (b : Int)) : PV P (.binOp .lss T x y T') ρ (.bool (decide (a < b))) := by
  have := Zbn (P := P) (T := T) (T' := T') hx hy
  rwa [show decide ((a : Int) < b) = decide (a < b) from decide_eq_decide.2 (by omega)] at this
theorem Zmg {k : IntKind} (hx : ev ρ x = .int k (a : Int)) (hy : ev ρ y = .int k (b : Int)) : PV P (.binOp .leq T x y T') ρ (.bool (decide (a ≤ b))) := by
  have := Zbo (P := P) (T := T) (T' := T') hx hy
  rwa [show decide ((a : Int) ≤ b) = decide (a ≤ b) from decide_eq_decide.2 (by omega)] at this
theorem Zmh {k : IntKind} (hx : ev ρ x = .int k (a : Int)) (hy : ev ρ y = .int k (b : Int)) : PV P (.binOp .gtr T x y T') ρ (.bool (decide (b < a))) := by
  have := Zbp (P := P) (T := T) (T' := T') hx hy
  rwa [show decide ((b : Int) < a) = decide (b < a) from decide_eq_decide.2 (by omega)] at this
theorem Zmi {k : IntKind} (hx : ev ρ x = .int k (a : Int)) (hy : ev ρ y = .int k (b : Int)) : PV P (.binOp .geq T x y T') ρ (.bool (decide (b ≤ a))) := by
  have := Zbq (P := P) (T := T) (T' := T') hx hy
  rwa [show decide ((b : Int) ≤ a) = decide (b ≤ a) from decide_eq_decide.2 (by omega)] at this
theorem Zmj {k : IntKind} (hx : ev ρ x = .int k (a : Int)) (hy : ev ρ y = .int k (b : Int)) : PV P (.binOp .eql T x y T') ρ (.bool (decide (a = b))) := by
  have := Zbr (P := P) (T := T) (T' := T') hx hy
  rwa [show decide ((a : Int) = b) = decide (a = b) from decide_eq_decide.2 (by omega)] at this
theorem Zmk {k : IntKind} (hx : ev ρ x = .int k (a : Int)) (hy : ev ρ y = .int k (b : Int)) : PV P (.binOp .neq T x y T') ρ (.bool (decide (a ≠ b))) := by
  have := Zbs (P := P) (T := T) (T' := T') hx hy
  rwa [show decide ((a : Int) ≠ b) = decide (a ≠ b) from decide_eq_decide.2 (by omega)] at this
theorem Zml {S D : Nat} {n : Int} [hs : TyInt P S .i64] [hd : TyInt P D .i64] (hx : ev ρ x = .int .i64 n) (h : -9223372036854775808 ≤ n ∧ n ≤ 9223372036854775807 := by first|omega|exact Nat.le_of_ble_eq_true rfl|(simp; done)|(simp; omega)|decide) : PV P (.convert S D x) ρ (.int .i64 n) := Zb5 hx (IntWalk.i64_in _ h)
theorem Zmm {t : Array Value} (h : ev ρ x = .tuple t) : PV P (.move x) ρ (.tuple t) := Zar h
theorem Zmn {t : Option Nat} (h : ev ρ x = .map t) : PV P (.move x) ρ (.map t) := Zar h
theorem Zmo {t : ByteArray} (h : ev ρ x = .string t) : PV P (.move x) ρ (.string t) := Zar h
theorem Zmp {t : Nat} {v : Value} (h : ev ρ x = .iface t v) : PV P (.move x) ρ (.iface t v) := Zar h
theorem Zmq {t : Option Nat} (h : ev ρ x = .map t) : PV P (.assign x) ρ (.map t) := Zas h
theorem Zmr {t : ByteArray} (h : ev ρ x = .string t) : PV P (.assign x) ρ (.string t) := Zas h
theorem Zms {t : Nat} {v : Value} (h : ev ρ x = .iface t v) : PV P (.assign x) ρ (.iface t v) := Zas h
theorem Zmt {t : Array Value} (h : ev ρ x = .tuple t) : PV P (.assign x) ρ (.tuple t) := Zas h
theorem Zmu {f : Fn} {a b : Array Value} (h : ev ρ x = .func f a b) : PV P (.assign x) ρ (.func f a b) := Zas h
/-- A piece of an array, or of a slice. -/
theorem Zmv {S E sz by' bb o n : Nat} {z : Value} {lo hi : Option Operand} {l h : Nat} [hs : TyArr P S n E] [hi' : TyI P E sz by' z] (hx : ev ρ x = .pointer (some ⟨bb, o, none⟩))
    (hl : optB ρ 0 lo = some (l : Int)) (hh : optB ρ n hi = some (h : Int)) (hle : l ≤ h := by first|omega|exact Nat.le_of_ble_eq_true rfl|(simp; done)|(simp; omega)|decide) (hc : h ≤ n := by first|omega|exact Nat.le_of_ble_eq_true rfl|(simp; done)|(simp; omega)|decide) (hn : l < n := by first|omega|exact Nat.le_of_ble_eq_true rfl|(simp; done)|(simp; omega)|decide) : PV P (.slice S x lo hi none) ρ (.slice (some ⟨bb, o + l * sz, none⟩) (h - l) (n - l)) := by
  have := Zck (P := P) (S := S) (bb := bb) (o := o) hx hl hh ⟨by omega, by omega⟩ (by omega)
  simp only [Int.toNat_natCast, cutOff, if_neg (show ¬ n = l by omega)] at this
  exact this
theorem Zmw {S E sz by' bb o n c : Nat} {z : Value} {lo hi : Option Operand} {l h : Nat} [hs : TySlice P S E] [hi' : TyI P E sz by' z] (hx : ev ρ x = .slice (some ⟨bb, o, none⟩) n c)
    (hl : optB ρ 0 lo = some (l : Int)) (hh : optB ρ n hi = some (h : Int)) (hle : l ≤ h := by first|omega|exact Nat.le_of_ble_eq_true rfl|(simp; done)|(simp; omega)|decide) (hc : h ≤ c := by first|omega|exact Nat.le_of_ble_eq_true rfl|(simp; done)|(simp; omega)|decide) (hn : l < c := by first|omega|exact Nat.le_of_ble_eq_true rfl|(simp; done)|(simp; omega)|decide) : PV P (.slice S x lo hi none) ρ (.slice (some ⟨bb, o + l * sz, none⟩) (h - l) (c - l)) := by
  have := Zci (P := P) (S := S) (bb := bb) (o := o) hx hl hh ⟨by omega, by omega⟩ (by omega)
  simp only [Int.toNat_natCast, cutOff, if_neg (show ¬ c = l by omega)] at this
  exact this
theorem Zmx {S E by' bb o n : Nat} {z : Value} {lo hi : Option Operand} {l h : Nat} [hs : TyArr P S n E] [hi' : TyI P E 1 by' z] (hx : ev ρ x = .pointer (some ⟨bb, o, none⟩))
    (hl : optB ρ 0 lo = some (l : Int)) (hh : optB ρ n hi = some (h : Int)) (hle : l ≤ h := by first|omega|exact Nat.le_of_ble_eq_true rfl|(simp; done)|(simp; omega)|decide) (hc : h ≤ n := by first|omega|exact Nat.le_of_ble_eq_true rfl|(simp; done)|(simp; omega)|decide) (hn : l < n := by first|omega|exact Nat.le_of_ble_eq_true rfl|(simp; done)|(simp; omega)|decide) : PV P (.slice S x lo hi none) ρ (.slice (some ⟨bb, o + l, none⟩) (h - l) (n - l)) := by
  have := Zmv (P := P) (S := S) hx hl hh hle hc hn
  rwa [Nat.mul_one] at this
theorem Zmy {S E by' bb o n : Nat} {z : Value} {hi : Option Operand} {h : Nat} [hs : TyArr P S n E] [hi' : TyI P E 1 by' z] (hx : ev ρ x = .pointer (some ⟨bb, o, none⟩))
    (hh : optB ρ n hi = some (h : Int)) (hc : h ≤ n := by first|omega|exact Nat.le_of_ble_eq_true rfl|(simp; done)|(simp; omega)|decide) (hn : 0 < n := by first|omega|exact Nat.le_of_ble_eq_true rfl|(simp; done)|(simp; omega)|decide) : PV P (.slice S x none hi none) ρ (.slice (some ⟨bb, o, none⟩) h n) := by
  have := Zmx (P := P) (S := S) (lo := none) (l := 0) hx rfl hh (by omega) hc hn
  simpa using this
theorem Zmz {S E by' bb o n c : Nat} {z : Value} {lo hi : Option Operand} {l h : Nat} [hs : TySlice P S E] [hi' : TyI P E 1 by' z] (hx : ev ρ x = .slice (some ⟨bb, o, none⟩) n c)
    (hl : optB ρ 0 lo = some (l : Int)) (hh : optB ρ n hi = some (h : Int)) (hle : l ≤ h := by first|omega|exact Nat.le_of_ble_eq_true rfl|(simp; done)|(simp; omega)|decide) (hc : h ≤ c := by first|omega|exact Nat.le_of_ble_eq_true rfl|(simp; done)|(simp; omega)|decide) (hn : l < c := by first|omega|exact Nat.le_of_ble_eq_true rfl|(simp; done)|(simp; omega)|decide) : PV P (.slice S x lo hi none) ρ (.slice (some ⟨bb, o + l, none⟩) (h - l) (c - l)) := by
  have := Zmw (P := P) (S := S) hx hl hh hle hc hn
  rwa [Nat.mul_one] at this
/-- From the beginning on. -/
theorem Zm0 {S E sz by' bb o n c : Nat} {z : Value} {hi : Option Operand} {h : Nat} [hs : TySlice P S E] [hi' : TyI P E sz by' z] (hx : ev ρ x = .slice (some ⟨bb, o, none⟩) n c)
    (hh : optB ρ n hi = some (h : Int)) (hc : h ≤ c := by first|omega|exact Nat.le_of_ble_eq_true rfl|(simp; done)|(simp; omega)|decide) : PV P (.slice S x none hi none) ρ (.slice (some ⟨bb, o, none⟩) h c) := by
  have := Zci (P := P) (S := S) (bb := bb) (o := o) (lo := none) (l := 0) hx rfl hh ⟨by omega, by omega⟩ (by omega)
  have e : cutOff o (0 : Int).toNat c sz = o := by simp [cutOff]
  rw [e] at this
  simpa using this
/-- Whatever its address. -/
theorem Zm1 {S E sz by' n c : Nat} {a : Option Addr} {z : Value} {lo hi : Option Operand} {l h : Nat} [hs : TySlice P S E] [hi' : TyI P E sz by' z] (hx : ev ρ x = .slice a n c)
    (hl : optB ρ 0 lo = some (l : Int)) (hh : optB ρ n hi = some (h : Int)) (hle : l ≤ h) (hc : h ≤ c) : PV P (.slice S x lo hi none) ρ (.slice (if c = l then a else a.map (·.add (l * sz))) (h - l) (c - l)) := by
  intro oo w ho; unfold execOp; rw [ho]; refine op_run_value ?_; rw [hx]
  unfold Instr.sliceAt
  rw [run_bind P _ _ w w _ (run_under hs.h)]
  simp only []
  unfold Instr.slice
  rw [run_bind P _ _ w w _ (run_under hs.h)]
  simp only [Option.map_none]
  rw [run_bind P _ _ w w _ (run_bounds hl hh ⟨by omega, by omega⟩ (by omega)), run_bind P _ _ w w _ (run_size hi')]
  show (Result.ok (Value.slice _ _ _) w : Result Value) = _
  rw [Int.toNat_natCast, Int.toNat_natCast]
end
theorem Rd.cut {M : List Asrt} {a : Option Addr} {n c l : Nat} {xs : List Value} (h : Rd M 1 (.slice a n c) n xs) (hl : l ≤ n) (hc : n ≤ c) : Rd M 1 (.slice (if c = l then a else a.map (·.add (l * 1))) (n - l) (c - l)) (n - l) (xs.drop l) := by
  intro w0 F w H
  obtain ⟨h1, h2⟩ := h w0 F w H
  refine ⟨by simp [h1], ?_⟩
  by_cases hn : n = l
  · exact .inl ⟨_, _, rfl, by omega⟩
  · rcases h2 with ⟨a, k, _, h0⟩|⟨b, o, k, cc, E, fr, hv, hb, hle, hx⟩
    · omega
    · simp only [Value.slice.injEq] at hv
      obtain ⟨rfl, _, rfl⟩ := hv
      rw [if_neg (by omega)]
      refine .inr ⟨b, o + l, c - l, cc, E, fr, ?_, hb, by omega, ?_⟩
      · simp [Option.map, addr_add]
      · rw [← hx]
        simp only [Array.toList_extract, List.extract_eq_take_drop, List.drop_take, List.drop_drop]
        congr 1
        omega
theorem Zm2 {P : Program} {ρ : Env} {T : Nat} {x : Operand} {k kk : IntKind} {n : Int} [hs : TyInt P T kk] (hx : ev ρ x = .int k n) : PV P (.makeInterface T x) ρ (.iface T (.int k n)) := by
  intro oo w ho; unfold execOp; rw [ho]; refine op_run_value ?_; rw [hx]
  unfold Instr.makeInterface
  rw [run_bind P _ _ w w _ (run_under hs.h)]; rfl
theorem int_eq {k : IntKind} {a b : Int} (h : a = b) : Value.int k a = .int k b := by rw [h]
section
variable {P : Program} {w0 : World} {ops : Array Oper} {dst : Option Nat} {ty T E : TypeId} {pos : String} {after : Array Edge} {rest : List Oper} {ρ : Env} {K : XK} {M : List Asrt} {x y : Operand}
/-- A made slice of cells that are alike. -/
theorem Zm3 {α : Type} {by' : Nat} {z : Value} {f : α → Value} {a : α} {len cap : Nat} [hs : TySlice P T E] [hi : TyI P E 1 by' z] (hl : ev ρ x = .int .i64 len) (hc : ev ρ y = .int .i64 cap) (hz : z.cells = #[f a]) (hle : len ≤ cap) (hcap : cap ≤ 9223372036854775807) (hb : cap * by' ≤ 281474976710656)
    (k : ∀ b, xOps P w0 ops rest (put ρ dst (.slice (some ⟨b, 0, none⟩) len cap)) (cl b ((List.replicate cap a).map f).toArray E :: M) K) :
    xOps P w0 ops (⟨dst, .makeSlice T x y, ty, pos, after, none⟩ :: rest) ρ M K := by
  refine Zh6 hl hc hle hcap hb (by omega) ?_
  intro b
  have e : (List.replicate cap z.cells.toList).flatten = (List.replicate cap a).map f := by
    rw [hz]; show (List.replicate cap [f a]).flatten = _
    rw [zeros1]; simp
  rw [e]; exact k b
end
theorem getL {α : Type} {f : α → Value} {l : List α} {i : Nat} (h : i < l.length) : ((l.map f).toArray)[i]? = some (f l[i]) := by simp [h]
theorem getM {α : Type} {f : α → Value} {l : List α} {i : Nat} (h : i < l.length) : (l.map f)[i]? = some (f l[i]) := by simp [h]
theorem setL {α : Type} {f : α → Value} {l : List α} {i : Nat} {x : α} : ((l.map f).toArray).setIfInBounds i (f x) = ((l.set i x).map f).toArray := by simp
theorem szL {α : Type} {f : α → Value} {l : List α} : ((l.map f).toArray).size = l.length := by simp
theorem oneL_u8 (l : List (BitVec 8)) : ((l.map u8b).toArray).toList.all oneC = true := by simp [oneC]
theorem oneL_u32 (l : List (BitVec 32)) : ((l.map u32b).toArray).toList.all oneC = true := by simp [oneC]
theorem oneL_u64 (l : List (BitVec 64)) : ((l.map u64b).toArray).toList.all oneC = true := by simp [oneC]
theorem oneM_u8 (l : List (BitVec 8)) : (l.map u8b).all oneC = true := by simp [oneC]
end Go.Sl

/- The engine over pieces alone: arrays of bytes compared; slices of bytes, of slices of bytes; many pieces as one. -/
set_option linter.unusedVariables false
set_option linter.unusedSimpArgs false
namespace Go.Sl
open Go
abbrev Byte := BitVec 8
/-- An array type of n bytes. -/
class TyBA (P : Program) (T : Nat) (n : outParam Nat) : Prop where
  ex : ∃ E, P.underlying T = some (.array n E) ∧ P.underlying E = some (.int .u8) ∧ P.cellsOf E = 1
  ct : P.cellsOf T = n
  key : P.keyTypeAt 4 T = true
  g : P.eqGuardType P.depth T = false
theorem byte_wf (b : Byte) : (Lit.int .u8 (b.toNat : Int)).wf = true := by
  have := b.isLt
  simp only [Lit.wf, Bool.and_eq_true, decide_eq_true_eq]
  have e1 : IntKind.u8.min = 0 := by decide
  have e2 : IntKind.u8.max = 255 := by decide
  omega
theorem ba_lits {P : Program} {T n : Nat} [h : TyBA P T n] (a : List Byte) (ha : a.length = n) : P.keyLits 2 T (a.map u8b) = some (a.map fun b => Lit.int .u8 (b.toNat : Int)) := by
  obtain ⟨E, h1, h2, h3⟩ := h.ex
  have := lits_arr (d := 0) (k := .u8) h1 h2 h3 h.ct (a.map fun b => (b.toNat : Int)) (by simpa using ha) (by
    intro x hx
    obtain ⟨b, _, rfl⟩ := List.mem_map.1 hx
    exact byte_wf b)
  rw [List.map_map, List.map_map] at this
  exact this
theorem ba_inj {a b : List Byte} : a = b ↔ (a.map fun b => Lit.int .u8 (b.toNat : Int)) = (b.map fun b => Lit.int .u8 (b.toNat : Int)) := by
  constructor
  · rintro rfl; rfl
  · intro h
    refine List.map_inj_right ?_ |>.1 h
    intro x y hxy
    simp only [Lit.int.injEq, true_and] at hxy
    exact BitVec.eq_of_toNat_eq (by omega)
theorem ba_formed {P : Program} {T n : Nat} [h : TyBA P T n] (a : List Byte) (ha : a.length = n) : (Value.agg (a.map u8b).toArray).formed P T = true := by
  obtain ⟨E, h1, h2, h3⟩ := h.ex
  have := h.ct
  simp [Value.formed, h1, this, ha]
section
variable {P : Program} {ρ : Env} {x y : Operand} {T T' n : Nat}
theorem Zm4 [h : TyBA P T n] {a b : List Byte} (ha : a.length = n) (hb : b.length = n) (hx : ev ρ x = .agg (a.map u8b).toArray) (hy : ev ρ y = .agg (b.map u8b).toArray) : PV P (.binOp .eql T x y T') ρ (.bool (decide (a = b))) :=
  Zf6 (m := 4) hx hy h.key (by omega) h.g (ba_formed a ha) (ba_formed b hb) (ba_lits a ha) (ba_lits b hb) ba_inj
theorem Zm5 [h : TyBA P T n] {a b : List Byte} (ha : a.length = n) (hb : b.length = n) (hx : ev ρ x = .agg (a.map u8b).toArray) (hy : ev ρ y = .agg (b.map u8b).toArray) : PV P (.binOp .neq T x y T') ρ (.bool (decide (¬ a = b))) :=
  Zf7 (m := 4) hx hy h.key (by omega) h.g (ba_formed a ha) (ba_formed b hb) (ba_lits a ha) (ba_lits b hb) ba_inj
end
/-- Among the pieces M the slice v holds the bytes l. -/
structure Bs (M : List Asrt) (v : Value) (l : List Byte) : Prop where
  rd : Rd M 1 v l.length (l.map u8b)
  sh : ∀ w0 F w, St w0 w (F :: M) → ∃ a c, v = .slice a l.length c ∧ l.length ≤ c ∧ c ≤ 9223372036854775807
theorem Bs.imp {M N : List Asrt} {v : Value} {l : List Byte} (h : Bs N v l) (hi : Imp M N) : Bs M v l := ⟨h.rd.imp hi, fun w0 F w H => h.sh w0 F w (H.enx hi)⟩
theorem own_shape {E size n : Nat} {v : Value} {xs : List Value} {w0 w : World} {L : List Asrt} (H : St w0 w (own E size v n xs :: L)) : ∃ a c, v = .slice a n c ∧ n ≤ c ∧ c ≤ 9223372036854775807 := by
  rcases H.own_get with ⟨rfl, rfl, rfl, _⟩|⟨g, cap, cur, rfl, h2, h3, h4, h5, h6, H⟩
  · exact ⟨none, 0, rfl, by omega, by omega⟩
  · exact ⟨_, cap, rfl, h2, h3⟩
theorem Bs.own {M M' : List Asrt} {E : Nat} {v : Value} {l : List Byte} (hm : Has M (own E 1 v l.length (l.map u8b)) M') : Bs M v l :=
  ⟨Rd.own hm, fun w0 F w H => own_shape (H.pick (.there hm))⟩
theorem Bs.old {M M' : List Asrt} {W : World} {v : Value} {l : List Byte} (hm : Has M (old W) M') (h : SlW W 1 v l.length (l.map u8b)) (hs : ∃ a c, v = .slice a l.length c ∧ l.length ≤ c ∧ c ≤ 9223372036854775807) : Bs M v l :=
  ⟨Rd.old hm h, fun _ _ _ _ => hs⟩
theorem Bs.cl {M M' : List Asrt} {b o c E : Nat} {cc : Array Value} {l : List Byte} (hm : Has M (cl b cc E) M') (hle : o + l.length ≤ cc.size) (h : (cc.extract o (o + l.length)).toList = l.map u8b) (hc : l.length ≤ c) (hcm : c ≤ 9223372036854775807) :
    Bs M (.slice (some ⟨b, o, none⟩) l.length c) l :=
  ⟨Rd.cl hm (by simp) (by omega) (by rw [Nat.mul_one]; exact h), fun _ _ _ _ => ⟨_, _, rfl, hc, hcm⟩⟩
theorem Bs.nil {M : List Asrt} : Bs M (.slice none 0 0) [] := ⟨Rd.nil, fun _ _ _ _ => ⟨none, 0, rfl, by simp, by omega⟩⟩
theorem Bs.some {M : List Asrt} {a : Option Addr} {n c : Nat} {l : List Byte} {w0 w : World} {F : Asrt} (h : Bs M (.slice a n c) l) (hn : 0 < l.length) (H : St w0 w (F :: M)) : ∃ b o, a = some ⟨b, o, none⟩ := by
  obtain ⟨a', c', hv, _, _⟩ := h.sh _ _ _ H
  simp only [Value.slice.injEq] at hv
  obtain ⟨rfl, rfl, rfl⟩ := hv
  exact h.rd.someAt hn H
/-- ... a slice of slices of bytes: each with its value. -/
structure Rs (M : List Asrt) (v : Value) (ps : List (Value × List Byte)) : Prop where
  rd : Rd M 1 v ps.length (ps.map (·.1))
  sh : ∀ w0 F w, St w0 w (F :: M) → ∃ a c, v = .slice a ps.length c ∧ ps.length ≤ c ∧ c ≤ 9223372036854775807
  el : ∀ x ∈ ps, Bs M x.1 x.2
theorem Rs.imp {M N : List Asrt} {v : Value} {ps : List (Value × List Byte)} (h : Rs N v ps) (hi : Imp M N) : Rs M v ps := ⟨h.rd.imp hi, fun w0 F w H => h.sh w0 F w (H.enx hi), fun x hx => (h.el x hx).imp hi⟩
theorem Rs.own {M M' : List Asrt} {E : Nat} {v : Value} {ps : List (Value × List Byte)} (hm : Has M (Sl.own E 1 v ps.length (ps.map (·.1))) M') (h : ∀ x ∈ ps, Bs M x.1 x.2) : Rs M v ps :=
  ⟨Rd.own hm, fun w0 F w H => own_shape (H.pick (.there hm)), h⟩
theorem Rs.cl {M M' : List Asrt} {b o c E : Nat} {cc : Array Value} {ps : List (Value × List Byte)} (hm : Has M (Sl.cl b cc E) M') (hle : o + ps.length ≤ cc.size) (h : (cc.extract o (o + ps.length)).toList = ps.map (·.1)) (hc : ps.length ≤ c) (hcm : c ≤ 9223372036854775807) (he : ∀ x ∈ ps, Bs M x.1 x.2) :
    Rs M (.slice (some ⟨b, o, none⟩) ps.length c) ps :=
  ⟨Rd.cl hm (by simp) (by omega) (by rw [Nat.mul_one]; exact h), fun _ _ _ _ => ⟨_, _, rfl, hc, hcm⟩, he⟩

theorem Imp.own_mk {E size n cap g : Nat} {cur : Array Value} {xs : List Value} {M : List Asrt} (h1 : n ≤ cap) (h2 : cap ≤ 9223372036854775807) (h3 : cur.size = cap * size) (h4 : cur.toList.take (n * size) = xs) :
    Imp (Sl.cl g cur E :: M) (Sl.own E size (.slice (some ⟨g, 0, none⟩) n cap) n xs :: M) :=
  Imp.head fun h hg => ⟨by rw [← h4, List.length_take, Array.length_toList, h3]; exact Nat.min_eq_left (Nat.mul_le_mul_right _ h1), .inr ⟨g, cap, cur, rfl, hg, h1, h2, h3, h4⟩⟩
theorem Imp.own_nil {E size : Nat} {M : List Asrt} : Imp M (Sl.own E size (.slice none 0 0) 0 [] :: M) :=
  fun h hs => ⟨fun _ => none, h, ⟨by simp, .inl ⟨rfl, rfl⟩⟩, hs, Frag.none_disj _, Frag.none_sub _, Frag.sub_refl _⟩
theorem own_some {E n c : Nat} {a : Option Addr} {xs : List Value} {w0 w : World} {F : Asrt} {M M' : List Asrt} (hm : Has M (Sl.own E 1 (.slice a n c) n xs) M') (hn : 0 < n) (H : St w0 w (F :: M)) : ∃ g, a = some ⟨g, 0, none⟩ := by
  rcases (H.pick (.there hm)).own_get with ⟨hv, rfl, _⟩|⟨g, cap, cur, hv, _⟩
  · omega
  · simp only [Value.slice.injEq] at hv
    exact ⟨g, hv.1⟩
theorem Zm6 {P : Program} {w0 : World} {ops : Array Oper} {dst : Option Nat} {ty T : TypeId} {pos : String} {after : Array Edge} {rest : List Oper} {ρ : Env} {K : XK} {M : List Asrt} {x : Operand} {b m k j : Nat} {xs : List Value} {v : Value} [hs : TyScal P T] (hx : ev ρ x = .pointer (some ⟨b, j, none⟩)) (HS : Rd M 1 (.slice (some ⟨b, 0, none⟩) m k) m xs) (hj : j < m) (hv : xs[j]? = some v)
    (kk : xOps P w0 ops rest (put ρ dst v) M K) : xOps P w0 ops (⟨dst, .load T x, ty, pos, after, none⟩ :: rest) ρ M K := Zic (o := 0) (j := j) (by rw [Nat.zero_add]; exact hx) HS hj hv kk
/-- An element of a slice with its room is written. -/
theorem Zm7 {P : Program} {w0 : World} {ops : Array Oper} {dst : Option Nat} {ty T : TypeId} {pos : String} {after : Array Edge} {rest : List Oper} {ρ : Env} {K : XK} {M M2 : List Asrt} {x y : Operand} {by' g i n c E : Nat} {z u : Value} {xs ys : List Value} [hi : TyI P T 1 by' z]
    (hx : ev ρ x = .pointer (some ⟨g, i, none⟩)) (hy : ev ρ y = u) (h1 : oneC u = true) (hm : Repl M (Sl.own E 1 (.slice (some ⟨g, 0, none⟩) n c) n xs) (Sl.own E 1 (.slice (some ⟨g, 0, none⟩) n c) n ys) M2) (hn : i < n) (hys : xs.set i u = ys)
    (k : xOps P w0 ops rest (put ρ dst undef) M2 K) : xOps P w0 ops (⟨dst, .store T x y, ty, pos, after, none⟩ :: rest) ρ M K := by
  intro F w H
  obtain ⟨R, hh1, hh2⟩ := hm.has
  have H1 := H.pick (.there hh1)
  rcases H1.own_get with ⟨hv, _⟩|⟨g', cap, cur, hv, h2, h3, h4, h5, h6, H3⟩
  · cases hv
  · simp only [Value.slice.injEq, Option.some.injEq, Addr.mk.injEq] at hv
    obtain ⟨⟨rfl, _, _⟩, _, rfl⟩ := hv
    refine Zda H3 hx hy h1 Repl.here (by omega) ?_
    intro w' H'
    have H4 := H'.own_mk (size := 1) (n := n) (cap := c) (xs := ys) h2 h3 (by simpa using h4) (by
      rw [← hys, ← h5, Nat.mul_one, Array.toList_setIfInBounds, List.take_set])
    exact k F w' (H4.unpick (.there hh2))
/-- Many pieces as one. -/
def star {α : Type} (A : α → Asrt) (l : List α) : Asrt := all (l.map A)
theorem star_nil {α : Type} {A : α → Asrt} {M : List Asrt} : Imp M (star A [] :: M) := by
  have := Imp.app (L := []) (M := M)
  exact this
theorem star_cons {α : Type} {A : α → Asrt} {x : α} {l : List α} {M : List Asrt} : Imp (A x :: star A l :: M) (star A (x :: l) :: M) := by
  have h : Imp (A x :: star A l :: M) (A x :: (l.map A ++ M)) := Imp.cons Imp.unapp
  exact h.trans (Imp.app (L := A x :: l.map A))
theorem star_uncons {α : Type} {A : α → Asrt} {x : α} {l : List α} {M : List Asrt} : Imp (star A (x :: l) :: M) (A x :: star A l :: M) := by
  have h : Imp (star A (x :: l) :: M) (A x :: (l.map A ++ M)) := Imp.unapp (L := A x :: l.map A)
  exact h.trans (Imp.cons Imp.app)
theorem star_app {α : Type} {A : α → Asrt} {l l2 : List α} {M : List Asrt} : Imp (star A l :: star A l2 :: M) (star A (l ++ l2) :: M) := by
  induction l with
  | nil => exact Imp.tail
  | cons x l ih =>
    refine (star_uncons (M := star A l2 :: M)).trans ?_
    exact (Imp.cons ih).trans star_cons
theorem star_unapp {α : Type} {A : α → Asrt} {l l2 : List α} {M : List Asrt} : Imp (star A (l ++ l2) :: M) (star A l :: star A l2 :: M) := by
  induction l with
  | nil => exact star_nil
  | cons x l ih =>
    refine (star_uncons (M := M)).trans ?_
    exact (Imp.cons ih).trans (star_cons (M := star A l2 :: M))
theorem star_snoc {α : Type} {A : α → Asrt} {x : α} {l : List α} {M : List Asrt} : Imp (A x :: star A l :: M) (star A (l ++ [x]) :: M) := by
  have h1 : Imp (A x :: star A l :: M) (star A [x] :: star A l :: M) := by
    have := star_cons (A := A) (x := x) (l := []) (M := star A l :: M)
    exact (Imp.cons star_nil).trans this
  exact h1.trans (Imp.swap.trans star_app)
/-- One of them, and the others. -/
theorem star_at {α : Type} {A : α → Asrt} {l : List α} {i : Nat} (h : i < l.length) {M : List Asrt} : Imp (star A l :: M) (A l[i] :: star A (l.eraseIdx i) :: M) := by
  have e : l = l.take i ++ l[i] :: l.drop (i + 1) := by rw [← List.drop_eq_getElem_cons h, List.take_append_drop]
  have e2 : l.eraseIdx i = l.take i ++ l.drop (i + 1) := List.eraseIdx_eq_take_drop_succ ..
  have h1 : Imp (star A l :: M) (star A (l.take i) :: star A (l[i] :: l.drop (i + 1)) :: M) := by
    have := star_unapp (A := A) (l := l.take i) (l2 := l[i] :: l.drop (i + 1)) (M := M)
    rwa [← e] at this
  rw [e2]
  refine h1.trans ((Imp.cons star_uncons).trans ?_)
  exact Imp.swap.trans (Imp.cons star_app)
theorem star_back {α : Type} {A : α → Asrt} {l : List α} {i : Nat} (h : i < l.length) (y : α) {M : List Asrt} : Imp (A y :: star A (l.eraseIdx i) :: M) (star A (l.set i y) :: M) := by
  have e2 : l.eraseIdx i = l.take i ++ l.drop (i + 1) := List.eraseIdx_eq_take_drop_succ ..
  rw [e2, List.set_eq_take_append_cons_drop, if_pos h]
  refine (Imp.cons star_unapp).trans ?_
  refine Imp.swap.trans ?_
  exact (Imp.cons star_cons).trans star_app
theorem star_mem {α : Type} {A : α → Asrt} {l : List α} {x : α} (h : x ∈ l) {M : List Asrt} : ∃ R, Imp (star A l :: M) (A x :: R) := by
  obtain ⟨i, hi, rfl⟩ := List.getElem_of_mem h
  exact ⟨_, star_at hi⟩
theorem star_has {α : Type} {A : α → Asrt} {l : List α} {x : α} (h : x ∈ l) {M M' : List Asrt} (hm : Has M (star A l) M') : ∃ R, Imp M (A x :: R) := by
  obtain ⟨R, hR⟩ := star_mem (A := A) h (M := M')
  exact ⟨R, (Imp.has hm).trans hR⟩
class NeB (a b : Nat) : Prop where h : Nat.beq a b = false
instance NeB.l {n : Nat} : NeB (n + 1) 0 := ⟨rfl⟩
instance NeB.r {n : Nat} : NeB 0 (n + 1) := ⟨rfl⟩
instance NeB.s {n m : Nat} [i : NeB n m] : NeB (n + 1) (m + 1) := ⟨i.h⟩
class Ct (A : Prop) (B : outParam Prop) : Prop where o : B → A
section
variable {P : Program} {w0 : World} {x y c : Code} {ρ : Env} {M : List Asrt} {Q : XQ} {k : XK} {id id' : Nat} {B : Prop}
instance (priority := low) Ct.iz {A : Prop} : Ct A A := ⟨fun h => h⟩
instance Ct.ja [i : Ct (xC P w0 x ρ M (xthen (fun ρ' M' => xC P w0 y ρ' M' Q) Q)) B] : Ct (xC P w0 (.seq x y) ρ M Q) B := ⟨fun h => zA (i.o h)⟩
instance Ct.jb [i : Ct (Q .normal ρ M) B] : Ct (xC P w0 .skip ρ M Q) B := ⟨fun h => zB (i.o h)⟩
instance Ct.jc [i : Ct (xC P w0 c ρ M (xblk id Q)) B] : Ct (xC P w0 (.block id c) ρ M Q) B := ⟨fun h => zC (i.o h)⟩
instance Ct.jd [i : Ct (Q .normal ρ M) B] : Ct (xC P w0 (.label id) ρ M Q) B := ⟨fun h => zD (i.o h)⟩
instance Ct.je [i : Ct (Q (.exit id) ρ M) B] : Ct (xC P w0 (.exit id) ρ M Q) B := ⟨fun h => zE (i.o h)⟩
instance Ct.jf [i : Ct (Q .ret ρ M) B] : Ct (xC P w0 .ret ρ M Q) B := ⟨fun h => zF (i.o h)⟩
instance Ct.jg [i : Ct (k ρ M) B] : Ct (xthen k Q .normal ρ M) B := ⟨fun h => zG (i.o h)⟩
instance Ct.jh [i : Ct (Q (.exit id) ρ M) B] : Ct (xthen k Q (.exit id) ρ M) B := ⟨fun h => zH (i.o h)⟩
instance Ct.ji [i : Ct (Q .ret ρ M) B] : Ct (xthen k Q .ret ρ M) B := ⟨fun h => zI (i.o h)⟩
instance Ct.jj [i : Ct (Q .normal ρ M) B] : Ct (xblk id Q .normal ρ M) B := ⟨fun h => zJ (i.o h)⟩
instance Ct.jk [i : Ct (Q .normal ρ M) B] : Ct (xblk id Q (.exit id) ρ M) B := ⟨fun h => zK (i.o h)⟩
instance Ct.jl [i : Ct (Q .ret ρ M) B] : Ct (xblk id Q .ret ρ M) B := ⟨fun h => zL (i.o h)⟩
instance (priority := 900) Ct.im [j : NeB id' id] [i : Ct (Q (.exit id') ρ M) B] : Ct (xblk id Q (.exit id') ρ M) B := ⟨fun h => zM j.h (i.o h)⟩
instance Ct.js {l : Nat} [i : Ct (Q (.goto l) ρ M) B] : Ct (xC P w0 (.goto l) ρ M Q) B := ⟨fun h => Znd (i.o h)⟩
instance Ct.jt {l : Nat} [i : Ct (Q (.goto l) ρ M) B] : Ct (xthen k Q (.goto l) ρ M) B := ⟨fun h => Zne (i.o h)⟩
instance Ct.ju {l : Nat} [i : Ct (Q (.goto l) ρ M) B] : Ct (xblk id Q (.goto l) ρ M) B := ⟨fun h => Znf (i.o h)⟩
instance Ct.jv [i : Ct (Q .normal ρ M) B] : Ct (xng Q .normal ρ M) B := ⟨fun h => Zng (i.o h)⟩
instance Ct.jw [i : Ct (Q (.exit id) ρ M) B] : Ct (xng Q (.exit id) ρ M) B := ⟨fun h => Znh (i.o h)⟩
instance Ct.jx [i : Ct (Q .ret ρ M) B] : Ct (xng Q .ret ρ M) B := ⟨fun h => Zni (i.o h)⟩
section
variable {S : Type} {I : S → Prop} {Mf : S → List Asrt} {U : S → List (Nat × Value)} {μ : S → Nat} {m : Nat}
instance Ct.k1 {l : Nat} [i : Ct (Q .normal ρ M) B] : Ct (xgo l I Mf U Q .normal ρ M) B := ⟨fun h => Znj (i.o h)⟩
instance Ct.k2 {l : Nat} [i : Ct (Q (.exit id) ρ M) B] : Ct (xgo l I Mf U Q (.exit id) ρ M) B := ⟨fun h => Znk (i.o h)⟩
instance Ct.k3 {l : Nat} [i : Ct (Q .ret ρ M) B] : Ct (xgo l I Mf U Q .ret ρ M) B := ⟨fun h => Znl (i.o h)⟩
instance Ct.jn [i : Ct (Q (.exit id) ρ M) B] : Ct (xcut I Mf U Q (.exit id) ρ M) B := ⟨fun h => zN (i.o h)⟩
instance Ct.jp [i : Ct (Q .ret ρ M) B] : Ct (xcut I Mf U Q .ret ρ M) B := ⟨fun h => zO (i.o h)⟩
instance Ct.jq [i : Ct (Q (.exit id) ρ M) B] : Ct (xloop I Mf U μ m Q (.exit id) ρ M) B := ⟨fun h => zP (i.o h)⟩
instance Ct.jr [i : Ct (Q .ret ρ M) B] : Ct (xloop I Mf U μ m Q .ret ρ M) B := ⟨fun h => zQ (i.o h)⟩
end
end
/-! short names for what a walk proves again and again -/
theorem qH {L L' : List Asrt} {A : Asrt} (h : Has L A L' := by repeat constructor) : Has L A L' := h
theorem qR {L L' : List Asrt} {A B : Asrt} (h : Repl L A B L' := by repeat constructor) : Repl L A B L' := h
theorem qT {L M R : List Asrt} (h : Take L M R := by repeat (first|exact Take.nil|exact Take.all|(apply Take.cons; (next => (repeat constructor); done))|apply Take.skip)) : Take L M R := h
theorem qA {L M R : List Asrt} (h : App L M R := by repeat (first|exact App.nil|apply App.cons|(apply App.flip; first|exact App.nil|apply App.cons)|exact App.any)) : App L M R := h
theorem qV {L M : List Asrt} (h : Arr L M := by repeat (first|exact Arr.nil|exact Arr.stop|refine Arr.cons (by repeat constructor) ?_|refine Arr.skip ?_)) : Arr L M := h
theorem qI {L M : List Asrt} (h : Arr L M := by repeat (first|exact Arr.nil|exact Arr.stop|refine Arr.cons (by repeat constructor) ?_|refine Arr.skip ?_)) : Imp L M := Imp.arr h
theorem qZ {p : Prop} (h : p := by first|omega|(rw [szL]; omega)|rfl|exact Nat.le_of_ble_eq_true rfl|(simp; done)|(simp; omega)) : p := h
theorem qS {p : Prop} (h : p := by first|omega|exact Nat.le_of_ble_eq_true rfl|(simp; done)|(simp; omega)|decide) : p := h
theorem qO {p : Prop} (h : p := by first|omega|(dsimp only; omega)|(simp only []; omega)) : p := h
theorem qL {p : Prop} (h : p := by first|assumption|rfl|(simp; done)|(simp; omega)) : p := h
theorem qF {p : Prop} (h : p := by first|rfl|exact fill_one rfl rfl) : p := h
theorem qB {p : Prop} (h : p := by first|rfl|(simp [optB]; done)|(simp [optB]; omega)) : p := h
theorem qN {p : Prop} (h : p := by first|rfl|exact oneM_u8 _|exact oneL_u8 _|(simp [oneC]; done)) : p := h
end Go.Sl

/- the bridge from a contract to a row. -/
namespace Go.Sl
open Go Go.ChangeShapes Go.WideShapes Go.ChangeAt Go.RowKit
theorem con_law {P : Program} {f : FuncId} {args : List Value} {W : World} (h : Con P f args [old W] (fun v M => v = .bool true ∧ [old W] = M)) : Calls P f args.toArray W (fun e w' => e = .returned (.bool true) ∧ Below W.heap.size W w') := by
  have H : St W W (pur True :: [old W]) := (St.start W).pur_mk trivial
  refine (h W _ W H).mono ?_
  rintro e w' ⟨v, he, M', H', hv, rfl⟩
  exact ⟨by rw [he, hv], H'.below (.there .here)⟩
/-- A contract that needs nothing, among whatever pieces. -/
theorem Con.frame {P : Program} {F : FuncId} {args : List Value} {M L : List Asrt} {Φ : Value → List Asrt → Prop} (h : Con P F args M Φ) : Con P F args (M ++ L) (fun v N => ∃ M', Φ v M' ∧ M' ++ L = N) := by
  intro w0 Fr w H
  have H2 : St w0 w (all (Fr :: L) :: M) := by
    refine H.ent ((Imp.cons Imp.comm).trans ?_)
    exact Imp.app (L := Fr :: L) (M := M)
  refine (h w0 _ w H2).mono (Ret.mono ?_)
  rintro v w' ⟨M', H', hφ⟩
  exact ⟨M' ++ L, H'.ent (Imp.unapp.trans (Imp.cons Imp.comm)), M', hφ, rfl⟩
end Go.Sl

/- what comes in, opened: arrays of bytes, bytes, slices of bytes. -/
set_option linter.unusedVariables false
set_option linter.unusedSimpArgs false
namespace Go.Sl
open Go Go.ChangeShapes Go.WideShapes Go.ChangeAt Go.RowKit
variable {H : Type} {enc : TypeId × Value → H} {P : Program} {w : World} {base : Nat} {spare : Nat → Bool} {held : Bool}
theorem byte_of {n : Int} (hw : (Lit.int .u8 n).wf = true) : ∃ b : Byte, Value.int .u8 n = u8b b := by
  simp only [Lit.wf, Bool.and_eq_true, decide_eq_true_eq] at hw
  have hlo : IntKind.u8.min = 0 := by decide
  have hhi : IntKind.u8.max = 255 := by decide
  refine ⟨BitVec.ofNat 8 n.toNat, ?_⟩
  show Value.int .u8 n = .int .u8 _
  rw [BitVec.toNat_ofNat]
  congr 1
  omega
theorem list_bytes {cs : List Value} (h : ∀ v ∈ cs, ∃ b : Byte, v = u8b b) : ∃ l : List Byte, cs = l.map u8b := by
  induction cs with
  | nil => exact ⟨[], rfl⟩
  | cons v cs ih =>
    obtain ⟨b, hb⟩ := h v (.head _)
    obtain ⟨l, hl⟩ := ih (fun x hx => h x (.tail _ hx))
    exact ⟨b :: l, by rw [hb, hl]; rfl⟩
/-- An array of bytes. -/
theorem open_ba {T n fuel : Nat} {cs : List Value} {x : DataW H × List MemPlace} [ht : TyBA P T n] (h : DataW.trod enc P w base spare held fuel T cs = some x) : ∃ l : List Byte, cs = l.map u8b ∧ l.length = n := by
  obtain ⟨E, h1, h2, h3⟩ := ht.ex
  obtain ⟨xs, m, _, _, hl, hxl, hel⟩ := DataW.trod_array h1 h
  rw [ht.ct] at hl
  have hb : ∀ v ∈ cs, ∃ b : Byte, v = u8b b := by
    intro v hv
    obtain ⟨i, hi, rfl⟩ := List.getElem_of_mem hv
    have h4 := hel i (by omega)
    rw [h3, Nat.mul_one] at h4
    rw [List.getElem?_eq_getElem (show i < xs.length by omega)] at h4
    have e : (cs.drop i).take 1 = [cs[i]] := by rw [List.drop_eq_getElem_cons hi]; rfl
    rw [e] at h4
    obtain ⟨k, hk, _, hw⟩ := DataW.trod_int h2 h4
    simp only [List.cons.injEq, and_true] at hk
    rw [hk]
    exact byte_of hw
  obtain ⟨l, rfl⟩ := list_bytes hb
  exact ⟨l, rfl, by simpa using hl⟩
theorem slice_shape {t e fuel : Nat} {cs : List Value} {x : DataW H × List MemPlace} (ht : P.underlying t = some (.slice e)) (h : DataW.trod enc P w base spare held fuel t cs = some x) :
    ∃ a len cap, cs = [.slice a len cap] ∧ len ≤ cap ∧ cap ≤ 9223372036854775807 := by
  rcases DataW.trod_slice ht h with ⟨rfl, _⟩|⟨a, len, cap, elems, rest, n, _, rfl, hx, hb, hl, hm, _⟩
  · exact ⟨none, 0, 0, rfl, by omega, by omega⟩
  · exact ⟨some a, len, cap, rfl, hl, by unfold Go.maxLen at hm; omega⟩
/-- What a slice of bytes is when it comes in. -/
structure InB (W : World) (v : Value) (l : List Byte) : Prop where
  sl : SlW W 1 v l.length (l.map u8b)
  sh : ∃ a c, v = .slice a l.length c ∧ l.length ≤ c ∧ c ≤ 9223372036854775807
  len : l.length ≤ 140737488351232
theorem InB.bs {W : World} {v : Value} {l : List Byte} {M M' : List Asrt} (h : InB W v l) (hm : Has M (old W) M') : Bs M v l := Bs.old hm h.sl h.sh
theorem open_bs {t e fuel : Nat} {cs : List Value} {x : DataW H × List MemPlace} (ht : P.underlying t = some (.slice e)) (he : P.underlying e = some (.int .u8)) (hc : P.cellsOf e = 1) (hby : P.bytesOf e = 1) (h : DataW.trod enc P w base spare held fuel t cs = some x) (hs : Small P t x.1) :
    ∃ (v : Value) (l : List Byte), cs = [v] ∧ InB w v l := by
  obtain ⟨v, l, h1, h2, h3, h4⟩ := open_bytess ht he hc hby h hs
  obtain ⟨a, len, cap, h5, h6, h7⟩ := slice_shape ht h
  rw [h1] at h5
  simp only [List.cons.injEq, and_true] at h5
  have hb : ∀ u ∈ l.map u8v, ∃ b : Byte, u = u8b b := by
    intro u hu
    obtain ⟨n, hn, rfl⟩ := List.mem_map.1 hu
    exact byte_of (h3 n hn)
  obtain ⟨lb, hlb⟩ := list_bytes hb
  have hll : l.length = lb.length := by have := congrArg List.length hlb; simpa using this
  rw [hlb, hll] at h2
  obtain ⟨a', k', hv⟩ := h2.len
  rw [h5] at hv
  simp only [Value.slice.injEq] at hv
  obtain ⟨rfl, rfl, rfl⟩ := hv
  exact ⟨v, lb, h1, ⟨h2, ⟨a, cap, h5, h6, h7⟩, by omega⟩⟩
/-- ... a slice of them. -/
structure InR (W : World) (v : Value) (ps : List (Value × List Byte)) : Prop where
  sl : SlW W 1 v ps.length (ps.map (·.1))
  sh : ∃ a c, v = .slice a ps.length c ∧ ps.length ≤ c ∧ c ≤ 9223372036854775807
  el : ∀ x ∈ ps, InB W x.1 x.2
  len : ps.length * 24 ≤ 140737488351232
theorem InR.rs {W : World} {v : Value} {ps : List (Value × List Byte)} {M M' : List Asrt} (h : InR W v ps) (hm : Has M (old W) M') : Rs M v ps :=
  ⟨Rd.old hm h.sl, fun _ _ _ _ => h.sh, fun x hx => (h.el x hx).bs hm⟩
theorem open_rs {t e e2 fuel : Nat} {cs : List Value} {x : DataW H × List MemPlace} (ht : P.underlying t = some (.slice e)) (hc : P.cellsOf e = 1) (hby : P.bytesOf e = 24) (ht2 : P.underlying e = some (.slice e2)) (he : P.underlying e2 = some (.int .u8)) (hc2 : P.cellsOf e2 = 1) (hby2 : P.bytesOf e2 = 1)
    (h : DataW.trod enc P w base spare held fuel t cs = some x) (hs : Small P t x.1) : ∃ (v : Value) (ps : List (Value × List Byte)), cs = [v] ∧ InR w v ps := by
  obtain ⟨v, l, h1, h2, h3, h4⟩ := open_sls (encd := fun x : Value × List Byte => [x.1]) (good := fun x => InB w x.1 x.2) ht hc (by decide) hby (fun _ => rfl) (fun n cs y hy hsm => by
    obtain ⟨v, l, rfl, hin⟩ := open_bs ht2 he hc2 hby2 hy hsm
    exact ⟨(v, l), rfl, hin⟩) h hs
  obtain ⟨a, len, cap, h5, h6, h7⟩ := slice_shape ht h
  rw [h1] at h5
  simp only [List.cons.injEq, and_true] at h5
  rw [flat_one] at h2
  obtain ⟨a', k', hv⟩ := h2.len
  rw [h5] at hv
  simp only [Value.slice.injEq] at hv
  obtain ⟨rfl, rfl, rfl⟩ := hv
  exact ⟨v, l, h1, ⟨h2, ⟨a, cap, h5, h6, h7⟩, h3, h4⟩⟩
/-- Arguments. -/
theorem arg_ba {T n b0 : Nat} {v : Value} {d : DataW H} {ps : List MemPlace} [ht : TyBA P T n] (hv : Value.okWide P w .any b0 T v) (h : DataW.Trod enc P w base spare held T v d ps) : ∃ l : List Byte, v = .agg (l.map u8b).toArray ∧ l.length = n := by
  obtain ⟨E, h1, _, _⟩ := ht.ex
  simp only [Value.okWide, h1] at hv
  obtain ⟨cs, rfl, _⟩ := hv
  obtain ⟨fuel, hf⟩ := h
  obtain ⟨l, hl, hn⟩ := open_ba hf
  refine ⟨l, ?_, hn⟩
  have : cs.toList = l.map u8b := hl
  rw [← this]
theorem arg_bs {t e b0 : Nat} {v : Value} {d : DataW H} {ps : List MemPlace} (ht : P.underlying t = some (.slice e)) (he : P.underlying e = some (.int .u8)) (hc : P.cellsOf e = 1) (hby : P.bytesOf e = 1) (hv : Value.okWide P w .any b0 t v) (h : DataW.Trod enc P w base spare held t v d ps) (hs : Small P t d) :
    ∃ l : List Byte, InB w v l := by
  obtain ⟨a, len, cap, rfl⟩ := okWide_slice ht hv
  obtain ⟨fuel, hf⟩ := h
  obtain ⟨u, l, hu, hin⟩ := open_bs ht he hc hby hf hs
  obtain rfl : Value.slice a len cap = u := by simpa [Value.cells] using hu
  exact ⟨l, hin⟩
theorem arg_rs {t e e2 b0 : Nat} {v : Value} {d : DataW H} {ps : List MemPlace} (ht : P.underlying t = some (.slice e)) (hc : P.cellsOf e = 1) (hby : P.bytesOf e = 24) (ht2 : P.underlying e = some (.slice e2)) (he : P.underlying e2 = some (.int .u8)) (hc2 : P.cellsOf e2 = 1) (hby2 : P.bytesOf e2 = 1)
    (hv : Value.okWide P w .any b0 t v) (h : DataW.Trod enc P w base spare held t v d ps) (hs : Small P t d) : ∃ l : List (Value × List Byte), InR w v l := by
  obtain ⟨a, len, cap, rfl⟩ := okWide_slice ht hv
  obtain ⟨fuel, hf⟩ := h
  obtain ⟨u, l, hu, hin⟩ := open_rs ht hc hby ht2 he hc2 hby2 hf hs
  obtain rfl : Value.slice a len cap = u := by simpa [Value.cells] using hu
  exact ⟨l, hin⟩
end Go.Sl

/- what comes in, opened: numbers. -/
set_option linter.unusedVariables false
namespace Go.Sl
open Go Go.ChangeShapes Go.WideShapes Go.ChangeAt Go.RowKit
theorem Imp.pur_mk {p : Prop} {M : List Asrt} (hp : p) : Imp M (pur p :: M) := fun h hs => ⟨fun _ => none, h, hp, hs, Frag.none_disj _, Frag.none_sub _, Frag.sub_refl _⟩
theorem i64_of {n : Int} (h : (Lit.int .i64 n).wf = true) : -9223372036854775808 ≤ n ∧ n ≤ 9223372036854775807 := by
  simp only [Lit.wf, Bool.and_eq_true, decide_eq_true_eq] at h
  have hlo : IntKind.i64.min = -9223372036854775808 := by decide
  have hhi : IntKind.i64.max = 9223372036854775807 := by decide
  omega
theorem u8_of {n : Int} (hw : (Lit.int .u8 n).wf = true) : ∃ b : BitVec 8, Value.int .u8 n = u8b b := byte_of hw
theorem u16_of {n : Int} (hw : (Lit.int .u16 n).wf = true) : ∃ b : BitVec 16, Value.int .u16 n = u16b b := by
  simp only [Lit.wf, Bool.and_eq_true, decide_eq_true_eq] at hw
  have hlo : IntKind.u16.min = 0 := by decide
  have hhi : IntKind.u16.max = 65535 := by decide
  refine ⟨BitVec.ofNat 16 n.toNat, ?_⟩
  show Value.int .u16 n = .int .u16 _
  rw [BitVec.toNat_ofNat]; congr 1; omega
theorem u32_of {n : Int} (hw : (Lit.int .u32 n).wf = true) : ∃ b : BitVec 32, Value.int .u32 n = u32b b := by
  simp only [Lit.wf, Bool.and_eq_true, decide_eq_true_eq] at hw
  have hlo : IntKind.u32.min = 0 := by decide
  have hhi : IntKind.u32.max = 4294967295 := by decide
  refine ⟨BitVec.ofNat 32 n.toNat, ?_⟩
  show Value.int .u32 n = .int .u32 _
  rw [BitVec.toNat_ofNat]; congr 1; omega
theorem u64_of {n : Int} (hw : (Lit.int .u64 n).wf = true) : ∃ b : BitVec 64, Value.int .u64 n = u64b b := by
  simp only [Lit.wf, Bool.and_eq_true, decide_eq_true_eq] at hw
  have hlo : IntKind.u64.min = 0 := by decide
  have hhi : IntKind.u64.max = 18446744073709551615 := by decide
  refine ⟨BitVec.ofNat 64 n.toNat, ?_⟩
  show Value.int .u64 n = .int .u64 _
  rw [BitVec.toNat_ofNat]; congr 1; omega
end Go.Sl

/- slices cut from their beginning on. -/
set_option linter.unusedVariables false
set_option linter.unusedSimpArgs false
namespace Go.Sl
open Go
theorem Bs.take {M : List Asrt} {b o c n : Nat} {l : List Byte} (h : Bs M (.slice (Option.some ⟨b, o, none⟩) l.length c) l) (hn : n ≤ l.length) : Bs M (.slice (Option.some ⟨b, o, none⟩) n c) (l.take n) := by
  have e : (l.take n).length = n := by simp; omega
  refine ⟨?_, ?_⟩
  · rw [e]
    intro w0 F w H
    obtain ⟨h1, h2⟩ := h.rd w0 F w H
    refine ⟨by simp; omega, ?_⟩
    rcases h2 with ⟨a, k, _, h0⟩|⟨b', o', k, cc, E, fr, hv, hb, hle, hx⟩
    · exact .inl ⟨_, _, rfl, by omega⟩
    · simp only [Value.slice.injEq, Option.some.injEq, Addr.mk.injEq] at hv
      obtain ⟨⟨rfl, rfl, _⟩, _, rfl⟩ := hv
      refine .inr ⟨b, o, c, cc, E, fr, rfl, hb, by omega, ?_⟩
      rw [List.map_take, ← hx]
      simp only [Array.toList_extract, List.extract_eq_take_drop, List.take_take]
      congr 1; omega
  · intro w0 F w H
    obtain ⟨a, c', hv, h1, h2⟩ := h.sh w0 F w H
    simp only [Value.slice.injEq] at hv
    obtain ⟨_, _, rfl⟩ := hv
    exact ⟨_, _, by rw [e], by omega, h2⟩
theorem Bs.take0 {M : List Asrt} {a : Option Addr} {c : Nat} {l : List Byte} (h : Bs M (.slice a l.length c) l) : Bs M (.slice a 0 c) (l.take 0) := by
  refine ⟨Rd.nil, ?_⟩
  intro w0 F w H
  obtain ⟨a', c', hv, h1, h2⟩ := h.sh w0 F w H
  simp only [Value.slice.injEq] at hv
  obtain ⟨_, _, rfl⟩ := hv
  exact ⟨_, _, rfl, by simp, h2⟩
theorem Zm8 {P : Program} {ρ : Env} {x : Operand} {S E sz by' n c h : Nat} {a : Option Addr} {z : Value} {hi : Option Operand} [hs : TySlice P S E] [hi' : TyI P E sz by' z] (hx : ev ρ x = .slice a n c)
    (hh : optB ρ n hi = some (h : Int)) (hc : h ≤ c) : PV P (.slice S x none hi none) ρ (.slice a h c) := by
  have := Zm1 (P := P) (S := S) (lo := none) (l := 0) hx rfl hh (by omega) hc
  have e : (if c = 0 then a else a.map (·.add (0 * sz))) = a := by
    split
    · rfl
    · cases a with
      | none => rfl
      | some a => simp [Option.map, Addr.add]
  rw [e] at this
  simpa using this
theorem Bs.takeA {M : List Asrt} {a : Option Addr} {c n : Nat} {l : List Byte} (h : Bs M (.slice a l.length c) l) (hn : n ≤ l.length) : Bs M (.slice a n c) (l.take n) := by
  have e : (l.take n).length = n := by simp; omega
  by_cases h0 : n = 0
  · subst h0; exact h.take0
  · refine ⟨?_, ?_⟩
    · intro w0 F w H
      obtain ⟨b, o, rfl⟩ := h.some (by omega) H
      exact (h.take hn).rd w0 F w H
    · intro w0 F w H
      obtain ⟨a', c', hv, h1, h2⟩ := h.sh w0 F w H
      simp only [Value.slice.injEq] at hv
      obtain ⟨_, _, rfl⟩ := hv
      exact ⟨_, _, by rw [e], by omega, h2⟩
end Go.Sl

/- cells that may be read, wherever they stand. -/
set_option linter.unusedVariables false
set_option linter.unusedSimpArgs false
namespace Go.Sl
open Go
theorem Zm9 {P : Program} {ρ : Env} {x : Operand} {S E by' bb n : Nat} {z : Value} {lo hi : Option Operand} {l h : Nat} [hs : TyArr P S n E] [hi' : TyI P E 1 by' z] (hx : ev ρ x = .pointer (some ⟨bb, 0, none⟩))
    (hl : optB ρ 0 lo = some (l : Int)) (hh : optB ρ n hi = some (h : Int)) (hle : l ≤ h := by first|omega|exact Nat.le_of_ble_eq_true rfl|(simp; done)|(simp; omega)|decide) (hc : h ≤ n := by first|omega|exact Nat.le_of_ble_eq_true rfl|(simp; done)|(simp; omega)|decide) (hn : l < n := by first|omega|exact Nat.le_of_ble_eq_true rfl|(simp; done)|(simp; omega)|decide) : PV P (.slice S x lo hi none) ρ (.slice (some ⟨bb, l, none⟩) (h - l) (n - l)) := by
  have := Zmx (P := P) (S := S) hx hl hh hle hc hn
  rwa [Nat.zero_add] at this
theorem Zna {P : Program} {ρ : Env} {x : Operand} {S E by' bb n c : Nat} {z : Value} {lo hi : Option Operand} {l h : Nat} [hs : TySlice P S E] [hi' : TyI P E 1 by' z] (hx : ev ρ x = .slice (some ⟨bb, 0, none⟩) n c)
    (hl : optB ρ 0 lo = some (l : Int)) (hh : optB ρ n hi = some (h : Int)) (hle : l ≤ h := by first|omega|exact Nat.le_of_ble_eq_true rfl|(simp; done)|(simp; omega)|decide) (hc : h ≤ c := by first|omega|exact Nat.le_of_ble_eq_true rfl|(simp; done)|(simp; omega)|decide) (hn : l < c := by first|omega|exact Nat.le_of_ble_eq_true rfl|(simp; done)|(simp; omega)|decide) : PV P (.slice S x lo hi none) ρ (.slice (some ⟨bb, l, none⟩) (h - l) (c - l)) := by
  have := Zmz (P := P) (S := S) hx hl hh hle hc hn
  rwa [Nat.zero_add] at this
theorem Znb {P : Program} {ρ : Env} {x y : Operand} {k : IntKind} {S n E by' i : Nat} {z v : Value} {cs : Array Value} [hs : TyArr P S n E] [he : TyScal P E] [hi : TyI P E 1 by' z] (hx : ev ρ x = .agg cs) (hy : ev ρ y = .int k (i : Int)) (hv : cs[i]? = some v) (h : i < n := by first|omega|exact Nat.le_of_ble_eq_true rfl|(simp; done)|(simp; omega)|decide) : PV P (.index S x y) ρ v :=
  Zcn hx hy ⟨by omega, by omega⟩ (by simpa using hv)
/-- A literal of a struct, a part at a time. -/
theorem fill_part {pl : Nat → Option (Nat × Nat)} {z z' cs : Array Value} {i o n : Nat} {v : Value} {rest : List (Nat × Value)} (hp : pl i = some (o, n)) (hv : v.cells.size = n) (hz : o + n ≤ z.size) (hw : wr z o v.cells.toList = z') (k : Instr.fill pl z' rest = some cs) : Instr.fill pl z ((i, v) :: rest) = some cs := by
  unfold Instr.fill
  rw [hp]
  show (if v.cells.size ≠ n || o + v.cells.size > z.size then none else Instr.fill pl (v.cells.zipIdx.foldl (fun cs (p : Value × Nat) => cs.setIfInBounds (o + p.2) p.1) z) rest) = _
  rw [if_neg (by simp [hv]; omega), ← Array.foldl_toList, Array.toList_zipIdx, fold_wr o v.cells.toList 0 z, Nat.add_zero, hw]
  exact k
theorem fill_end {pl : Nat → Option (Nat × Nat)} {z : Array Value} : Instr.fill pl z [] = some z := rfl
/-- A scope out of which no jump leads. -/
theorem Zno {P : Program} {w0 : World} {c : Code} {ρ : Env} {M : List Asrt} {Q : XQ} (hm : P.follows .mixedOrders = true) (h : xC P w0 c ρ M (xng Q)) : xC P w0 (.scope c) ρ M Q := by
  intro F w H n a hfr hc
  refine wp_scope_straight (wp_mono (Zaa hm c ρ w _ a hfr hc (h F w H)) ?_)
  rintro e a' w' ⟨ρ', hfr', M', H', hq⟩
  cases e with
  | goto l => exact hq.elim
  | _ => exact ⟨ρ', hfr', M', H', hq⟩
theorem bs_drop {M : List Asrt} {b o c k : Nat} {l : List Byte} (h : Bs M (.slice (some ⟨b, o, none⟩) l.length c) l) (hk : k ≤ l.length) (hkc : k < c) : Bs M (.slice (some ⟨b, o + k, none⟩) (l.length - k) (c - k)) (l.drop k) := by
  have hl : (l.drop k).length = l.length - k := by simp
  refine ⟨?_, ?_⟩
  · rw [hl]
    intro w0 F w H
    obtain ⟨a', c', hv, h1, h2⟩ := h.sh w0 F w H
    simp only [Value.slice.injEq] at hv
    obtain ⟨rfl, _, rfl⟩ := hv
    have h3 := h.rd.cut hk h1 w0 F w H
    rw [if_neg (by omega)] at h3
    rw [List.map_drop]
    have e : Option.map (fun x : Addr => x.add (k * 1)) (some ⟨b, o, none⟩) = some ⟨b, o + k, none⟩ := by simp [Option.map, addr_add]
    rw [e] at h3
    exact h3
  · intro w0 F w H
    obtain ⟨a', c', hv, h1, h2⟩ := h.sh w0 F w H
    simp only [Value.slice.injEq] at hv
    obtain ⟨_, _, rfl⟩ := hv
    exact ⟨_, _, by rw [hl], by rw [hl]; omega, by omega⟩
theorem rx4 {P : Program} {w0 : World} {ρ : Env} {M : List Asrt} {Φ : Value → List Asrt → Prop} {r r' r2 r3 : ResultVar} {v v' v2 v3 : Value} (hr : resX P w0 ρ M [r, r', r2, r3] [v, v', v2, v3]) (h : ∃ N, Φ (.tuple #[v, v', v2, v3]) N ∧ Imp M N) : retX P w0 [r, r', r2, r3] Φ .ret ρ M := by
  obtain ⟨N, h, hM⟩ := h; exact ⟨[v, v', v2, v3], N, hr, h, hM⟩
theorem PV.eq {P : Program} {op : Op} {ρ : Env} {v v' : Value} (h : PV P op ρ v) (e : v = v') : PV P op ρ v' := e ▸ h
theorem wr_pre {α : Type} {f : α → Value} (l z : List α) (h : l.length ≤ z.length) : wr ((z.map f).toArray) 0 (l.map f) = ((l ++ z.drop l.length).map f).toArray := by
  apply Array.ext'
  rw [wr_toList _ _ _ (by simp; omega)]
  simp
theorem copy_pre (l : List Byte) (k : Nat) : wr (((List.replicate (l.length + k) 0#8).map u8b).toArray) 0 ((l.map u8b).take (min l.length l.length * 1)) = ((l ++ List.replicate k 0#8).map u8b).toArray := by
  rw [Nat.min_self, Nat.mul_one, List.take_of_length_le (by simp), wr_pre l (List.replicate (l.length + k) 0#8) (by simp)]
  simp
/-- Among the pieces M the cell o of the block b is v. -/
def RdAt (M : List Asrt) (b o : Nat) (v : Value) : Prop := ∀ w0 F w, St w0 w (F :: M) → ∃ c E fr, w.heap[b]? = some (.cells c E fr) ∧ c[o]? = some v
/-- ... n cells from o on. -/
def RdAg (M : List Asrt) (b o n : Nat) (cs : Array Value) : Prop := ∀ w0 F w, St w0 w (F :: M) → ∃ c E fr, w.heap[b]? = some (.cells c E fr) ∧ o + n ≤ c.size ∧ c.extract o (o + n) = cs
section
variable {M M' : List Asrt} {b o : Nat}
theorem RdAt.imp {v : Value} (h : RdAt M b o v) (hi : Imp M' M) : RdAt M' b o v := fun _ _ _ H => h _ _ _ (H.enx hi)
theorem RdAg.imp {n : Nat} {cs : Array Value} (h : RdAg M b o n cs) (hi : Imp M' M) : RdAg M' b o n cs := fun _ _ _ H => h _ _ _ (H.enx hi)
theorem RdAt.cl {c : Array Value} {E : Nat} {v : Value} (hm : Has M (cl b c E) M') (hv : c[o]? = some v) : RdAt M b o v := fun _ _ _ H => ⟨c, E, (0, 0), (H.pick (.there hm)).cl_get, hv⟩
theorem RdAg.cl {c cs : Array Value} {E n : Nat} (hm : Has M (Sl.cl b c E) M') (hv : o + n ≤ c.size) (hc : c.extract o (o + n) = cs) : RdAg M b o n cs := fun _ _ _ H => ⟨c, E, (0, 0), (H.pick (.there hm)).cl_get, hv, hc⟩
theorem Rd.at {m k j : Nat} {xs : List Value} {v : Value} (h : Rd M 1 (.slice (some ⟨b, o, none⟩) m k) m xs) (hj : j < m) (hv : xs[j]? = some v) : RdAt M b (o + j) v := fun _ _ _ H => by
  obtain ⟨c, E, fr, hb, hc⟩ := (h _ _ _ H).cellAt hj
  exact ⟨c, E, fr, hb, hc.trans hv⟩
theorem Rd.at0 {m k j : Nat} {xs : List Value} {v : Value} (h : Rd M 1 (.slice (some ⟨b, 0, none⟩) m k) m xs) (hj : j < m) (hv : xs[j]? = some v) : RdAt M b j v := by
  have := h.at hj hv; rwa [Nat.zero_add] at this
theorem Rd.atN {α : Type} {enc : α → List Value} {l : List α} {sz k i j : Nat} {v : Value} (h : Rd M sz (.slice (some ⟨b, o, none⟩) l.length k) l.length (l.flatMap enc)) (he : ∀ a, (enc a).length = sz) (hi : i < l.length) (hj : j < sz) (hv : (enc l[i])[j]? = some v) : RdAt M b (o + i * sz + j) v := fun _ _ _ H => by
  obtain ⟨c, E, fr, hb, hc⟩ := (h _ _ _ H).cellAtN he (by omega) hi hj
  exact ⟨c, E, fr, hb, hc.trans hv⟩
theorem Rd.atN0 {α : Type} {enc : α → List Value} {l : List α} {sz k i j : Nat} {v : Value} (h : Rd M sz (.slice (some ⟨b, 0, none⟩) l.length k) l.length (l.flatMap enc)) (he : ∀ a, (enc a).length = sz) (hi : i < l.length) (hj : j < sz) (hv : (enc l[i])[j]? = some v) : RdAt M b (i * sz + j) v := by
  have := h.atN he hi hj hv; rwa [Nat.zero_add] at this
theorem Rd.atF {α : Type} {enc : α → List Value} {l : List α} {sz k i : Nat} {v : Value} (h : Rd M sz (.slice (some ⟨b, o, none⟩) l.length k) l.length (l.flatMap enc)) (he : ∀ a, (enc a).length = sz) (hi : i < l.length) (hj : 0 < sz) (hv : (enc l[i])[0]? = some v) : RdAt M b (o + i * sz) v := h.atN (j := 0) he hi hj hv
theorem Rd.agN {α : Type} {enc : α → List Value} {l : List α} {sz k i : Nat} (h : Rd M sz (.slice (some ⟨b, o, none⟩) l.length k) l.length (l.flatMap enc)) (he : ∀ a, (enc a).length = sz) (hsz : 0 < sz) (hi : i < l.length) : RdAg M b (o + i * sz) sz (enc l[i]).toArray := fun _ _ _ H => by
  obtain ⟨c, E, fr, hb, hle, hc⟩ := (h _ _ _ H).cellsAt he hsz hi
  exact ⟨c, E, fr, hb, hle, hc⟩
/-- A whole slice of cells, as an array. -/
theorem Rd.ag0 {m k : Nat} {xs : List Value} (h : Rd M 1 (.slice (some ⟨b, 0, none⟩) m k) m xs) (hm : 0 < m) : RdAg M b 0 m xs.toArray := fun _ _ _ H => by
  obtain ⟨hx, h2⟩ := h _ _ _ H
  rcases h2 with ⟨a, k', _, h0⟩|⟨b', o', k', c, E, fr, hv, hb, hle, he⟩
  · omega
  · simp only [Value.slice.injEq, Option.some.injEq, Addr.mk.injEq] at hv
    obtain ⟨⟨rfl, rfl, _⟩, _, rfl⟩ := hv
    refine ⟨c, E, fr, hb, by omega, ?_⟩
    apply Array.ext'
    rw [← he, Nat.mul_one]
theorem Rd.agN0 {α : Type} {enc : α → List Value} {l : List α} {sz k i : Nat} (h : Rd M sz (.slice (some ⟨b, 0, none⟩) l.length k) l.length (l.flatMap enc)) (he : ∀ a, (enc a).length = sz) (hsz : 0 < sz) (hi : i < l.length) : RdAg M b (i * sz) sz (enc l[i]).toArray := by
  have := h.agN he hsz hi; rwa [Nat.zero_add] at this
end
section
variable {P : Program} {w0 : World} {ops : Array Oper} {dst : Option Nat} {ty T : TypeId} {pos : String} {after : Array Edge} {rest : List Oper} {ρ : Env} {K : XK} {M SM : List Asrt} {x : Operand} {b o i j n by' : Nat} {z v : Value} {cs : Array Value} {r : Ord} {t : Bool}
theorem run_ldc {oo : Oper} {w : World} [hs : TyScal P T] (hoo : oo.op = .load T x) (hx : ev ρ x = .pointer (some ⟨b, o, none⟩)) (h : RdAt SM b o v) {F : Asrt} (H : St w0 w (F :: SM)) : (execOp (ev ρ) oo).run P w = .ok (.value v) w := by
  obtain ⟨c, E, fr, hb, hc⟩ := h _ _ _ H
  have hr : (Instr.loadAt T (ev ρ x)).run P w = .ok v w := by
    rw [hx]; unfold Instr.loadAt
    rw [run_bind P _ _ w w _ rfl]; unfold loadVar
    rw [run_bind P _ _ w w _ (run_isAgg hs.h)]
    exact run_load1 hb hc
  unfold execOp; rw [hoo]
  exact op_run_value hr
theorem run_ldg {oo : Oper} {w : World} [hs : TyAggr P T] [hi : TyI P T n by' z] (hoo : oo.op = .load T x) (hx : ev ρ x = .pointer (some ⟨b, o, none⟩)) (h : RdAg SM b o n cs) {F : Asrt} (H : St w0 w (F :: SM)) : (execOp (ev ρ) oo).run P w = .ok (.value (.agg cs)) w := by
  obtain ⟨c, E, fr, hb, hv, hc⟩ := h _ _ _ H
  have hr := run_loadAgg (P := P) (ρ := ρ) (x := x) (T := T) (n := n) hb hv hx
  rw [hc] at hr
  unfold execOp; rw [hoo]
  exact op_run_value hr
theorem Zff [hs : TyScal P T] (hx : ev ρ x = .pointer (some ⟨b, o, none⟩)) (h : RdAt M b o v) (kk : xOps P w0 ops rest (put ρ dst v) M K) : xOps P w0 ops (⟨dst, .load T x, ty, pos, after, none⟩ :: rest) ρ M K := fun F w H => by
  obtain ⟨c, E, fr, hb, hc⟩ := h _ _ _ H
  exact Zfs hx hb hc (kk F w H)
theorem Zfg [hs : TyAggr P T] [hi : TyI P T n by' z] (hx : ev ρ x = .pointer (some ⟨b, o, none⟩)) (h : RdAg M b o n cs) (kk : xOps P w0 ops rest (put ρ dst (.agg cs)) M K) : xOps P w0 ops (⟨dst, .load T x, ty, pos, after, none⟩ :: rest) ρ M K := fun F w H => by
  obtain ⟨c, E, fr, hb, hv, hc⟩ := h _ _ _ H
  exact Zft hx hb hv hc (kk F w H)
theorem Zfh [hs : TyScal P T] (ho : ops[i]? = some ⟨dst, .load T x, ty, pos, after, none⟩) (hx : ev ρ x = .pointer (some ⟨b, o, none⟩)) (h : RdAt SM b o v) (k : cX P w0 ops SM r (put ρ dst v) M K) : cX P w0 ops SM (.r i r) ρ M K :=
  Zit ho (fun F w H => run_ldc rfl hx h H) k
theorem Zfi [hs : TyScal P T] (ho : ops[i]? = some ⟨dst, .load T x, ty, pos, after, some (j, t)⟩) (hg : yl ops ρ j = some t) (hx : ev ρ x = .pointer (some ⟨b, o, none⟩)) (h : RdAt SM b o v) (k : cX P w0 ops SM r (put ρ dst v) M K) : cX P w0 ops SM (.r i r) ρ M K :=
  Ziu ho hg (fun F w H => run_ldc rfl hx h H) k
theorem Zfj [hs : TyAggr P T] [hi : TyI P T n by' z] (ho : ops[i]? = some ⟨dst, .load T x, ty, pos, after, none⟩) (hx : ev ρ x = .pointer (some ⟨b, o, none⟩)) (h : RdAg SM b o n cs) (k : cX P w0 ops SM r (put ρ dst (.agg cs)) M K) : cX P w0 ops SM (.r i r) ρ M K :=
  Zit ho (fun F w H => run_ldg rfl hx h H) k
theorem Zfk [hs : TyAggr P T] [hi : TyI P T n by' z] (ho : ops[i]? = some ⟨dst, .load T x, ty, pos, after, some (j, t)⟩) (hg : yl ops ρ j = some t) (hx : ev ρ x = .pointer (some ⟨b, o, none⟩)) (h : RdAg SM b o n cs) (k : cX P w0 ops SM r (put ρ dst (.agg cs)) M K) : cX P w0 ops SM (.r i r) ρ M K :=
  Ziu ho hg (fun F w H => run_ldg rfl hx h H) k
end
end Go.Sl

/- What the engine's rules ask of this program's types (written by gentypes.py). -/
namespace Go.Sl
open Go Go.Proofs
theorem Try.mixed : Try.prog.follows .mixedOrders = true := by kernel_rfl
instance : TyScal Try.prog 1 := ⟨by kernel_rfl⟩
instance : TyI Try.prog 1 1 8 (.nilFunc) := ⟨by kernel_rfl, by kernel_rfl⟩
instance : TyScal Try.prog 2 := ⟨by kernel_rfl⟩
instance : TyI Try.prog 2 1 8 (.int .i64 0) := ⟨by kernel_rfl, by kernel_rfl⟩
instance : TyInt Try.prog 2 .i64 := ⟨by kernel_rfl⟩
instance : TyScal Try.prog 3 := ⟨by kernel_rfl⟩
instance : TyI Try.prog 3 1 8 (.int .i64 0) := ⟨by kernel_rfl, by kernel_rfl⟩
instance : TyInt Try.prog 3 .i64 := ⟨by kernel_rfl⟩
instance : TyScal Try.prog 4 := ⟨by kernel_rfl⟩
instance : TyI Try.prog 4 1 1 (.bool false) := ⟨by kernel_rfl, by kernel_rfl⟩
instance : TyBool Try.prog 4 := ⟨by kernel_rfl⟩
instance : TyScal Try.prog 5 := ⟨by kernel_rfl⟩
instance : TyI Try.prog 5 1 1 (.int .u8 0) := ⟨by kernel_rfl, by kernel_rfl⟩
instance : TyInt Try.prog 5 .u8 := ⟨by kernel_rfl⟩
instance : TyScal Try.prog 6 := ⟨by kernel_rfl⟩
instance : TyI Try.prog 6 1 1 (.int .u8 0) := ⟨by kernel_rfl, by kernel_rfl⟩
instance : TyInt Try.prog 6 .u8 := ⟨by kernel_rfl⟩
instance : TyAggr Try.prog 7 := ⟨by kernel_rfl⟩
instance : TyI Try.prog 7 4 24 (.agg #[.int .i64 0, .int .i64 0, .bool false, .int .u8 0]) := ⟨by kernel_rfl, by kernel_rfl⟩
instance : Fld Try.prog 7 0 0 2 := ⟨by kernel_rfl⟩
instance : Fld Try.prog 7 1 1 3 := ⟨by kernel_rfl⟩
instance : Fld Try.prog 7 2 2 4 := ⟨by kernel_rfl⟩
instance : Fld Try.prog 7 3 3 6 := ⟨by kernel_rfl⟩
instance : TyStruct Try.prog 7 #[(0, 1), (1, 1), (2, 1), (3, 1)] := ⟨by kernel_rfl⟩
instance : TyAggr Try.prog 8 := ⟨by kernel_rfl⟩
instance : TyI Try.prog 8 4 24 (.agg #[.int .i64 0, .int .i64 0, .bool false, .int .u8 0]) := ⟨by kernel_rfl, by kernel_rfl⟩
instance : Fld Try.prog 8 0 0 2 := ⟨by kernel_rfl⟩
instance : Fld Try.prog 8 1 1 3 := ⟨by kernel_rfl⟩
instance : Fld Try.prog 8 2 2 4 := ⟨by kernel_rfl⟩
instance : Fld Try.prog 8 3 3 6 := ⟨by kernel_rfl⟩
instance : TyStruct Try.prog 8 #[(0, 1), (1, 1), (2, 1), (3, 1)] := ⟨by kernel_rfl⟩
instance : TyScal Try.prog 9 := ⟨by kernel_rfl⟩
instance : TyI Try.prog 9 1 16 (.string ByteArray.empty) := ⟨by kernel_rfl, by kernel_rfl⟩
instance : TyStr Try.prog 9 := ⟨by kernel_rfl⟩
instance : TyScal Try.prog 10 := ⟨by kernel_rfl⟩
instance : TyI Try.prog 10 1 16 (.string ByteArray.empty) := ⟨by kernel_rfl, by kernel_rfl⟩
instance : TyStr Try.prog 10 := ⟨by kernel_rfl⟩
instance : TyScal Try.prog 11 := ⟨by kernel_rfl⟩
instance : TyI Try.prog 11 1 16 (.string ByteArray.empty) := ⟨by kernel_rfl, by kernel_rfl⟩
instance : TyStr Try.prog 11 := ⟨by kernel_rfl⟩
instance : TyScal Try.prog 12 := ⟨by kernel_rfl⟩
instance : TyI Try.prog 12 1 8 (.int .u64 0) := ⟨by kernel_rfl, by kernel_rfl⟩
instance : TyInt Try.prog 12 .u64 := ⟨by kernel_rfl⟩
instance : TyAggr Try.prog 13 := ⟨by kernel_rfl⟩
instance : TyI Try.prog 13 2 24 (.agg #[.string ByteArray.empty, .int .u64 0]) := ⟨by kernel_rfl, by kernel_rfl⟩
instance : Fld Try.prog 13 0 0 9 := ⟨by kernel_rfl⟩
instance : Fld Try.prog 13 1 1 12 := ⟨by kernel_rfl⟩
instance : TyStruct Try.prog 13 #[(0, 1), (1, 1)] := ⟨by kernel_rfl⟩
instance : TyAggr Try.prog 14 := ⟨by kernel_rfl⟩
instance : TyI Try.prog 14 2 24 (.agg #[.string ByteArray.empty, .int .u64 0]) := ⟨by kernel_rfl, by kernel_rfl⟩
instance : Fld Try.prog 14 0 0 9 := ⟨by kernel_rfl⟩
instance : Fld Try.prog 14 1 1 12 := ⟨by kernel_rfl⟩
instance : TyStruct Try.prog 14 #[(0, 1), (1, 1)] := ⟨by kernel_rfl⟩
instance : TyScal Try.prog 15 := ⟨by kernel_rfl⟩
instance : TyI Try.prog 15 1 8 (.pointer none) := ⟨by kernel_rfl, by kernel_rfl⟩
instance : TyPtr Try.prog 15 100 := ⟨by kernel_rfl⟩
instance : TyScal Try.prog 16 := ⟨by kernel_rfl⟩
instance : TyI Try.prog 16 1 8 (.pointer none) := ⟨by kernel_rfl, by kernel_rfl⟩
instance : TyPtr Try.prog 16 103 := ⟨by kernel_rfl⟩
instance : TyScal Try.prog 17 := ⟨by kernel_rfl⟩
instance : TyI Try.prog 17 1 8 (.pointer none) := ⟨by kernel_rfl, by kernel_rfl⟩
instance : TyPtr Try.prog 17 112 := ⟨by kernel_rfl⟩
instance : TyAggr Try.prog 18 := ⟨by kernel_rfl⟩
instance : TyI Try.prog 18 1 8 (.agg #[.pointer none]) := ⟨by kernel_rfl, by kernel_rfl⟩
instance : Fld Try.prog 18 0 0 17 := ⟨by kernel_rfl⟩
instance : TyStruct Try.prog 18 #[(0, 1)] := ⟨by kernel_rfl⟩
instance : TyAggr Try.prog 19 := ⟨by kernel_rfl⟩
instance : TyI Try.prog 19 1 8 (.agg #[.pointer none]) := ⟨by kernel_rfl, by kernel_rfl⟩
instance : Fld Try.prog 19 0 0 17 := ⟨by kernel_rfl⟩
instance : TyStruct Try.prog 19 #[(0, 1)] := ⟨by kernel_rfl⟩
instance : TyScal Try.prog 20 := ⟨by kernel_rfl⟩
instance : TyI Try.prog 20 1 16 (.nilIface) := ⟨by kernel_rfl, by kernel_rfl⟩
instance : TyScal Try.prog 21 := ⟨by kernel_rfl⟩
instance : TyI Try.prog 21 1 4 (.int .i32 0) := ⟨by kernel_rfl, by kernel_rfl⟩
instance : TyInt Try.prog 21 .i32 := ⟨by kernel_rfl⟩
instance : TyScal Try.prog 22 := ⟨by kernel_rfl⟩
instance : TyI Try.prog 22 1 24 (.slice none 0 0) := ⟨by kernel_rfl, by kernel_rfl⟩
instance : TySlice Try.prog 22 28 := ⟨by kernel_rfl⟩
instance : TyScal Try.prog 23 := ⟨by kernel_rfl⟩
instance : TyI Try.prog 23 1 24 (.slice none 0 0) := ⟨by kernel_rfl, by kernel_rfl⟩
instance : TySlice Try.prog 23 39 := ⟨by kernel_rfl⟩
instance : TyAggr Try.prog 24 := ⟨by kernel_rfl⟩
instance : TyI Try.prog 24 4 64 (.agg #[.int .i64 0, .int .i64 0, .slice none 0 0, .slice none 0 0]) := ⟨by kernel_rfl, by kernel_rfl⟩
instance : Fld Try.prog 24 0 0 3 := ⟨by kernel_rfl⟩
instance : Fld Try.prog 24 1 1 3 := ⟨by kernel_rfl⟩
instance : Fld Try.prog 24 2 2 22 := ⟨by kernel_rfl⟩
instance : Fld Try.prog 24 3 3 23 := ⟨by kernel_rfl⟩
instance : TyStruct Try.prog 24 #[(0, 1), (1, 1), (2, 1), (3, 1)] := ⟨by kernel_rfl⟩
instance : TyAggr Try.prog 25 := ⟨by kernel_rfl⟩
instance : TyI Try.prog 25 4 64 (.agg #[.int .i64 0, .int .i64 0, .slice none 0 0, .slice none 0 0]) := ⟨by kernel_rfl, by kernel_rfl⟩
instance : Fld Try.prog 25 0 0 3 := ⟨by kernel_rfl⟩
instance : Fld Try.prog 25 1 1 3 := ⟨by kernel_rfl⟩
instance : Fld Try.prog 25 2 2 22 := ⟨by kernel_rfl⟩
instance : Fld Try.prog 25 3 3 23 := ⟨by kernel_rfl⟩
instance : TyStruct Try.prog 25 #[(0, 1), (1, 1), (2, 1), (3, 1)] := ⟨by kernel_rfl⟩
instance : TyScal Try.prog 26 := ⟨by kernel_rfl⟩
instance : TyI Try.prog 26 1 8 (.nilFunc) := ⟨by kernel_rfl, by kernel_rfl⟩
instance : TyAggr Try.prog 27 := ⟨by kernel_rfl⟩
instance : TyI Try.prog 27 6 48 (.agg #[.int .i64 0, .int .i64 0, .int .i64 0, .int .i64 0, .int .u8 0, .int .i64 0]) := ⟨by kernel_rfl, by kernel_rfl⟩
instance : Fld Try.prog 27 0 0 3 := ⟨by kernel_rfl⟩
instance : Fld Try.prog 27 1 1 3 := ⟨by kernel_rfl⟩
instance : Fld Try.prog 27 2 2 3 := ⟨by kernel_rfl⟩
instance : Fld Try.prog 27 3 3 3 := ⟨by kernel_rfl⟩
instance : Fld Try.prog 27 4 4 5 := ⟨by kernel_rfl⟩
instance : Fld Try.prog 27 5 5 3 := ⟨by kernel_rfl⟩
instance : TyStruct Try.prog 27 #[(0, 1), (1, 1), (2, 1), (3, 1), (4, 1), (5, 1)] := ⟨by kernel_rfl⟩
instance : TyAggr Try.prog 28 := ⟨by kernel_rfl⟩
instance : TyI Try.prog 28 6 48 (.agg #[.int .i64 0, .int .i64 0, .int .i64 0, .int .i64 0, .int .u8 0, .int .i64 0]) := ⟨by kernel_rfl, by kernel_rfl⟩
instance : Fld Try.prog 28 0 0 3 := ⟨by kernel_rfl⟩
instance : Fld Try.prog 28 1 1 3 := ⟨by kernel_rfl⟩
instance : Fld Try.prog 28 2 2 3 := ⟨by kernel_rfl⟩
instance : Fld Try.prog 28 3 3 3 := ⟨by kernel_rfl⟩
instance : Fld Try.prog 28 4 4 5 := ⟨by kernel_rfl⟩
instance : Fld Try.prog 28 5 5 3 := ⟨by kernel_rfl⟩
instance : TyStruct Try.prog 28 #[(0, 1), (1, 1), (2, 1), (3, 1), (4, 1), (5, 1)] := ⟨by kernel_rfl⟩
instance : TyScal Try.prog 29 := ⟨by kernel_rfl⟩
instance : TyI Try.prog 29 1 8 (.nilFunc) := ⟨by kernel_rfl, by kernel_rfl⟩
instance : TyScal Try.prog 30 := ⟨by kernel_rfl⟩
instance : TyI Try.prog 30 1 8 (.pointer none) := ⟨by kernel_rfl, by kernel_rfl⟩
instance : TyPtr Try.prog 30 75 := ⟨by kernel_rfl⟩
instance : TyScal Try.prog 31 := ⟨by kernel_rfl⟩
instance : TyI Try.prog 31 1 8 (.int .i64 0) := ⟨by kernel_rfl, by kernel_rfl⟩
instance : TyInt Try.prog 31 .i64 := ⟨by kernel_rfl⟩
instance : TyScal Try.prog 33 := ⟨by kernel_rfl⟩
instance : TyI Try.prog 33 1 8 (.nilFunc) := ⟨by kernel_rfl, by kernel_rfl⟩
instance : TyScal Try.prog 34 := ⟨by kernel_rfl⟩
instance : TyI Try.prog 34 1 8 (.nilFunc) := ⟨by kernel_rfl, by kernel_rfl⟩
instance : TyScal Try.prog 35 := ⟨by kernel_rfl⟩
instance : TyI Try.prog 35 1 8 (.nilFunc) := ⟨by kernel_rfl, by kernel_rfl⟩
instance : TyScal Try.prog 36 := ⟨by kernel_rfl⟩
instance : TyI Try.prog 36 1 8 (.int .u64 0) := ⟨by kernel_rfl, by kernel_rfl⟩
instance : TyInt Try.prog 36 .u64 := ⟨by kernel_rfl⟩
instance : TyScal Try.prog 37 := ⟨by kernel_rfl⟩
instance : TyI Try.prog 37 1 24 (.slice none 0 0) := ⟨by kernel_rfl, by kernel_rfl⟩
instance : TySlice Try.prog 37 5 := ⟨by kernel_rfl⟩
instance : TyAggr Try.prog 38 := ⟨by kernel_rfl⟩
instance : TyI Try.prog 38 4 48 (.agg #[.int .i64 0, .int .i64 0, .int .u64 0, .slice none 0 0]) := ⟨by kernel_rfl, by kernel_rfl⟩
instance : Fld Try.prog 38 0 0 3 := ⟨by kernel_rfl⟩
instance : Fld Try.prog 38 1 1 3 := ⟨by kernel_rfl⟩
instance : Fld Try.prog 38 2 2 36 := ⟨by kernel_rfl⟩
instance : Fld Try.prog 38 3 3 37 := ⟨by kernel_rfl⟩
instance : TyStruct Try.prog 38 #[(0, 1), (1, 1), (2, 1), (3, 1)] := ⟨by kernel_rfl⟩
instance : TyAggr Try.prog 39 := ⟨by kernel_rfl⟩
instance : TyI Try.prog 39 4 48 (.agg #[.int .i64 0, .int .i64 0, .int .u64 0, .slice none 0 0]) := ⟨by kernel_rfl, by kernel_rfl⟩
instance : Fld Try.prog 39 0 0 3 := ⟨by kernel_rfl⟩
instance : Fld Try.prog 39 1 1 3 := ⟨by kernel_rfl⟩
instance : Fld Try.prog 39 2 2 36 := ⟨by kernel_rfl⟩
instance : Fld Try.prog 39 3 3 37 := ⟨by kernel_rfl⟩
instance : TyStruct Try.prog 39 #[(0, 1), (1, 1), (2, 1), (3, 1)] := ⟨by kernel_rfl⟩
instance : TyScal Try.prog 40 := ⟨by kernel_rfl⟩
instance : TyI Try.prog 40 1 8 (.nilFunc) := ⟨by kernel_rfl, by kernel_rfl⟩
instance : TyAggr Try.prog 41 := ⟨by kernel_rfl⟩
instance : TyI Try.prog 41 3 40 (.agg #[.slice none 0 0, .int .u64 0, .int .i64 0]) := ⟨by kernel_rfl, by kernel_rfl⟩
instance : Fld Try.prog 41 0 0 37 := ⟨by kernel_rfl⟩
instance : Fld Try.prog 41 1 1 36 := ⟨by kernel_rfl⟩
instance : Fld Try.prog 41 2 2 31 := ⟨by kernel_rfl⟩
instance : TyStruct Try.prog 41 #[(0, 1), (1, 1), (2, 1)] := ⟨by kernel_rfl⟩
instance : TyAggr Try.prog 42 := ⟨by kernel_rfl⟩
instance : TyI Try.prog 42 3 40 (.agg #[.slice none 0 0, .int .u64 0, .int .i64 0]) := ⟨by kernel_rfl, by kernel_rfl⟩
instance : Fld Try.prog 42 0 0 37 := ⟨by kernel_rfl⟩
instance : Fld Try.prog 42 1 1 36 := ⟨by kernel_rfl⟩
instance : Fld Try.prog 42 2 2 31 := ⟨by kernel_rfl⟩
instance : TyStruct Try.prog 42 #[(0, 1), (1, 1), (2, 1)] := ⟨by kernel_rfl⟩
instance : TyScal Try.prog 43 := ⟨by kernel_rfl⟩
instance : TyI Try.prog 43 1 8 (.nilFunc) := ⟨by kernel_rfl, by kernel_rfl⟩
instance : TyScal Try.prog 44 := ⟨by kernel_rfl⟩
instance : TyI Try.prog 44 1 8 (.nilFunc) := ⟨by kernel_rfl, by kernel_rfl⟩
instance : TyScal Try.prog 45 := ⟨by kernel_rfl⟩
instance : TyI Try.prog 45 1 8 (.nilFunc) := ⟨by kernel_rfl, by kernel_rfl⟩
instance : TyScal Try.prog 46 := ⟨by kernel_rfl⟩
instance : TyI Try.prog 46 1 8 (.nilFunc) := ⟨by kernel_rfl, by kernel_rfl⟩
instance : TyScal Try.prog 47 := ⟨by kernel_rfl⟩
instance : TyI Try.prog 47 1 8 (.nilFunc) := ⟨by kernel_rfl, by kernel_rfl⟩
instance : TyScal Try.prog 48 := ⟨by kernel_rfl⟩
instance : TyI Try.prog 48 1 8 (.nilFunc) := ⟨by kernel_rfl, by kernel_rfl⟩
instance : TyScal Try.prog 49 := ⟨by kernel_rfl⟩
instance : TyI Try.prog 49 1 24 (.slice none 0 0) := ⟨by kernel_rfl, by kernel_rfl⟩
instance : TySlice Try.prog 49 56 := ⟨by kernel_rfl⟩
instance : TyScal Try.prog 50 := ⟨by kernel_rfl⟩
instance : TyI Try.prog 50 1 8 (.nilFunc) := ⟨by kernel_rfl, by kernel_rfl⟩
instance : TyScal Try.prog 51 := ⟨by kernel_rfl⟩
instance : TyI Try.prog 51 1 24 (.slice none 0 0) := ⟨by kernel_rfl, by kernel_rfl⟩
instance : TySlice Try.prog 51 36 := ⟨by kernel_rfl⟩
instance : TyScal Try.prog 52 := ⟨by kernel_rfl⟩
instance : TyI Try.prog 52 1 8 (.nilFunc) := ⟨by kernel_rfl, by kernel_rfl⟩
instance : TyAggr Try.prog 53 := ⟨by kernel_rfl⟩
instance : TyI Try.prog 53 12 12 (.agg #[.int .u8 0, .int .u8 0, .int .u8 0, .int .u8 0, .int .u8 0, .int .u8 0, .int .u8 0, .int .u8 0, .int .u8 0, .int .u8 0, .int .u8 0, .int .u8 0]) := ⟨by kernel_rfl, by kernel_rfl⟩
instance : TyArr Try.prog 53 12 5 := ⟨by kernel_rfl⟩
instance : TyAggr Try.prog 54 := ⟨by kernel_rfl⟩
instance : TyI Try.prog 54 12 12 (.agg #[.int .u8 0, .int .u8 0, .int .u8 0, .int .u8 0, .int .u8 0, .int .u8 0, .int .u8 0, .int .u8 0, .int .u8 0, .int .u8 0, .int .u8 0, .int .u8 0]) := ⟨by kernel_rfl, by kernel_rfl⟩
instance : TyArr Try.prog 54 12 5 := ⟨by kernel_rfl⟩
instance : TyAggr Try.prog 55 := ⟨by kernel_rfl⟩
instance : TyI Try.prog 55 15 40 (.agg #[.int .i64 0, .int .i64 0, .int .i64 0, .int .u8 0, .int .u8 0, .int .u8 0, .int .u8 0, .int .u8 0, .int .u8 0, .int .u8 0, .int .u8 0, .int .u8 0, .int .u8 0, .int .u8 0, .int .u8 0]) := ⟨by kernel_rfl, by kernel_rfl⟩
instance : Fld Try.prog 55 0 0 3 := ⟨by kernel_rfl⟩
instance : Fld Try.prog 55 1 1 3 := ⟨by kernel_rfl⟩
instance : Fld Try.prog 55 2 2 3 := ⟨by kernel_rfl⟩
instance : Fld Try.prog 55 3 3 54 := ⟨by kernel_rfl⟩
instance : TyStruct Try.prog 55 #[(0, 1), (1, 1), (2, 1), (3, 12)] := ⟨by kernel_rfl⟩
instance : TyAggr Try.prog 56 := ⟨by kernel_rfl⟩
instance : TyI Try.prog 56 15 40 (.agg #[.int .i64 0, .int .i64 0, .int .i64 0, .int .u8 0, .int .u8 0, .int .u8 0, .int .u8 0, .int .u8 0, .int .u8 0, .int .u8 0, .int .u8 0, .int .u8 0, .int .u8 0, .int .u8 0, .int .u8 0]) := ⟨by kernel_rfl, by kernel_rfl⟩
instance : Fld Try.prog 56 0 0 3 := ⟨by kernel_rfl⟩
instance : Fld Try.prog 56 1 1 3 := ⟨by kernel_rfl⟩
instance : Fld Try.prog 56 2 2 3 := ⟨by kernel_rfl⟩
instance : Fld Try.prog 56 3 3 54 := ⟨by kernel_rfl⟩
instance : TyStruct Try.prog 56 #[(0, 1), (1, 1), (2, 1), (3, 12)] := ⟨by kernel_rfl⟩
instance : TyScal Try.prog 57 := ⟨by kernel_rfl⟩
instance : TyI Try.prog 57 1 8 (.nilFunc) := ⟨by kernel_rfl, by kernel_rfl⟩
instance : TyScal Try.prog 59 := ⟨by kernel_rfl⟩
instance : TyI Try.prog 59 1 8 (.nilFunc) := ⟨by kernel_rfl, by kernel_rfl⟩
instance : TyScal Try.prog 60 := ⟨by kernel_rfl⟩
instance : TyI Try.prog 60 1 8 (.nilFunc) := ⟨by kernel_rfl, by kernel_rfl⟩
instance : TyScal Try.prog 61 := ⟨by kernel_rfl⟩
instance : TyI Try.prog 61 1 24 (.slice none 0 0) := ⟨by kernel_rfl, by kernel_rfl⟩
instance : TySlice Try.prog 61 37 := ⟨by kernel_rfl⟩
instance : TyScal Try.prog 62 := ⟨by kernel_rfl⟩
instance : TyI Try.prog 62 1 8 (.nilFunc) := ⟨by kernel_rfl, by kernel_rfl⟩
instance : TyScal Try.prog 63 := ⟨by kernel_rfl⟩
instance : TyI Try.prog 63 1 8 (.pointer none) := ⟨by kernel_rfl, by kernel_rfl⟩
instance : TyPtr Try.prog 63 93 := ⟨by kernel_rfl⟩
instance : TyScal Try.prog 65 := ⟨by kernel_rfl⟩
instance : TyI Try.prog 65 1 8 (.nilFunc) := ⟨by kernel_rfl, by kernel_rfl⟩
instance : TyScal Try.prog 66 := ⟨by kernel_rfl⟩
instance : TyI Try.prog 66 1 8 (.nilFunc) := ⟨by kernel_rfl, by kernel_rfl⟩
instance : TyScal Try.prog 67 := ⟨by kernel_rfl⟩
instance : TyI Try.prog 67 1 8 (.nilFunc) := ⟨by kernel_rfl, by kernel_rfl⟩
instance : TyScal Try.prog 68 := ⟨by kernel_rfl⟩
instance : TyI Try.prog 68 1 8 (.nilFunc) := ⟨by kernel_rfl, by kernel_rfl⟩
instance : TyScal Try.prog 69 := ⟨by kernel_rfl⟩
instance : TyI Try.prog 69 1 8 (.nilFunc) := ⟨by kernel_rfl, by kernel_rfl⟩
instance : TyScal Try.prog 71 := ⟨by kernel_rfl⟩
instance : TyI Try.prog 71 1 8 (.nilFunc) := ⟨by kernel_rfl, by kernel_rfl⟩
instance : TyScal Try.prog 72 := ⟨by kernel_rfl⟩
instance : TyI Try.prog 72 1 8 (.map none) := ⟨by kernel_rfl, by kernel_rfl⟩
instance : TyMap Try.prog 72 3 61 := ⟨by kernel_rfl⟩
instance : TyScal Try.prog 73 := ⟨by kernel_rfl⟩
instance : TyI Try.prog 73 1 8 (.map none) := ⟨by kernel_rfl, by kernel_rfl⟩
instance : TyMap Try.prog 73 3 22 := ⟨by kernel_rfl⟩
instance : TyAggr Try.prog 74 := ⟨by kernel_rfl⟩
instance : TyI Try.prog 74 8 80 (.agg #[.int .i64 0, .int .i64 0, .map none, .int .u64 0, .map none, .int .i64 0, .slice none 0 0, .int .i64 0]) := ⟨by kernel_rfl, by kernel_rfl⟩
instance : Fld Try.prog 74 0 0 3 := ⟨by kernel_rfl⟩
instance : Fld Try.prog 74 1 1 3 := ⟨by kernel_rfl⟩
instance : Fld Try.prog 74 2 2 72 := ⟨by kernel_rfl⟩
instance : Fld Try.prog 74 3 3 36 := ⟨by kernel_rfl⟩
instance : Fld Try.prog 74 4 4 73 := ⟨by kernel_rfl⟩
instance : Fld Try.prog 74 5 5 3 := ⟨by kernel_rfl⟩
instance : Fld Try.prog 74 6 6 49 := ⟨by kernel_rfl⟩
instance : Fld Try.prog 74 7 7 3 := ⟨by kernel_rfl⟩
instance : TyStruct Try.prog 74 #[(0, 1), (1, 1), (2, 1), (3, 1), (4, 1), (5, 1), (6, 1), (7, 1)] := ⟨by kernel_rfl⟩
instance : TyAggr Try.prog 75 := ⟨by kernel_rfl⟩
instance : TyI Try.prog 75 8 80 (.agg #[.int .i64 0, .int .i64 0, .map none, .int .u64 0, .map none, .int .i64 0, .slice none 0 0, .int .i64 0]) := ⟨by kernel_rfl, by kernel_rfl⟩
instance : Fld Try.prog 75 0 0 3 := ⟨by kernel_rfl⟩
instance : Fld Try.prog 75 1 1 3 := ⟨by kernel_rfl⟩
instance : Fld Try.prog 75 2 2 72 := ⟨by kernel_rfl⟩
instance : Fld Try.prog 75 3 3 36 := ⟨by kernel_rfl⟩
instance : Fld Try.prog 75 4 4 73 := ⟨by kernel_rfl⟩
instance : Fld Try.prog 75 5 5 3 := ⟨by kernel_rfl⟩
instance : Fld Try.prog 75 6 6 49 := ⟨by kernel_rfl⟩
instance : Fld Try.prog 75 7 7 3 := ⟨by kernel_rfl⟩
instance : TyStruct Try.prog 75 #[(0, 1), (1, 1), (2, 1), (3, 1), (4, 1), (5, 1), (6, 1), (7, 1)] := ⟨by kernel_rfl⟩
instance : TyScal Try.prog 76 := ⟨by kernel_rfl⟩
instance : TyI Try.prog 76 1 8 (.nilFunc) := ⟨by kernel_rfl, by kernel_rfl⟩
instance : TyScal Try.prog 77 := ⟨by kernel_rfl⟩
instance : TyI Try.prog 77 1 8 (.nilFunc) := ⟨by kernel_rfl, by kernel_rfl⟩
instance : TyScal Try.prog 78 := ⟨by kernel_rfl⟩
instance : TyI Try.prog 78 1 8 (.nilFunc) := ⟨by kernel_rfl, by kernel_rfl⟩
instance : TyScal Try.prog 79 := ⟨by kernel_rfl⟩
instance : TyI Try.prog 79 1 8 (.nilFunc) := ⟨by kernel_rfl, by kernel_rfl⟩
instance : TyScal Try.prog 80 := ⟨by kernel_rfl⟩
instance : TyI Try.prog 80 1 8 (.nilFunc) := ⟨by kernel_rfl, by kernel_rfl⟩
instance : TyScal Try.prog 81 := ⟨by kernel_rfl⟩
instance : TyI Try.prog 81 1 8 (.nilFunc) := ⟨by kernel_rfl, by kernel_rfl⟩
instance : TyScal Try.prog 83 := ⟨by kernel_rfl⟩
instance : TyI Try.prog 83 1 8 (.nilFunc) := ⟨by kernel_rfl, by kernel_rfl⟩
instance : TyScal Try.prog 84 := ⟨by kernel_rfl⟩
instance : TyI Try.prog 84 1 8 (.nilFunc) := ⟨by kernel_rfl, by kernel_rfl⟩
instance : TyScal Try.prog 86 := ⟨by kernel_rfl⟩
instance : TyI Try.prog 86 1 8 (.nilFunc) := ⟨by kernel_rfl, by kernel_rfl⟩
instance : TyScal Try.prog 87 := ⟨by kernel_rfl⟩
instance : TyI Try.prog 87 1 8 (.nilFunc) := ⟨by kernel_rfl, by kernel_rfl⟩
instance : TyScal Try.prog 89 := ⟨by kernel_rfl⟩
instance : TyI Try.prog 89 1 8 (.nilFunc) := ⟨by kernel_rfl, by kernel_rfl⟩
instance : TyScal Try.prog 90 := ⟨by kernel_rfl⟩
instance : TyI Try.prog 90 1 8 (.nilFunc) := ⟨by kernel_rfl, by kernel_rfl⟩
instance : TyScal Try.prog 91 := ⟨by kernel_rfl⟩
instance : TyI Try.prog 91 1 24 (.slice none 0 0) := ⟨by kernel_rfl, by kernel_rfl⟩
instance : TySlice Try.prog 91 97 := ⟨by kernel_rfl⟩
instance : TyAggr Try.prog 92 := ⟨by kernel_rfl⟩
instance : TyI Try.prog 92 8 112 (.agg #[.int .i64 0, .int .i64 0, .slice none 0 0, .slice none 0 0, .int .u64 0, .int .i64 0, .slice none 0 0, .bool false]) := ⟨by kernel_rfl, by kernel_rfl⟩
instance : Fld Try.prog 92 0 0 3 := ⟨by kernel_rfl⟩
instance : Fld Try.prog 92 1 1 3 := ⟨by kernel_rfl⟩
instance : Fld Try.prog 92 2 2 22 := ⟨by kernel_rfl⟩
instance : Fld Try.prog 92 3 3 91 := ⟨by kernel_rfl⟩
instance : Fld Try.prog 92 4 4 36 := ⟨by kernel_rfl⟩
instance : Fld Try.prog 92 5 5 3 := ⟨by kernel_rfl⟩
instance : Fld Try.prog 92 6 6 49 := ⟨by kernel_rfl⟩
instance : Fld Try.prog 92 7 7 4 := ⟨by kernel_rfl⟩
instance : TyStruct Try.prog 92 #[(0, 1), (1, 1), (2, 1), (3, 1), (4, 1), (5, 1), (6, 1), (7, 1)] := ⟨by kernel_rfl⟩
instance : TyAggr Try.prog 93 := ⟨by kernel_rfl⟩
instance : TyI Try.prog 93 8 112 (.agg #[.int .i64 0, .int .i64 0, .slice none 0 0, .slice none 0 0, .int .u64 0, .int .i64 0, .slice none 0 0, .bool false]) := ⟨by kernel_rfl, by kernel_rfl⟩
instance : Fld Try.prog 93 0 0 3 := ⟨by kernel_rfl⟩
instance : Fld Try.prog 93 1 1 3 := ⟨by kernel_rfl⟩
instance : Fld Try.prog 93 2 2 22 := ⟨by kernel_rfl⟩
instance : Fld Try.prog 93 3 3 91 := ⟨by kernel_rfl⟩
instance : Fld Try.prog 93 4 4 36 := ⟨by kernel_rfl⟩
instance : Fld Try.prog 93 5 5 3 := ⟨by kernel_rfl⟩
instance : Fld Try.prog 93 6 6 49 := ⟨by kernel_rfl⟩
instance : Fld Try.prog 93 7 7 4 := ⟨by kernel_rfl⟩
instance : TyStruct Try.prog 93 #[(0, 1), (1, 1), (2, 1), (3, 1), (4, 1), (5, 1), (6, 1), (7, 1)] := ⟨by kernel_rfl⟩
instance : TyScal Try.prog 94 := ⟨by kernel_rfl⟩
instance : TyI Try.prog 94 1 8 (.nilFunc) := ⟨by kernel_rfl, by kernel_rfl⟩
instance : TyScal Try.prog 95 := ⟨by kernel_rfl⟩
instance : TyI Try.prog 95 1 8 (.nilFunc) := ⟨by kernel_rfl, by kernel_rfl⟩
instance : TyAggr Try.prog 96 := ⟨by kernel_rfl⟩
instance : TyI Try.prog 96 2 32 (.agg #[.int .i64 0, .slice none 0 0]) := ⟨by kernel_rfl, by kernel_rfl⟩
instance : Fld Try.prog 96 0 0 3 := ⟨by kernel_rfl⟩
instance : Fld Try.prog 96 1 1 37 := ⟨by kernel_rfl⟩
instance : TyStruct Try.prog 96 #[(0, 1), (1, 1)] := ⟨by kernel_rfl⟩
instance : TyAggr Try.prog 97 := ⟨by kernel_rfl⟩
instance : TyI Try.prog 97 2 32 (.agg #[.int .i64 0, .slice none 0 0]) := ⟨by kernel_rfl, by kernel_rfl⟩
instance : Fld Try.prog 97 0 0 3 := ⟨by kernel_rfl⟩
instance : Fld Try.prog 97 1 1 37 := ⟨by kernel_rfl⟩
instance : TyStruct Try.prog 97 #[(0, 1), (1, 1)] := ⟨by kernel_rfl⟩
instance : TyScal Try.prog 98 := ⟨by kernel_rfl⟩
instance : TyI Try.prog 98 1 8 (.nilFunc) := ⟨by kernel_rfl, by kernel_rfl⟩
instance : TyAggr Try.prog 99 := ⟨by kernel_rfl⟩
instance : TyI Try.prog 99 4 40 (.agg #[.pointer none, .pointer none, .pointer none, .string ByteArray.empty]) := ⟨by kernel_rfl, by kernel_rfl⟩
instance : Fld Try.prog 99 0 0 17 := ⟨by kernel_rfl⟩
instance : Fld Try.prog 99 1 1 17 := ⟨by kernel_rfl⟩
instance : Fld Try.prog 99 2 2 17 := ⟨by kernel_rfl⟩
instance : Fld Try.prog 99 3 3 9 := ⟨by kernel_rfl⟩
instance : TyStruct Try.prog 99 #[(0, 1), (1, 1), (2, 1), (3, 1)] := ⟨by kernel_rfl⟩
instance : TyAggr Try.prog 100 := ⟨by kernel_rfl⟩
instance : TyI Try.prog 100 4 40 (.agg #[.pointer none, .pointer none, .pointer none, .string ByteArray.empty]) := ⟨by kernel_rfl, by kernel_rfl⟩
instance : Fld Try.prog 100 0 0 17 := ⟨by kernel_rfl⟩
instance : Fld Try.prog 100 1 1 17 := ⟨by kernel_rfl⟩
instance : Fld Try.prog 100 2 2 17 := ⟨by kernel_rfl⟩
instance : Fld Try.prog 100 3 3 9 := ⟨by kernel_rfl⟩
instance : TyStruct Try.prog 100 #[(0, 1), (1, 1), (2, 1), (3, 1)] := ⟨by kernel_rfl⟩
instance : TyAggr Try.prog 101 := ⟨by kernel_rfl⟩
instance : TyI Try.prog 101 0 0 (.agg #[]) := ⟨by kernel_rfl, by kernel_rfl⟩
instance : TyArr Try.prog 101 0 16 := ⟨by kernel_rfl⟩
instance : TyAggr Try.prog 102 := ⟨by kernel_rfl⟩
instance : TyI Try.prog 102 0 0 (.agg #[]) := ⟨by kernel_rfl, by kernel_rfl⟩
instance : Fld Try.prog 102 0 0 101 := ⟨by kernel_rfl⟩
instance : TyStruct Try.prog 102 #[(0, 0)] := ⟨by kernel_rfl⟩
instance : TyAggr Try.prog 103 := ⟨by kernel_rfl⟩
instance : TyI Try.prog 103 0 0 (.agg #[]) := ⟨by kernel_rfl, by kernel_rfl⟩
instance : Fld Try.prog 103 0 0 101 := ⟨by kernel_rfl⟩
instance : TyStruct Try.prog 103 #[(0, 0)] := ⟨by kernel_rfl⟩
instance : TyScal Try.prog 104 := ⟨by kernel_rfl⟩
instance : TyI Try.prog 104 1 4 (.int .u32 0) := ⟨by kernel_rfl, by kernel_rfl⟩
instance : TyInt Try.prog 104 .u32 := ⟨by kernel_rfl⟩
instance : TyScal Try.prog 105 := ⟨by kernel_rfl⟩
instance : TyI Try.prog 105 1 1 (.int .u8 0) := ⟨by kernel_rfl, by kernel_rfl⟩
instance : TyInt Try.prog 105 .u8 := ⟨by kernel_rfl⟩
instance : TyScal Try.prog 106 := ⟨by kernel_rfl⟩
instance : TyI Try.prog 106 1 1 (.int .u8 0) := ⟨by kernel_rfl, by kernel_rfl⟩
instance : TyInt Try.prog 106 .u8 := ⟨by kernel_rfl⟩
instance : TyScal Try.prog 107 := ⟨by kernel_rfl⟩
instance : TyI Try.prog 107 1 8 (.nilFunc) := ⟨by kernel_rfl, by kernel_rfl⟩
instance : TyScal Try.prog 108 := ⟨by kernel_rfl⟩
instance : TyI Try.prog 108 1 8 (.pointer none) := ⟨by kernel_rfl, by kernel_rfl⟩
instance : TyPtr Try.prog 108 5 := ⟨by kernel_rfl⟩
instance : TyScal Try.prog 109 := ⟨by kernel_rfl⟩
instance : TyI Try.prog 109 1 4 (.int .i32 0) := ⟨by kernel_rfl, by kernel_rfl⟩
instance : TyInt Try.prog 109 .i32 := ⟨by kernel_rfl⟩
instance : TyScal Try.prog 110 := ⟨by kernel_rfl⟩
instance : TyI Try.prog 110 1 4 (.int .i32 0) := ⟨by kernel_rfl, by kernel_rfl⟩
instance : TyInt Try.prog 110 .i32 := ⟨by kernel_rfl⟩
instance : TyAggr Try.prog 111 := ⟨by kernel_rfl⟩
instance : TyI Try.prog 111 11 48 (.agg #[.int .u64 0, .int .u64 0, .int .u32 0, .int .u8 0, .int .u8 0, .int .u8 0, .int .u8 0, .nilFunc, .pointer none, .int .i32 0, .int .i32 0]) := ⟨by kernel_rfl, by kernel_rfl⟩
instance : Fld Try.prog 111 0 0 12 := ⟨by kernel_rfl⟩
instance : Fld Try.prog 111 1 1 12 := ⟨by kernel_rfl⟩
instance : Fld Try.prog 111 2 2 104 := ⟨by kernel_rfl⟩
instance : Fld Try.prog 111 3 3 105 := ⟨by kernel_rfl⟩
instance : Fld Try.prog 111 4 4 5 := ⟨by kernel_rfl⟩
instance : Fld Try.prog 111 5 5 5 := ⟨by kernel_rfl⟩
instance : Fld Try.prog 111 6 6 106 := ⟨by kernel_rfl⟩
instance : Fld Try.prog 111 7 7 107 := ⟨by kernel_rfl⟩
instance : Fld Try.prog 111 8 8 108 := ⟨by kernel_rfl⟩
instance : Fld Try.prog 111 9 9 109 := ⟨by kernel_rfl⟩
instance : Fld Try.prog 111 10 10 110 := ⟨by kernel_rfl⟩
instance : TyStruct Try.prog 111 #[(0, 1), (1, 1), (2, 1), (3, 1), (4, 1), (5, 1), (6, 1), (7, 1), (8, 1), (9, 1), (10, 1)] := ⟨by kernel_rfl⟩
instance : TyAggr Try.prog 112 := ⟨by kernel_rfl⟩
instance : TyI Try.prog 112 11 48 (.agg #[.int .u64 0, .int .u64 0, .int .u32 0, .int .u8 0, .int .u8 0, .int .u8 0, .int .u8 0, .nilFunc, .pointer none, .int .i32 0, .int .i32 0]) := ⟨by kernel_rfl, by kernel_rfl⟩
instance : Fld Try.prog 112 0 0 12 := ⟨by kernel_rfl⟩
instance : Fld Try.prog 112 1 1 12 := ⟨by kernel_rfl⟩
instance : Fld Try.prog 112 2 2 104 := ⟨by kernel_rfl⟩
instance : Fld Try.prog 112 3 3 105 := ⟨by kernel_rfl⟩
instance : Fld Try.prog 112 4 4 5 := ⟨by kernel_rfl⟩
instance : Fld Try.prog 112 5 5 5 := ⟨by kernel_rfl⟩
instance : Fld Try.prog 112 6 6 106 := ⟨by kernel_rfl⟩
instance : Fld Try.prog 112 7 7 107 := ⟨by kernel_rfl⟩
instance : Fld Try.prog 112 8 8 108 := ⟨by kernel_rfl⟩
instance : Fld Try.prog 112 9 9 109 := ⟨by kernel_rfl⟩
instance : Fld Try.prog 112 10 10 110 := ⟨by kernel_rfl⟩
instance : TyStruct Try.prog 112 #[(0, 1), (1, 1), (2, 1), (3, 1), (4, 1), (5, 1), (6, 1), (7, 1), (8, 1), (9, 1), (10, 1)] := ⟨by kernel_rfl⟩
end Go.Sl

/- host: what a host is and does, in plain Lean; bytes as they are. No program in sight. -/
set_option linter.unusedVariables false
namespace Go.Sl.HostS
open Go Go.Sl

structure Fault where
  (at_ kind page byte : Int)
  by_ : Byte
  back : Int
structure Touch where
  (op page len : Int)
  head : List Byte
theorem Touch.eq_iff (a b : Touch) : (a.op = b.op ∧ a.page = b.page ∧ a.len = b.len ∧ a.head = b.head) ↔ a = b := by
  constructor
  · rintro ⟨h1, h2, h3, h4⟩
    cases a; cases b
    simp only at h1 h2 h3 h4
    rw [h1, h2, h3, h4]
  · rintro rfl
    exact ⟨rfl, rfl, rfl, rfl⟩
instance : DecidableEq Touch := fun a b => decidable_of_iff _ (Touch.eq_iff a b)
abbrev Bytes := List Byte

structure HS where
  pages : Int
  size : Nat
  lay : Int → List Bytes
  reg : BitVec 64
  coming : Int → List Fault
  ops : Nat
  log : List Touch
  down : Bool

def setF {α : Type} (f : Int → α) (k : Int) (x : α) : Int → α := fun k' => if k' = k then x else f k'

/-- What lay on a page so many writes ago. -/
def back (s : HS) (page writes : Int) : Bytes :=
  let l := s.lay page
  let at_ : Int := (l.length : Int) - 1 - max writes 0
  if 0 ≤ at_ then l.getD at_.toNat [] else List.replicate s.size 0#8
def there (s : HS) (page : Int) : Prop := 0 ≤ page ∧ page < s.pages
instance (s : HS) (page : Int) : Decidable (there s page) := inferInstanceAs (Decidable (_ ∧ _))
/-- The first twelve bytes. -/
def headOf (b : Bytes) : List Byte := b.take 12 ++ List.replicate (12 - b.length) 0#8
def touchOf (s : HS) (op page : Int) (b : Bytes) : Touch :=
  if op = 1 then ⟨1, page, s.size, headOf b⟩
  else if op = 0 then ⟨0, page, s.size, List.replicate 12 0#8⟩
  else ⟨op, 0, 8, List.replicate 12 0#8⟩
structure FOk (f : Fault) : Prop where
  b0 : -9223372036854775808 ≤ f.back
  b1 : f.back ≤ 9223372036854775807
structure Ok (s : HS) : Prop where
  p0 : 0 ≤ s.pages
  p1 : s.pages ≤ 65536
  z0 : 1 ≤ s.size
  z1 : s.size ≤ 4124
  row : ∀ p, ∀ r ∈ s.lay p, r.length = s.size
  many : ∀ p, (s.lay p).length ≤ s.ops
  log : s.log.length ≤ s.ops
  flt : ∀ k, ∀ f ∈ s.coming k, FOk f
  fln : ∀ k, (s.coming k).length ≤ 2932031007401
/-- The greater one. -/
def bmax (a b : BitVec 64) : BitVec 64 := if a.toNat ≤ b.toNat then b else a
/-- What a read answers. -/
def spoil1 (s : HS) (page : Int) (b : Bytes) (f : Fault) : Bytes :=
  if f.kind = 0 then (if 0 ≤ f.byte ∧ f.byte < (b.length : Int) then b.set f.byte.toNat (b.getD f.byte.toNat 0#8 ^^^ f.by_) else b)
  else if f.kind = 1 then back s page f.back
  else if f.kind = 2 then (if there s f.page then back s f.page 0 else b)
  else b
def spoilt (s : HS) (page : Int) (l : List Fault) : Bytes := l.foldl (spoil1 s page) (back s page 0)
/-- The beginning of an operation: what befalls it is told. -/
def taken (s : HS) : HS := { s with coming := setF s.coming s.ops [], ops := s.ops + 1 }
/-- The operation is told. -/
def logged (s : HS) (op page : Int) (b : Bytes) : HS := { taken s with log := s.log ++ [touchOf s op page b] }
def before (fl : List Fault) : Bool := fl.any fun f => f.kind == 3
def behind (fl : List Fault) : Bool := fl.any fun f => f.kind == 4
/-- An operation: act is what it does. The answer: an error's number. -/
def does (s : HS) (op page : Int) (b : Bytes) (act : HS → HS) : HS × Nat :=
  if s.down then (s, 110) else
  let fl := s.coming s.ops
  if before fl then ({ taken s with down := true }, 110) else
  let s2 := act (logged s op page b)
  if behind fl then ({ s2 with down := true }, 110) else (s2, 0)
/-- Is it done? -/
def done (s : HS) : Bool := !s.down && !before (s.coming s.ops)
def wrote (page : Int) (b : Bytes) (s : HS) : HS := { s with lay := setF s.lay page (s.lay page ++ [b]) }
def raised (v : BitVec 64) (s : HS) : HS := { s with reg := bmax s.reg v }
/-- What an operation answers, and the host behind it. -/
def readR (s : HS) (page : Int) : Bytes × Nat × HS :=
  if there s page then
    let r := does s 0 page [] id
    if r.2 = 0 then (spoilt s page (s.coming s.ops), 0, r.1) else ([], r.2, r.1)
  else ([], 2, s)
def writeR (s : HS) (page : Int) (b : Bytes) : Nat × HS :=
  if there s page then
    if b.length = s.size then
      let r := does s 1 page b (wrote page b)
      (r.2, r.1)
    else (4, s)
  else (2, s)
def askR (s : HS) : BitVec 64 × Nat × HS :=
  let r := does s 2 0 [] id
  if r.2 = 0 then (r.1.reg, 0, r.1) else (0#64, r.2, r.1)
def raiseR (s : HS) (v : BitVec 64) : Nat × HS :=
  let r := does s 3 0 [] (raised v)
  (if r.2 = 0 ∧ ¬ s.reg.toNat < v.toNat then 111 else r.2, r.1)
/-- A new host. -/
def comes (fl : List Fault) : Int → List Fault := fun k => fl.filter fun f => f.at_ == k
def fresh (pages : Int) (size : Nat) (fl : List Fault) : HS := ⟨pages, size, fun _ => [], 0#64, comes fl, 0, [], false⟩
def kindly (f : Fault) : Bool := decide (0 ≤ f.kind) && decide (f.kind ≤ 4)
def mayBe (pages size : Int) (fl : List Fault) : Prop := (0 ≤ pages ∧ pages ≤ 65536 ∧ 1 ≤ size ∧ size ≤ 4124) ∧ fl.all kindly = true
/-- A step of a script, and what it is told. -/
structure Step where
  (do_ page : Int)
  v : BitVec 64
  data : Bytes
def liesR (s : HS) (page : Int) : Bytes := if there s page then back s page 0 else []
def toldR (s : HS) (t : Step) : (Bytes × BitVec 64 × Nat) × HS :=
  if t.do_ = 1 then (((readR s t.page).1, 0#64, (readR s t.page).2.1), (readR s t.page).2.2)
  else if t.do_ = 2 then (([], 0#64, (writeR s t.page t.data).1), (writeR s t.page t.data).2)
  else if t.do_ = 3 then (([], (askR s).1, (askR s).2.1), (askR s).2.2)
  else if t.do_ = 4 then (([], 0#64, (raiseR s t.v).1), (raiseR s t.v).2)
  else if t.do_ = 5 then (([], 0#64, 0), { s with down := false })
  else if t.do_ = 7 then ((liesR s t.page, 0#64, 0), s)
  else (([], 0#64, 0), s)
end Go.Sl.HostS

/- host: the small methods, and what lay on a page. -/
set_option maxHeartbeats 2000000
set_option linter.unusedVariables false
set_option linter.unusedSimpArgs false
namespace Go.Sl
open Go Go.Proofs
attribute [local irreducible] cl pt own old den denOps denS thenK blockK cutK loopK retK Calls PV

def bytesA (v : Value) (b : HostS.Bytes) : Asrt := own 5 1 v b.length (b.map u8b)
def fcells (f : HostS.Fault) : List Value := [.int .i64 f.at_, .int .i64 f.kind, .int .i64 f.page, .int .i64 f.byte, u8b f.by_, .int .i64 f.back]
def faultsA (v : Value) (l : List HostS.Fault) : Asrt := own 28 6 v l.length (l.flatMap fcells)
def tcells (t : HostS.Touch) : List Value := [.int .i64 t.op, .int .i64 t.page, .int .i64 t.len] ++ t.head.map u8b
def logA (v : Value) (l : List HostS.Touch) : Asrt := own 56 15 v l.length (l.flatMap tcells)
def rowsB (vs : List Value) (l : List HostS.Bytes) : Asrt := all ((vs.zip l).map fun e => bytesA e.1 e.2)
def rowsA (v : Value) (l : List HostS.Bytes) : Asrt := ex fun vs : List Value => all [pur (vs.length = l.length ∧ vs.all oneC = true), own 37 1 v l.length vs, rowsB vs l]
def powerOf (s : HostS.HS) : Int := if s.down then 1 else 0
def hostB (p bl bc : Nat) (logv : Value) (s : HostS.HS) : Asrt :=
  cl p #[.int .i64 s.pages, .int .i64 s.size, .map (some bl), u64b s.reg, .map (some bc), .int .i64 s.ops, logv, .int .i64 (powerOf s)] 75
def hostL (p bl bc : Nat) (logv : Value) (s : HostS.HS) : List Asrt :=
  [pur (HostS.Ok s), hostB p bl bc logv s, omap bl rowsA [] s.lay, omap bc faultsA [] s.coming, logA logv s.log]
def hostA (p : Nat) (s : HostS.HS) : Asrt := ex fun bl : Nat => ex fun bc : Nat => ex fun logv : Value => all (hostL p bl bc logv s)
theorem St.host_get {w0 w : World} {L : List Asrt} {p : Nat} {s : HostS.HS} (H : St w0 w (hostA p s :: L)) : ∃ bl bc logv, HostS.Ok s ∧
    St w0 w (hostB p bl bc logv s :: omap bl rowsA [] s.lay :: omap bc faultsA [] s.coming :: logA logv s.log :: L) := by
  obtain ⟨bl, H⟩ := H.ex_get; obtain ⟨bc, H⟩ := H.ex_get; obtain ⟨logv, H⟩ := H.ex_get
  have H := H.all_get
  exact ⟨bl, bc, logv, H.pur_get, H.drop⟩
theorem St.host_mk {w0 w : World} {L : List Asrt} {p bl bc : Nat} {logv : Value} {s : HostS.HS} (hs : HostS.Ok s)
    (H : St w0 w (hostB p bl bc logv s :: omap bl rowsA [] s.lay :: omap bc faultsA [] s.coming :: logA logv s.log :: L)) : St w0 w (hostA p s :: L) :=
  St.ex_mk bl (St.ex_mk bc (St.ex_mk logv (St.all_mk (hostL p bl bc logv s) (H.pur_mk hs))))
theorem rows_nil : (rowsA (.slice none 0 0) []).on (fun _ => none) := by
  refine ⟨[], ?_⟩
  refine ⟨fun _ => none, fun _ => none, ⟨rfl, rfl⟩, ?_, Frag.none_disj _, Frag.none_sub _, Frag.none_sub _⟩
  refine ⟨fun _ => none, fun _ => none, ?_, ?_, Frag.none_disj _, Frag.none_sub _, Frag.none_sub _⟩
  · unfold own
    exact ⟨rfl, .inl ⟨rfl, rfl⟩⟩
  · exact ⟨fun _ => none, fun _ => none, trivial, trivial, Frag.none_disj _, Frag.none_sub _, Frag.none_sub _⟩
theorem faults_nil : (faultsA (.slice none 0 0) []).on (fun _ => none) := by
  unfold faultsA own
  exact ⟨rfl, .inl ⟨rfl, rfl⟩⟩
attribute [local irreducible] hostA omap ohole oheld rowsB
theorem u8_one (l : List Byte) : (l.map u8b).all oneC = true := by simp [u8b, oneC]

theorem St.rows_sl {w0 w : World} {L : List Asrt} {vs : List Value} {l : List HostS.Bytes} (H : St w0 w (rowsB vs l :: L)) (hl : vs.length = l.length) (i : Nat) (hi : i < l.length) :
    ∃ v, vs[i]? = some v ∧ SlW w 1 v (l.getD i []).length ((l.getD i []).map u8b) := by
  unfold rowsB at H
  have H := H.all_get
  have hmem : bytesA (vs[i]'(by omega)) l[i] ∈ (vs.zip l).map (fun e => bytesA e.1 e.2) := by
    refine List.mem_map.2 ⟨(vs[i]'(by omega), l[i]), ?_, rfl⟩
    have : (vs.zip l)[i]'(by simp; omega) = (vs[i]'(by omega), l[i]) := by simp
    rw [← this]; exact List.getElem_mem _
  obtain ⟨L', hh⟩ := Has.of_mem (List.mem_append_left L hmem)
  refine ⟨vs[i]'(by omega), List.getElem?_eq_getElem (by omega), ?_⟩
  have : l.getD i [] = l[i] := by simp [hi]
  rw [this]
  unfold bytesA at hh
  exact (H.pick hh).own_sl
theorem there_c {p : Nat} {s : HostS.HS} {w0 w : World} {L : List Asrt} (page : Int) (H : St w0 w (hostA p s :: L)) :
    Calls Try.prog 30 #[.pointer (some ⟨p, 0, none⟩), .int .i64 page] w (Ret fun v w' => v = .bool (decide (HostS.there s page)) ∧ w' = w) := by
  obtain ⟨bl, bc, logv, hs, H⟩ := H.host_get
  unfold hostB at H
  refine calls_den [_, _] Try.func30 rfl rfl rfl Try.mixed (by kernel_rfl) ?_
  repeat (first|(refine Zd1 ?_; first|refine Zcx ?_|(refine Zd3 ?_; first|refine Zc0 rfl ?_|refine Zc1 rfl ?_|refine Zc2 rfl ?_)|refine Zcz (by first|exact Zat rfl|exact Zav rfl|exact Zaw rfl|exact Zaz rfl|exact Za2 rfl|exact Za1 rfl|exact Zau rfl|exact Za0 rfl|exact Zba rfl|exact Zce rfl (by omega)|exact Zbn rfl rfl|exact Zbr rfl rfl|exact Zbs rfl rfl|exact Zbq rfl rfl|exact Zbp rfl rfl|exact Zbo rfl rfl|exact Zcr rfl|exact Zbg rfl rfl (by omega)|exact Zbh rfl rfl (by omega)|exact Zbi rfl rfl (by omega)|exact Zco rfl rfl|exact Zdz rfl rfl|exact Zd0 rfl rfl|exact Za8 rfl rfl|exact Za9 rfl rfl|exact Za6 rfl rfl|exact Za7 rfl rfl|exact Zb1 rfl|exact Zca rfl rfl|exact Zcb rfl rfl|exact Zcv rfl rfl|exact Zcw rfl rfl|exact Zax rfl|exact Za3 rfl|exact Zay rfl|exact Zcl rfl rfl|exact Zb0 rfl|exact Zct|exact Zf3|exact Zar rfl|exact Zas rfl) ?_|(refine Zd4 ?_; refine Zc5 H rfl (by repeat constructor) rfl ?_)|(refine Zd5 ?_; (first|refine Zdb H rfl rfl (by repeat constructor) (by first|(simp only [wr_size, Array.size_setIfInBounds, List.size_toArray, List.length_cons, List.length_nil]; omega)|omega|(simp; done)|(simp; omega)) ?_|refine Zde H rfl rfl (by repeat constructor) (by first|(simp only [wr_size, Array.size_setIfInBounds, List.size_toArray, List.length_cons, List.length_nil]; omega)|omega|(simp; done)|(simp; omega)) ?_|refine Zdd H rfl rfl (by repeat constructor) (by first|(simp only [wr_size, Array.size_setIfInBounds, List.size_toArray, List.length_cons, List.length_nil]; omega)|omega|(simp; done)|(simp; omega)) ?_|refine Zdc H rfl rfl (by repeat constructor) (by first|(simp only [wr_size, Array.size_setIfInBounds, List.size_toArray, List.length_cons, List.length_nil]; omega)|omega|(simp; done)|(simp; omega)) ?_|refine Zda H rfl rfl rfl (by repeat constructor) (by first|(simp only [wr_size, Array.size_setIfInBounds, List.size_toArray, List.length_cons, List.length_nil]; omega)|omega|(simp; done)|(simp; omega)) ?_); clear H; intro w H))|(refine Zd6 ?_; first|refine Zd9 ?_|refine Zeb ?_|refine Zeh ?_|refine Zef ?_|refine Zed ?_|refine Zec ?_|refine Zee ?_|refine Zeg ?_|(refine Zd7 ?_; first|refine Zao rfl ?_|refine Zap rfl ?_))|(first|refine Zei ?_|refine Zej ?_|refine Zek ?_|refine Zel ?_|refine Zen ?_|refine Zem ?_|refine Zeo rfl ?_|refine Zep ?_|refine Zeq ?_|refine Zes ?_|refine Zet ?_))
  refine Zex rfl rfl (fun hG => ?_) (fun hG => ?_)
  · repeat (first|(refine Zd1 ?_; first|refine Zcx ?_|(refine Zd3 ?_; first|refine Zc0 rfl ?_|refine Zc1 rfl ?_|refine Zc2 rfl ?_)|refine Zcz (by first|exact Zat rfl|exact Zav rfl|exact Zaw rfl|exact Zaz rfl|exact Za2 rfl|exact Za1 rfl|exact Zau rfl|exact Za0 rfl|exact Zba rfl|exact Zce rfl (by omega)|exact Zbn rfl rfl|exact Zbr rfl rfl|exact Zbs rfl rfl|exact Zbq rfl rfl|exact Zbp rfl rfl|exact Zbo rfl rfl|exact Zcr rfl|exact Zbg rfl rfl (by omega)|exact Zbh rfl rfl (by omega)|exact Zbi rfl rfl (by omega)|exact Zco rfl rfl|exact Zdz rfl rfl|exact Zd0 rfl rfl|exact Za8 rfl rfl|exact Za9 rfl rfl|exact Za6 rfl rfl|exact Za7 rfl rfl|exact Zb1 rfl|exact Zca rfl rfl|exact Zcb rfl rfl|exact Zcv rfl rfl|exact Zcw rfl rfl|exact Zax rfl|exact Za3 rfl|exact Zay rfl|exact Zcl rfl rfl|exact Zb0 rfl|exact Zct|exact Zf3|exact Zar rfl|exact Zas rfl) ?_|(refine Zd4 ?_; refine Zc5 H rfl (by repeat constructor) rfl ?_)|(refine Zd5 ?_; (first|refine Zdb H rfl rfl (by repeat constructor) (by first|(simp only [wr_size, Array.size_setIfInBounds, List.size_toArray, List.length_cons, List.length_nil]; omega)|omega|(simp; done)|(simp; omega)) ?_|refine Zde H rfl rfl (by repeat constructor) (by first|(simp only [wr_size, Array.size_setIfInBounds, List.size_toArray, List.length_cons, List.length_nil]; omega)|omega|(simp; done)|(simp; omega)) ?_|refine Zdd H rfl rfl (by repeat constructor) (by first|(simp only [wr_size, Array.size_setIfInBounds, List.size_toArray, List.length_cons, List.length_nil]; omega)|omega|(simp; done)|(simp; omega)) ?_|refine Zdc H rfl rfl (by repeat constructor) (by first|(simp only [wr_size, Array.size_setIfInBounds, List.size_toArray, List.length_cons, List.length_nil]; omega)|omega|(simp; done)|(simp; omega)) ?_|refine Zda H rfl rfl rfl (by repeat constructor) (by first|(simp only [wr_size, Array.size_setIfInBounds, List.size_toArray, List.length_cons, List.length_nil]; omega)|omega|(simp; done)|(simp; omega)) ?_); clear H; intro w H))|(refine Zd6 ?_; first|refine Zd9 ?_|refine Zeb ?_|refine Zeh ?_|refine Zef ?_|refine Zed ?_|refine Zec ?_|refine Zee ?_|refine Zeg ?_|(refine Zd7 ?_; first|refine Zao rfl ?_|refine Zap rfl ?_))|(first|refine Zei ?_|refine Zej ?_|refine Zek ?_|refine Zel ?_|refine Zen ?_|refine Zem ?_|refine Zeo rfl ?_|refine Zep ?_|refine Zeq ?_|refine Zes ?_|refine Zet ?_))
    first|refine Ze6 rfl ?_|refine Ze7 rfl ?_|refine Ze8 rfl ?_|refine Ze9 rfl ?_|refine Zfa rfl rfl ?_|refine Zfb rfl rfl ?_|refine Zfc rfl rfl ?_|refine Ze2 ?_|refine Ze3 ?_
    exact ⟨by simp [hG, HostS.there], rfl⟩
  · repeat (first|(refine Zd1 ?_; first|refine Zcx ?_|(refine Zd3 ?_; first|refine Zc0 rfl ?_|refine Zc1 rfl ?_|refine Zc2 rfl ?_)|refine Zcz (by first|exact Zat rfl|exact Zav rfl|exact Zaw rfl|exact Zaz rfl|exact Za2 rfl|exact Za1 rfl|exact Zau rfl|exact Za0 rfl|exact Zba rfl|exact Zce rfl (by omega)|exact Zbn rfl rfl|exact Zbr rfl rfl|exact Zbs rfl rfl|exact Zbq rfl rfl|exact Zbp rfl rfl|exact Zbo rfl rfl|exact Zcr rfl|exact Zbg rfl rfl (by omega)|exact Zbh rfl rfl (by omega)|exact Zbi rfl rfl (by omega)|exact Zco rfl rfl|exact Zdz rfl rfl|exact Zd0 rfl rfl|exact Za8 rfl rfl|exact Za9 rfl rfl|exact Za6 rfl rfl|exact Za7 rfl rfl|exact Zb1 rfl|exact Zca rfl rfl|exact Zcb rfl rfl|exact Zcv rfl rfl|exact Zcw rfl rfl|exact Zax rfl|exact Za3 rfl|exact Zay rfl|exact Zcl rfl rfl|exact Zb0 rfl|exact Zct|exact Zf3|exact Zar rfl|exact Zas rfl) ?_|(refine Zd4 ?_; refine Zc5 H rfl (by repeat constructor) rfl ?_)|(refine Zd5 ?_; (first|refine Zdb H rfl rfl (by repeat constructor) (by first|(simp only [wr_size, Array.size_setIfInBounds, List.size_toArray, List.length_cons, List.length_nil]; omega)|omega|(simp; done)|(simp; omega)) ?_|refine Zde H rfl rfl (by repeat constructor) (by first|(simp only [wr_size, Array.size_setIfInBounds, List.size_toArray, List.length_cons, List.length_nil]; omega)|omega|(simp; done)|(simp; omega)) ?_|refine Zdd H rfl rfl (by repeat constructor) (by first|(simp only [wr_size, Array.size_setIfInBounds, List.size_toArray, List.length_cons, List.length_nil]; omega)|omega|(simp; done)|(simp; omega)) ?_|refine Zdc H rfl rfl (by repeat constructor) (by first|(simp only [wr_size, Array.size_setIfInBounds, List.size_toArray, List.length_cons, List.length_nil]; omega)|omega|(simp; done)|(simp; omega)) ?_|refine Zda H rfl rfl rfl (by repeat constructor) (by first|(simp only [wr_size, Array.size_setIfInBounds, List.size_toArray, List.length_cons, List.length_nil]; omega)|omega|(simp; done)|(simp; omega)) ?_); clear H; intro w H))|(refine Zd6 ?_; first|refine Zd9 ?_|refine Zeb ?_|refine Zeh ?_|refine Zef ?_|refine Zed ?_|refine Zec ?_|refine Zee ?_|refine Zeg ?_|(refine Zd7 ?_; first|refine Zao rfl ?_|refine Zap rfl ?_))|(first|refine Zei ?_|refine Zej ?_|refine Zek ?_|refine Zel ?_|refine Zen ?_|refine Zem ?_|refine Zeo rfl ?_|refine Zep ?_|refine Zeq ?_|refine Zes ?_|refine Zet ?_))
    first|refine Ze6 rfl ?_|refine Ze7 rfl ?_|refine Ze8 rfl ?_|refine Ze9 rfl ?_|refine Zfa rfl rfl ?_|refine Zfb rfl rfl ?_|refine Zfc rfl rfl ?_|refine Ze2 ?_|refine Ze3 ?_
    exact ⟨by simp [hG, HostS.there], rfl⟩

theorem back_end {p bl bc b : Nat} {logv : Value} {s : HostS.HS} {w0 w : World} {L : List Asrt} {page : Int} {vs : List Value} {a : Option Addr} {k : Nat} {x : HostS.Bytes} (hs : HostS.Ok s) (hvl : vs.length = (s.lay page).length) (hv1 : vs.all oneC = true) (hx : x.length = s.size)
    (H : St w0 w (cl b (x.map u8b).toArray 5 :: own 37 1 (.slice a (s.lay page).length k) (s.lay page).length vs :: rowsB vs (s.lay page) :: ohole bl rowsA [] s.lay page (.slice a (s.lay page).length k) :: hostB p bl bc logv s :: omap bc faultsA [] s.coming :: logA logv s.log :: L)) :
    St w0 w (bytesA (.slice (some ⟨b, 0, none⟩) s.size s.size) x :: hostA p s :: L) := by
  have hz1 := hs.z1
  have H1 := (H.arr (M := own 37 1 (.slice a (s.lay page).length k) (s.lay page).length vs :: rowsB vs (s.lay page) :: ohole bl rowsA [] s.lay page (.slice a (s.lay page).length k) :: hostB p bl bc logv s :: omap bc faultsA [] s.coming :: logA logv s.log :: cl b (x.map u8b).toArray 5 :: L) (by repeat (first|exact Arr.nil|exact Arr.stop|refine Arr.cons (by repeat constructor) ?_|refine Arr.skip ?_)))
  have H2 := St.ex_mk (F := fun vs : List Value => all [pur (vs.length = (s.lay page).length ∧ vs.all oneC = true), own 37 1 (.slice a (s.lay page).length k) (s.lay page).length vs, rowsB vs (s.lay page)]) vs (St.all_mk _ (H1.pur_mk ⟨hvl, hv1⟩))
  have H3 := St.omap_close (A := rowsA) (d := []) (f := s.lay) (k := page) H2
  have H4 := St.host_mk (p := p) hs (H3.arr (M := hostB p bl bc logv s :: omap bl rowsA [] s.lay :: omap bc faultsA [] s.coming :: logA logv s.log :: cl b (x.map u8b).toArray 5 :: L) (by repeat (first|exact Arr.nil|exact Arr.stop|refine Arr.cons (by repeat constructor) ?_|refine Arr.skip ?_)))
  have H5 := St.own_full (n := s.size) (size := 1) H4.swap (by omega) (by simp [hx])
  unfold bytesA
  rw [hx]
  exact H5

theorem back_c {p : Nat} {s : HostS.HS} {w0 w : World} {L : List Asrt} (page writes : Int) (hw : -9223372036854775808 ≤ writes ∧ writes ≤ 9223372036854775807) (hops : s.ops ≤ 3298534883328) (H : St w0 w (hostA p s :: L)) :
    Calls Try.prog 31 #[.pointer (some ⟨p, 0, none⟩), .int .i64 page, .int .i64 writes] w (Ret fun v w' => ∃ a k, v = .slice a s.size k ∧ St w0 w' (bytesA v (HostS.back s page writes) :: hostA p s :: L)) := by
  obtain ⟨bl, bc, logv, hs, H⟩ := H.host_get
  obtain ⟨v, H⟩ := ((H.pick (.there .here)).omap_open rows_nil page)
  obtain ⟨vs, H⟩ := H.ex_get
  have H := H.all_get
  simp only [List.cons_append, List.nil_append] at H
  obtain ⟨hvl, hv1⟩ := H.pur_get
  have H := H.drop
  obtain ⟨a, k, rfl⟩ := H.own_sl.len
  have hm := hs.many page
  have hz0 := hs.z0
  have hz1 := hs.z1
  unfold hostB at H
  refine calls_den [_, _, _] Try.func31 rfl rfl rfl Try.mixed (by kernel_rfl) ?_
  repeat (first|(refine Zd1 ?_; first|refine Zcx ?_|(refine Zd3 ?_; first|refine Zc0 rfl ?_|refine Zc1 rfl ?_|refine Zc2 rfl ?_)|refine Zcz (by first|exact Zat rfl|exact Zav rfl|exact Zaw rfl|exact Zaz rfl|exact Za2 rfl|exact Za1 rfl|exact Zau rfl|exact Za0 rfl|exact Zba rfl|exact Zce rfl (by omega)|exact Zbn rfl rfl|exact Zbr rfl rfl|exact Zbs rfl rfl|exact Zbq rfl rfl|exact Zbp rfl rfl|exact Zbo rfl rfl|exact Zcr rfl|exact Zbg rfl rfl (by omega)|exact Zbh rfl rfl (by omega)|exact Zbi rfl rfl (by omega)|exact Zco rfl rfl|exact Zdz rfl rfl|exact Zd0 rfl rfl|exact Za8 rfl rfl|exact Za9 rfl rfl|exact Za6 rfl rfl|exact Za7 rfl rfl|exact Zb1 rfl|exact Zca rfl rfl|exact Zcb rfl rfl|exact Zcv rfl rfl|exact Zcw rfl rfl|exact Zax rfl|exact Za3 rfl|exact Zay rfl|exact Zcl rfl rfl|exact Zb0 rfl|exact Zct|exact Zf3|exact Zar rfl|exact Zas rfl) ?_|(refine Zd4 ?_; refine Zc5 H rfl (by repeat constructor) rfl ?_)|(refine Zd5 ?_; (first|refine Zdb H rfl rfl (by repeat constructor) (by first|(simp only [wr_size, Array.size_setIfInBounds, List.size_toArray, List.length_cons, List.length_nil]; omega)|omega|(simp; done)|(simp; omega)) ?_|refine Zde H rfl rfl (by repeat constructor) (by first|(simp only [wr_size, Array.size_setIfInBounds, List.size_toArray, List.length_cons, List.length_nil]; omega)|omega|(simp; done)|(simp; omega)) ?_|refine Zdd H rfl rfl (by repeat constructor) (by first|(simp only [wr_size, Array.size_setIfInBounds, List.size_toArray, List.length_cons, List.length_nil]; omega)|omega|(simp; done)|(simp; omega)) ?_|refine Zdc H rfl rfl (by repeat constructor) (by first|(simp only [wr_size, Array.size_setIfInBounds, List.size_toArray, List.length_cons, List.length_nil]; omega)|omega|(simp; done)|(simp; omega)) ?_|refine Zda H rfl rfl rfl (by repeat constructor) (by first|(simp only [wr_size, Array.size_setIfInBounds, List.size_toArray, List.length_cons, List.length_nil]; omega)|omega|(simp; done)|(simp; omega)) ?_); clear H; intro w H))|(refine Zd6 ?_; first|refine Zd9 ?_|refine Zeb ?_|refine Zeh ?_|refine Zef ?_|refine Zed ?_|refine Zec ?_|refine Zee ?_|refine Zeg ?_|(refine Zd7 ?_; first|refine Zao rfl ?_|refine Zap rfl ?_))|(first|refine Zei ?_|refine Zej ?_|refine Zek ?_|refine Zel ?_|refine Zen ?_|refine Zem ?_|refine Zeo rfl ?_|refine Zep ?_|refine Zeq ?_|refine Zes ?_|refine Zet ?_))
  refine Zdk H rfl rfl (Nat.le_refl _) ?_ ?_ ?_ ?_; (next => omega); (next => omega); (next => omega); clear H; intro w b H
  repeat (first|(refine Zd1 ?_; first|refine Zcx ?_|(refine Zd3 ?_; first|refine Zc0 rfl ?_|refine Zc1 rfl ?_|refine Zc2 rfl ?_)|refine Zcz (by first|exact Zat rfl|exact Zav rfl|exact Zaw rfl|exact Zaz rfl|exact Za2 rfl|exact Za1 rfl|exact Zau rfl|exact Za0 rfl|exact Zba rfl|exact Zce rfl (by omega)|exact Zbn rfl rfl|exact Zbr rfl rfl|exact Zbs rfl rfl|exact Zbq rfl rfl|exact Zbp rfl rfl|exact Zbo rfl rfl|exact Zcr rfl|exact Zbg rfl rfl (by omega)|exact Zbh rfl rfl (by omega)|exact Zbi rfl rfl (by omega)|exact Zco rfl rfl|exact Zdz rfl rfl|exact Zd0 rfl rfl|exact Za8 rfl rfl|exact Za9 rfl rfl|exact Za6 rfl rfl|exact Za7 rfl rfl|exact Zb1 rfl|exact Zca rfl rfl|exact Zcb rfl rfl|exact Zcv rfl rfl|exact Zcw rfl rfl|exact Zax rfl|exact Za3 rfl|exact Zay rfl|exact Zcl rfl rfl|exact Zb0 rfl|exact Zct|exact Zf3|exact Zar rfl|exact Zas rfl) ?_|(refine Zd4 ?_; refine Zc5 H rfl (by repeat constructor) rfl ?_)|(refine Zd5 ?_; (first|refine Zdb H rfl rfl (by repeat constructor) (by first|(simp only [wr_size, Array.size_setIfInBounds, List.size_toArray, List.length_cons, List.length_nil]; omega)|omega|(simp; done)|(simp; omega)) ?_|refine Zde H rfl rfl (by repeat constructor) (by first|(simp only [wr_size, Array.size_setIfInBounds, List.size_toArray, List.length_cons, List.length_nil]; omega)|omega|(simp; done)|(simp; omega)) ?_|refine Zdd H rfl rfl (by repeat constructor) (by first|(simp only [wr_size, Array.size_setIfInBounds, List.size_toArray, List.length_cons, List.length_nil]; omega)|omega|(simp; done)|(simp; omega)) ?_|refine Zdc H rfl rfl (by repeat constructor) (by first|(simp only [wr_size, Array.size_setIfInBounds, List.size_toArray, List.length_cons, List.length_nil]; omega)|omega|(simp; done)|(simp; omega)) ?_|refine Zda H rfl rfl rfl (by repeat constructor) (by first|(simp only [wr_size, Array.size_setIfInBounds, List.size_toArray, List.length_cons, List.length_nil]; omega)|omega|(simp; done)|(simp; omega)) ?_); clear H; intro w H))|(refine Zd6 ?_; first|refine Zd9 ?_|refine Zeb ?_|refine Zeh ?_|refine Zef ?_|refine Zed ?_|refine Zec ?_|refine Zee ?_|refine Zeg ?_|(refine Zd7 ?_; first|refine Zao rfl ?_|refine Zap rfl ?_))|(first|refine Zei ?_|refine Zej ?_|refine Zek ?_|refine Zel ?_|refine Zen ?_|refine Zem ?_|refine Zeo rfl ?_|refine Zep ?_|refine Zeq ?_|refine Zes ?_|refine Zet ?_))
  refine Zfm H rfl rfl (by repeat constructor) ?_
  repeat (first|(refine Zd1 ?_; first|refine Zcx ?_|(refine Zd3 ?_; first|refine Zc0 rfl ?_|refine Zc1 rfl ?_|refine Zc2 rfl ?_)|refine Zcz (by first|exact Zat rfl|exact Zav rfl|exact Zaw rfl|exact Zaz rfl|exact Za2 rfl|exact Za1 rfl|exact Zau rfl|exact Za0 rfl|exact Zba rfl|exact Zce rfl (by omega)|exact Zbn rfl rfl|exact Zbr rfl rfl|exact Zbs rfl rfl|exact Zbq rfl rfl|exact Zbp rfl rfl|exact Zbo rfl rfl|exact Zcr rfl|exact Zbg rfl rfl (by omega)|exact Zbh rfl rfl (by omega)|exact Zbi rfl rfl (by omega)|exact Zco rfl rfl|exact Zdz rfl rfl|exact Zd0 rfl rfl|exact Za8 rfl rfl|exact Za9 rfl rfl|exact Za6 rfl rfl|exact Za7 rfl rfl|exact Zb1 rfl|exact Zca rfl rfl|exact Zcb rfl rfl|exact Zcv rfl rfl|exact Zcw rfl rfl|exact Zax rfl|exact Za3 rfl|exact Zay rfl|exact Zcl rfl rfl|exact Zb0 rfl|exact Zct|exact Zf3|exact Zar rfl|exact Zas rfl) ?_|(refine Zd4 ?_; refine Zc5 H rfl (by repeat constructor) rfl ?_)|(refine Zd5 ?_; (first|refine Zdb H rfl rfl (by repeat constructor) (by first|(simp only [wr_size, Array.size_setIfInBounds, List.size_toArray, List.length_cons, List.length_nil]; omega)|omega|(simp; done)|(simp; omega)) ?_|refine Zde H rfl rfl (by repeat constructor) (by first|(simp only [wr_size, Array.size_setIfInBounds, List.size_toArray, List.length_cons, List.length_nil]; omega)|omega|(simp; done)|(simp; omega)) ?_|refine Zdd H rfl rfl (by repeat constructor) (by first|(simp only [wr_size, Array.size_setIfInBounds, List.size_toArray, List.length_cons, List.length_nil]; omega)|omega|(simp; done)|(simp; omega)) ?_|refine Zdc H rfl rfl (by repeat constructor) (by first|(simp only [wr_size, Array.size_setIfInBounds, List.size_toArray, List.length_cons, List.length_nil]; omega)|omega|(simp; done)|(simp; omega)) ?_|refine Zda H rfl rfl rfl (by repeat constructor) (by first|(simp only [wr_size, Array.size_setIfInBounds, List.size_toArray, List.length_cons, List.length_nil]; omega)|omega|(simp; done)|(simp; omega)) ?_); clear H; intro w H))|(refine Zd6 ?_; first|refine Zd9 ?_|refine Zeb ?_|refine Zeh ?_|refine Zef ?_|refine Zed ?_|refine Zec ?_|refine Zee ?_|refine Zeg ?_|(refine Zd7 ?_; first|refine Zao rfl ?_|refine Zap rfl ?_))|(first|refine Zei ?_|refine Zej ?_|refine Zek ?_|refine Zel ?_|refine Zen ?_|refine Zem ?_|refine Zeo rfl ?_|refine Zep ?_|refine Zeq ?_|refine Zes ?_|refine Zet ?_))
  refine Zd8 ?_
  repeat (first|(refine Zd1 ?_; first|refine Zcx ?_|(refine Zd3 ?_; first|refine Zc0 rfl ?_|refine Zc1 rfl ?_|refine Zc2 rfl ?_)|refine Zcz (by first|exact Zat rfl|exact Zav rfl|exact Zaw rfl|exact Zaz rfl|exact Za2 rfl|exact Za1 rfl|exact Zau rfl|exact Za0 rfl|exact Zba rfl|exact Zce rfl (by omega)|exact Zbn rfl rfl|exact Zbr rfl rfl|exact Zbs rfl rfl|exact Zbq rfl rfl|exact Zbp rfl rfl|exact Zbo rfl rfl|exact Zcr rfl|exact Zbg rfl rfl (by omega)|exact Zbh rfl rfl (by omega)|exact Zbi rfl rfl (by omega)|exact Zco rfl rfl|exact Zdz rfl rfl|exact Zd0 rfl rfl|exact Za8 rfl rfl|exact Za9 rfl rfl|exact Za6 rfl rfl|exact Za7 rfl rfl|exact Zb1 rfl|exact Zca rfl rfl|exact Zcb rfl rfl|exact Zcv rfl rfl|exact Zcw rfl rfl|exact Zax rfl|exact Za3 rfl|exact Zay rfl|exact Zcl rfl rfl|exact Zb0 rfl|exact Zct|exact Zf3|exact Zar rfl|exact Zas rfl) ?_|(refine Zd4 ?_; refine Zc5 H rfl (by repeat constructor) rfl ?_)|(refine Zd5 ?_; (first|refine Zdb H rfl rfl (by repeat constructor) (by first|(simp only [wr_size, Array.size_setIfInBounds, List.size_toArray, List.length_cons, List.length_nil]; omega)|omega|(simp; done)|(simp; omega)) ?_|refine Zde H rfl rfl (by repeat constructor) (by first|(simp only [wr_size, Array.size_setIfInBounds, List.size_toArray, List.length_cons, List.length_nil]; omega)|omega|(simp; done)|(simp; omega)) ?_|refine Zdd H rfl rfl (by repeat constructor) (by first|(simp only [wr_size, Array.size_setIfInBounds, List.size_toArray, List.length_cons, List.length_nil]; omega)|omega|(simp; done)|(simp; omega)) ?_|refine Zdc H rfl rfl (by repeat constructor) (by first|(simp only [wr_size, Array.size_setIfInBounds, List.size_toArray, List.length_cons, List.length_nil]; omega)|omega|(simp; done)|(simp; omega)) ?_|refine Zda H rfl rfl rfl (by repeat constructor) (by first|(simp only [wr_size, Array.size_setIfInBounds, List.size_toArray, List.length_cons, List.length_nil]; omega)|omega|(simp; done)|(simp; omega)) ?_); clear H; intro w H))|(refine Zd6 ?_; first|refine Zd9 ?_|refine Zeb ?_|refine Zeh ?_|refine Zef ?_|refine Zed ?_|refine Zec ?_|refine Zee ?_|refine Zeg ?_|(refine Zd7 ?_; first|refine Zao rfl ?_|refine Zap rfl ?_))|(first|refine Zei ?_|refine Zej ?_|refine Zek ?_|refine Zel ?_|refine Zen ?_|refine Zem ?_|refine Zeo rfl ?_|refine Zep ?_|refine Zeq ?_|refine Zes ?_|refine Zet ?_))
  refine Zaq rfl (fun hB => ?_) (fun hB => ?_)
  · have hat : 0 ≤ (((s.lay page).length : Int) - 1 - max writes 0) ∧ (((s.lay page).length : Int) - 1 - max writes 0).toNat < (s.lay page).length := by omega
    obtain ⟨xb, xo, xk, xc, xE, xfr, hxv, hxb, hxs, hxe⟩ := (H.pick (.there .here)).own_sl.elem1 (by omega)
    simp only [Value.slice.injEq] at hxv
    obtain ⟨rfl, _, rfl⟩ := hxv
    obtain ⟨v, hvi, hsl⟩ := (H.pick (.there (.there .here))).rows_sl hvl _ hat.2
    have hrow : ((s.lay page).getD (((s.lay page).length : Int) - 1 - max writes 0).toNat []).length = s.size := by
      have : (s.lay page).getD (((s.lay page).length : Int) - 1 - max writes 0).toNat [] = (s.lay page)[(((s.lay page).length : Int) - 1 - max writes 0).toNat]'hat.2 := by simp [hat.2]
      rw [this]; exact hs.row page _ (List.getElem_mem _)
    have hbk : HostS.back s page writes = (s.lay page).getD (((s.lay page).length : Int) - 1 - max writes 0).toNat [] := by simp only [HostS.back]; rw [if_pos hat.1]
    rw [← hbk] at hsl hrow
    repeat (first|(refine Zd1 ?_; first|refine Zcx ?_|(refine Zd3 ?_; first|refine Zc0 rfl ?_|refine Zc1 rfl ?_|refine Zc2 rfl ?_)|refine Zcz (by first|exact Zat rfl|exact Zav rfl|exact Zaw rfl|exact Zaz rfl|exact Za2 rfl|exact Za1 rfl|exact Zau rfl|exact Za0 rfl|exact Zba rfl|exact Zce rfl (by omega)|exact Zbn rfl rfl|exact Zbr rfl rfl|exact Zbs rfl rfl|exact Zbq rfl rfl|exact Zbp rfl rfl|exact Zbo rfl rfl|exact Zcr rfl|exact Zbg rfl rfl (by omega)|exact Zbh rfl rfl (by omega)|exact Zbi rfl rfl (by omega)|exact Zco rfl rfl|exact Zdz rfl rfl|exact Zd0 rfl rfl|exact Za8 rfl rfl|exact Za9 rfl rfl|exact Za6 rfl rfl|exact Za7 rfl rfl|exact Zb1 rfl|exact Zca rfl rfl|exact Zcb rfl rfl|exact Zcv rfl rfl|exact Zcw rfl rfl|exact Zax rfl|exact Za3 rfl|exact Zay rfl|exact Zcl rfl rfl|exact Zb0 rfl|exact Zct|exact Zf3|exact Zar rfl|exact Zas rfl) ?_|(refine Zd4 ?_; refine Zc5 H rfl (by repeat constructor) rfl ?_)|(refine Zd5 ?_; (first|refine Zdb H rfl rfl (by repeat constructor) (by first|(simp only [wr_size, Array.size_setIfInBounds, List.size_toArray, List.length_cons, List.length_nil]; omega)|omega|(simp; done)|(simp; omega)) ?_|refine Zde H rfl rfl (by repeat constructor) (by first|(simp only [wr_size, Array.size_setIfInBounds, List.size_toArray, List.length_cons, List.length_nil]; omega)|omega|(simp; done)|(simp; omega)) ?_|refine Zdd H rfl rfl (by repeat constructor) (by first|(simp only [wr_size, Array.size_setIfInBounds, List.size_toArray, List.length_cons, List.length_nil]; omega)|omega|(simp; done)|(simp; omega)) ?_|refine Zdc H rfl rfl (by repeat constructor) (by first|(simp only [wr_size, Array.size_setIfInBounds, List.size_toArray, List.length_cons, List.length_nil]; omega)|omega|(simp; done)|(simp; omega)) ?_|refine Zda H rfl rfl rfl (by repeat constructor) (by first|(simp only [wr_size, Array.size_setIfInBounds, List.size_toArray, List.length_cons, List.length_nil]; omega)|omega|(simp; done)|(simp; omega)) ?_); clear H; intro w H))|(refine Zd6 ?_; first|refine Zd9 ?_|refine Zeb ?_|refine Zeh ?_|refine Zef ?_|refine Zed ?_|refine Zec ?_|refine Zee ?_|refine Zeg ?_|(refine Zd7 ?_; first|refine Zao rfl ?_|refine Zap rfl ?_))|(first|refine Zei ?_|refine Zej ?_|refine Zek ?_|refine Zel ?_|refine Zen ?_|refine Zem ?_|refine Zeo rfl ?_|refine Zep ?_|refine Zeq ?_|refine Zes ?_|refine Zet ?_))
    refine Zcz (Zfq rfl rfl (by omega)) ?_
    refine Zfs rfl hxb ((hxe _ hat.2).trans hvi) ?_
    refine Zfv H rfl rfl hsl Repl.here (by simp [Value.cells]) (u8_one _) rfl ?_; clear H; intro w H
    repeat (first|(refine Zd1 ?_; first|refine Zcx ?_|(refine Zd3 ?_; first|refine Zc0 rfl ?_|refine Zc1 rfl ?_|refine Zc2 rfl ?_)|refine Zcz (by first|exact Zat rfl|exact Zav rfl|exact Zaw rfl|exact Zaz rfl|exact Za2 rfl|exact Za1 rfl|exact Zau rfl|exact Za0 rfl|exact Zba rfl|exact Zce rfl (by omega)|exact Zbn rfl rfl|exact Zbr rfl rfl|exact Zbs rfl rfl|exact Zbq rfl rfl|exact Zbp rfl rfl|exact Zbo rfl rfl|exact Zcr rfl|exact Zbg rfl rfl (by omega)|exact Zbh rfl rfl (by omega)|exact Zbi rfl rfl (by omega)|exact Zco rfl rfl|exact Zdz rfl rfl|exact Zd0 rfl rfl|exact Za8 rfl rfl|exact Za9 rfl rfl|exact Za6 rfl rfl|exact Za7 rfl rfl|exact Zb1 rfl|exact Zca rfl rfl|exact Zcb rfl rfl|exact Zcv rfl rfl|exact Zcw rfl rfl|exact Zax rfl|exact Za3 rfl|exact Zay rfl|exact Zcl rfl rfl|exact Zb0 rfl|exact Zct|exact Zf3|exact Zar rfl|exact Zas rfl) ?_|(refine Zd4 ?_; refine Zc5 H rfl (by repeat constructor) rfl ?_)|(refine Zd5 ?_; (first|refine Zdb H rfl rfl (by repeat constructor) (by first|(simp only [wr_size, Array.size_setIfInBounds, List.size_toArray, List.length_cons, List.length_nil]; omega)|omega|(simp; done)|(simp; omega)) ?_|refine Zde H rfl rfl (by repeat constructor) (by first|(simp only [wr_size, Array.size_setIfInBounds, List.size_toArray, List.length_cons, List.length_nil]; omega)|omega|(simp; done)|(simp; omega)) ?_|refine Zdd H rfl rfl (by repeat constructor) (by first|(simp only [wr_size, Array.size_setIfInBounds, List.size_toArray, List.length_cons, List.length_nil]; omega)|omega|(simp; done)|(simp; omega)) ?_|refine Zdc H rfl rfl (by repeat constructor) (by first|(simp only [wr_size, Array.size_setIfInBounds, List.size_toArray, List.length_cons, List.length_nil]; omega)|omega|(simp; done)|(simp; omega)) ?_|refine Zda H rfl rfl rfl (by repeat constructor) (by first|(simp only [wr_size, Array.size_setIfInBounds, List.size_toArray, List.length_cons, List.length_nil]; omega)|omega|(simp; done)|(simp; omega)) ?_); clear H; intro w H))|(refine Zd6 ?_; first|refine Zd9 ?_|refine Zeb ?_|refine Zeh ?_|refine Zef ?_|refine Zed ?_|refine Zec ?_|refine Zee ?_|refine Zeg ?_|(refine Zd7 ?_; first|refine Zao rfl ?_|refine Zap rfl ?_))|(first|refine Zei ?_|refine Zej ?_|refine Zek ?_|refine Zel ?_|refine Zen ?_|refine Zem ?_|refine Zeo rfl ?_|refine Zep ?_|refine Zeq ?_|refine Zes ?_|refine Zet ?_))
    first|refine Ze6 rfl ?_|refine Ze7 rfl ?_|refine Ze8 rfl ?_|refine Ze9 rfl ?_|refine Zfa rfl rfl ?_|refine Zfb rfl rfl ?_|refine Zfc rfl rfl ?_|refine Ze2 ?_|refine Ze3 ?_
    refine ⟨_, _, rfl, ?_⟩
    have hcs : wr (List.replicate s.size (Value.int IntKind.u8 0).cells.toList).flatten.toArray 0 (((HostS.back s page writes).map u8b).take (min (HostS.back s page writes).length s.size * 1)) = ((HostS.back s page writes).map u8b).toArray := by
      rw [hrow, Nat.min_self, Nat.mul_one, List.take_of_length_le (by simp [hrow])]
      exact wr_all ((HostS.back s page writes).map u8b).toArray _ (by simp [hrow, Value.cells])
    rw [hcs] at H
    exact back_end hs hvl hv1 hrow H
  · repeat (first|(refine Zd1 ?_; first|refine Zcx ?_|(refine Zd3 ?_; first|refine Zc0 rfl ?_|refine Zc1 rfl ?_|refine Zc2 rfl ?_)|refine Zcz (by first|exact Zat rfl|exact Zav rfl|exact Zaw rfl|exact Zaz rfl|exact Za2 rfl|exact Za1 rfl|exact Zau rfl|exact Za0 rfl|exact Zba rfl|exact Zce rfl (by omega)|exact Zbn rfl rfl|exact Zbr rfl rfl|exact Zbs rfl rfl|exact Zbq rfl rfl|exact Zbp rfl rfl|exact Zbo rfl rfl|exact Zcr rfl|exact Zbg rfl rfl (by omega)|exact Zbh rfl rfl (by omega)|exact Zbi rfl rfl (by omega)|exact Zco rfl rfl|exact Zdz rfl rfl|exact Zd0 rfl rfl|exact Za8 rfl rfl|exact Za9 rfl rfl|exact Za6 rfl rfl|exact Za7 rfl rfl|exact Zb1 rfl|exact Zca rfl rfl|exact Zcb rfl rfl|exact Zcv rfl rfl|exact Zcw rfl rfl|exact Zax rfl|exact Za3 rfl|exact Zay rfl|exact Zcl rfl rfl|exact Zb0 rfl|exact Zct|exact Zf3|exact Zar rfl|exact Zas rfl) ?_|(refine Zd4 ?_; refine Zc5 H rfl (by repeat constructor) rfl ?_)|(refine Zd5 ?_; (first|refine Zdb H rfl rfl (by repeat constructor) (by first|(simp only [wr_size, Array.size_setIfInBounds, List.size_toArray, List.length_cons, List.length_nil]; omega)|omega|(simp; done)|(simp; omega)) ?_|refine Zde H rfl rfl (by repeat constructor) (by first|(simp only [wr_size, Array.size_setIfInBounds, List.size_toArray, List.length_cons, List.length_nil]; omega)|omega|(simp; done)|(simp; omega)) ?_|refine Zdd H rfl rfl (by repeat constructor) (by first|(simp only [wr_size, Array.size_setIfInBounds, List.size_toArray, List.length_cons, List.length_nil]; omega)|omega|(simp; done)|(simp; omega)) ?_|refine Zdc H rfl rfl (by repeat constructor) (by first|(simp only [wr_size, Array.size_setIfInBounds, List.size_toArray, List.length_cons, List.length_nil]; omega)|omega|(simp; done)|(simp; omega)) ?_|refine Zda H rfl rfl rfl (by repeat constructor) (by first|(simp only [wr_size, Array.size_setIfInBounds, List.size_toArray, List.length_cons, List.length_nil]; omega)|omega|(simp; done)|(simp; omega)) ?_); clear H; intro w H))|(refine Zd6 ?_; first|refine Zd9 ?_|refine Zeb ?_|refine Zeh ?_|refine Zef ?_|refine Zed ?_|refine Zec ?_|refine Zee ?_|refine Zeg ?_|(refine Zd7 ?_; first|refine Zao rfl ?_|refine Zap rfl ?_))|(first|refine Zei ?_|refine Zej ?_|refine Zek ?_|refine Zel ?_|refine Zen ?_|refine Zem ?_|refine Zeo rfl ?_|refine Zep ?_|refine Zeq ?_|refine Zes ?_|refine Zet ?_))
    first|refine Ze6 rfl ?_|refine Ze7 rfl ?_|refine Ze8 rfl ?_|refine Ze9 rfl ?_|refine Zfa rfl rfl ?_|refine Zfb rfl rfl ?_|refine Zfc rfl rfl ?_|refine Ze2 ?_|refine Ze3 ?_
    refine ⟨_, _, rfl, ?_⟩
    have hbk : HostS.back s page writes = List.replicate s.size 0#8 := by simp only [HostS.back]; rw [if_neg hB]
    have hrow : (HostS.back s page writes).length = s.size := by rw [hbk]; simp
    have hcs : (List.replicate s.size (Value.int IntKind.u8 0).cells.toList).flatten.toArray = ((HostS.back s page writes).map u8b).toArray := by
      rw [hbk]; apply Array.ext'; simp [Value.cells, List.map_replicate]
    rw [hcs] at H
    exact back_end hs hvl hv1 hrow H
end Go.Sl
