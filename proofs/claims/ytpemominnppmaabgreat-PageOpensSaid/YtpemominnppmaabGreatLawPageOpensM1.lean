/- Parts of the proof, joined: EngS, EngT, EngU, EngV, EngW, EngY, EngZ, EngL, Ty, TyB, EngX, EngJ, StrS, OctA, OctB, OctC. -/
import Derived.Test.YtpemominnppmaabGreatLawPageOpensM0
import Derived.Laws.Bits64
import Derived.Laws.BitsLemmas
import Derived.Laws.BitsAllLaws
import Derived.OpenShut
import Derived.Test.YtpemominnppmaabGreatProg
/- The engine over pieces alone: a state is an environment and a list of pieces; each rule holds whatever else stands in memory. -/
set_option linter.unusedVariables false
set_option linter.unusedSimpArgs false
namespace Go.Sl
open Go

/-- What the first list says, the second one says. -/
def Imp (M N : List Asrt) : Prop := ∀ h, SatF M h → SatF N h
theorem Imp.refl (M : List Asrt) : Imp M M := fun _ h => h
theorem Imp.trans {A B C : List Asrt} (h : Imp A B) (h' : Imp B C) : Imp A C := fun f x => h' f (h f x)
theorem Imp.arr {M N : List Asrt} (h : Arr M N) : Imp M N := fun _ hs => h.sat hs
theorem Imp.has {M N : List Asrt} {A : Asrt} (h : Has M A N) : Imp M (A :: N) := fun _ hs => h.front hs
theorem Imp.unhas {M N : List Asrt} {A : Asrt} (h : Has M A N) : Imp (A :: N) M := fun _ hs => h.back hs
theorem Imp.cons {M N : List Asrt} {A : Asrt} (h : Imp M N) : Imp (A :: M) (A :: N) := fun _ hs => hs.imp h
theorem Imp.swap {M : List Asrt} {A B : Asrt} : Imp (A :: B :: M) (B :: A :: M) := fun _ hs => hs.swap
theorem Imp.head {M : List Asrt} {A B : Asrt} (h : ∀ f, A.on f → B.on f) : Imp (A :: M) (B :: M) := fun _ hs => hs.head h
theorem Imp.tail {M : List Asrt} {A : Asrt} : Imp (A :: M) M := fun _ hs => hs.tail
theorem Imp.app {L M : List Asrt} : Imp (L ++ M) (all L :: M) := fun _ hs => hs.app
theorem Imp.unapp {L M : List Asrt} : Imp (all L :: M) (L ++ M) := fun _ hs => hs.unapp
theorem Imp.left {L M N : List Asrt} (h : Imp M N) : Imp (L ++ M) (L ++ N) := by
  induction L with
  | nil => exact h
  | cons A L ih => exact ih.cons
theorem Imp.comm {L M : List Asrt} : Imp (L ++ M) (M ++ L) := by
  have h1 : Imp (L ++ M) (all L :: M) := Imp.app
  have h2 : Imp (all L :: M) (all L :: all M :: []) := Imp.cons (by have := Imp.app (L := M) (M := []); rwa [List.append_nil] at this)
  have h3 : Imp (all M :: all L :: []) (M ++ [all L]) := Imp.unapp
  have h4 : Imp (M ++ [all L]) (M ++ L) := Imp.left (by have := Imp.unapp (L := L) (M := []); rwa [List.append_nil] at this)
  exact h1.trans (h2.trans (Imp.swap.trans (h3.trans h4)))
theorem St.ent {w0 w : World} {M N : List Asrt} (H : St w0 w M) (h : Imp M N) : St w0 w N := H.imp h
theorem St.enx {w0 w : World} {F : Asrt} {M N : List Asrt} (H : St w0 w (F :: M)) (h : Imp M N) : St w0 w (F :: N) := H.imp h.cons

/-- The list holds these; without them the last one. -/
inductive Take : List Asrt → List Asrt → List Asrt → Prop
  | nil {L} : Take L [] L
  | cons {L L' A M R} : Has L A L' → Take L' M R → Take L (A :: M) R
  | all {L} : Take L L []
  | skip {L A M R} : Take L M R → Take (A :: L) M (A :: R)
theorem Take.ent {L M R : List Asrt} (h : Take L M R) : Imp L (M ++ R) := by
  induction h with
  | nil => exact Imp.refl _
  | cons hh _ ih => exact (Imp.has hh).trans ih.cons
  | all => rw [List.append_nil]; exact Imp.refl _
  | @skip L A M R _ ih =>
    refine ih.cons.trans ?_
    have h1 : Imp (A :: (M ++ R)) ((M ++ R) ++ [A]) := Imp.comm (L := [A]) (M := M ++ R)
    rw [List.append_assoc] at h1
    exact h1.trans (Imp.left (Imp.comm (L := R) (M := [A])))
inductive App : List Asrt → List Asrt → List Asrt → Prop
  | nil {R} : App [] R R
  | cons {A M R N} : App M R N → App (A :: M) R (A :: N)
  | flip {M R N} : App R M N → App M R N
  | any {M R} : App M R (M ++ R)
theorem App.imp {M R N : List Asrt} (h : App M R N) : Imp (M ++ R) N := by
  induction h with
  | nil => exact Imp.refl _
  | cons _ ih => exact ih.cons
  | flip _ ih => exact Imp.comm.trans ih
  | any => exact Imp.refl _

abbrev XK := Env → List Asrt → Prop
abbrev XQ := Exit → Env → List Asrt → Prop
def xOps (P : Program) (w0 : World) (ops : Array Oper) (l : List Oper) (ρ : Env) (M : List Asrt) (K : XK) : Prop :=
  ∀ F w, St w0 w (F :: M) → denOps P ops l ρ w (fun ρ' w' => ∃ M', St w0 w' (F :: M') ∧ K ρ' M')
def xC (P : Program) (w0 : World) (c : Code) (ρ : Env) (M : List Asrt) (Q : XQ) : Prop :=
  ∀ F w, St w0 w (F :: M) → den P c ρ w (fun e ρ' w' => ∃ M', St w0 w' (F :: M') ∧ Q e ρ' M')
/-- What a call does: out of the pieces M a value and pieces that meet Φ. -/
def Con (P : Program) (F : FuncId) (args : List Value) (M : List Asrt) (Φ : Value → List Asrt → Prop) : Prop :=
  ∀ w0 Fr w, St w0 w (Fr :: M) → Calls P F args.toArray w (Ret fun v w' => ∃ M', St w0 w' (Fr :: M') ∧ Φ v M')

def xthen (k : XK) (Q : XQ) : XQ := fun e ρ M => match e with|.normal => k ρ M|e => Q e ρ M
def xblk (id : Nat) (Q : XQ) : XQ := fun e ρ M => match e with|.exit id' => if id' = id then Q .normal ρ M else Q (.exit id') ρ M|e => Q e ρ M
def xcut {S : Type} (I : S → Prop) (Mf : S → List Asrt) (U : S → List (Nat × Value)) (Q : XQ) : XQ := fun e ρ M => match e with|.normal => ∃ s, I s ∧ Imp M (Mf s) ∧ Fits ρ (U s)|e => Q e ρ M
def xloop {S : Type} (I : S → Prop) (Mf : S → List Asrt) (U : S → List (Nat × Value)) (μ : S → Nat) (m : Nat) (Q : XQ) : XQ := fun e ρ M => match e with|.normal => ∃ s, μ s < m ∧ I s ∧ Imp M (Mf s) ∧ Fits ρ (U s)|e => Q e ρ M

section code
variable {P : Program} {w0 : World} {x y c : Code} {ρ : Env} {M N : List Asrt} {Q : XQ} {k : XK} {id : Nat}
theorem zA (h : xC P w0 x ρ M (xthen (fun ρ' M' => xC P w0 y ρ' M' Q) Q)) : xC P w0 (.seq x y) ρ M Q := by
  intro F w H
  show den P x ρ w _
  refine Zab x ρ w ?_ (h F w H)
  rintro e ρ' w' ⟨M', H', hq⟩
  cases e <;> first
    | exact hq F w' H'
    | exact ⟨M', H', hq⟩
theorem Zgb {l : List Oper} (h : xOps P w0 l.toArray l ρ M (fun ρ' M' => Q .normal ρ' M')) : xC P w0 (.region id l.toArray false) ρ M Q := fun F w H => h F w H
theorem Zgc {l : List Oper} (h : xOps P w0 l.toArray l ρ M (fun ρ' M' => xC P w0 y ρ' M' Q)) : xC P w0 (.seq (.region id l.toArray false) y) ρ M Q := zA (Zgb h)
theorem zB (h : Q .normal ρ M) : xC P w0 .skip ρ M Q := fun F w H => ⟨M, H, h⟩
theorem Zgd (h : xC P w0 y ρ M Q) : xC P w0 (.seq .skip y) ρ M Q := zA (zB h)
theorem zE (h : Q (.exit id) ρ M) : xC P w0 (.exit id) ρ M Q := fun F w H => ⟨M, H, h⟩
theorem zD (h : Q .normal ρ M) : xC P w0 (.label id) ρ M Q := fun F w H => ⟨M, H, h⟩
theorem zF (h : Q .ret ρ M) : xC P w0 .ret ρ M Q := fun F w H => ⟨M, H, h⟩
theorem zC (h : xC P w0 c ρ M (xblk id Q)) : xC P w0 (.block id c) ρ M Q := by
  intro F w H
  refine Zaj (Zab c ρ w ?_ (h F w H))
  rintro e ρ' w' ⟨M', H', hq⟩
  cases e with
  | exit id' =>
    simp only [xblk] at hq
    show if id' = id then _ else _
    by_cases e : id' = id
    · rw [if_pos e]; rw [if_pos e] at hq; exact ⟨M', H', hq⟩
    · rw [if_neg e]; rw [if_neg e] at hq; exact ⟨M', H', hq⟩
  | _ => exact ⟨M', H', hq⟩
theorem Zge {cc : Operand} (ht : ev ρ cc = .bool true) (h : xC P w0 x ρ M Q) : xC P w0 (.cond cc x y) ρ M Q := fun F w H => Zao ht (h F w H)
theorem Zgf {cc : Operand} (ht : ev ρ cc = .bool false) (h : xC P w0 y ρ M Q) : xC P w0 (.cond cc x y) ρ M Q := fun F w H => Zap ht (h F w H)
theorem Zgg {cc : Operand} {p : Prop} [Decidable p] (ht : ev ρ cc = .bool (decide p)) (h1 : p → xC P w0 x ρ M Q) (h2 : ¬ p → xC P w0 y ρ M Q) : xC P w0 (.cond cc x y) ρ M Q :=
  fun F w H => Zaq ht (fun hp => h1 hp F w H) (fun hp => h2 hp F w H)
theorem Zgh {cc : Operand} {t : Bool} (ht : ev ρ cc = .bool t) (h1 : t = true → xC P w0 x ρ M Q) (h2 : t = false → xC P w0 y ρ M Q) : xC P w0 (.cond cc x y) ρ M Q :=
  fun F w H => Zan ht (fun hp => h1 hp F w H) (fun hp => h2 hp F w H)
/-- The test is known. -/
theorem Zgi {cc : Operand} {t : Bool} (ht : ev ρ cc = .bool t) (e : t = true) (h : xC P w0 x ρ M Q) : xC P w0 (.cond cc x y) ρ M Q := Zge (by rw [ht, e]) h
theorem Zgj {cc : Operand} {t : Bool} (ht : ev ρ cc = .bool t) (e : t = false) (h : xC P w0 y ρ M Q) : xC P w0 (.cond cc x y) ρ M Q := Zgf (by rw [ht, e]) h
theorem zG (h : k ρ M) : xthen k Q .normal ρ M := h
theorem zH (h : Q (.exit id) ρ M) : xthen k Q (.exit id) ρ M := h
theorem zI (h : Q .ret ρ M) : xthen k Q .ret ρ M := h
theorem zJ (h : Q .normal ρ M) : xblk id Q .normal ρ M := h
theorem zL (h : Q .ret ρ M) : xblk id Q .ret ρ M := h
theorem zK (h : Q .normal ρ M) : xblk id Q (.exit id) ρ M := by simp only [xblk, if_true]; exact h
theorem zM {id' : Nat} (hne : Nat.beq id' id = false) (h : Q (.exit id') ρ M) : xblk id Q (.exit id') ρ M := by
  simp only [xblk]
  rw [if_neg (fun e => by rw [e, beq_self] at hne; cases hne)]; exact h
section cuts
variable {S : Type} {I : S → Prop} {Mf : S → List Asrt} {U : S → List (Nat × Value)} {μ : S → Nat} {m : Nat}
theorem zN (h : Q (.exit id) ρ M) : xcut I Mf U Q (.exit id) ρ M := h
theorem zO (h : Q .ret ρ M) : xcut I Mf U Q .ret ρ M := h
theorem Zgk (s : S) (hI : I s) (hM : Imp M (Mf s)) (hf : Fits ρ (U s)) : xcut I Mf U Q .normal ρ M := ⟨s, hI, hM, hf⟩
theorem zP (h : Q (.exit id) ρ M) : xloop I Mf U μ m Q (.exit id) ρ M := h
theorem zQ (h : Q .ret ρ M) : xloop I Mf U μ m Q .ret ρ M := h
theorem Zgl (s : S) (hm : μ s < m) (hI : I s) (hM : Imp M (Mf s)) (hf : Fits ρ (U s)) : xloop I Mf U μ m Q .normal ρ M := ⟨s, hm, hI, hM, hf⟩
end cuts
theorem Zgm {S : Type} (mods : List (Nat × Nat)) (hm : cIn mods x = true) (I : S → Prop) (Mf : S → List Asrt) (U : S → List (Nat × Value))
    (h : xC P w0 x ρ M (xcut I Mf U Q)) (k : ∀ s u, I s → xC P w0 y (over (U s) (patch mods u ρ)) (Mf s) Q) : xC P w0 (.seq x y) ρ M Q := by
  intro F w H
  refine Zae mods hm (fun s w' => I s ∧ St w0 w' (F :: Mf s)) U (Zab x ρ w ?_ (h F w H)) ?_
  · rintro e ρ' w' ⟨M', H', hq⟩
    cases e <;> first
      | exact (let ⟨s, hI, hM, hf⟩ := hq; ⟨s, ⟨hI, H'.enx hM⟩, hf⟩)
      | exact ⟨M', H', hq⟩
  · rintro s w' u ⟨hI, H'⟩
    exact k s u hI F w' H'
theorem Zgn {S : Type} {k : XK} (mods : List (Nat × Nat)) (hm : cIn mods x = true) (I : S → Prop) (Mf : S → List Asrt) (U : S → List (Nat × Value))
    (h : xC P w0 x ρ M (xcut I Mf U Q)) (kk : ∀ s u, I s → k (over (U s) (patch mods u ρ)) (Mf s)) : xC P w0 x ρ M (xthen k Q) := by
  intro F w H
  refine Zab x ρ w ?_ (Zac (mods := mods) x ρ w hm (h F w H))
  rintro e ρ' w' ⟨ha, M', H', hq⟩
  cases e <;> first
    | (obtain ⟨s, hI, hM, hf⟩ := hq
       have hk := kk s ρ' hI
       rw [patch_agree ha, over_fits hf] at hk
       exact ⟨Mf s, H'.enx hM, hk⟩)
    | exact ⟨M', H', hq⟩
theorem Zgo {S : Type} (mods : List (Nat × Nat)) (hm : cIn mods c = true) (I : S → Prop) (Mf : S → List Asrt) (U : S → List (Nat × Value)) (μ : S → Nat) (s0 : S) (h0 : I s0) (hM : Imp M (Mf s0)) (hf : Fits ρ (U s0))
    (round : ∀ s u, I s → xC P w0 c (over (U s) (patch mods u ρ)) (Mf s) (xloop I Mf U μ (μ s) Q)) : xC P w0 (.loop c) ρ M Q := by
  intro F w H
  refine Zad mods hm (fun s w' => I s ∧ St w0 w' (F :: Mf s)) U μ s0 ⟨h0, H.enx hM⟩ hf ?_
  rintro s w' u ⟨hI, H'⟩
  refine Zab _ _ _ ?_ (round s u hI F w' H')
  rintro e ρ' w'' ⟨M', H'', hq⟩
  cases e <;> first
    | exact (let ⟨s', hlt, hI', hM', hf'⟩ := hq; ⟨s', hlt, ⟨hI', H''.enx hM'⟩, hf'⟩)
    | exact ⟨M', H'', hq⟩
/-- By a jump to the label l: what I, Mf and U say of it. -/
def xgo {S : Type} (l : Nat) (I : S → Prop) (Mf : S → List Asrt) (U : S → List (Nat × Value)) (Q : XQ) : XQ := fun e ρ M => match e with|.goto l' => l' = l ∧ ∃ s, I s ∧ Imp M (Mf s) ∧ Fits ρ (U s)|e => Q e ρ M
def xng (Q : XQ) : XQ := fun e ρ M => match e with|.goto _ => False|e => Q e ρ M
theorem Znd {l : Nat} (h : Q (.goto l) ρ M) : xC P w0 (.goto l) ρ M Q := fun F w H => ⟨M, H, h⟩
theorem Zne {l : Nat} (h : Q (.goto l) ρ M) : xthen k Q (.goto l) ρ M := h
theorem Znf {l : Nat} (h : Q (.goto l) ρ M) : xblk id Q (.goto l) ρ M := h
theorem Zng (h : Q .normal ρ M) : xng Q .normal ρ M := h
theorem Znh (h : Q (.exit id) ρ M) : xng Q (.exit id) ρ M := h
theorem Zni (h : Q .ret ρ M) : xng Q .ret ρ M := h
section goes
variable {S : Type} {I : S → Prop} {Mf : S → List Asrt} {U : S → List (Nat × Value)} {l : Nat}
theorem Znj (h : Q .normal ρ M) : xgo l I Mf U Q .normal ρ M := h
theorem Znk (h : Q (.exit id) ρ M) : xgo l I Mf U Q (.exit id) ρ M := h
theorem Znl (h : Q .ret ρ M) : xgo l I Mf U Q .ret ρ M := h
theorem Znm (s : S) (hI : I s) (hM : Imp M (Mf s)) (hf : Fits ρ (U s)) : xgo l I Mf U Q (.goto l) ρ M := ⟨rfl, s, hI, hM, hf⟩
theorem Znn {rest : Code} (hm : P.follows .mixedOrders = true) (l : Nat) (hf : findLabel x l = some rest) (I : S → Prop) (Mf : S → List Asrt) (U : S → List (Nat × Value)) (first : xC P w0 x ρ M (xgo l I Mf U Q))
    (kk : ∀ s u, I s → xC P w0 rest (over (U s) u) (Mf s) (xng Q)) : xC P w0 (.scope x) ρ M Q := by
  intro F w H
  refine Znc hm l hf (fun ρ' w' => ∃ s, I s ∧ St w0 w' (F :: Mf s) ∧ Fits ρ' (U s)) (Zab x ρ w ?_ (first F w H)) ?_
  · rintro e ρ' w' ⟨M', H', hq⟩
    cases e with
    | goto l' => exact (let ⟨hl, s, hI, hM, hf⟩ := hq; ⟨hl, s, hI, H'.enx hM, hf⟩)
    | _ => exact ⟨M', H', hq⟩
  · rintro ρ' w' ⟨s, hI, H', hfits⟩
    have h2 := kk s ρ' hI
    rw [over_fits hfits] at h2
    refine Zab rest ρ' w' ?_ (h2 F w' H')
    rintro e ρ'' w'' ⟨M', H'', hq⟩
    cases e with
    | goto l' => exact hq.elim
    | _ => exact ⟨M', H'', hq⟩
end goes
-- pieces
theorem Zgp (h : Imp M N) (k : xC P w0 c ρ N Q) : xC P w0 c ρ M Q := fun F w H => k F w (H.enx h)
theorem Zgq {p : Prop} (k : p → xC P w0 c ρ M Q) : xC P w0 c ρ (pur p :: M) Q := fun F w H => k (H.swap.pur_get) F w (H.enx Imp.tail)
theorem Zgr {α : Type} {A : α → Asrt} (k : ∀ a, xC P w0 c ρ (A a :: M) Q) : xC P w0 c ρ (ex A :: M) Q := by
  intro F w H
  obtain ⟨a, H⟩ := H.swap.ex_get
  exact k a F w H.swap
theorem Zgs {L : List Asrt} (k : xC P w0 c ρ (L ++ M) Q) : xC P w0 c ρ (all L :: M) Q := fun F w H => k F w (H.enx Imp.unapp)
/-- What the pieces tell. -/
theorem Zgt {p : Prop} (hp : ∀ F w, St w0 w (F :: M) → p) (k : p → xC P w0 c ρ M Q) : xC P w0 c ρ M Q := fun F w H => k (hp F w H) F w H
/-- A case whatever the pieces. -/
theorem Zgu {α : Type} {A : α → List Asrt} (hp : ∀ F w, St w0 w (F :: M) → ∃ a, St w0 w (F :: A a)) (k : ∀ a, xC P w0 c ρ (A a) Q) : xC P w0 c ρ M Q := by
  intro F w H
  obtain ⟨a, H⟩ := hp F w H
  exact k a F w H
theorem Zgv {Q' : XQ} (hq : ∀ e ρ M, Q e ρ M → Q' e ρ M) (h : xC P w0 c ρ M Q) : xC P w0 c ρ M Q' := by
  intro F w H
  refine Zab c ρ w ?_ (h F w H)
  rintro e ρ' w' ⟨M', H', hh⟩
  exact ⟨M', H', hq _ _ _ hh⟩
end code

section ops
variable {P : Program} {w0 : World} {ops : Array Oper} {l : List Oper} {ρ : Env} {M N : List Asrt} {K : XK}
theorem Zgw (h : Imp M N) (k : xOps P w0 ops l ρ N K) : xOps P w0 ops l ρ M K := fun F w H => k F w (H.enx h)
theorem Zgx {p : Prop} (k : p → xOps P w0 ops l ρ M K) : xOps P w0 ops l ρ (pur p :: M) K := fun F w H => k (H.swap.pur_get) F w (H.enx Imp.tail)
theorem Zgy {α : Type} {A : α → Asrt} (k : ∀ a, xOps P w0 ops l ρ (A a :: M) K) : xOps P w0 ops l ρ (ex A :: M) K := by
  intro F w H
  obtain ⟨a, H⟩ := H.swap.ex_get
  exact k a F w H.swap
theorem Zgz {L : List Asrt} (k : xOps P w0 ops l ρ (L ++ M) K) : xOps P w0 ops l ρ (all L :: M) K := fun F w H => k F w (H.enx Imp.unapp)
theorem Zg0 {p : Prop} (hp : ∀ F w, St w0 w (F :: M) → p) (k : p → xOps P w0 ops l ρ M K) : xOps P w0 ops l ρ M K := fun F w H => k (hp F w H) F w H
theorem Zg1 {α : Type} {A : α → List Asrt} (hp : ∀ F w, St w0 w (F :: M) → ∃ a, St w0 w (F :: A a)) (k : ∀ a, xOps P w0 ops l ρ (A a) K) : xOps P w0 ops l ρ M K := by
  intro F w H
  obtain ⟨a, H⟩ := hp F w H
  exact k a F w H
theorem Zg2 {R N : List Asrt} (h : App M R N) (k : xOps P w0 ops l ρ N K) : xOps P w0 ops l ρ (M ++ R) K := Zgw h.imp k
theorem Zg3 (h : K ρ M) : xOps P w0 ops [] ρ M K := fun F w H => ⟨M, H, h⟩
theorem Zg4 {K' : XK} (hk : ∀ ρ M, K ρ M → K' ρ M) (h : xOps P w0 ops l ρ M K) : xOps P w0 ops l ρ M K' := by
  intro F w H
  refine denOps_mono _ _ _ ?_ (h F w H)
  rintro ρ' w' ⟨M', H', hh⟩
  exact ⟨M', H', hk _ _ hh⟩
theorem Zg5 {l2 : List Oper} (h : xOps P w0 ops l ρ M (fun ρ' M' => xOps P w0 ops l2 ρ' M' K)) : xOps P w0 ops (l ++ l2) ρ M K := by
  intro F w H
  have key : ∀ (l : List Oper) (ρ : Env) (w : World), denOps P ops l ρ w (fun ρ' w' => ∃ M', St w0 w' (F :: M') ∧ xOps P w0 ops l2 ρ' M' K) → denOps P ops (l ++ l2) ρ w (fun ρ' w' => ∃ M', St w0 w' (F :: M') ∧ K ρ' M') := by
    intro l
    induction l with
    | nil => rintro ρ w ⟨M', H', hh⟩; exact hh F w H'
    | cons o l ih => exact fun ρ w h => denI_mono (fun v w' hk => ih _ _ hk) (show denI P ops o ρ w _ from h)
  exact key l ρ w (h F w H)
theorem denOps_agree' {mods : List (Nat × Nat)} {K : Env → World → Prop} : ∀ (l : List Oper) (ρ : Env) (w : World), l.all (dIn mods) = true → denOps P ops l ρ w K → denOps P ops l ρ w (fun ρ' w' => Agree mods ρ ρ' ∧ K ρ' w')
  | [], ρ, w, _, h => ⟨Agree.refl _ _, h⟩
  | o :: rest, ρ, w, hd, h => by
    simp only [List.all_cons, Bool.and_eq_true] at hd
    refine denI_mono (o := o) (fun v w' hk => ?_) (show denI P ops o ρ w _ from h)
    exact denOps_mono _ _ _ (fun ρ' w'' ⟨ha, hq⟩ => ⟨(agree_put hd.1 v).trans ha, hq⟩) (denOps_agree' rest _ _ hd.2 hk)
/-- A cut within a region: behind its first n operations. -/
theorem Zg6 {S : Type} (n : Nat) (mods : List (Nat × Nat)) (hm : (l.take n).all (dIn mods) = true) (I : S → Prop) (Mf : S → List Asrt) (U : S → List (Nat × Value))
    (h : xOps P w0 ops (l.take n) ρ M (fun ρ' M' => ∃ s, I s ∧ Imp M' (Mf s) ∧ Fits ρ' (U s))) (k : ∀ s u, I s → xOps P w0 ops (l.drop n) (over (U s) (patch mods u ρ)) (Mf s) K) : xOps P w0 ops l ρ M K := by
  rw [← List.take_append_drop n l]
  refine Zg5 ?_
  intro F w H
  refine denOps_mono _ _ _ ?_ (denOps_agree' _ _ _ hm (h F w H))
  rintro ρ' w' ⟨ha, M', H', s, hI, hM, hf⟩
  have hk := k s ρ' hI
  rw [patch_agree ha, over_fits hf] at hk
  exact ⟨Mf s, H'.enx hM, hk⟩
end ops

-- calls and results
theorem fn_den {P : Program} {f : FuncId} {fn : Func} {c : Code} {rs : List ResultVar} {n : Nat} {args : List Value} {M : List Asrt} {Φ : Value → List Asrt → Prop}
    (hf : P.funcs[f]? = some fn) (hb : fn.body = some c) (hr : fn.results.toList = rs) (hn : fn.ntmps = n) (hm : P.follows .mixedOrders = true) (hfit : (Nat.ble args.length n && cfits n c) = true)
    (h : ∀ w0, xC P w0 c (nth args) M (fun e ρ M' => match e with|.normal|.ret => ∃ vs N, (∀ F w, St w0 w (F :: M') → resE P ρ w rs vs) ∧ Φ (packV vs) N ∧ Imp M' N|_ => False)) : Con P f args M Φ := by
  intro w0 Fr w H
  refine calls_den args hf hb hr hn hm hfit (Zab c _ _ ?_ (h w0 Fr w H))
  rintro e ρ' w' ⟨M', H', hq⟩
  cases e <;> first
    | (obtain ⟨vs, N, hvs, hΦ, hN⟩ := hq
       exact ⟨vs, hvs Fr w' H', N, H'.enx hN, hΦ⟩)
    | exact hq.elim
def retX (P : Program) (w0 : World) (rs : List ResultVar) (Φ : Value → List Asrt → Prop) : XQ := fun e ρ M' => match e with|.normal|.ret => ∃ vs N, (∀ F w, St w0 w (F :: M') → resE P ρ w rs vs) ∧ Φ (packV vs) N ∧ Imp M' N|_ => False
theorem fn_x {P : Program} {f : FuncId} {fn : Func} {c : Code} {rs : List ResultVar} {n : Nat} {args : List Value} {M : List Asrt} {Φ : Value → List Asrt → Prop}
    (hf : P.funcs[f]? = some fn) (hb : fn.body = some c) (hr : fn.results.toList = rs) (hn : fn.ntmps = n) (hm : P.follows .mixedOrders = true) (hfit : (Nat.ble args.length n && cfits n c) = true)
    (h : ∀ w0, xC P w0 c (nth args) M (retX P w0 rs Φ)) : Con P f args M Φ := fn_den hf hb hr hn hm hfit h
section res
variable {P : Program} {w0 : World} {ρ : Env} {M N : List Asrt} {Φ : Value → List Asrt → Prop}
def resX (P : Program) (w0 : World) (ρ : Env) (M : List Asrt) (rs : List ResultVar) (vs : List Value) : Prop := ∀ F w, St w0 w (F :: M) → resE P ρ w rs vs
theorem Zg7 : resX P w0 ρ M [] [] := fun _ _ _ => rfl
theorem Zg8 {t : Nat} {v : Value} {rs : List ResultVar} {vs : List Value} (hv : ρ t = v) (h : resX P w0 ρ M rs vs) : resX P w0 ρ M (.tmp t :: rs) (v :: vs) := by
  intro F w H; subst hv; exact ⟨vs, rfl, h F w H⟩
theorem Zg9 {t : Nat} {k : IntKind} {n : Int} {rs : List ResultVar} {vs : List Value} (hv : ρ t = .int k n) (h : resX P w0 ρ M rs vs) : resX P w0 ρ M (.tmp t :: rs) (.int k n :: vs) := Zg8 hv h
theorem Zha {t : Nat} {b : Bool} {rs : List ResultVar} {vs : List Value} (hv : ρ t = .bool b) (h : resX P w0 ρ M rs vs) : resX P w0 ρ M (.tmp t :: rs) (.bool b :: vs) := Zg8 hv h
theorem Zhb {t : Nat} {a : Option Addr} {rs : List ResultVar} {vs : List Value} (hv : ρ t = .pointer a) (h : resX P w0 ρ M rs vs) : resX P w0 ρ M (.tmp t :: rs) (.pointer a :: vs) := Zg8 hv h
theorem Zhc {t : Nat} {a : Option Addr} {l c : Nat} {rs : List ResultVar} {vs : List Value} (hv : ρ t = .slice a l c) (h : resX P w0 ρ M rs vs) : resX P w0 ρ M (.tmp t :: rs) (.slice a l c :: vs) := Zg8 hv h
theorem Zhd {t : Nat} {a : Array Value} {rs : List ResultVar} {vs : List Value} (hv : ρ t = .agg a) (h : resX P w0 ρ M rs vs) : resX P w0 ρ M (.tmp t :: rs) (.agg a :: vs) := Zg8 hv h
theorem Zhe {T n by' b E t : Nat} {z : Value} {cs : Array Value} {M' : List Asrt} {rs : List ResultVar} {vs : List Value} [hs : TyAggr P T] [hi : TyI P T n by' z] (hv : ρ t = .pointer (some ⟨b, 0, none⟩)) (hm : Has M (cl b cs E) M') (hn : cs.size = n)
    (h : resX P w0 ρ M rs vs) : resX P w0 ρ M (.cell t T :: rs) (.agg cs :: vs) := by
  intro F w H
  refine ⟨⟨b, 0, none⟩, .agg cs, vs, hv, ?_, rfl, h F w H⟩
  have := run_loadVar (P := P) (T := T) (n := n) (o := 0) ((H.pick (.there hm)).cl_get) (by omega)
  rw [this, Nat.zero_add, ← hn]
  simp
theorem Zhf {T b E t : Nat} {v : Value} {M' : List Asrt} {rs : List ResultVar} {vs : List Value} [hs : TyScal P T] (hv : ρ t = .pointer (some ⟨b, 0, none⟩)) (hm : Has M (cl b #[v] E) M')
    (h : resX P w0 ρ M rs vs) : resX P w0 ρ M (.cell t T :: rs) (v :: vs) := by
  intro F w H
  refine ⟨⟨b, 0, none⟩, v, vs, hv, ?_, rfl, h F w H⟩
  unfold loadVar
  rw [run_bind P _ _ w w _ (run_isAgg hs.h)]
  exact run_load1 ((H.pick (.there hm)).cl_get) rfl
theorem rx0 (h : ∃ N, Φ (.tuple #[]) N ∧ Imp M N) : retX P w0 [] Φ .ret ρ M := by obtain ⟨N, h, hM⟩ := h; exact ⟨[], N, fun _ _ _ => rfl, h, hM⟩
theorem rx0n (h : ∃ N, Φ (.tuple #[]) N ∧ Imp M N) : retX P w0 [] Φ .normal ρ M := by obtain ⟨N, h, hM⟩ := h; exact ⟨[], N, fun _ _ _ => rfl, h, hM⟩
theorem rx1 {r : ResultVar} {v : Value} (hr : resX P w0 ρ M [r] [v]) (h : ∃ N, Φ v N ∧ Imp M N) : retX P w0 [r] Φ .ret ρ M := by obtain ⟨N, h, hM⟩ := h; exact ⟨[v], N, hr, h, hM⟩
theorem rx2 {r r' : ResultVar} {v v' : Value} (hr : resX P w0 ρ M [r, r'] [v, v']) (h : ∃ N, Φ (.tuple #[v, v']) N ∧ Imp M N) : retX P w0 [r, r'] Φ .ret ρ M := by obtain ⟨N, h, hM⟩ := h; exact ⟨[v, v'], N, hr, h, hM⟩
theorem rx3 {r r' r2 : ResultVar} {v v' v2 : Value} (hr : resX P w0 ρ M [r, r', r2] [v, v', v2]) (h : ∃ N, Φ (.tuple #[v, v', v2]) N ∧ Imp M N) : retX P w0 [r, r', r2] Φ .ret ρ M := by obtain ⟨N, h, hM⟩ := h; exact ⟨[v, v', v2], N, hr, h, hM⟩
end res
/-- A contract, its post weakened. -/
theorem Con.mono {P : Program} {F : FuncId} {args : List Value} {M : List Asrt} {Φ Ψ : Value → List Asrt → Prop} (h : Con P F args M Φ) (hi : ∀ v M', Φ v M' → ∃ N, Imp M' N ∧ Ψ v N) : Con P F args M Ψ := by
  intro w0 Fr w H
  refine (h w0 Fr w H).mono (Ret.mono ?_)
  rintro v w' ⟨M', H', hφ⟩
  obtain ⟨N, hN, hψ⟩ := hi v M' hφ
  exact ⟨N, H'.enx hN, hψ⟩
theorem Con.pre {P : Program} {F : FuncId} {args : List Value} {M N : List Asrt} {Φ : Value → List Asrt → Prop} (h : Con P F args N Φ) (hi : Imp M N) : Con P F args M Φ := fun w0 Fr w H => h w0 Fr w (H.enx hi)
theorem Con.pur {P : Program} {F : FuncId} {args : List Value} {M : List Asrt} {p : Prop} {Φ : Value → List Asrt → Prop} (h : p → Con P F args M Φ) : Con P F args (Sl.pur p :: M) Φ := fun w0 Fr w H => h (H.swap.pur_get) w0 Fr w (H.enx Imp.tail)
theorem Con.ex {P : Program} {F : FuncId} {args : List Value} {M : List Asrt} {α : Type} {A : α → Asrt} {Φ : Value → List Asrt → Prop} (h : ∀ a, Con P F args (A a :: M) Φ) : Con P F args (Sl.ex A :: M) Φ := by
  intro w0 Fr w H
  obtain ⟨a, H⟩ := H.swap.ex_get
  exact h a w0 Fr w H.swap
theorem Con.get {P : Program} {F : FuncId} {args : List Value} {M : List Asrt} {p : Prop} {Φ : Value → List Asrt → Prop} (hp : ∀ w0 w Fr, St w0 w (Fr :: M) → p) (h : p → Con P F args M Φ) : Con P F args M Φ := fun w0 Fr w H => h (hp _ _ _ H) w0 Fr w H
/-- A contract in the older form. -/
theorem Con.of {P : Program} {F : FuncId} {args : List Value} {M : List Asrt} {Φ : Value → List Asrt → Prop} (h : ∀ w0 w L, St w0 w (M ++ L) → Calls P F args.toArray w (Ret fun v w' => ∃ M', St w0 w' (M' ++ L) ∧ Φ v M')) : Con P F args M Φ := by
  intro w0 Fr w H
  refine (h w0 w [Fr] (H.ent (Imp.comm (L := [Fr]) (M := M)))).mono (Ret.mono ?_)
  rintro v w' ⟨M', H', hφ⟩
  exact ⟨M', H'.ent (Imp.comm (L := M') (M := [Fr])), hφ⟩
/-- ... and back. -/
theorem Con.calls {P : Program} {F : FuncId} {args : List Value} {M L : List Asrt} {Φ : Value → List Asrt → Prop} (h : Con P F args M Φ) {w0 w : World} (H : St w0 w (M ++ L)) : Calls P F args.toArray w (Ret fun v w' => ∃ M', St w0 w' (M' ++ L) ∧ Φ v M') := by
  have H2 : St w0 w (all L :: M) := H.ent (Imp.comm.trans Imp.app)
  refine (h w0 _ w H2).mono (Ret.mono ?_)
  rintro v w' ⟨M', H', hφ⟩
  exact ⟨M', H'.ent (Imp.unapp.trans Imp.comm), hφ⟩
end Go.Sl

/- The engine over pieces alone: one operation behind the other. -/
set_option linter.unusedVariables false
set_option linter.unusedSimpArgs false
namespace Go.Sl
open Go
attribute [local irreducible] cl pt own old

section
variable {P : Program} {w0 : World} {ops : Array Oper} {dst : Option Nat} {ty T E : TypeId} {pos : String} {after : Array Edge} {rest l : List Oper} {ρ : Env} {K : XK} {M M' M2 : List Asrt} {x y : Operand} {b o : Nat} {c c' : Array Value}
theorem Zhg {op : Op} {v : Value} (h : PV P op ρ v) (k : xOps P w0 ops rest (put ρ dst v) M K) : xOps P w0 ops (⟨dst, op, ty, pos, after, none⟩ :: rest) ρ M K :=
  fun F w H => Zcz h (k F w H)
theorem Zhh {op : Op} {j : Nat} {b : Bool} (hg : yl ops ρ j = some b) (h : xOps P w0 ops (⟨dst, op, ty, pos, after, none⟩ :: rest) ρ M K) : xOps P w0 ops (⟨dst, op, ty, pos, after, some (j, b)⟩ :: rest) ρ M K :=
  fun F w H => Zc0 hg (h F w H)
theorem Zhi {op : Op} {j : Nat} {b : Bool} (hg : yl ops ρ j = some (!b)) (h : xOps P w0 ops rest (put ρ dst undef) M K) : xOps P w0 ops (⟨dst, op, ty, pos, after, some (j, b)⟩ :: rest) ρ M K :=
  fun F w H => Zc1 hg (h F w H)
theorem Zhj {op : Op} {j : Nat} {b : Bool} (hg : yl ops ρ j = none) (h : xOps P w0 ops rest (put ρ dst undef) M K) : xOps P w0 ops (⟨dst, op, ty, pos, after, some (j, b)⟩ :: rest) ρ M K :=
  fun F w H => Zc2 hg (h F w H)
/-- A test split, or known. -/
theorem Zhk (d : Nat) {p : Prop} [Decidable p] (hd : ρ d = .bool (decide p)) (h1 : p → xOps P w0 ops l (put ρ (some d) (.bool true)) M K) (h2 : ¬ p → xOps P w0 ops l (put ρ (some d) (.bool false)) M K) : xOps P w0 ops l ρ M K :=
  fun F w H => Zc3 d hd (fun hp => h1 hp F w H) (fun hp => h2 hp F w H)
theorem Zhl (d : Nat) {t : Bool} (hd : ρ d = .bool t) (h1 : t = true → xOps P w0 ops l (put ρ (some d) (.bool true)) M K) (h2 : t = false → xOps P w0 ops l (put ρ (some d) (.bool false)) M K) : xOps P w0 ops l ρ M K :=
  fun F w H => Zc4 d hd (fun hp => h1 hp F w H) (fun hp => h2 hp F w H)
theorem Zhm (d : Nat) {t : Bool} (hd : ρ d = .bool t) (e : t = true) (h : xOps P w0 ops l (put ρ (some d) (.bool true)) M K) : xOps P w0 ops l ρ M K := by
  subst e; rwa [put_self hd] at h
theorem Zhn (d : Nat) {t : Bool} (hd : ρ d = .bool t) (e : t = false) (h : xOps P w0 ops l (put ρ (some d) (.bool false)) M K) : xOps P w0 ops l ρ M K := by
  subst e; rwa [put_self hd] at h
/-- What a slot holds, said otherwise. -/
theorem Zho (d : Nat) {v u : Value} (hd : ρ d = v) (e : v = u) (h : xOps P w0 ops l (put ρ (some d) u) M K) : xOps P w0 ops l ρ M K := by
  subst e; rwa [put_self hd] at h

-- loads
theorem Zhp [hs : TyScal P T] {v : Value} (hx : ev ρ x = .pointer (some ⟨b, o, none⟩)) (hm : Has M (cl b c E) M') (hv : c[o]? = some v) (k : xOps P w0 ops rest (put ρ dst v) M K) :
    xOps P w0 ops (⟨dst, .load T x, ty, pos, after, none⟩ :: rest) ρ M K := fun F w H => Zc5 H hx (.there hm) hv (k F w H)
theorem Zhq [hs : TyAggr P T] {n by' : Nat} {z : Value} {cs : Array Value} [hi : TyI P T n by' z] (hx : ev ρ x = .pointer (some ⟨b, o, none⟩)) (hm : Has M (cl b c E) M') (hv : o + n ≤ c.size) (hc : c.extract o (o + n) = cs) (k : xOps P w0 ops rest (put ρ dst (.agg cs)) M K) :
    xOps P w0 ops (⟨dst, .load T x, ty, pos, after, none⟩ :: rest) ρ M K := fun F w H => Zc7 H hx (.there hm) hv (by rw [hc]; exact k F w H)
theorem Zhr [hs : TyAggr P T] {n by' : Nat} {z : Value} [hi : TyI P T n by' z] (hx : ev ρ x = .pointer (some ⟨b, 0, none⟩)) (hm : Has M (cl b c E) M') (hv : c.size = n) (k : xOps P w0 ops rest (put ρ dst (.agg c)) M K) :
    xOps P w0 ops (⟨dst, .load T x, ty, pos, after, none⟩ :: rest) ρ M K := fun F w H => Zdf H hx (.there hm) hv (k F w H)
-- stores
theorem Zhs {by' : Nat} {z v : Value} [hi : TyI P T 1 by' z] (hx : ev ρ x = .pointer (some ⟨b, o, none⟩)) (hy : ev ρ y = v) (h1 : oneC v = true) (hm : Repl M (cl b c E) (cl b c' E) M2) (hv : o < c.size) (hc : c.setIfInBounds o v = c')
    (k : xOps P w0 ops rest (put ρ dst undef) M2 K) : xOps P w0 ops (⟨dst, .store T x y, ty, pos, after, none⟩ :: rest) ρ M K := by
  subst hc; exact fun F w H => Zda H hx hy h1 (.there hm) hv (fun w' H' => k F w' H')
theorem Zht {by' : Nat} {z : Value} {kk : IntKind} {v : Int} [hi : TyI P T 1 by' z] (hx : ev ρ x = .pointer (some ⟨b, o, none⟩)) (hy : ev ρ y = .int kk v) (hm : Repl M (cl b c E) (cl b c' E) M2) (hv : o < c.size) (hc : c.setIfInBounds o (.int kk v) = c')
    (k : xOps P w0 ops rest (put ρ dst undef) M2 K) : xOps P w0 ops (⟨dst, .store T x y, ty, pos, after, none⟩ :: rest) ρ M K := Zhs hx hy rfl hm hv hc k
theorem Zhu {by' : Nat} {z : Value} {v : Bool} [hi : TyI P T 1 by' z] (hx : ev ρ x = .pointer (some ⟨b, o, none⟩)) (hy : ev ρ y = .bool v) (hm : Repl M (cl b c E) (cl b c' E) M2) (hv : o < c.size) (hc : c.setIfInBounds o (.bool v) = c')
    (k : xOps P w0 ops rest (put ρ dst undef) M2 K) : xOps P w0 ops (⟨dst, .store T x y, ty, pos, after, none⟩ :: rest) ρ M K := Zhs hx hy rfl hm hv hc k
theorem Zhv {by' : Nat} {z : Value} {v : Option Addr} [hi : TyI P T 1 by' z] (hx : ev ρ x = .pointer (some ⟨b, o, none⟩)) (hy : ev ρ y = .pointer v) (hm : Repl M (cl b c E) (cl b c' E) M2) (hv : o < c.size) (hc : c.setIfInBounds o (.pointer v) = c')
    (k : xOps P w0 ops rest (put ρ dst undef) M2 K) : xOps P w0 ops (⟨dst, .store T x y, ty, pos, after, none⟩ :: rest) ρ M K := Zhs hx hy rfl hm hv hc k
theorem Zhw {by' : Nat} {z : Value} {v : Option Addr} {l cc : Nat} [hi : TyI P T 1 by' z] (hx : ev ρ x = .pointer (some ⟨b, o, none⟩)) (hy : ev ρ y = .slice v l cc) (hm : Repl M (cl b c E) (cl b c' E) M2) (hv : o < c.size) (hc : c.setIfInBounds o (.slice v l cc) = c')
    (k : xOps P w0 ops rest (put ρ dst undef) M2 K) : xOps P w0 ops (⟨dst, .store T x y, ty, pos, after, none⟩ :: rest) ρ M K := Zhs hx hy rfl hm hv hc k
theorem Zhx {n by' : Nat} {z : Value} {vs : Array Value} [hi : TyI P T n by' z] (hx : ev ρ x = .pointer (some ⟨b, o, none⟩)) (hy : ev ρ y = .agg vs) (hm : Repl M (cl b c E) (cl b c' E) M2) (hn : vs.size = n) (h1 : vs.toList.all oneC = true) (hv : o + n ≤ c.size) (hc : wr c o vs.toList = c')
    (k : xOps P w0 ops rest (put ρ dst undef) M2 K) : xOps P w0 ops (⟨dst, .store T x y, ty, pos, after, none⟩ :: rest) ρ M K := by
  subst hc; exact fun F w H => Zdg H hx hy hn h1 (.there hm) hv (fun w' H' => k F w' H')
theorem Zhy {n by' : Nat} {z : Value} {vs : Array Value} [hi : TyI P T n by' z] (hx : ev ρ x = .pointer (some ⟨b, 0, none⟩)) (hy : ev ρ y = .agg vs) (hm : Repl M (cl b c E) (cl b vs E) M2) (hn : vs.size = n) (h1 : vs.toList.all oneC = true) (hv : c.size = n)
    (k : xOps P w0 ops rest (put ρ dst undef) M2 K) : xOps P w0 ops (⟨dst, .store T x y, ty, pos, after, none⟩ :: rest) ρ M K :=
  fun F w H => Zdh H hx hy hn h1 (.there hm) hv (fun w' H' => k F w' H')
-- new blocks
theorem Zhz {n by' : Nat} {z : Value} {cs : Array Value} [hi : TyI P T n by' z] (hz : z.cells = cs) (k : ∀ b, xOps P w0 ops rest (put ρ dst (.pointer (some ⟨b, 0, none⟩))) (cl b cs T :: M) K) :
    xOps P w0 ops (⟨dst, .alloc T, ty, pos, after, none⟩ :: rest) ρ M K := by
  subst hz; exact fun F w H => Zdi H (fun w' b H' => k b F w' H'.swap)
theorem Zh0 {v : Value} {cs : Array Value} (hx : ev ρ x = v) (hz : v.cells = cs) (k : ∀ b, xOps P w0 ops rest (put ρ dst (.pointer (some ⟨b, 0, none⟩))) (cl b cs T :: M) K) :
    xOps P w0 ops (⟨dst, .box T x, ty, pos, after, none⟩ :: rest) ρ M K := by
  subst hz; exact fun F w H => Zdj H hx (fun w' b H' => k b F w' H'.swap)
theorem Zh1 {kk : IntKind} {n : Int} (hx : ev ρ x = .int kk n) (k : ∀ b, xOps P w0 ops rest (put ρ dst (.pointer (some ⟨b, 0, none⟩))) (cl b #[.int kk n] T :: M) K) :
    xOps P w0 ops (⟨dst, .box T x, ty, pos, after, none⟩ :: rest) ρ M K := Zh0 hx rfl k
theorem Zh2 {n : Bool} (hx : ev ρ x = .bool n) (k : ∀ b, xOps P w0 ops rest (put ρ dst (.pointer (some ⟨b, 0, none⟩))) (cl b #[.bool n] T :: M) K) :
    xOps P w0 ops (⟨dst, .box T x, ty, pos, after, none⟩ :: rest) ρ M K := Zh0 hx rfl k
theorem Zh3 {n : Option Addr} (hx : ev ρ x = .pointer n) (k : ∀ b, xOps P w0 ops rest (put ρ dst (.pointer (some ⟨b, 0, none⟩))) (cl b #[.pointer n] T :: M) K) :
    xOps P w0 ops (⟨dst, .box T x, ty, pos, after, none⟩ :: rest) ρ M K := Zh0 hx rfl k
theorem Zh4 {n : Option Addr} {l cc : Nat} (hx : ev ρ x = .slice n l cc) (k : ∀ b, xOps P w0 ops rest (put ρ dst (.pointer (some ⟨b, 0, none⟩))) (cl b #[.slice n l cc] T :: M) K) :
    xOps P w0 ops (⟨dst, .box T x, ty, pos, after, none⟩ :: rest) ρ M K := Zh0 hx rfl k
theorem Zh5 {cs : Array Value} (hx : ev ρ x = .agg cs) (k : ∀ b, xOps P w0 ops rest (put ρ dst (.pointer (some ⟨b, 0, none⟩))) (cl b cs T :: M) K) :
    xOps P w0 ops (⟨dst, .box T x, ty, pos, after, none⟩ :: rest) ρ M K := Zh0 hx rfl k
theorem Zh6 {n by' : Nat} {z : Value} {len cap : Nat} [hs : TySlice P T E] [hi : TyI P E n by' z] (hl : ev ρ x = .int .i64 len) (hc : ev ρ y = .int .i64 cap) (hle : len ≤ cap) (hcap : cap ≤ 9223372036854775807) (hb : cap * by' ≤ 281474976710656) (h0 : 0 < n)
    (k : ∀ b, xOps P w0 ops rest (put ρ dst (.slice (some ⟨b, 0, none⟩) len cap)) (cl b (List.replicate cap z.cells.toList).flatten.toArray E :: M) K) :
    xOps P w0 ops (⟨dst, .makeSlice T x y, ty, pos, after, none⟩ :: rest) ρ M K := fun F w H => Zdk H hl hc hle hcap hb h0 (fun w' b H' => k b F w' H'.swap)
theorem Zh7 {n by' : Nat} {z : Value} {len : Nat} {ps : Array (Nat × Operand)} {cs : Array Value} [hs : TySlice P T E] [hi : TyI P E n by' z] (hlen : len * n ≤ 16777216) (h0 : 0 < n)
    (hf : Instr.fill (fun i => some (i * n, n)) (List.replicate len z.cells.toList).flatten.toArray (partsV ρ ps) = some cs)
    (k : ∀ b, xOps P w0 ops rest (put ρ dst (.slice (some ⟨b, 0, none⟩) len len)) (cl b cs E :: M) K) :
    xOps P w0 ops (⟨dst, .buildSlice T len ps, ty, pos, after, none⟩ :: rest) ρ M K := fun F w H => Zdl H hlen h0 hf (fun w' b H' => k b F w' H'.swap)
-- calls
theorem Zh8 {F : FuncId} {f : Operand} {ars : Array Operand} {ts : Array TypeId} {fi ca : Array Value} {vs : List Value} {M1 R : List Asrt} {Φ : Value → List Asrt → Prop} (hf : ev ρ f = .func (.func F) fi ca) (hb : callable P F = true)
    (hc : Con P F vs M1 Φ) (ha : argL ρ fi ars ca = vs) (hs : Take M M1 R) (k : ∀ v M', Φ v M' → xOps P w0 ops rest (put ρ dst v) (M' ++ R) K) :
    xOps P w0 ops (⟨dst, .call { callee := .value f, args := ars, argTypes := ts }, ty, pos, after, none⟩ :: rest) ρ M K := by
  intro F' w H
  have H1 : St w0 w (F' :: (M1 ++ R)) := H.enx hs.ent
  have H2 : St w0 w (all (F' :: R) :: M1) := by
    refine H1.ent (Imp.trans (Imp.cons Imp.app) (Imp.trans Imp.swap ?_))
    have h3 : Imp (all M1 :: (F' :: R)) ((F' :: R) ++ [all M1]) := Imp.comm (L := [all M1]) (M := F' :: R)
    refine h3.trans (Imp.app.trans (Imp.cons ?_))
    have := Imp.unapp (L := M1) (M := [])
    rwa [List.append_nil] at this
  refine Zdp hf hb (hc w0 _ w H2) ha ?_
  rintro v w' ⟨M', H', hφ⟩
  exact k v M' hφ F' w' (H'.ent (Imp.unapp.trans (Imp.cons Imp.comm)))
/-- A function that the model itself answers. -/
def extv (P : Program) (F : FuncId) (args : List Value) (v : Value) : Prop := ∀ w, (callFunc F args.toArray).run P w = .ok (.value v) w
theorem Zh9 {F : FuncId} {f : Operand} {ars : Array Operand} {ts : Array TypeId} {fi ca : Array Value} {vs : List Value} {v : Value} (hf : ev ρ f = .func (.func F) fi ca) (h : extv P F vs v) (ha : argL ρ fi ars ca = vs) :
    PV P (.call { callee := .value f, args := ars, argTypes := ts }) ρ v := by
  intro oo w ho
  unfold execOp
  subst ha
  simp only [ho, resolve, hf, Deferred.ofValue, pure_bind, invoke]
  have : fi ++ Array.map (ev ρ) ars ++ ca = (argL ρ fi ars ca).toArray := by
    apply Array.ext'
    simp [argL]
  rw [this]
  exact h w
-- slices
/-- Among the pieces M the slice v has n elements, of the cells xs. -/
def Rd (M : List Asrt) (size : Nat) (v : Value) (n : Nat) (xs : List Value) : Prop := ∀ w0 F w, St w0 w (F :: M) → SlW w size v n xs
theorem Rd.own {size n : Nat} {v : Value} {xs : List Value} (hm : Has M (own E size v n xs) M') : Rd M size v n xs := fun _ _ _ H => (H.pick (.there hm)).own_sl
theorem Rd.old {W : World} {size n : Nat} {v : Value} {xs : List Value} (hm : Has M (old W) M') (h : SlW W size v n xs) : Rd M size v n xs := fun _ _ _ H => (H.pick (.there hm)).old_sl h
theorem Rd.cl {size n k : Nat} {xs : List Value} (hm : Has M (cl b c E) M') (hx : xs.length = n * size) (hle : o + n * size ≤ c.size) (h : (c.extract o (o + n * size)).toList = xs) : Rd M size (.slice (some ⟨b, o, none⟩) n k) n xs :=
  fun _ _ _ H => ⟨hx, .inr ⟨b, o, k, c, E, (0, 0), rfl, (H.pick (.there hm)).cl_get, hle, h⟩⟩
theorem Rd.nil {size k : Nat} {a : Option Addr} : Rd M size (.slice a 0 k) 0 [] := fun _ _ _ H => ⟨by simp, .inl ⟨a, k, rfl, rfl⟩⟩
theorem Rd.imp {size n : Nat} {v : Value} {xs : List Value} (h : Rd M size v n xs) (hi : Imp M' M) : Rd M' size v n xs := fun _ _ _ H => h _ _ _ (H.enx hi)
theorem Rd.someAt {w : World} {F : Asrt} {size n k : Nat} {a : Option Addr} {xs : List Value} (h : Rd M size (.slice a n k) n xs) (hn : 0 < n) (H : St w0 w (F :: M)) : ∃ b o, a = some ⟨b, o, none⟩ := (h _ _ _ H).isSome hn
theorem Rd.len {w : World} {F : Asrt} {size n : Nat} {v : Value} {xs : List Value} (h : Rd M size v n xs) (H : St w0 w (F :: M)) : ∃ a k, v = .slice a n k := SlW.len (h _ _ _ H)
theorem Zia {size by' n m T' E' : Nat} {z v sv : Value} {xs news : List Value} [hs : TySlice P T E] [hi : TyI P E size by' z] [ht : TySlice P T' E']
    (hx : ev ρ x = v) (hy : ev ρ y = sv) (hm : Has M (own E size v n xs) M') (hsl : Rd M size sv m news)
    (h1 : news.all oneC = true) (hby : by' ≠ 0) (hb : (n + m) * by' ≤ 140737488355328)
    (k : ∀ a' c', xOps P w0 ops rest (put ρ dst (.slice a' (n + m) c')) (own E size (.slice a' (n + m) c') (n + m) (xs ++ news) :: M') K) :
    xOps P w0 ops (⟨dst, .call { callee := .builtin .append, args := #[x, y], argTypes := #[T, T'] }, ty, pos, after, none⟩ :: rest) ρ M K :=
  fun F w H => Zfu H hx hy (.there hm) (hsl _ _ _ H) h1 hby hb (fun a' c' w' H' => k a' c' F w' H'.swap)
theorem Zib {size by' n dl dc T' : Nat} {z sv : Value} {xs : List Value} [hs : TySlice P T E] [hi : TyI P E size by' z] {E0 : Nat}
    (hx : ev ρ x = .slice (some ⟨b, o, none⟩) dl dc) (hy : ev ρ y = sv) (hsl : Rd M size sv n xs) (hm : Repl M (cl b c E0) (cl b c' E0) M2) (hle : o + dl * size ≤ c.size) (h1 : xs.all oneC = true) (hc : wr c o (xs.take (min n dl * size)) = c')
    (k : xOps P w0 ops rest (put ρ dst (.int .i64 (min n dl : Nat))) M2 K) :
    xOps P w0 ops (⟨dst, .call { callee := .builtin .copy, args := #[x, y], argTypes := #[T, T'] }, ty, pos, after, none⟩ :: rest) ρ M K :=
  fun F w H => Zfv H hx hy (hsl _ _ _ H) (.there hm) hle h1 hc (fun w' H' => k F w' H')
/-- An element of a slice, read. -/
theorem Zic {m k j : Nat} {xs : List Value} {v : Value} [hs : TyScal P T] (hx : ev ρ x = .pointer (some ⟨b, o + j, none⟩)) (HS : Rd M 1 (.slice (some ⟨b, o, none⟩) m k) m xs) (hj : j < m) (hv : xs[j]? = some v)
    (kk : xOps P w0 ops rest (put ρ dst v) M K) : xOps P w0 ops (⟨dst, .load T x, ty, pos, after, none⟩ :: rest) ρ M K := fun F w H => Zf5 hx (HS _ _ _ H) hj hv (kk F w H)
theorem Zid {k j sz by' : Nat} {z : Value} [hs : TyAggr P T] [hi : TyI P T sz by' z]
    {α : Type} {enc : α → List Value} {l : List α} (he : ∀ a, (enc a).length = sz) (hsz : 0 < sz) (hx : ev ρ x = .pointer (some ⟨b, o + j * sz, none⟩)) (HS : Rd M sz (.slice (some ⟨b, o, none⟩) l.length k) l.length (l.flatMap enc)) (hj : j < l.length)
    (kk : xOps P w0 ops rest (put ρ dst (.agg (enc l[j]).toArray)) M K) : xOps P w0 ops (⟨dst, .load T x, ty, pos, after, none⟩ :: rest) ρ M K := fun F w H => Zf9 he hsz hx (HS _ _ _ H) hj (kk F w H)
theorem Zie {k i j sz : Nat} {v : Value} [hs : TyScal P T]
    {α : Type} {enc : α → List Value} {l : List α} (he : ∀ a, (enc a).length = sz) (hsz : 0 < sz) (hx : ev ρ x = .pointer (some ⟨b, o + i * sz + j, none⟩)) (HS : Rd M sz (.slice (some ⟨b, o, none⟩) l.length k) l.length (l.flatMap enc)) (hi : i < l.length) (hj : j < sz) (hv : (enc l[i])[j]? = some v)
    (kk : xOps P w0 ops rest (put ρ dst v) M K) : xOps P w0 ops (⟨dst, .load T x, ty, pos, after, none⟩ :: rest) ρ M K := fun F w H => Zga he hsz hx (HS _ _ _ H) hi hj hv (kk F w H)
end
section maps
variable {P : Program} {w0 : World} {ops : Array Oper} {dst : Option Nat} {ty : TypeId} {pos : String} {after : Array Edge} {rest : List Oper} {ρ : Env} {K : XK} {M M' M2 : List Asrt}
variable {x y z' : Operand} {T Kt E b : Nat} {α : Type} {A : Value → α → Asrt} {d : α} {f : Int → α} {k : Int} {v : Value}
theorem Zif {α : Type} (A : Value → α → Asrt) (d : α) (kk : ∀ b, xOps P w0 ops rest (put ρ dst (.map (some b))) (omap b A d (fun _ => d) :: M) K) :
    xOps P w0 ops (⟨dst, .makeMap T none, ty, pos, after, none⟩ :: rest) ρ M K := fun F w H => Zfl H A d (fun w' b H' => kk b F w' H'.swap)
theorem Zig {by' : Nat} [hm : TyMap P T Kt E] [hk : TyInt P Kt .i64] [hz : TyI P E 1 by' (.slice none 0 0)] (hx : ev ρ x = .map (some b)) (hy : ev ρ y = .int .i64 k) (hh : Has M (ohole b A d f k v) M') (kk : xOps P w0 ops rest (put ρ dst v) M K) :
    xOps P w0 ops (⟨dst, .lookup T x y false, ty, pos, after, none⟩ :: rest) ρ M K := fun F w H => Zfm H hx hy (.there hh) (kk F w H)
theorem Zih [hm : TyMap P T Kt E] [hk : TyInt P Kt .i64] {v' : Value} (hx : ev ρ x = .map (some b)) (hy : ev ρ y = .int .i64 k) (hz : ev ρ z' = v') (hh : Repl M (ohole b A d f k v) (oheld b A d f k v') M2) (kk : xOps P w0 ops rest (put ρ dst undef) M2 K) :
    xOps P w0 ops (⟨dst, .mapUpdate T x y z', ty, pos, after, none⟩ :: rest) ρ M K := fun F w H => Zfo H hx hy hz (.there hh) (fun w' H' => kk F w' H')
theorem Zii {K2 : Nat} [hm : TyMap P T Kt E] [hk : TyInt P Kt .i64] (hx : ev ρ x = .map (some b)) (hy : ev ρ y = .int .i64 k) (hh : Repl M (ohole b A d f k v) (omap b A d (upd f k d)) M2) (kk : xOps P w0 ops rest (put ρ dst (.tuple #[])) M2 K) :
    xOps P w0 ops (⟨dst, .call { callee := .builtin .delete, args := #[x, y], argTypes := #[T, K2] }, ty, pos, after, none⟩ :: rest) ρ M K := fun F w H => Zfp H hx hy (.there hh) (fun w' H' => kk F w' H')
end maps
end Go.Sl

/- The engine over pieces alone: regions whose order is drawn. What only reads comes as soon as it may, what makes a block of its own as late as it may; of what does more, one at a time, or both orders. -/
set_option linter.unusedVariables false
set_option linter.unusedSimpArgs false
namespace Go.Sl
open Go

inductive Ord
  | nil
  | q (i : Nat) (r : Ord)
  | r (i : Nat) (r : Ord)
  | e (i : Nat) (n : Bool) (r : Ord)
  | a (i : Nat) (r : Ord)
  | alt (x y : Ord)

section
variable {P : Program} {ops : Array Oper} {w0 : World} {F0 : Asrt} {SM : List Asrt} {KW : Env → World → Prop}
def SMw (w0 : World) (SM : List Asrt) (w : World) : Prop := ∃ F, St w0 w (F :: SM)
def CX (P : Program) (w0 : World) (F0 : Asrt) (ops : Array Oper) (SM : List Asrt) (KW : Env → World → Prop) : Ord → Env → List Asrt → Prop
  | .nil, ρ, M => ∀ w, St w0 w (F0 :: M) → KW ρ w
  | .q i r, ρ, M => ∃ o v, ops[i]? = some o ∧ YS P ops (fun _ => True) o ρ v ∧ CX P w0 F0 ops SM KW r (put ρ o.dst v) M
  | .r i r, ρ, M => ∃ o v, ops[i]? = some o ∧ YS P ops (SMw w0 SM) o ρ v ∧ CX P w0 F0 ops SM KW r (put ρ o.dst v) M
  | .e i n r, ρ, M => ∃ o, ops[i]? = some o ∧ ∀ F w, St w0 w (F :: M) → denI P ops o ρ w (fun ρ' w' => ∃ M', St w0 w' (F :: M') ∧ (n = true → Imp M' SM) ∧ CX P w0 F0 ops SM KW r ρ' M')
  | .a i r, ρ, M => ∃ d T ty pos z, ops[i]? = some ⟨some d, .alloc T, ty, pos, #[], none⟩ ∧ (∃ n by', TyI P T n by' z) ∧ ∀ b, CX P w0 F0 ops SM KW r (put ρ (some d) (.pointer (some ⟨b, 0, none⟩))) (cl b z.cells T :: M)
  | .alt x y, ρ, M => CX P w0 F0 ops SM KW x ρ M ∧ CX P w0 F0 ops SM KW y ρ M

theorem CX_mono : ∀ (r : Ord) {ρ : Env} {M N : List Asrt}, Imp N M → CX P w0 F0 ops SM KW r ρ M → CX P w0 F0 ops SM KW r ρ N
  | .nil, ρ, M, N, hi, h => fun w H => h w (H.enx hi)
  | .q i r, ρ, M, N, hi, h => by obtain ⟨o, v, h1, h2, h3⟩ := h; exact ⟨o, v, h1, h2, CX_mono r hi h3⟩
  | .r i r, ρ, M, N, hi, h => by obtain ⟨o, v, h1, h2, h3⟩ := h; exact ⟨o, v, h1, h2, CX_mono r hi h3⟩
  | .e i n r, ρ, M, N, hi, h => by obtain ⟨o, h1, h2⟩ := h; exact ⟨o, h1, fun F w H => h2 F w (H.enx hi)⟩
  | .a i r, ρ, M, N, hi, h => by obtain ⟨d, T, ty, pos, z, h1, h2, h3⟩ := h; exact ⟨d, T, ty, pos, z, h1, h2, fun b => CX_mono r hi.cons (h3 b)⟩
  | .alt x y, ρ, M, N, hi, h => ⟨CX_mono x hi h.1, CX_mono y hi h.2⟩

theorem denI_apart' {o : Oper} {ρ : Env} {w : World} {d : Option Nat} {v : Value} {X : Env → World → Prop} (hs : ∀ cs b, o.op ≠ .select cs b) (h1 : ∀ k, d = some k → k ∉ o.looksAt ops) (h2 : ∀ k, d = some k → o.dst ≠ some k)
    (h : denI P ops o ρ w (fun ρ' w' => X (put ρ' d v) w')) : denI P ops o (put ρ d v) w X := by
  unfold denI at *
  rw [wanted_apart h1]
  split
  · rename_i hw
    rw [if_pos hw] at h
    unfold opW at *
    rw [exec_apart hs h1]
    cases hr : (execOp (ev ρ) o).run P w with
    | halt x w' => rw [hr] at h; exact h.elim
    | ok x w' =>
      rw [hr] at h
      cases x <;> simp only [After] at h ⊢ <;> first
        | (rw [put_comm h2]; exact h)
        | (refine Calls.mono h (Ret.mono fun u w'' hq => ?_)
           rw [put_comm h2]; exact hq)
        | exact h.elim
  · rename_i hw
    rw [if_neg hw] at h
    rw [put_comm h2]; exact h

theorem YS.apart' {S : World → Prop} {o : Oper} {ρ : Env} {v u : Value} {d : Option Nat} (hs : ∀ cs b, o.op ≠ .select cs b) (h1 : ∀ k, d = some k → k ∉ o.looksAt ops) (h : YS P ops S o ρ v) : YS P ops S o (put ρ d u) v := by
  unfold YS at *
  rw [wanted_apart h1, exec_apart hs h1]
  exact h
theorem TyI.zero_eq {T n n' by' by2 : Nat} {z z' : Value} (h : TyI P T n by' z) (h' : TyI P T n' by2 z') : z = z' := by
  obtain ⟨i, hi, _, _, hz⟩ := h.out
  obtain ⟨j, hj, _, _, hz'⟩ := h'.out
  rw [hi] at hj; cases hj
  rw [hz] at hz'; cases hz'; rfl

def del (a : Nat) : Ord → Ord
  | .nil => .nil
  | .q i r => .q i (del a r)
  | .r i r => .r i (del a r)
  | .e i n r => .e i n (del a r)
  | .a i r => bif Nat.beq i a then r else .a i (del a r)
  | .alt x y => .alt (del a x) (del a y)
/-- Nothing ahead of the making of a looks at its slot d, or writes it. -/
def apO (ops : Array Oper) (d i : Nat) : Bool := match ops[i]? with
  | some o => noSel o && !((o.looksAt ops).contains d) && (o.dst != some d)
  | none => false
def apA (ops : Array Oper) (d a : Nat) : Ord → Bool
  | .nil => false
  | .q i r => apO ops d i && apA ops d a r
  | .r i r => apO ops d i && apA ops d a r
  | .e i _ r => apO ops d i && apA ops d a r
  | .a i r => bif Nat.beq i a then true else (apO ops d i && apA ops d a r)
  | .alt x y => apA ops d a x && apA ops d a y
theorem apO_spec {d i : Nat} {o : Oper} (ho : ops[i]? = some o) (h : apO ops d i = true) : (∀ cs b, o.op ≠ .select cs b) ∧ (∀ k, some d = some k → k ∉ o.looksAt ops) ∧ (∀ k, some d = some k → o.dst ≠ some k) := by
  unfold apO at h
  rw [ho] at h
  simp only [Bool.and_eq_true, Bool.not_eq_true', bne_iff_ne, ne_eq] at h
  refine ⟨noSel_spec h.1.1, fun k hk => ?_, fun k hk => ?_⟩
  · cases hk; have := h.1.2; simpa using this
  · cases hk; exact h.2
theorem early {a d T : Nat} {ty : TypeId} {pos : String} {z : Value} {n by' : Nat} (ho : ops[a]? = some ⟨some d, .alloc T, ty, pos, #[], none⟩) (hz : TyI P T n by' z) (b : Nat) : ∀ (r : Ord) {ρ : Env} {M : List Asrt}, apA ops d a r = true →
    CX P w0 F0 ops SM KW r ρ M → CX P w0 F0 ops SM KW (del a r) (put ρ (some d) (.pointer (some ⟨b, 0, none⟩))) (cl b z.cells T :: M)
  | .nil, ρ, M, ha, h => by simp [apA] at ha
  | .q i r, ρ, M, ha, h => by
    simp only [apA, Bool.and_eq_true] at ha
    obtain ⟨o, v, h1, h2, h3⟩ := h
    obtain ⟨s1, s2, s3⟩ := apO_spec h1 ha.1
    refine ⟨o, v, h1, h2.apart' s1 s2, ?_⟩
    rw [put_comm s3]
    exact early ho hz b r ha.2 h3
  | .r i r, ρ, M, ha, h => by
    simp only [apA, Bool.and_eq_true] at ha
    obtain ⟨o, v, h1, h2, h3⟩ := h
    obtain ⟨s1, s2, s3⟩ := apO_spec h1 ha.1
    refine ⟨o, v, h1, h2.apart' s1 s2, ?_⟩
    rw [put_comm s3]
    exact early ho hz b r ha.2 h3
  | .e i m r, ρ, M, ha, h => by
    simp only [apA, Bool.and_eq_true] at ha
    obtain ⟨o, h1, h2⟩ := h
    obtain ⟨s1, s2, s3⟩ := apO_spec h1 ha.1
    refine ⟨o, h1, fun F w H => denI_apart' s1 s2 s3 ?_⟩
    have H2 : St w0 w (all [F, cl b z.cells T] :: M) := H.ent (Imp.app (L := [F, cl b z.cells T]))
    refine denI_mono ?_ (h2 _ w H2)
    rintro v w' ⟨M', H', hn, hk⟩
    exact ⟨cl b z.cells T :: M', H'.ent Imp.unapp, fun e => Imp.tail.trans (hn e), early ho hz b r ha.2 hk⟩
  | .a i r, ρ, M, ha, h => by
    obtain ⟨d', T', ty', pos', z', h1, h2, h3⟩ := h
    simp only [apA, del] at ha ⊢
    cases hia : Nat.beq i a with
    | true =>
      have e := Nat.eq_of_beq_eq_true hia
      subst e
      rw [ho] at h1
      cases h1
      obtain ⟨n', by2, hz'⟩ := h2
      have e := hz.zero_eq hz'
      subst e
      exact h3 b
    | false =>
      rw [hia] at ha
      simp only [cond_false, Bool.and_eq_true] at ha ⊢
      obtain ⟨s1, s2, s3⟩ := apO_spec h1 ha.1
      refine ⟨d', T', ty', pos', z', h1, h2, fun b' => ?_⟩
      have s3' : ∀ k, some d = some k → some d' ≠ some k := s3
      rw [put_comm s3']
      exact CX_mono _ Imp.swap (early ho hz b r ha.2 (h3 b'))
  | .alt x y, ρ, M, ha, h => by
    simp only [apA, Bool.and_eq_true] at ha
    exact ⟨early ho hz b x ha.1 h.1, early ho hz b y ha.2 h.2⟩

/-- i may be taken now: all that could come ahead of it leaves its slots alone. -/
def takeP (ops : Array Oper) (bef : Array Nat) (listed : Array Bool) (i : Nat) : Bool :=
  (List.range ops.size).all fun j => listed.getD j true || j == i || (bef.getD j 0).testBit i ||
    ((match ops[i]?, ops[j]? with|some oi, some oj => noSel oi && noSel oj && oi.apart ops oj|_, _ => false))
theorem takeP_set {bef : Array Nat} {listed : Array Bool} {i j : Nat} (h : takeP ops bef listed i = true) : takeP ops bef (listed.setIfInBounds j true) i = true := by
  refine List.all_eq_true.2 fun k hk => ?_
  have := List.all_eq_true.1 h k hk
  simp only [Bool.or_eq_true] at this ⊢
  rw [getD_set]
  split
  · exact .inl (.inl (.inl rfl))
  · exact this
variable {S : World → Prop} {need : Nat → Bool} {K : Env → World → Prop}
theorem denN_takeP {bef : Array Nat} (hb : befOk ops bef = true) {i : Nat} {o : Oper} {v : Value} (ho : ops[i]? = some o) : ∀ (f : Nat) (listed : Array Bool) (ρ : Env) (w : World), listed.size = ops.size → closed ops bef listed →
    i ∈ Region.ready .any ops listed → takeP ops bef listed i = true → (need i = true → ∀ w, S w) ∨ need i = false → YS P ops (fun _ => True) o ρ v → denN P ops S need f (listed.setIfInBounds i true) (put ρ o.dst v) w K → denN P ops S need (f + 1) listed ρ w K := by
  intro f
  induction f with
  | zero =>
    intro listed ρ w hsz hc hi ht hnd hy h
    refine ⟨fun e => (by rw [e] at hi; cases hi), fun j hj oj hoj => ?_⟩
    by_cases hji : j = i
    · subst hji
      rw [ho] at hoj; cases hoj
      have hS : need j = true → S w := fun e => by
        rcases hnd with h|h
        · exact h e w
        · rw [h] at e; cases e
      unfold denI
      cases hw : Region.wanted o (yl ops ρ) with
      | true =>
        rw [if_pos rfl]; unfold opW
        rw [hy.1 hw w trivial]
        exact ⟨hS, h⟩
      | false =>
        rw [if_neg (by simp)]
        rw [← hy.2 hw]
        exact ⟨hS, h⟩
    · have := ready_set (i := j) (j := i) hj (fun e => hji e.symm)
      rw [h.1] at this; cases this
  | succ f ih =>
    intro listed ρ w hsz hc hi ht hnd hy h
    refine ⟨fun e => (by rw [e] at hi; cases hi), fun j hj oj hoj => ?_⟩
    by_cases hji : j = i
    · subst hji
      rw [ho] at hoj; cases hoj
      have hS : need j = true → S w := fun e => by
        rcases hnd with h|h
        · exact h e w
        · rw [h] at e; cases e
      unfold denI
      cases hw : Region.wanted o (yl ops ρ) with
      | true =>
        rw [if_pos rfl]; unfold opW
        rw [hy.1 hw w trivial]
        exact ⟨hS, h⟩
      | false =>
        rw [if_neg (by simp)]
        rw [← hy.2 hw]
        exact ⟨hS, h⟩
    · have hjr := ready_spec hj
      have hir := ready_spec hi
      have htj := List.all_eq_true.1 ht j (by simpa using hjr.1)
      have hbj := closed_ready hsz hb hc hj hir.1 hir.2.1
      rw [hjr.2.1, hbj, ho, hoj] at htj
      simp only [Bool.false_or, Bool.or_eq_true, beq_iff_eq, hji, false_or, Bool.and_eq_true, Bool.false_eq_true, or_false] at htj
      obtain ⟨⟨hsi, hsj⟩, hap⟩ := htj
      have hap := Oper.apart_spec hap
      have hh := h.2 j (ready_set hj (fun e => hji e.symm)) oj hoj
      refine denI_mono ?_ (denI_apart (noSel_spec hsj) hap.1 hap.2.1 hh)
      intro u w' ⟨hSw, hk⟩
      refine ⟨hSw, ?_⟩
      refine ih (listed.setIfInBounds j true) (put ρ oj.dst u) w' (by simpa using hsz) (closed_set hsz hb hc hj) (ready_set hi hji) (takeP_set ht) hnd (hy.apart (noSel_spec hsi) hap.2.2) ?_
      rw [Array.setIfInBounds_comm _ _ hji]
      exact hk

def isFl (ops : Array Oper) (j : Nat) : Option Nat := match ops[j]? with
  | some ⟨some d, .alloc _, _, _, after, none⟩ => if after.size = 0 then some d else none
  | _ => none
def heads : Ord → List Nat
  | .e i _ _ => [i]
  | .a i _ => [i]
  | .alt x y => heads x ++ heads y
  | _ => []
def brs (ops : Array Oper) (nd : List Nat) (ck : Bool → Ord → Array Bool → Bool) (s : Bool) : Ord → Array Bool → Bool
  | .e i n r, listed => (nd.contains i == n) && ck n r (listed.setIfInBounds i true)
  | .a i r, listed => (isFl ops i).isSome && (!nd.contains i || s) && ck s r (listed.setIfInBounds i true)
  | .alt x y, listed => brs ops nd ck s x listed && brs ops nd ck s y listed
  | _, _ => false
/-- The order serves: nd tells behind which operations S holds, s whether it holds now. -/
def chkX (ops : Array Oper) (bef : Array Nat) (nd : List Nat) : Nat → Bool → Ord → Array Bool → Bool
  | 0, _, .nil, listed => (Region.ready .any ops listed).isEmpty
  | 0, _, _, _ => false
  | _ + 1, _, .nil, _ => false
  | f + 1, s, .q i r, listed => (Region.ready .any ops listed).contains i && takeP ops bef listed i && !nd.contains i && chkX ops bef nd f s r (listed.setIfInBounds i true)
  | f + 1, s, .r i r, listed => (Region.ready .any ops listed).contains i && s && takeOk ops bef nd.contains listed i && chkX ops bef nd f s r (listed.setIfInBounds i true)
  | f + 1, s, o, listed =>
    ((Region.ready .any ops listed).all fun j => (heads o).contains j || (match isFl ops j with
        | some d => apA ops d j o && (!nd.contains j || s) && chkX ops bef nd f s (del j o) (listed.setIfInBounds j true)
        | none => false)) &&
      !(Region.ready .any ops listed).isEmpty && brs ops nd (chkX ops bef nd f) s o listed
theorem isFl_spec {j d : Nat} (h : isFl ops j = some d) : ∃ T ty pos, ops[j]? = some ⟨some d, .alloc T, ty, pos, #[], none⟩ := by
  unfold isFl at h
  split at h
  · rename_i d' T ty pos after ho
    split at h
    · rename_i hz
      cases h
      have : after = #[] := Array.eq_empty_of_size_eq_zero hz
      subst this
      exact ⟨T, ty, pos, ho⟩
    · cases h
  · cases h
theorem brs_head {nd : List Nat} {ck : Bool → Ord → Array Bool → Bool} {s : Bool} {listed : Array Bool} {j : Nat} : ∀ (r : Ord) {ρ : Env} {M : List Asrt}, brs ops nd ck s r listed = true → (heads r).contains j = true → CX P w0 F0 ops SM KW r ρ M →
    (∃ n r', (nd.contains j == n) = true ∧ ck n r' (listed.setIfInBounds j true) = true ∧ CX P w0 F0 ops SM KW (.e j n r') ρ M) ∨
    (∃ r', (isFl ops j).isSome = true ∧ (!nd.contains j || s) = true ∧ ck s r' (listed.setIfInBounds j true) = true ∧ CX P w0 F0 ops SM KW (.a j r') ρ M)
  | .nil, ρ, M, hb, hj, h => by simp [heads] at hj
  | .q i r, ρ, M, hb, hj, h => by simp [heads] at hj
  | .r i r, ρ, M, hb, hj, h => by simp [heads] at hj
  | .e i n r, ρ, M, hb, hj, h => by
    simp only [heads, List.contains_cons, List.contains_nil, Bool.or_false, beq_iff_eq] at hj
    subst hj
    simp only [brs, Bool.and_eq_true] at hb
    exact .inl ⟨n, r, hb.1, hb.2, h⟩
  | .a i r, ρ, M, hb, hj, h => by
    simp only [heads, List.contains_cons, List.contains_nil, Bool.or_false, beq_iff_eq] at hj
    subst hj
    simp only [brs, Bool.and_eq_true] at hb
    exact .inr ⟨r, hb.1.1, hb.1.2, hb.2, h⟩
  | .alt x y, ρ, M, hb, hj, h => by
    simp only [brs, Bool.and_eq_true] at hb
    simp only [heads, List.contains_eq_mem, List.mem_append, decide_eq_true_eq] at hj
    rcases hj with hj|hj
    · exact brs_head x hb.1 (by simpa using hj) h.1
    · exact brs_head y hb.2 (by simpa using hj) h.2
theorem alloc_den {T d : Nat} {ty : TypeId} {pos : String} {z : Value} {n by' : Nat} {ρ : Env} {w : World} {L : List Asrt} {K : Env → World → Prop} (hz : TyI P T n by' z) (H : St w0 w L)
    (k : ∀ w' b, St w0 w' (cl b z.cells T :: L) → K (put ρ (some d) (.pointer (some ⟨b, 0, none⟩))) w') : denI P ops ⟨some d, .alloc T, ty, pos, #[], none⟩ ρ w K := by
  have h : denOps P ops [⟨some d, .alloc T, ty, pos, #[], none⟩] ρ w K := Zdi (hi := hz) H (fun w' b H' => Zcx (k w' b H'))
  exact h
/-- All blocks that a region makes for itself have a type with a zero. -/
def zOk (P : Program) (ops : Array Oper) : Prop := ∀ (j d : Nat), isFl ops j = some d → ∀ T ty pos, ops[j]? = some ⟨some d, .alloc T, ty, pos, #[], none⟩ → ∃ n by' z, TyI P T n by' z
theorem CX_sound {bef : Array Nat} {nd : List Nat} (hb : befOk ops bef = true) (hz : zOk P ops) : ∀ (f : Nat) (s : Bool) (r : Ord) (listed : Array Bool) (ρ : Env) (w : World) (M : List Asrt), listed.size = ops.size → closed ops bef listed →
    chkX ops bef nd f s r listed = true → (s = true → Imp M SM) → St w0 w (F0 :: M) → CX P w0 F0 ops SM KW r ρ M → denN P ops (SMw w0 SM) nd.contains f listed ρ w KW := by
  intro f
  induction f with
  | zero =>
    intro s r listed ρ w M hsz hcl hc hs H h
    cases r <;> simp only [chkX, Bool.false_eq_true] at hc
    exact ⟨by simpa using hc, h w H⟩
  | succ f ih =>
    intro s r listed ρ w M hsz hcl hc hs H h
    have key : ∀ o : Ord, (((Region.ready .any ops listed).all fun j => (heads o).contains j || (match isFl ops j with
        | some d => apA ops d j o && (!nd.contains j || s) && chkX ops bef nd f s (del j o) (listed.setIfInBounds j true)
        | none => false)) &&
      !(Region.ready .any ops listed).isEmpty && brs ops nd (chkX ops bef nd f) s o listed) = true → CX P w0 F0 ops SM KW o ρ M → denN P ops (SMw w0 SM) nd.contains (f + 1) listed ρ w KW := by
      intro o hc h
      simp only [Bool.and_eq_true] at hc
      obtain ⟨⟨hall, hne⟩, hbr⟩ := hc
      refine ⟨fun e => (by rw [e] at hne; simp at hne), fun j hj oj hoj => ?_⟩
      have hcl' := closed_set hsz hb hcl hj
      have hsz' : (listed.setIfInBounds j true).size = ops.size := by simpa using hsz
      have hjc := List.all_eq_true.1 hall j hj
      by_cases hh : (heads o).contains j = true
      · rcases brs_head o hbr hh h with ⟨n, r', h1, h2, o', h3, h4⟩|⟨r', h1, h2, h3, d, T, ty, pos, z, h4, ⟨n', by', h5⟩, h6⟩
        · rw [hoj] at h3; cases h3
          refine denI_mono ?_ (h4 F0 w H)
          rintro u w' ⟨M', H', hn, hk⟩
          refine ⟨fun e => ⟨F0, H'.enx (hn ?_)⟩, ih n r' _ _ _ M' hsz' hcl' h2 hn H' hk⟩
          have := eq_of_beq h1
          rw [← this]; exact e
        · rw [hoj] at h4; cases h4
          refine alloc_den h5 H ?_
          intro w' b H'
          have H2 := H'.swap
          have hs' : s = true → Imp (cl b z.cells T :: M) SM := fun e => Imp.tail.trans (hs e)
          refine ⟨fun e => ⟨F0, H2.enx (hs' ?_)⟩, ih s r' _ _ _ _ hsz' hcl' h3 hs' H2 (h6 b)⟩
          rw [e] at h2; simpa using h2
      · rw [Bool.or_eq_true] at hjc
        rcases hjc with hjc|hjc
        · exact absurd hjc hh
        · split at hjc
          · rename_i d hd
            obtain ⟨T, ty, pos, ho⟩ := isFl_spec hd
            rw [hoj] at ho; cases ho
            simp only [Bool.and_eq_true] at hjc
            obtain ⟨⟨ha, hnd⟩, hck⟩ := hjc
            obtain ⟨n', by', z, h5⟩ := hz j d hd T ty pos hoj
            refine alloc_den h5 H ?_
            intro w' b H'
            have H2 := H'.swap
            have hs' : s = true → Imp (cl b z.cells T :: M) SM := fun e => Imp.tail.trans (hs e)
            refine ⟨fun e => ⟨F0, H2.enx (hs' ?_)⟩, ih s (del j o) _ _ _ _ hsz' hcl' hck hs' H2 (early hoj h5 b o ha h)⟩
            rw [e] at hnd; simpa using hnd
          · cases hjc
    cases r with
    | nil => simp [chkX] at hc
    | q i r =>
      simp only [chkX, Bool.and_eq_true, List.contains_iff_mem] at hc
      obtain ⟨⟨⟨hi, ht⟩, hn⟩, hr⟩ := hc
      obtain ⟨o, v, ho, hy, h⟩ := h
      exact denN_takeP hb ho f listed ρ w hsz hcl hi ht (.inr (by simpa using hn)) hy (ih s r _ _ w M (by simpa using hsz) (closed_set hsz hb hcl hi) hr hs H h)
    | r i r =>
      simp only [chkX, Bool.and_eq_true, List.contains_iff_mem] at hc
      obtain ⟨⟨⟨hi, hsT⟩, ht⟩, hr⟩ := hc
      obtain ⟨o, v, ho, hy, h⟩ := h
      exact denN_take hb ho f listed ρ w hsz hcl hi ht hy ⟨F0, H.enx (hs hsT)⟩ (ih s r _ _ w M (by simpa using hsz) (closed_set hsz hb hcl hi) hr hs H h)
    | e i n r => exact key _ (by simpa only [chkX] using hc) h
    | a i r => exact key _ (by simpa only [chkX] using hc) h
    | alt x y => exact key _ (by simpa only [chkX] using hc) h

def drawX (ops : Array Oper) (nd : List Nat) (r : Ord) : Bool :=
  befOk ops (Region.before ops) && chkX ops (Region.before ops) nd ops.size true r (Array.replicate ops.size false)
/-- A region whose order is drawn, along one order, or some. -/
def cX (P : Program) (w0 : World) (ops : Array Oper) (SM : List Asrt) (r : Ord) (ρ : Env) (M : List Asrt) (K : XK) : Prop :=
  ∀ F0, CX P w0 F0 ops SM (fun ρ' w' => ∃ M', St w0 w' (F0 :: M') ∧ K ρ' M') r ρ M
def zOkB (P : Program) (ops : Array Oper) : Bool := (List.range ops.size).all fun j => match ops[j]? with
  | some ⟨some _, .alloc T, _, _, _, none⟩ => match P.info? T with
    | some i => match i.zero with
      | some z => z.cells.size == i.size
      | none => false
    | none => false
  | _ => true
theorem zOk_of (h : zOkB P ops = true) : zOk P ops := by
  intro j d hj T ty pos ho
  have hlt : j < ops.size := (Array.getElem?_eq_some_iff.1 ho).1
  have := List.all_eq_true.1 h j (by simpa using hlt)
  rw [ho] at this
  simp only [] at this
  cases hi : P.info? T with
  | none => rw [hi] at this; cases this
  | some i =>
    rw [hi] at this
    simp only [] at this
    cases hz : i.zero with
    | none => rw [hz] at this; cases this
    | some z =>
      rw [hz] at this
      exact ⟨i.size, i.bytes, z, by rw [hi]; simp [hz], by simpa using this⟩
theorem Zij {id : Nat} {ρ : Env} {M : List Asrt} {Q : XQ} (SM : List Asrt) (nd : List Nat) (r : Ord) (hz : zOkB P ops = true) (hchk : drawX ops nd r = true) (hS : Imp M SM) (h : cX P w0 ops SM r ρ M (fun ρ' M' => Q .normal ρ' M')) : xC P w0 (.region id ops true) ρ M Q := by
  intro F w H
  simp only [drawX, Bool.and_eq_true] at hchk
  refine denN_sound (S := SMw w0 SM) (need := nd.contains) _ _ _ _ (CX_sound hchk.1 (zOk_of hz) ops.size true r _ ρ _ M (by simp) ?_ hchk.2 (fun _ => hS) (H.drawn _) (h F))
  intro p hp hlp
  simp [hp] at hlp
end
section
variable {P : Program} {w0 : World} {ops : Array Oper} {SM M N : List Asrt} {r : Ord} {ρ : Env} {K : XK} {i : Nat} {dst : Option Nat} {op : Op} {ty T : TypeId} {pos : String} {after : Array Edge} {x : Operand}
theorem Zik (h : K ρ M) : cX P w0 ops SM .nil ρ M K := fun F0 w H => ⟨M, H, h⟩
theorem Zil (h : Imp M N) (k : cX P w0 ops SM r ρ N K) : cX P w0 ops SM r ρ M K := fun F0 => CX_mono r h (k F0)
theorem Zim {v : Value} (ho : ops[i]? = some ⟨dst, op, ty, pos, after, none⟩) (h : PV P op ρ v) (k : cX P w0 ops SM r (put ρ dst v) M K) : cX P w0 ops SM (.q i r) ρ M K :=
  fun F0 => ⟨_, v, ho, ⟨fun _ w _ => h _ w rfl, fun e => by simp [Region.wanted] at e⟩, k F0⟩
theorem Zin {v : Value} {j : Nat} {b : Bool} (ho : ops[i]? = some ⟨dst, op, ty, pos, after, some (j, b)⟩) (hg : yl ops ρ j = some b) (h : PV P op ρ v) (k : cX P w0 ops SM r (put ρ dst v) M K) : cX P w0 ops SM (.q i r) ρ M K :=
  fun F0 => ⟨_, v, ho, ⟨fun _ w _ => h _ w rfl, fun e => by simp [Region.wanted, hg] at e⟩, k F0⟩
theorem Zio {j : Nat} {b : Bool} (ho : ops[i]? = some ⟨dst, op, ty, pos, after, some (j, b)⟩) (hg : yl ops ρ j = some (!b)) (k : cX P w0 ops SM r (put ρ dst undef) M K) : cX P w0 ops SM (.q i r) ρ M K :=
  fun F0 => ⟨_, undef, ho, ⟨fun e => by simp [Region.wanted, hg] at e, fun _ => rfl⟩, k F0⟩
theorem Zip {j : Nat} {b : Bool} (ho : ops[i]? = some ⟨dst, op, ty, pos, after, some (j, b)⟩) (hg : yl ops ρ j = none) (k : cX P w0 ops SM r (put ρ dst undef) M K) : cX P w0 ops SM (.q i r) ρ M K :=
  fun F0 => ⟨_, undef, ho, ⟨fun e => by simp [Region.wanted, hg] at e, fun _ => rfl⟩, k F0⟩
theorem Ziq {o : Oper} {n : Bool} (ho : ops[i]? = some o) (h : xOps P w0 ops [o] ρ M (fun ρ' M' => (n = true → Imp M' SM) ∧ cX P w0 ops SM r ρ' M' K)) : cX P w0 ops SM (.e i n r) ρ M K := by
  intro F0
  refine ⟨o, ho, fun F w H => ?_⟩
  refine denI_mono (K := fun ρ' w' => ∃ M', St w0 w' (F :: M') ∧ (n = true → Imp M' SM) ∧ cX P w0 ops SM r ρ' M' K) ?_ (h F w H)
  rintro v w' ⟨M', H', hn, hk⟩
  exact ⟨M', H', hn, hk F0⟩
theorem Zir {d n by' : Nat} {z : Value} {cs : Array Value} [hi : TyI P T n by' z] (ho : ops[i]? = some ⟨some d, .alloc T, ty, pos, #[], none⟩) (hz : z.cells = cs) (k : ∀ b, cX P w0 ops SM r (put ρ (some d) (.pointer (some ⟨b, 0, none⟩))) (cl b cs T :: M) K) : cX P w0 ops SM (.a i r) ρ M K := by
  subst hz; exact fun F0 => ⟨d, T, ty, pos, z, ho, ⟨n, by', hi⟩, fun b => k b F0⟩
theorem Zis {a b : Ord} (h1 : cX P w0 ops SM a ρ M K) (h2 : cX P w0 ops SM b ρ M K) : cX P w0 ops SM (.alt a b) ρ M K := fun F0 => ⟨h1 F0, h2 F0⟩
/-- What only reads. -/
theorem Zit {v : Value} (ho : ops[i]? = some ⟨dst, op, ty, pos, after, none⟩) (h : ∀ (F : Asrt) w, St w0 w (F :: SM) → (execOp (ev ρ) ⟨dst, op, ty, pos, after, none⟩).run P w = .ok (.value v) w) (k : cX P w0 ops SM r (put ρ dst v) M K) : cX P w0 ops SM (.r i r) ρ M K :=
  fun F0 => ⟨_, v, ho, ⟨fun _ w ⟨F, H⟩ => h F w H, fun e => by simp [Region.wanted] at e⟩, k F0⟩
theorem Ziu {v : Value} {j : Nat} {b : Bool} (ho : ops[i]? = some ⟨dst, op, ty, pos, after, some (j, b)⟩) (hg : yl ops ρ j = some b) (h : ∀ (F : Asrt) w, St w0 w (F :: SM) → (execOp (ev ρ) ⟨dst, op, ty, pos, after, some (j, b)⟩).run P w = .ok (.value v) w) (k : cX P w0 ops SM r (put ρ dst v) M K) : cX P w0 ops SM (.r i r) ρ M K :=
  fun F0 => ⟨_, v, ho, ⟨fun _ w ⟨F, H⟩ => h F w H, fun e => by simp [Region.wanted, hg] at e⟩, k F0⟩
theorem run_ld {b o E : Nat} {c : Array Value} {v : Value} {w : World} {oo : Oper} {M' : List Asrt} [hs : TyScal P T] (hoo : oo.op = .load T x) (hx : ev ρ x = .pointer (some ⟨b, o, none⟩)) (hm : Has SM (cl b c E) M') (hv : c[o]? = some v) {F : Asrt} (H : St w0 w (F :: SM)) : (execOp (ev ρ) oo).run P w = .ok (.value v) w := by
  have hr : (Instr.loadAt T (ev ρ x)).run P w = .ok v w := by
    rw [hx]; unfold Instr.loadAt
    rw [run_bind P _ _ w w _ rfl]; unfold loadVar
    rw [run_bind P _ _ w w _ (run_isAgg hs.h)]
    exact run_load1 ((H.pick (.there hm)).cl_get) hv
  unfold execOp; rw [hoo]
  exact op_run_value hr
theorem Ziv {b o E : Nat} {c : Array Value} {v : Value} {M' : List Asrt} [hs : TyScal P T] (ho : ops[i]? = some ⟨dst, .load T x, ty, pos, after, none⟩) (hx : ev ρ x = .pointer (some ⟨b, o, none⟩)) (hm : Has SM (cl b c E) M') (hv : c[o]? = some v) (k : cX P w0 ops SM r (put ρ dst v) M K) : cX P w0 ops SM (.r i r) ρ M K :=
  Zit ho (fun F w H => run_ld rfl hx hm hv H) k
theorem Ziw {b o E j : Nat} {t : Bool} {c : Array Value} {v : Value} {M' : List Asrt} [hs : TyScal P T] (ho : ops[i]? = some ⟨dst, .load T x, ty, pos, after, some (j, t)⟩) (hg : yl ops ρ j = some t) (hx : ev ρ x = .pointer (some ⟨b, o, none⟩)) (hm : Has SM (cl b c E) M') (hv : c[o]? = some v) (k : cX P w0 ops SM r (put ρ dst v) M K) : cX P w0 ops SM (.r i r) ρ M K :=
  Ziu ho hg (fun F w H => run_ld rfl hx hm hv H) k
theorem run_lda {b o E n by' : Nat} {z : Value} {c cs : Array Value} {w : World} {oo : Oper} {M' : List Asrt} [hs : TyAggr P T] [hi : TyI P T n by' z] (hoo : oo.op = .load T x) (hx : ev ρ x = .pointer (some ⟨b, o, none⟩)) (hm : Has SM (cl b c E) M') (hv : o + n ≤ c.size) (hc : c.extract o (o + n) = cs) {F : Asrt} (H : St w0 w (F :: SM)) : (execOp (ev ρ) oo).run P w = .ok (.value (.agg cs)) w := by
  have hr := run_loadAgg (P := P) (ρ := ρ) (x := x) (T := T) (n := n) ((H.pick (.there hm)).cl_get) hv hx
  rw [hc] at hr
  unfold execOp; rw [hoo]
  exact op_run_value hr
theorem Zix {b o E n by' : Nat} {z : Value} {c cs : Array Value} {M' : List Asrt} [hs : TyAggr P T] [hi : TyI P T n by' z] (ho : ops[i]? = some ⟨dst, .load T x, ty, pos, after, none⟩) (hx : ev ρ x = .pointer (some ⟨b, o, none⟩)) (hm : Has SM (cl b c E) M') (hv : o + n ≤ c.size) (hc : c.extract o (o + n) = cs) (k : cX P w0 ops SM r (put ρ dst (.agg cs)) M K) : cX P w0 ops SM (.r i r) ρ M K :=
  Zit ho (fun F w H => run_lda rfl hx hm hv hc H) k
theorem Ziy {b E n by' : Nat} {z : Value} {c : Array Value} {M' : List Asrt} [hs : TyAggr P T] [hi : TyI P T n by' z] (ho : ops[i]? = some ⟨dst, .load T x, ty, pos, after, none⟩) (hx : ev ρ x = .pointer (some ⟨b, 0, none⟩)) (hm : Has SM (cl b c E) M') (hv : c.size = n) (k : cX P w0 ops SM r (put ρ dst (.agg c)) M K) : cX P w0 ops SM (.r i r) ρ M K :=
  Zix ho hx hm (by omega) (by rw [Nat.zero_add, ← hv]; simp) k
theorem YS.weak {S : World → Prop} {o : Oper} {v : Value} (h : YS P ops (fun _ => True) o ρ v) : YS P ops S o ρ v := ⟨fun e w _ => h.1 e w trivial, h.2⟩
theorem Ziz {v : Value} (ho : ops[i]? = some ⟨dst, op, ty, pos, after, none⟩) (h : PV P op ρ v) (k : cX P w0 ops SM r (put ρ dst v) M K) : cX P w0 ops SM (.r i r) ρ M K :=
  fun F0 => ⟨_, v, ho, ⟨fun _ w _ => h _ w rfl, fun e => by simp [Region.wanted] at e⟩, k F0⟩
theorem Zi0 {v : Value} {j : Nat} {b : Bool} (ho : ops[i]? = some ⟨dst, op, ty, pos, after, some (j, b)⟩) (hg : yl ops ρ j = some b) (h : PV P op ρ v) (k : cX P w0 ops SM r (put ρ dst v) M K) : cX P w0 ops SM (.r i r) ρ M K :=
  fun F0 => ⟨_, v, ho, ⟨fun _ w _ => h _ w rfl, fun e => by simp [Region.wanted, hg] at e⟩, k F0⟩
theorem Zi1 {j : Nat} {b : Bool} (ho : ops[i]? = some ⟨dst, op, ty, pos, after, some (j, b)⟩) (hg : yl ops ρ j = some (!b)) (k : cX P w0 ops SM r (put ρ dst undef) M K) : cX P w0 ops SM (.r i r) ρ M K :=
  fun F0 => ⟨_, undef, ho, ⟨fun e => by simp [Region.wanted, hg] at e, fun _ => rfl⟩, k F0⟩
theorem Zi2 {j : Nat} {b : Bool} (ho : ops[i]? = some ⟨dst, op, ty, pos, after, some (j, b)⟩) (hg : yl ops ρ j = none) (k : cX P w0 ops SM r (put ρ dst undef) M K) : cX P w0 ops SM (.r i r) ρ M K :=
  fun F0 => ⟨_, undef, ho, ⟨fun e => by simp [Region.wanted, hg] at e, fun _ => rfl⟩, k F0⟩
theorem Zi3 {b o E n by' j : Nat} {t : Bool} {z : Value} {c cs : Array Value} {M' : List Asrt} [hs : TyAggr P T] [hi : TyI P T n by' z] (ho : ops[i]? = some ⟨dst, .load T x, ty, pos, after, some (j, t)⟩) (hg : yl ops ρ j = some t) (hx : ev ρ x = .pointer (some ⟨b, o, none⟩)) (hm : Has SM (cl b c E) M') (hv : o + n ≤ c.size) (hc : c.extract o (o + n) = cs) (k : cX P w0 ops SM r (put ρ dst (.agg cs)) M K) : cX P w0 ops SM (.r i r) ρ M K :=
  Ziu ho hg (fun F w H => run_lda rfl hx hm hv hc H) k
theorem Zi4 {b E n by' j : Nat} {t : Bool} {z : Value} {c : Array Value} {M' : List Asrt} [hs : TyAggr P T] [hi : TyI P T n by' z] (ho : ops[i]? = some ⟨dst, .load T x, ty, pos, after, some (j, t)⟩) (hg : yl ops ρ j = some t) (hx : ev ρ x = .pointer (some ⟨b, 0, none⟩)) (hm : Has SM (cl b c E) M') (hv : c.size = n) (k : cX P w0 ops SM r (put ρ dst (.agg c)) M K) : cX P w0 ops SM (.r i r) ρ M K :=
  Zi3 ho hg hx hm (by omega) (by rw [Nat.zero_add, ← hv]; simp) k
theorem Zi5 (d : Nat) {t : Bool} (hd : ρ d = .bool t) (e : t = true) (h : cX P w0 ops SM r (put ρ (some d) (.bool true)) M K) : cX P w0 ops SM r ρ M K := by
  subst e; rwa [put_self hd] at h
theorem Zi6 (d : Nat) {t : Bool} (hd : ρ d = .bool t) (e : t = false) (h : cX P w0 ops SM r (put ρ (some d) (.bool false)) M K) : cX P w0 ops SM r ρ M K := by
  subst e; rwa [put_self hd] at h
theorem Zi7 (d : Nat) {p : Prop} [Decidable p] (hd : ρ d = .bool (decide p)) (h1 : p → cX P w0 ops SM r (put ρ (some d) (.bool true)) M K) (h2 : ¬ p → cX P w0 ops SM r (put ρ (some d) (.bool false)) M K) : cX P w0 ops SM r ρ M K := by
  by_cases hp : p
  · exact Zi5 d hd (decide_eq_true hp) (h1 hp)
  · exact Zi6 d hd (decide_eq_false hp) (h2 hp)
theorem Zi8 {b o m kk j : Nat} {xs : List Value} {v : Value} [hs : TyScal P T] (ho : ops[i]? = some ⟨dst, .load T x, ty, pos, after, none⟩) (hx : ev ρ x = .pointer (some ⟨b, o + j, none⟩)) (HS : Rd SM 1 (.slice (some ⟨b, o, none⟩) m kk) m xs) (hj : j < m) (hv : xs[j]? = some v) (k : cX P w0 ops SM r (put ρ dst v) M K) : cX P w0 ops SM (.r i r) ρ M K := by
  refine Zit ho (fun F w H => ?_) k
  obtain ⟨c, E, fr, hb, hc⟩ := (HS _ _ _ H).cellAt hj
  have hr : (Instr.loadAt T (ev ρ x)).run P w = .ok v w := by
    rw [hx]; unfold Instr.loadAt
    rw [run_bind P _ _ w w _ rfl]; unfold loadVar
    rw [run_bind P _ _ w w _ (run_isAgg hs.h)]
    exact run_load1 hb (hc.trans hv)
  exact op_run_value hr
end
end Go.Sl

/- The engine: whole numbers without a sign, as bits. -/
set_option linter.unusedVariables false
set_option linter.unusedSimpArgs false
namespace Go.Sl
open Go
theorem uwrap {k : IntKind} (hk : k.signed = false) (n : Int) : k.wrap n = ((BitVec.ofInt k.bits n).toNat : Int) := by
  have h : (2 ^ k.bits : Int) = ((2 ^ k.bits : Nat) : Int) := by push_cast; rfl
  have hp : (0 : Int) < ((2 ^ k.bits : Nat) : Int) := by exact_mod_cast Nat.two_pow_pos k.bits
  unfold IntKind.wrap
  rw [hk, BitVec.toNat_ofInt, h]
  simp only [Bool.false_and, Bool.false_eq_true, if_false]
  rw [Int.toNat_of_nonneg (Int.emod_nonneg _ (by omega))]
theorem ofInt_nat {w : Nat} (x : BitVec w) : BitVec.ofInt w (x.toNat : Int) = x := by
  apply BitVec.eq_of_toNat_eq
  rw [BitVec.toNat_ofInt, ← Int.natCast_emod]
  simp [Nat.mod_eq_of_lt x.isLt]
theorem uwrap_nat {k : IntKind} (hk : k.signed = false) (x : BitVec k.bits) : k.wrap (x.toNat : Int) = (x.toNat : Int) := by rw [uwrap hk, ofInt_nat]
section
variable {P : Program} {ρ : Env} {T T' : Nat} {a b : Operand} {k : IntKind} {x y : BitVec k.bits}
theorem pvu_add (hk : k.signed = false) (hx : ev ρ a = .int k x.toNat) (hy : ev ρ b = .int k y.toNat) : PV P (.binOp .add T a b T') ρ (.int k (x + y).toNat) := by
  have h := Zbd (P := P) (T := T) (T' := T') hx hy
  have e : BitVec.ofInt k.bits ((x.toNat : Int) + y.toNat) = x + y := by rw [BitVec.ofInt_add, ofInt_nat, ofInt_nat]
  rwa [uwrap hk, e] at h
theorem pvu_sub (hk : k.signed = false) (hx : ev ρ a = .int k x.toNat) (hy : ev ρ b = .int k y.toNat) : PV P (.binOp .sub T a b T') ρ (.int k (x - y).toNat) := by
  have h := Zbe (P := P) (T := T) (T' := T') hx hy
  have e : BitVec.ofInt k.bits ((x.toNat : Int) - y.toNat) = x - y := by rw [Int.sub_eq_add_neg, BitVec.ofInt_add, ofInt_nat, BitVec.ofInt_neg, ofInt_nat, BitVec.sub_eq_add_neg]
  rwa [uwrap hk, e] at h
theorem pvu_mul (hk : k.signed = false) (hx : ev ρ a = .int k x.toNat) (hy : ev ρ b = .int k y.toNat) : PV P (.binOp .mul T a b T') ρ (.int k (x * y).toNat) := by
  have h := Zbf (P := P) (T := T) (T' := T') hx hy
  have e : BitVec.ofInt k.bits ((x.toNat : Int) * y.toNat) = x * y := by rw [BitVec.ofInt_mul, ofInt_nat, ofInt_nat]
  rwa [uwrap hk, e] at h
theorem pvu_and (hk : k.signed = false) (hx : ev ρ a = .int k x.toNat) (hy : ev ρ b = .int k y.toNat) : PV P (.binOp .and T a b T') ρ (.int k (x &&& y).toNat) := by
  have h := Zbu (P := P) (T := T) (T' := T') hx hy
  rwa [ofInt_nat, ofInt_nat, uwrap_nat hk] at h
theorem pvu_or (hk : k.signed = false) (hx : ev ρ a = .int k x.toNat) (hy : ev ρ b = .int k y.toNat) : PV P (.binOp .or T a b T') ρ (.int k (x ||| y).toNat) := by
  have h := Zbv (P := P) (T := T) (T' := T') hx hy
  rwa [ofInt_nat, ofInt_nat, uwrap_nat hk] at h
theorem pvu_xor (hk : k.signed = false) (hx : ev ρ a = .int k x.toNat) (hy : ev ρ b = .int k y.toNat) : PV P (.binOp .xor T a b T') ρ (.int k (x ^^^ y).toNat) := by
  have h := Zbw (P := P) (T := T) (T' := T') hx hy
  rwa [ofInt_nat, ofInt_nat, uwrap_nat hk] at h
theorem pvu_andNot (hk : k.signed = false) (hx : ev ρ a = .int k x.toNat) (hy : ev ρ b = .int k y.toNat) : PV P (.binOp .andNot T a b T') ρ (.int k (x &&& ~~~ y).toNat) := by
  have h := Zbx (P := P) (T := T) (T' := T') hx hy
  rwa [ofInt_nat, ofInt_nat, uwrap_nat hk] at h
theorem pvu_shl {k' : IntKind} {m : Nat} (hk : k.signed = false) (hx : ev ρ a = .int k x.toNat) (hy : ev ρ b = .int k' (m : Int)) : PV P (.binOp .shl T a b T') ρ (.int k (x <<< m).toNat) := by
  have h := Zby (P := P) (T := T) (T' := T') hx hy (by omega)
  have e : BitVec.ofInt k.bits ((x.toNat : Int) * 2 ^ (min m k.bits)) = x <<< m := by
    apply BitVec.eq_of_toNat_eq
    rw [BitVec.toNat_shiftLeft, BitVec.toNat_ofInt, show ((x.toNat : Int) * 2 ^ (min m k.bits)) = ((x.toNat * 2 ^ (min m k.bits) : Nat) : Int) by push_cast; rfl, ← Int.natCast_emod, Int.toNat_natCast, Nat.shiftLeft_eq]
    rcases Nat.le_total m k.bits with hle|hle
    · rw [Nat.min_eq_left hle]
    · rw [Nat.min_eq_right hle]
      obtain ⟨d, rfl⟩ := Nat.exists_eq_add_of_le hle
      rw [Nat.pow_add, ← Nat.mul_assoc, Nat.mul_mod_left, Nat.mul_right_comm, Nat.mul_mod_left]
  rw [uwrap hk, Int.toNat_natCast, e] at h
  exact h
theorem pvu_shr {k' : IntKind} {m : Nat} (hk : k.signed = false) (hx : ev ρ a = .int k x.toNat) (hy : ev ρ b = .int k' (m : Int)) : PV P (.binOp .shr T a b T') ρ (.int k (x >>> m).toNat) := by
  have h := Zbz (P := P) (T := T) (T' := T') hx hy (by omega)
  have e : (x.toNat : Int).fdiv (2 ^ (min m k.bits)) = ((x >>> m).toNat : Int) := by
    have hp : (0 : Int) ≤ 2 ^ (min m k.bits) := by
      rw [show ((2 : Int) ^ (min m k.bits)) = ((2 ^ (min m k.bits) : Nat) : Int) by push_cast; rfl]
      exact Int.natCast_nonneg _
    rw [Int.fdiv_eq_ediv_of_nonneg _ hp, BitVec.toNat_ushiftRight, Nat.shiftRight_eq_div_pow]
    rcases Nat.le_total m k.bits with hle|hle
    · rw [Nat.min_eq_left hle]; push_cast; rfl
    · rw [Nat.min_eq_right hle]
      have h1 : x.toNat / 2 ^ k.bits = 0 := Nat.div_eq_of_lt x.isLt
      have h2 : x.toNat / 2 ^ m = 0 := Nat.div_eq_of_lt (Nat.lt_of_lt_of_le x.isLt (Nat.pow_le_pow_right (by omega) hle))
      rw [h2]
      have h3 : ((x.toNat : Int) / 2 ^ k.bits) = ((x.toNat / 2 ^ k.bits : Nat) : Int) := by push_cast; rfl
      rw [h3, h1]
  rw [Int.toNat_natCast, e] at h
  exact h
theorem pvu_not (hk : k.signed = false) (hx : ev ρ a = .int k x.toNat) : PV P (.unOp .xor T a) ρ (.int k (~~~ x).toNat) := by
  have h := Zb3 (P := P) (T := T) hx
  have e : BitVec.ofInt k.bits (if k.signed then -1 else k.max) = BitVec.allOnes k.bits := by
    rw [hk]; simp only [Bool.false_eq_true, if_false, IntKind.max, hk]
    apply BitVec.eq_of_toNat_eq
    have hp := Nat.two_pow_pos k.bits
    rw [BitVec.toNat_ofInt, BitVec.toNat_allOnes, show (2 ^ k.bits - 1 : Int) = ((2 ^ k.bits - 1 : Nat) : Int) by push_cast [Nat.one_le_two_pow]; rfl, ← Int.natCast_emod, Int.toNat_natCast, Nat.mod_eq_of_lt (by omega)]
  rw [e, ofInt_nat, uwrap_nat hk, BitVec.allOnes_xor] at h
  exact h
theorem pvu_neg (hk : k.signed = false) (hx : ev ρ a = .int k x.toNat) : PV P (.unOp .neg T a) ρ (.int k (- x).toNat) := by
  have h := Zb2 (P := P) (T := T) hx
  have e : BitVec.ofInt k.bits (0 - (x.toNat : Int)) = - x := by rw [Int.zero_sub, BitVec.ofInt_neg, ofInt_nat]
  rwa [uwrap hk, e] at h
theorem pvu_eql (hx : ev ρ a = .int k x.toNat) (hy : ev ρ b = .int k y.toNat) : PV P (.binOp .eql T a b T') ρ (.bool (decide (x = y))) := by
  have h := Zbr (P := P) (T := T) (T' := T') hx hy
  have e : decide ((x.toNat : Int) = y.toNat) = decide (x = y) := decide_eq_decide.2 ⟨fun h => BitVec.eq_of_toNat_eq (by omega), fun h => by rw [h]⟩
  rwa [e] at h
theorem pvu_neq (hx : ev ρ a = .int k x.toNat) (hy : ev ρ b = .int k y.toNat) : PV P (.binOp .neq T a b T') ρ (.bool (decide (x ≠ y))) := by
  have h := Zbs (P := P) (T := T) (T' := T') hx hy
  have e : decide ((x.toNat : Int) ≠ y.toNat) = decide (x ≠ y) := decide_eq_decide.2 ⟨fun h e => h (by rw [e]), fun h e => h (BitVec.eq_of_toNat_eq (by omega))⟩
  rwa [e] at h
theorem pvu_lss (hx : ev ρ a = .int k x.toNat) (hy : ev ρ b = .int k y.toNat) : PV P (.binOp .lss T a b T') ρ (.bool (decide (x.toNat < y.toNat))) := by
  have h := Zbn (P := P) (T := T) (T' := T') hx hy
  rwa [show decide ((x.toNat : Int) < y.toNat) = decide (x.toNat < y.toNat) from decide_eq_decide.2 (by omega)] at h
theorem pvu_leq (hx : ev ρ a = .int k x.toNat) (hy : ev ρ b = .int k y.toNat) : PV P (.binOp .leq T a b T') ρ (.bool (decide (x.toNat ≤ y.toNat))) := by
  have h := Zbo (P := P) (T := T) (T' := T') hx hy
  rwa [show decide ((x.toNat : Int) ≤ y.toNat) = decide (x.toNat ≤ y.toNat) from decide_eq_decide.2 (by omega)] at h
theorem pvu_gtr (hx : ev ρ a = .int k x.toNat) (hy : ev ρ b = .int k y.toNat) : PV P (.binOp .gtr T a b T') ρ (.bool (decide (y.toNat < x.toNat))) := by
  have h := Zbp (P := P) (T := T) (T' := T') hx hy
  rwa [show decide ((y.toNat : Int) < x.toNat) = decide (y.toNat < x.toNat) from decide_eq_decide.2 (by omega)] at h
theorem pvu_geq (hx : ev ρ a = .int k x.toNat) (hy : ev ρ b = .int k y.toNat) : PV P (.binOp .geq T a b T') ρ (.bool (decide (y.toNat ≤ x.toNat))) := by
  have h := Zbq (P := P) (T := T) (T' := T') hx hy
  rwa [show decide ((y.toNat : Int) ≤ x.toNat) = decide (y.toNat ≤ x.toNat) from decide_eq_decide.2 (by omega)] at h
theorem pvu_quo (hk : k.signed = false) (hx : ev ρ a = .int k x.toNat) (hy : ev ρ b = .int k y.toNat) (h0 : 0 < y.toNat) : PV P (.binOp .quo T a b T') ρ (.int k (x / y).toNat) := by
  have e : ((x.toNat : Int) / y.toNat) = ((x / y).toNat : Int) := by rw [BitVec.toNat_udiv]; push_cast; rfl
  have h := Zbm (P := P) (T := T) (T' := T') hx hy hk ⟨by omega, by omega, by rw [e, uwrap_nat hk]⟩
  rwa [e] at h
theorem pvu_rem (hx : ev ρ a = .int k x.toNat) (hy : ev ρ b = .int k y.toNat) (h0 : 0 < y.toNat) : PV P (.binOp .rem T a b T') ρ (.int k (x % y).toNat) := by
  have h := Zbk (P := P) (T := T) (T' := T') hx hy (by omega)
  have e : ((x.toNat : Int)).tmod y.toNat = ((x % y).toNat : Int) := by rw [BitVec.toNat_umod]; rfl
  rwa [e] at h
theorem pvu_conv {S D : Nat} {k' : IntKind} [hs : TyInt P S k] [hd : TyInt P D k'] (hk' : k'.signed = false) (hx : ev ρ a = .int k x.toNat) : PV P (.convert S D a) ρ (.int k' (x.setWidth k'.bits).toNat) := by
  have h := Zb4 (P := P) (S := S) (D := D) hx
  have e : BitVec.ofInt k'.bits (x.toNat : Int) = x.setWidth k'.bits := by
    apply BitVec.eq_of_toNat_eq
    rw [BitVec.toNat_ofInt, BitVec.toNat_setWidth, ← Int.natCast_emod, Int.toNat_natCast]
  rwa [uwrap hk', e] at h
theorem pvu_convI {S D : Nat} {k0 : IntKind} {n : Int} [hs : TyInt P S k0] [hd : TyInt P D k] (hk : k.signed = false) (hx : ev ρ a = .int k0 n) : PV P (.convert S D a) ρ (.int k (BitVec.ofInt k.bits n).toNat) := by
  have h := Zb4 (P := P) (S := S) (D := D) hx
  rwa [uwrap hk] at h
theorem pvu_convN {S D : Nat} [hs : TyInt P S k] [hd : TyInt P D .i64] (hx : ev ρ a = .int k x.toNat) (h : x.toNat < 9223372036854775808) : PV P (.convert S D a) ρ (.int .i64 x.toNat) := by
  refine Zb5 hx ?_
  rw [IntWalk.i64_in _ ⟨by omega, by omega⟩]
end

section
variable {P : Program} {ρ : Env} {T T' : Nat} {a b : Operand} {x y : BitVec 8}
theorem Zi9 (hx : ev ρ a = .int .u8 x.toNat) (hy : ev ρ b = .int .u8 y.toNat) : PV P (.binOp .add T a b T') ρ (.int .u8 (x + y).toNat) := pvu_add (k := .u8) rfl hx hy
theorem Zja (hx : ev ρ a = .int .u8 x.toNat) (hy : ev ρ b = .int .u8 y.toNat) : PV P (.binOp .sub T a b T') ρ (.int .u8 (x - y).toNat) := pvu_sub (k := .u8) rfl hx hy
theorem Zjb (hx : ev ρ a = .int .u8 x.toNat) (hy : ev ρ b = .int .u8 y.toNat) : PV P (.binOp .mul T a b T') ρ (.int .u8 (x * y).toNat) := pvu_mul (k := .u8) rfl hx hy
theorem Zjc (hx : ev ρ a = .int .u8 x.toNat) (hy : ev ρ b = .int .u8 y.toNat) : PV P (.binOp .and T a b T') ρ (.int .u8 (x &&& y).toNat) := pvu_and (k := .u8) rfl hx hy
theorem Zjd (hx : ev ρ a = .int .u8 x.toNat) (hy : ev ρ b = .int .u8 y.toNat) : PV P (.binOp .or T a b T') ρ (.int .u8 (x ||| y).toNat) := pvu_or (k := .u8) rfl hx hy
theorem Zje (hx : ev ρ a = .int .u8 x.toNat) (hy : ev ρ b = .int .u8 y.toNat) : PV P (.binOp .xor T a b T') ρ (.int .u8 (x ^^^ y).toNat) := pvu_xor (k := .u8) rfl hx hy
theorem Zjf (hx : ev ρ a = .int .u8 x.toNat) (hy : ev ρ b = .int .u8 y.toNat) : PV P (.binOp .andNot T a b T') ρ (.int .u8 (x &&& ~~~ y).toNat) := pvu_andNot (k := .u8) rfl hx hy
theorem Zjg {k' : IntKind} {m : Nat} (hx : ev ρ a = .int .u8 x.toNat) (hy : ev ρ b = .int k' (m : Int)) : PV P (.binOp .shl T a b T') ρ (.int .u8 (x <<< m).toNat) := pvu_shl (k := .u8) rfl hx hy
theorem Zjh {k' : IntKind} {m : Nat} (hx : ev ρ a = .int .u8 x.toNat) (hy : ev ρ b = .int k' (m : Int)) : PV P (.binOp .shr T a b T') ρ (.int .u8 (x >>> m).toNat) := pvu_shr (k := .u8) rfl hx hy
theorem Zji (hx : ev ρ a = .int .u8 x.toNat) : PV P (.unOp .xor T a) ρ (.int .u8 (~~~ x).toNat) := pvu_not (k := .u8) rfl hx
theorem Zjj (hx : ev ρ a = .int .u8 x.toNat) : PV P (.unOp .neg T a) ρ (.int .u8 (- x).toNat) := pvu_neg (k := .u8) rfl hx
theorem Zjk (hx : ev ρ a = .int .u8 x.toNat) (hy : ev ρ b = .int .u8 y.toNat) : PV P (.binOp .eql T a b T') ρ (.bool (decide (x = y))) := pvu_eql (k := .u8) hx hy
theorem Zjl (hx : ev ρ a = .int .u8 x.toNat) (hy : ev ρ b = .int .u8 y.toNat) : PV P (.binOp .neq T a b T') ρ (.bool (decide (x ≠ y))) := pvu_neq (k := .u8) hx hy
theorem Zjm (hx : ev ρ a = .int .u8 x.toNat) (hy : ev ρ b = .int .u8 y.toNat) : PV P (.binOp .lss T a b T') ρ (.bool (decide (x.toNat < y.toNat))) := pvu_lss (k := .u8) hx hy
theorem Zjn (hx : ev ρ a = .int .u8 x.toNat) (hy : ev ρ b = .int .u8 y.toNat) : PV P (.binOp .leq T a b T') ρ (.bool (decide (x.toNat ≤ y.toNat))) := pvu_leq (k := .u8) hx hy
theorem Zjo (hx : ev ρ a = .int .u8 x.toNat) (hy : ev ρ b = .int .u8 y.toNat) : PV P (.binOp .gtr T a b T') ρ (.bool (decide (y.toNat < x.toNat))) := pvu_gtr (k := .u8) hx hy
theorem Zjp (hx : ev ρ a = .int .u8 x.toNat) (hy : ev ρ b = .int .u8 y.toNat) : PV P (.binOp .geq T a b T') ρ (.bool (decide (y.toNat ≤ x.toNat))) := pvu_geq (k := .u8) hx hy
theorem Zjq (hx : ev ρ a = .int .u8 x.toNat) (hy : ev ρ b = .int .u8 y.toNat) (h0 : 0 < y.toNat := by first|omega|exact Nat.le_of_ble_eq_true rfl|(simp; done)|(simp; omega)|decide) : PV P (.binOp .quo T a b T') ρ (.int .u8 (x / y).toNat) := pvu_quo (k := .u8) rfl hx hy h0
theorem Zjr (hx : ev ρ a = .int .u8 x.toNat) (hy : ev ρ b = .int .u8 y.toNat) (h0 : 0 < y.toNat := by first|omega|exact Nat.le_of_ble_eq_true rfl|(simp; done)|(simp; omega)|decide) : PV P (.binOp .rem T a b T') ρ (.int .u8 (x % y).toNat) := pvu_rem (k := .u8) hx hy h0
theorem Zjs {S D : Nat} {n : Int} [hs : TyInt P S .i64] [hd : TyInt P D .u8] (hx : ev ρ a = .int .i64 n) : PV P (.convert S D a) ρ (.int .u8 (BitVec.ofInt 8 n).toNat) := pvu_convI (k := .u8) rfl hx
theorem Zjt {S D : Nat} [hs : TyInt P S .u8] [hd : TyInt P D .i64] (hx : ev ρ a = .int .u8 x.toNat) : PV P (.convert S D a) ρ (.int .i64 x.toNat) := pvu_convN (k := .u8) hx (Nat.lt_trans x.isLt (by decide))
theorem Zju {S D : Nat} [hs : TyInt P S .u8] [hd : TyInt P D .u8] (hx : ev ρ a = .int .u8 x.toNat) : PV P (.convert S D a) ρ (.int .u8 (x.setWidth 8).toNat) := pvu_conv (k := .u8) (k' := .u8) rfl hx
theorem Zjv {S D : Nat} [hs : TyInt P S .u8] [hd : TyInt P D .u16] (hx : ev ρ a = .int .u8 x.toNat) : PV P (.convert S D a) ρ (.int .u16 (x.setWidth 16).toNat) := pvu_conv (k := .u8) (k' := .u16) rfl hx
theorem Zjw {S D : Nat} [hs : TyInt P S .u8] [hd : TyInt P D .u32] (hx : ev ρ a = .int .u8 x.toNat) : PV P (.convert S D a) ρ (.int .u32 (x.setWidth 32).toNat) := pvu_conv (k := .u8) (k' := .u32) rfl hx
theorem Zjx {S D : Nat} [hs : TyInt P S .u8] [hd : TyInt P D .u64] (hx : ev ρ a = .int .u8 x.toNat) : PV P (.convert S D a) ρ (.int .u64 (x.setWidth 64).toNat) := pvu_conv (k := .u8) (k' := .u64) rfl hx
end
abbrev u8b (x : BitVec 8) : Value := .int .u8 x.toNat
section
variable {P : Program} {ρ : Env} {T T' : Nat} {a b : Operand} {x y : BitVec 16}
theorem Zjy (hx : ev ρ a = .int .u16 x.toNat) (hy : ev ρ b = .int .u16 y.toNat) : PV P (.binOp .add T a b T') ρ (.int .u16 (x + y).toNat) := pvu_add (k := .u16) rfl hx hy
theorem Zjz (hx : ev ρ a = .int .u16 x.toNat) (hy : ev ρ b = .int .u16 y.toNat) : PV P (.binOp .sub T a b T') ρ (.int .u16 (x - y).toNat) := pvu_sub (k := .u16) rfl hx hy
theorem Zj0 (hx : ev ρ a = .int .u16 x.toNat) (hy : ev ρ b = .int .u16 y.toNat) : PV P (.binOp .mul T a b T') ρ (.int .u16 (x * y).toNat) := pvu_mul (k := .u16) rfl hx hy
theorem Zj1 (hx : ev ρ a = .int .u16 x.toNat) (hy : ev ρ b = .int .u16 y.toNat) : PV P (.binOp .and T a b T') ρ (.int .u16 (x &&& y).toNat) := pvu_and (k := .u16) rfl hx hy
theorem Zj2 (hx : ev ρ a = .int .u16 x.toNat) (hy : ev ρ b = .int .u16 y.toNat) : PV P (.binOp .or T a b T') ρ (.int .u16 (x ||| y).toNat) := pvu_or (k := .u16) rfl hx hy
theorem Zj3 (hx : ev ρ a = .int .u16 x.toNat) (hy : ev ρ b = .int .u16 y.toNat) : PV P (.binOp .xor T a b T') ρ (.int .u16 (x ^^^ y).toNat) := pvu_xor (k := .u16) rfl hx hy
theorem Zj4 (hx : ev ρ a = .int .u16 x.toNat) (hy : ev ρ b = .int .u16 y.toNat) : PV P (.binOp .andNot T a b T') ρ (.int .u16 (x &&& ~~~ y).toNat) := pvu_andNot (k := .u16) rfl hx hy
theorem Zj5 {k' : IntKind} {m : Nat} (hx : ev ρ a = .int .u16 x.toNat) (hy : ev ρ b = .int k' (m : Int)) : PV P (.binOp .shl T a b T') ρ (.int .u16 (x <<< m).toNat) := pvu_shl (k := .u16) rfl hx hy
theorem Zj6 {k' : IntKind} {m : Nat} (hx : ev ρ a = .int .u16 x.toNat) (hy : ev ρ b = .int k' (m : Int)) : PV P (.binOp .shr T a b T') ρ (.int .u16 (x >>> m).toNat) := pvu_shr (k := .u16) rfl hx hy
theorem Zj7 (hx : ev ρ a = .int .u16 x.toNat) : PV P (.unOp .xor T a) ρ (.int .u16 (~~~ x).toNat) := pvu_not (k := .u16) rfl hx
theorem Zj8 (hx : ev ρ a = .int .u16 x.toNat) : PV P (.unOp .neg T a) ρ (.int .u16 (- x).toNat) := pvu_neg (k := .u16) rfl hx
theorem Zj9 (hx : ev ρ a = .int .u16 x.toNat) (hy : ev ρ b = .int .u16 y.toNat) : PV P (.binOp .eql T a b T') ρ (.bool (decide (x = y))) := pvu_eql (k := .u16) hx hy
theorem Zka (hx : ev ρ a = .int .u16 x.toNat) (hy : ev ρ b = .int .u16 y.toNat) : PV P (.binOp .neq T a b T') ρ (.bool (decide (x ≠ y))) := pvu_neq (k := .u16) hx hy
theorem Zkb (hx : ev ρ a = .int .u16 x.toNat) (hy : ev ρ b = .int .u16 y.toNat) : PV P (.binOp .lss T a b T') ρ (.bool (decide (x.toNat < y.toNat))) := pvu_lss (k := .u16) hx hy
theorem Zkc (hx : ev ρ a = .int .u16 x.toNat) (hy : ev ρ b = .int .u16 y.toNat) : PV P (.binOp .leq T a b T') ρ (.bool (decide (x.toNat ≤ y.toNat))) := pvu_leq (k := .u16) hx hy
theorem Zkd (hx : ev ρ a = .int .u16 x.toNat) (hy : ev ρ b = .int .u16 y.toNat) : PV P (.binOp .gtr T a b T') ρ (.bool (decide (y.toNat < x.toNat))) := pvu_gtr (k := .u16) hx hy
theorem Zke (hx : ev ρ a = .int .u16 x.toNat) (hy : ev ρ b = .int .u16 y.toNat) : PV P (.binOp .geq T a b T') ρ (.bool (decide (y.toNat ≤ x.toNat))) := pvu_geq (k := .u16) hx hy
theorem Zkf (hx : ev ρ a = .int .u16 x.toNat) (hy : ev ρ b = .int .u16 y.toNat) (h0 : 0 < y.toNat := by first|omega|exact Nat.le_of_ble_eq_true rfl|(simp; done)|(simp; omega)|decide) : PV P (.binOp .quo T a b T') ρ (.int .u16 (x / y).toNat) := pvu_quo (k := .u16) rfl hx hy h0
theorem Zkg (hx : ev ρ a = .int .u16 x.toNat) (hy : ev ρ b = .int .u16 y.toNat) (h0 : 0 < y.toNat := by first|omega|exact Nat.le_of_ble_eq_true rfl|(simp; done)|(simp; omega)|decide) : PV P (.binOp .rem T a b T') ρ (.int .u16 (x % y).toNat) := pvu_rem (k := .u16) hx hy h0
theorem Zkh {S D : Nat} {n : Int} [hs : TyInt P S .i64] [hd : TyInt P D .u16] (hx : ev ρ a = .int .i64 n) : PV P (.convert S D a) ρ (.int .u16 (BitVec.ofInt 16 n).toNat) := pvu_convI (k := .u16) rfl hx
theorem Zki {S D : Nat} [hs : TyInt P S .u16] [hd : TyInt P D .i64] (hx : ev ρ a = .int .u16 x.toNat) : PV P (.convert S D a) ρ (.int .i64 x.toNat) := pvu_convN (k := .u16) hx (Nat.lt_trans x.isLt (by decide))
theorem Zkj {S D : Nat} [hs : TyInt P S .u16] [hd : TyInt P D .u8] (hx : ev ρ a = .int .u16 x.toNat) : PV P (.convert S D a) ρ (.int .u8 (x.setWidth 8).toNat) := pvu_conv (k := .u16) (k' := .u8) rfl hx
theorem Zkk {S D : Nat} [hs : TyInt P S .u16] [hd : TyInt P D .u16] (hx : ev ρ a = .int .u16 x.toNat) : PV P (.convert S D a) ρ (.int .u16 (x.setWidth 16).toNat) := pvu_conv (k := .u16) (k' := .u16) rfl hx
theorem Zkl {S D : Nat} [hs : TyInt P S .u16] [hd : TyInt P D .u32] (hx : ev ρ a = .int .u16 x.toNat) : PV P (.convert S D a) ρ (.int .u32 (x.setWidth 32).toNat) := pvu_conv (k := .u16) (k' := .u32) rfl hx
theorem Zkm {S D : Nat} [hs : TyInt P S .u16] [hd : TyInt P D .u64] (hx : ev ρ a = .int .u16 x.toNat) : PV P (.convert S D a) ρ (.int .u64 (x.setWidth 64).toNat) := pvu_conv (k := .u16) (k' := .u64) rfl hx
end
abbrev u16b (x : BitVec 16) : Value := .int .u16 x.toNat
section
variable {P : Program} {ρ : Env} {T T' : Nat} {a b : Operand} {x y : BitVec 32}
theorem Zkn (hx : ev ρ a = .int .u32 x.toNat) (hy : ev ρ b = .int .u32 y.toNat) : PV P (.binOp .add T a b T') ρ (.int .u32 (x + y).toNat) := pvu_add (k := .u32) rfl hx hy
theorem Zko (hx : ev ρ a = .int .u32 x.toNat) (hy : ev ρ b = .int .u32 y.toNat) : PV P (.binOp .sub T a b T') ρ (.int .u32 (x - y).toNat) := pvu_sub (k := .u32) rfl hx hy
theorem Zkp (hx : ev ρ a = .int .u32 x.toNat) (hy : ev ρ b = .int .u32 y.toNat) : PV P (.binOp .mul T a b T') ρ (.int .u32 (x * y).toNat) := pvu_mul (k := .u32) rfl hx hy
theorem Zkq (hx : ev ρ a = .int .u32 x.toNat) (hy : ev ρ b = .int .u32 y.toNat) : PV P (.binOp .and T a b T') ρ (.int .u32 (x &&& y).toNat) := pvu_and (k := .u32) rfl hx hy
theorem Zkr (hx : ev ρ a = .int .u32 x.toNat) (hy : ev ρ b = .int .u32 y.toNat) : PV P (.binOp .or T a b T') ρ (.int .u32 (x ||| y).toNat) := pvu_or (k := .u32) rfl hx hy
theorem Zks (hx : ev ρ a = .int .u32 x.toNat) (hy : ev ρ b = .int .u32 y.toNat) : PV P (.binOp .xor T a b T') ρ (.int .u32 (x ^^^ y).toNat) := pvu_xor (k := .u32) rfl hx hy
theorem Zkt (hx : ev ρ a = .int .u32 x.toNat) (hy : ev ρ b = .int .u32 y.toNat) : PV P (.binOp .andNot T a b T') ρ (.int .u32 (x &&& ~~~ y).toNat) := pvu_andNot (k := .u32) rfl hx hy
theorem Zku {k' : IntKind} {m : Nat} (hx : ev ρ a = .int .u32 x.toNat) (hy : ev ρ b = .int k' (m : Int)) : PV P (.binOp .shl T a b T') ρ (.int .u32 (x <<< m).toNat) := pvu_shl (k := .u32) rfl hx hy
theorem Zkv {k' : IntKind} {m : Nat} (hx : ev ρ a = .int .u32 x.toNat) (hy : ev ρ b = .int k' (m : Int)) : PV P (.binOp .shr T a b T') ρ (.int .u32 (x >>> m).toNat) := pvu_shr (k := .u32) rfl hx hy
theorem Zkw (hx : ev ρ a = .int .u32 x.toNat) : PV P (.unOp .xor T a) ρ (.int .u32 (~~~ x).toNat) := pvu_not (k := .u32) rfl hx
theorem Zkx (hx : ev ρ a = .int .u32 x.toNat) : PV P (.unOp .neg T a) ρ (.int .u32 (- x).toNat) := pvu_neg (k := .u32) rfl hx
theorem Zky (hx : ev ρ a = .int .u32 x.toNat) (hy : ev ρ b = .int .u32 y.toNat) : PV P (.binOp .eql T a b T') ρ (.bool (decide (x = y))) := pvu_eql (k := .u32) hx hy
theorem Zkz (hx : ev ρ a = .int .u32 x.toNat) (hy : ev ρ b = .int .u32 y.toNat) : PV P (.binOp .neq T a b T') ρ (.bool (decide (x ≠ y))) := pvu_neq (k := .u32) hx hy
theorem Zk0 (hx : ev ρ a = .int .u32 x.toNat) (hy : ev ρ b = .int .u32 y.toNat) : PV P (.binOp .lss T a b T') ρ (.bool (decide (x.toNat < y.toNat))) := pvu_lss (k := .u32) hx hy
theorem Zk1 (hx : ev ρ a = .int .u32 x.toNat) (hy : ev ρ b = .int .u32 y.toNat) : PV P (.binOp .leq T a b T') ρ (.bool (decide (x.toNat ≤ y.toNat))) := pvu_leq (k := .u32) hx hy
theorem Zk2 (hx : ev ρ a = .int .u32 x.toNat) (hy : ev ρ b = .int .u32 y.toNat) : PV P (.binOp .gtr T a b T') ρ (.bool (decide (y.toNat < x.toNat))) := pvu_gtr (k := .u32) hx hy
theorem Zk3 (hx : ev ρ a = .int .u32 x.toNat) (hy : ev ρ b = .int .u32 y.toNat) : PV P (.binOp .geq T a b T') ρ (.bool (decide (y.toNat ≤ x.toNat))) := pvu_geq (k := .u32) hx hy
theorem Zk4 (hx : ev ρ a = .int .u32 x.toNat) (hy : ev ρ b = .int .u32 y.toNat) (h0 : 0 < y.toNat := by first|omega|exact Nat.le_of_ble_eq_true rfl|(simp; done)|(simp; omega)|decide) : PV P (.binOp .quo T a b T') ρ (.int .u32 (x / y).toNat) := pvu_quo (k := .u32) rfl hx hy h0
theorem Zk5 (hx : ev ρ a = .int .u32 x.toNat) (hy : ev ρ b = .int .u32 y.toNat) (h0 : 0 < y.toNat := by first|omega|exact Nat.le_of_ble_eq_true rfl|(simp; done)|(simp; omega)|decide) : PV P (.binOp .rem T a b T') ρ (.int .u32 (x % y).toNat) := pvu_rem (k := .u32) hx hy h0
theorem Zk6 {S D : Nat} {n : Int} [hs : TyInt P S .i64] [hd : TyInt P D .u32] (hx : ev ρ a = .int .i64 n) : PV P (.convert S D a) ρ (.int .u32 (BitVec.ofInt 32 n).toNat) := pvu_convI (k := .u32) rfl hx
theorem Zk7 {S D : Nat} [hs : TyInt P S .u32] [hd : TyInt P D .i64] (hx : ev ρ a = .int .u32 x.toNat) : PV P (.convert S D a) ρ (.int .i64 x.toNat) := pvu_convN (k := .u32) hx (Nat.lt_trans x.isLt (by decide))
theorem Zk8 {S D : Nat} [hs : TyInt P S .u32] [hd : TyInt P D .u8] (hx : ev ρ a = .int .u32 x.toNat) : PV P (.convert S D a) ρ (.int .u8 (x.setWidth 8).toNat) := pvu_conv (k := .u32) (k' := .u8) rfl hx
theorem Zk9 {S D : Nat} [hs : TyInt P S .u32] [hd : TyInt P D .u16] (hx : ev ρ a = .int .u32 x.toNat) : PV P (.convert S D a) ρ (.int .u16 (x.setWidth 16).toNat) := pvu_conv (k := .u32) (k' := .u16) rfl hx
theorem Zla {S D : Nat} [hs : TyInt P S .u32] [hd : TyInt P D .u32] (hx : ev ρ a = .int .u32 x.toNat) : PV P (.convert S D a) ρ (.int .u32 (x.setWidth 32).toNat) := pvu_conv (k := .u32) (k' := .u32) rfl hx
theorem Zlb {S D : Nat} [hs : TyInt P S .u32] [hd : TyInt P D .u64] (hx : ev ρ a = .int .u32 x.toNat) : PV P (.convert S D a) ρ (.int .u64 (x.setWidth 64).toNat) := pvu_conv (k := .u32) (k' := .u64) rfl hx
end
abbrev u32b (x : BitVec 32) : Value := .int .u32 x.toNat
section
variable {P : Program} {ρ : Env} {T T' : Nat} {a b : Operand} {x y : BitVec 64}
theorem Zlc (hx : ev ρ a = .int .u64 x.toNat) (hy : ev ρ b = .int .u64 y.toNat) : PV P (.binOp .add T a b T') ρ (.int .u64 (x + y).toNat) := pvu_add (k := .u64) rfl hx hy
theorem Zld (hx : ev ρ a = .int .u64 x.toNat) (hy : ev ρ b = .int .u64 y.toNat) : PV P (.binOp .sub T a b T') ρ (.int .u64 (x - y).toNat) := pvu_sub (k := .u64) rfl hx hy
theorem Zle (hx : ev ρ a = .int .u64 x.toNat) (hy : ev ρ b = .int .u64 y.toNat) : PV P (.binOp .mul T a b T') ρ (.int .u64 (x * y).toNat) := pvu_mul (k := .u64) rfl hx hy
theorem Zlf (hx : ev ρ a = .int .u64 x.toNat) (hy : ev ρ b = .int .u64 y.toNat) : PV P (.binOp .and T a b T') ρ (.int .u64 (x &&& y).toNat) := pvu_and (k := .u64) rfl hx hy
theorem Zlg (hx : ev ρ a = .int .u64 x.toNat) (hy : ev ρ b = .int .u64 y.toNat) : PV P (.binOp .or T a b T') ρ (.int .u64 (x ||| y).toNat) := pvu_or (k := .u64) rfl hx hy
theorem Zlh (hx : ev ρ a = .int .u64 x.toNat) (hy : ev ρ b = .int .u64 y.toNat) : PV P (.binOp .xor T a b T') ρ (.int .u64 (x ^^^ y).toNat) := pvu_xor (k := .u64) rfl hx hy
theorem Zli (hx : ev ρ a = .int .u64 x.toNat) (hy : ev ρ b = .int .u64 y.toNat) : PV P (.binOp .andNot T a b T') ρ (.int .u64 (x &&& ~~~ y).toNat) := pvu_andNot (k := .u64) rfl hx hy
theorem Zlj {k' : IntKind} {m : Nat} (hx : ev ρ a = .int .u64 x.toNat) (hy : ev ρ b = .int k' (m : Int)) : PV P (.binOp .shl T a b T') ρ (.int .u64 (x <<< m).toNat) := pvu_shl (k := .u64) rfl hx hy
theorem Zlk {k' : IntKind} {m : Nat} (hx : ev ρ a = .int .u64 x.toNat) (hy : ev ρ b = .int k' (m : Int)) : PV P (.binOp .shr T a b T') ρ (.int .u64 (x >>> m).toNat) := pvu_shr (k := .u64) rfl hx hy
theorem Zll (hx : ev ρ a = .int .u64 x.toNat) : PV P (.unOp .xor T a) ρ (.int .u64 (~~~ x).toNat) := pvu_not (k := .u64) rfl hx
theorem Zlm (hx : ev ρ a = .int .u64 x.toNat) : PV P (.unOp .neg T a) ρ (.int .u64 (- x).toNat) := pvu_neg (k := .u64) rfl hx
theorem Zln (hx : ev ρ a = .int .u64 x.toNat) (hy : ev ρ b = .int .u64 y.toNat) : PV P (.binOp .eql T a b T') ρ (.bool (decide (x = y))) := pvu_eql (k := .u64) hx hy
theorem Zlo (hx : ev ρ a = .int .u64 x.toNat) (hy : ev ρ b = .int .u64 y.toNat) : PV P (.binOp .neq T a b T') ρ (.bool (decide (x ≠ y))) := pvu_neq (k := .u64) hx hy
theorem Zlp (hx : ev ρ a = .int .u64 x.toNat) (hy : ev ρ b = .int .u64 y.toNat) : PV P (.binOp .lss T a b T') ρ (.bool (decide (x.toNat < y.toNat))) := pvu_lss (k := .u64) hx hy
theorem Zlq (hx : ev ρ a = .int .u64 x.toNat) (hy : ev ρ b = .int .u64 y.toNat) : PV P (.binOp .leq T a b T') ρ (.bool (decide (x.toNat ≤ y.toNat))) := pvu_leq (k := .u64) hx hy
theorem Zlr (hx : ev ρ a = .int .u64 x.toNat) (hy : ev ρ b = .int .u64 y.toNat) : PV P (.binOp .gtr T a b T') ρ (.bool (decide (y.toNat < x.toNat))) := pvu_gtr (k := .u64) hx hy
theorem Zls (hx : ev ρ a = .int .u64 x.toNat) (hy : ev ρ b = .int .u64 y.toNat) : PV P (.binOp .geq T a b T') ρ (.bool (decide (y.toNat ≤ x.toNat))) := pvu_geq (k := .u64) hx hy
theorem Zlt (hx : ev ρ a = .int .u64 x.toNat) (hy : ev ρ b = .int .u64 y.toNat) (h0 : 0 < y.toNat := by first|omega|exact Nat.le_of_ble_eq_true rfl|(simp; done)|(simp; omega)|decide) : PV P (.binOp .quo T a b T') ρ (.int .u64 (x / y).toNat) := pvu_quo (k := .u64) rfl hx hy h0
theorem Zlu (hx : ev ρ a = .int .u64 x.toNat) (hy : ev ρ b = .int .u64 y.toNat) (h0 : 0 < y.toNat := by first|omega|exact Nat.le_of_ble_eq_true rfl|(simp; done)|(simp; omega)|decide) : PV P (.binOp .rem T a b T') ρ (.int .u64 (x % y).toNat) := pvu_rem (k := .u64) hx hy h0
theorem Zlv {S D : Nat} {n : Int} [hs : TyInt P S .i64] [hd : TyInt P D .u64] (hx : ev ρ a = .int .i64 n) : PV P (.convert S D a) ρ (.int .u64 (BitVec.ofInt 64 n).toNat) := pvu_convI (k := .u64) rfl hx
theorem Zlw {S D : Nat} [hs : TyInt P S .u64] [hd : TyInt P D .i64] (hx : ev ρ a = .int .u64 x.toNat) (h : x.toNat < 9223372036854775808 := by first|omega|exact Nat.le_of_ble_eq_true rfl|(simp; done)|(simp; omega)|decide) : PV P (.convert S D a) ρ (.int .i64 x.toNat) := pvu_convN (k := .u64) hx h
theorem Zlx {S D : Nat} [hs : TyInt P S .u64] [hd : TyInt P D .u8] (hx : ev ρ a = .int .u64 x.toNat) : PV P (.convert S D a) ρ (.int .u8 (x.setWidth 8).toNat) := pvu_conv (k := .u64) (k' := .u8) rfl hx
theorem Zly {S D : Nat} [hs : TyInt P S .u64] [hd : TyInt P D .u16] (hx : ev ρ a = .int .u64 x.toNat) : PV P (.convert S D a) ρ (.int .u16 (x.setWidth 16).toNat) := pvu_conv (k := .u64) (k' := .u16) rfl hx
theorem Zlz {S D : Nat} [hs : TyInt P S .u64] [hd : TyInt P D .u32] (hx : ev ρ a = .int .u64 x.toNat) : PV P (.convert S D a) ρ (.int .u32 (x.setWidth 32).toNat) := pvu_conv (k := .u64) (k' := .u32) rfl hx
theorem Zl0 {S D : Nat} [hs : TyInt P S .u64] [hd : TyInt P D .u64] (hx : ev ρ a = .int .u64 x.toNat) : PV P (.convert S D a) ρ (.int .u64 (x.setWidth 64).toNat) := pvu_conv (k := .u64) (k' := .u64) rfl hx
end
abbrev u64b (x : BitVec 64) : Value := .int .u64 x.toNat

section
variable {P : Program} {ρ : Env} {x y : Operand} {k : IntKind} {S E by' bb o l c n : Nat} {z : Value}
theorem Zl1 [hs : TySlice P S E] [hi : TyI P E 1 by' z] (hx : ev ρ x = .slice (some ⟨bb, o, none⟩) l c) (hy : ev ρ y = .int k (n : Int)) (h : n < l := by first|omega|exact Nat.le_of_ble_eq_true rfl|(simp; done)|(simp; omega)|decide) : PV P (.indexAddr S x y) ρ (.pointer (some ⟨bb, o + n, none⟩)) := by
  have := Zcg (P := P) (S := S) hx hy h
  simpa using this
theorem Zl2 {sz : Nat} [hs : TyArr P S l E] [hi : TyI P E sz by' z] (hx : ev ρ x = .pointer (some ⟨bb, o, none⟩)) (hy : ev ρ y = .int k (n : Int)) (h : n < l := by first|omega|exact Nat.le_of_ble_eq_true rfl|(simp; done)|(simp; omega)|decide) : PV P (.indexAddr S x y) ρ (.pointer (some ⟨bb, o + n * sz, none⟩)) := by
  have := Zch (P := P) (S := S) hx hy ⟨by omega, by omega⟩
  simpa using this
theorem Zl3 [hs : TyArr P S l E] [hi : TyI P E 1 by' z] (hx : ev ρ x = .pointer (some ⟨bb, o, none⟩)) (hy : ev ρ y = .int k (n : Int)) (h : n < l := by first|omega|exact Nat.le_of_ble_eq_true rfl|(simp; done)|(simp; omega)|decide) : PV P (.indexAddr S x y) ρ (.pointer (some ⟨bb, o + n, none⟩)) := by
  have := Zl2 (P := P) (S := S) hx hy h
  simpa using this
theorem Zl4 [hs : TySlice P S E] [hi : TyI P E 1 by' z] (hx : ev ρ x = .slice (some ⟨bb, 0, none⟩) l c) (hy : ev ρ y = .int k (n : Int)) (h : n < l := by first|omega|exact Nat.le_of_ble_eq_true rfl|(simp; done)|(simp; omega)|decide) : PV P (.indexAddr S x y) ρ (.pointer (some ⟨bb, n, none⟩)) := by
  have := Zl1 (P := P) (S := S) hx hy h
  rwa [Nat.zero_add] at this
theorem Zl5 [hs : TyArr P S l E] [hi : TyI P E 1 by' z] (hx : ev ρ x = .pointer (some ⟨bb, 0, none⟩)) (hy : ev ρ y = .int k (n : Int)) (h : n < l := by first|omega|exact Nat.le_of_ble_eq_true rfl|(simp; done)|(simp; omega)|decide) : PV P (.indexAddr S x y) ρ (.pointer (some ⟨bb, n, none⟩)) := by
  have := Zl3 (P := P) (S := S) hx hy h
  rwa [Nat.zero_add] at this
theorem Zl6 {sz : Nat} [hs : TySlice P S E] [hi : TyI P E sz by' z] (hx : ev ρ x = .slice (some ⟨bb, 0, none⟩) l c) (hy : ev ρ y = .int k (n : Int)) (h : n < l := by first|omega|exact Nat.le_of_ble_eq_true rfl|(simp; done)|(simp; omega)|decide) : PV P (.indexAddr S x y) ρ (.pointer (some ⟨bb, n * sz, none⟩)) := by
  have := Zcg (P := P) (S := S) hx hy h
  rwa [Nat.zero_add] at this
theorem Zl7 {sz : Nat} [hs : TyArr P S l E] [hi : TyI P E sz by' z] (hx : ev ρ x = .pointer (some ⟨bb, 0, none⟩)) (hy : ev ρ y = .int k (n : Int)) (h : n < l := by first|omega|exact Nat.le_of_ble_eq_true rfl|(simp; done)|(simp; omega)|decide) : PV P (.indexAddr S x y) ρ (.pointer (some ⟨bb, n * sz, none⟩)) := by
  have := Zl2 (P := P) (S := S) hx hy h
  rwa [Nat.zero_add] at this
theorem Zl8 {S i off F sz : Nat} [hf : Fld P S i off F] [hi : TyI P F sz by' z] (hx : ev ρ x = .pointer (some ⟨bb, 0, none⟩)) (h0 : sz ≠ 0 := by first|omega|exact Nat.le_of_ble_eq_true rfl|(simp; done)|(simp; omega)|decide) : PV P (.fieldAddr S x i) ρ (.pointer (some ⟨bb, off, none⟩)) := by
  have := Zce (P := P) (S := S) (i := i) (F := F) (off := off) hx h0
  rwa [Nat.zero_add] at this
theorem Zl9 {A m : Nat} [hs : TyArr P A m E] (hx : ev ρ x = .slice (some ⟨bb, o, none⟩) l c) (h : m ≤ l := by first|omega|exact Nat.le_of_ble_eq_true rfl|(simp; done)|(simp; omega)|decide) : PV P (.sliceToArrayPointer A x) ρ (.pointer (some ⟨bb, o, none⟩)) := by
  intro oo w ho; unfold execOp; rw [ho]; refine op_run_value ?_; rw [hx]
  unfold Instr.arrayAt
  rw [run_bind P _ _ w w _ (run_under hs.h)]
  simp only []
  rw [if_neg (by omega)]
  rfl
end
section
variable {P : Program} {ρ : Env} {T T' : Nat} {x y : Operand} {a b : Nat}
theorem Zma (hx : ev ρ x = .int .i64 (a : Int)) (hy : ev ρ y = .int .i64 (b : Int)) (h : a + b ≤ 9223372036854775807 := by first|omega|exact Nat.le_of_ble_eq_true rfl|(simp; done)|(simp; omega)|decide) : PV P (.binOp .add T x y T') ρ (.int .i64 ((a + b : Nat) : Int)) := by
  have := Zbg (P := P) (T := T) (T' := T') hx hy ⟨by omega, by omega⟩
  rwa [← Int.natCast_add] at this
theorem Zmb (hx : ev ρ x = .int .i64 (a : Int)) (hy : ev ρ y = .int .i64 (b : Int)) (h : b ≤ a := by first|omega|exact Nat.le_of_ble_eq_true rfl|(simp; done)|(simp; omega)|decide) (ha : a ≤ 9223372036854775807 := by first|omega|exact Nat.le_of_ble_eq_true rfl|(simp; done)|(simp; omega)|decide) : PV P (.binOp .sub T x y T') ρ (.int .i64 ((a - b : Nat) : Int)) := by
  have := Zbh (P := P) (T := T) (T' := T') hx hy ⟨by omega, by omega⟩
  rwa [← Int.natCast_sub h] at this
theorem Zmc (hx : ev ρ x = .int .i64 (a : Int)) (hy : ev ρ y = .int .i64 (b : Int)) (h : a * b ≤ 9223372036854775807 := by first|omega|exact Nat.le_of_ble_eq_true rfl|(simp; done)|(simp; omega)|decide) : PV P (.binOp .mul T x y T') ρ (.int .i64 ((a * b : Nat) : Int)) := by
  have e : ((a : Int) * b) = ((a * b : Nat) : Int) := (Int.natCast_mul a b).symm
  have := Zbi (P := P) (T := T) (T' := T') hx hy (by rw [e]; exact ⟨by omega, by omega⟩)
  rwa [e] at this
theorem Zmd (hx : ev ρ x = .int .i64 (a : Int)) (hy : ev ρ y = .int .i64 (b : Int)) (h : 0 < b := by first|omega|exact Nat.le_of_ble_eq_true rfl|(simp; done)|(simp; omega)|decide) (ha : a ≤ 9223372036854775807 := by first|omega|exact Nat.le_of_ble_eq_true rfl|(simp; done)|(simp; omega)|decide) : PV P (.binOp .quo T x y T') ρ (.int .i64 ((a / b : Nat) : Int)) := by
  have := Zbj (P := P) (T := T) (T' := T') hx hy ⟨by omega, by omega, by omega⟩
  rwa [show ((a : Int) / b) = ((a / b : Nat) : Int) from by push_cast; rfl] at this
theorem Zme (hx : ev ρ x = .int .i64 (a : Int)) (hy : ev ρ y = .int .i64 (b : Int)) (h : 0 < b := by first|omega|exact Nat.le_of_ble_eq_true rfl|(simp; done)|(simp; omega)|decide) : PV P (.binOp .rem T x y T') ρ (.int .i64 ((a % b : Nat) : Int)) := by
  have := Zbl (P := P) (T := T) (T' := T') hx hy ⟨by omega, by omega⟩
  rwa [show ((a : Int) % b) = ((a % b : Nat) : Int) from by push_cast; rfl] at this
theorem Zmf {k : IntKind} (hx : ev ρ x = .int k (a : Int)) (hy : ev ρ y = .int k (b : Int)) : PV P (.binOp .lss T x y T') ρ (.bool (decide (a < b))) := by
  have := Zbn (P := P) (T := T) (T' := T') hx hy
  rwa [show decide ((a : Int) < b) = decide (a < b) from decide_eq_decide.2 (by omega)] at this
theorem Zmg {k : IntKind} (hx : ev ρ x = .int k (a : Int)) (hy : ev ρ y = .int k (b : Int)) : PV P (.binOp .leq T x y T') ρ (.bool (decide (a ≤ b))) := by
  have := Zbo (P := P) (T := T) (T' := T') hx hy
  rwa [show decide ((a : Int) ≤ b) = decide (a ≤ b) from decide_eq_decide.2 (by omega)] at this
theorem Zmh {k : IntKind} (hx : ev ρ x = .int k (a : Int)) (hy : ev ρ y = .int k (b : Int)) : PV P (.binOp .gtr T x y T') ρ (.bool (decide (b < a))) := by
  have := Zbp (P := P) (T := T) (T' := T') hx hy
  rwa [show decide ((b : Int) < a) = decide (b < a) from decide_eq_decide.2 (by omega)] at this
theorem Zmi {k : IntKind} (hx : ev ρ x = .int k (a : Int)) (hy : ev ρ y = .int k (b : Int)) : PV P (.binOp .geq T x y T') ρ (.bool (decide (b ≤ a))) := by
  have := Zbq (P := P) (T := T) (T' := T') hx hy
  rwa [show decide ((b : Int) ≤ a) = decide (b ≤ a) from decide_eq_decide.2 (by omega)] at this
theorem Zmj {k : IntKind} (hx : ev ρ x = .int k (a : Int)) (hy : ev ρ y = .int k (b : Int)) : PV P (.binOp .eql T x y T') ρ (.bool (decide (a = b))) := by
  have := Zbr (P := P) (T := T) (T' := T') hx hy
  rwa [show decide ((a : Int) = b) = decide (a = b) from decide_eq_decide.2 (by omega)] at this
theorem Zmk {k : IntKind} (hx : ev ρ x = .int k (a : Int)) (hy : ev ρ y = .int k (b : Int)) : PV P (.binOp .neq T x y T') ρ (.bool (decide (a ≠ b))) := by
  have := Zbs (P := P) (T := T) (T' := T') hx hy
  rwa [show decide ((a : Int) ≠ b) = decide (a ≠ b) from decide_eq_decide.2 (by omega)] at this
theorem Zml {S D : Nat} {n : Int} [hs : TyInt P S .i64] [hd : TyInt P D .i64] (hx : ev ρ x = .int .i64 n) (h : -9223372036854775808 ≤ n ∧ n ≤ 9223372036854775807 := by first|omega|exact Nat.le_of_ble_eq_true rfl|(simp; done)|(simp; omega)|decide) : PV P (.convert S D x) ρ (.int .i64 n) := Zb5 hx (IntWalk.i64_in _ h)
theorem Zmm {t : Array Value} (h : ev ρ x = .tuple t) : PV P (.move x) ρ (.tuple t) := Zar h
theorem Zmn {t : Option Nat} (h : ev ρ x = .map t) : PV P (.move x) ρ (.map t) := Zar h
theorem Zmo {t : ByteArray} (h : ev ρ x = .string t) : PV P (.move x) ρ (.string t) := Zar h
theorem Zmp {t : Nat} {v : Value} (h : ev ρ x = .iface t v) : PV P (.move x) ρ (.iface t v) := Zar h
theorem Zmq {t : Option Nat} (h : ev ρ x = .map t) : PV P (.assign x) ρ (.map t) := Zas h
theorem Zmr {t : ByteArray} (h : ev ρ x = .string t) : PV P (.assign x) ρ (.string t) := Zas h
theorem Zms {t : Nat} {v : Value} (h : ev ρ x = .iface t v) : PV P (.assign x) ρ (.iface t v) := Zas h
theorem Zmt {t : Array Value} (h : ev ρ x = .tuple t) : PV P (.assign x) ρ (.tuple t) := Zas h
theorem Zmu {f : Fn} {a b : Array Value} (h : ev ρ x = .func f a b) : PV P (.assign x) ρ (.func f a b) := Zas h
/-- A piece of an array, or of a slice. -/
theorem Zmv {S E sz by' bb o n : Nat} {z : Value} {lo hi : Option Operand} {l h : Nat} [hs : TyArr P S n E] [hi' : TyI P E sz by' z] (hx : ev ρ x = .pointer (some ⟨bb, o, none⟩))
    (hl : optB ρ 0 lo = some (l : Int)) (hh : optB ρ n hi = some (h : Int)) (hle : l ≤ h := by first|omega|exact Nat.le_of_ble_eq_true rfl|(simp; done)|(simp; omega)|decide) (hc : h ≤ n := by first|omega|exact Nat.le_of_ble_eq_true rfl|(simp; done)|(simp; omega)|decide) (hn : l < n := by first|omega|exact Nat.le_of_ble_eq_true rfl|(simp; done)|(simp; omega)|decide) : PV P (.slice S x lo hi none) ρ (.slice (some ⟨bb, o + l * sz, none⟩) (h - l) (n - l)) := by
  have := Zck (P := P) (S := S) (bb := bb) (o := o) hx hl hh ⟨by omega, by omega⟩ (by omega)
  simp only [Int.toNat_natCast, cutOff, if_neg (show ¬ n = l by omega)] at this
  exact this
theorem Zmw {S E sz by' bb o n c : Nat} {z : Value} {lo hi : Option Operand} {l h : Nat} [hs : TySlice P S E] [hi' : TyI P E sz by' z] (hx : ev ρ x = .slice (some ⟨bb, o, none⟩) n c)
    (hl : optB ρ 0 lo = some (l : Int)) (hh : optB ρ n hi = some (h : Int)) (hle : l ≤ h := by first|omega|exact Nat.le_of_ble_eq_true rfl|(simp; done)|(simp; omega)|decide) (hc : h ≤ c := by first|omega|exact Nat.le_of_ble_eq_true rfl|(simp; done)|(simp; omega)|decide) (hn : l < c := by first|omega|exact Nat.le_of_ble_eq_true rfl|(simp; done)|(simp; omega)|decide) : PV P (.slice S x lo hi none) ρ (.slice (some ⟨bb, o + l * sz, none⟩) (h - l) (c - l)) := by
  have := Zci (P := P) (S := S) (bb := bb) (o := o) hx hl hh ⟨by omega, by omega⟩ (by omega)
  simp only [Int.toNat_natCast, cutOff, if_neg (show ¬ c = l by omega)] at this
  exact this
theorem Zmx {S E by' bb o n : Nat} {z : Value} {lo hi : Option Operand} {l h : Nat} [hs : TyArr P S n E] [hi' : TyI P E 1 by' z] (hx : ev ρ x = .pointer (some ⟨bb, o, none⟩))
    (hl : optB ρ 0 lo = some (l : Int)) (hh : optB ρ n hi = some (h : Int)) (hle : l ≤ h := by first|omega|exact Nat.le_of_ble_eq_true rfl|(simp; done)|(simp; omega)|decide) (hc : h ≤ n := by first|omega|exact Nat.le_of_ble_eq_true rfl|(simp; done)|(simp; omega)|decide) (hn : l < n := by first|omega|exact Nat.le_of_ble_eq_true rfl|(simp; done)|(simp; omega)|decide) : PV P (.slice S x lo hi none) ρ (.slice (some ⟨bb, o + l, none⟩) (h - l) (n - l)) := by
  have := Zmv (P := P) (S := S) hx hl hh hle hc hn
  rwa [Nat.mul_one] at this
theorem Zmy {S E by' bb o n : Nat} {z : Value} {hi : Option Operand} {h : Nat} [hs : TyArr P S n E] [hi' : TyI P E 1 by' z] (hx : ev ρ x = .pointer (some ⟨bb, o, none⟩))
    (hh : optB ρ n hi = some (h : Int)) (hc : h ≤ n := by first|omega|exact Nat.le_of_ble_eq_true rfl|(simp; done)|(simp; omega)|decide) (hn : 0 < n := by first|omega|exact Nat.le_of_ble_eq_true rfl|(simp; done)|(simp; omega)|decide) : PV P (.slice S x none hi none) ρ (.slice (some ⟨bb, o, none⟩) h n) := by
  have := Zmx (P := P) (S := S) (lo := none) (l := 0) hx rfl hh (by omega) hc hn
  simpa using this
theorem Zmz {S E by' bb o n c : Nat} {z : Value} {lo hi : Option Operand} {l h : Nat} [hs : TySlice P S E] [hi' : TyI P E 1 by' z] (hx : ev ρ x = .slice (some ⟨bb, o, none⟩) n c)
    (hl : optB ρ 0 lo = some (l : Int)) (hh : optB ρ n hi = some (h : Int)) (hle : l ≤ h := by first|omega|exact Nat.le_of_ble_eq_true rfl|(simp; done)|(simp; omega)|decide) (hc : h ≤ c := by first|omega|exact Nat.le_of_ble_eq_true rfl|(simp; done)|(simp; omega)|decide) (hn : l < c := by first|omega|exact Nat.le_of_ble_eq_true rfl|(simp; done)|(simp; omega)|decide) : PV P (.slice S x lo hi none) ρ (.slice (some ⟨bb, o + l, none⟩) (h - l) (c - l)) := by
  have := Zmw (P := P) (S := S) hx hl hh hle hc hn
  rwa [Nat.mul_one] at this
/-- From the beginning on. -/
theorem Zm0 {S E sz by' bb o n c : Nat} {z : Value} {hi : Option Operand} {h : Nat} [hs : TySlice P S E] [hi' : TyI P E sz by' z] (hx : ev ρ x = .slice (some ⟨bb, o, none⟩) n c)
    (hh : optB ρ n hi = some (h : Int)) (hc : h ≤ c := by first|omega|exact Nat.le_of_ble_eq_true rfl|(simp; done)|(simp; omega)|decide) : PV P (.slice S x none hi none) ρ (.slice (some ⟨bb, o, none⟩) h c) := by
  have := Zci (P := P) (S := S) (bb := bb) (o := o) (lo := none) (l := 0) hx rfl hh ⟨by omega, by omega⟩ (by omega)
  have e : cutOff o (0 : Int).toNat c sz = o := by simp [cutOff]
  rw [e] at this
  simpa using this
/-- Whatever its address. -/
theorem Zm1 {S E sz by' n c : Nat} {a : Option Addr} {z : Value} {lo hi : Option Operand} {l h : Nat} [hs : TySlice P S E] [hi' : TyI P E sz by' z] (hx : ev ρ x = .slice a n c)
    (hl : optB ρ 0 lo = some (l : Int)) (hh : optB ρ n hi = some (h : Int)) (hle : l ≤ h) (hc : h ≤ c) : PV P (.slice S x lo hi none) ρ (.slice (if c = l then a else a.map (·.add (l * sz))) (h - l) (c - l)) := by
  intro oo w ho; unfold execOp; rw [ho]; refine op_run_value ?_; rw [hx]
  unfold Instr.sliceAt
  rw [run_bind P _ _ w w _ (run_under hs.h)]
  simp only []
  unfold Instr.slice
  rw [run_bind P _ _ w w _ (run_under hs.h)]
  simp only [Option.map_none]
  rw [run_bind P _ _ w w _ (run_bounds hl hh ⟨by omega, by omega⟩ (by omega)), run_bind P _ _ w w _ (run_size hi')]
  show (Result.ok (Value.slice _ _ _) w : Result Value) = _
  rw [Int.toNat_natCast, Int.toNat_natCast]
end
theorem Rd.cut {M : List Asrt} {a : Option Addr} {n c l : Nat} {xs : List Value} (h : Rd M 1 (.slice a n c) n xs) (hl : l ≤ n) (hc : n ≤ c) : Rd M 1 (.slice (if c = l then a else a.map (·.add (l * 1))) (n - l) (c - l)) (n - l) (xs.drop l) := by
  intro w0 F w H
  obtain ⟨h1, h2⟩ := h w0 F w H
  refine ⟨by simp [h1], ?_⟩
  by_cases hn : n = l
  · exact .inl ⟨_, _, rfl, by omega⟩
  · rcases h2 with ⟨a, k, _, h0⟩|⟨b, o, k, cc, E, fr, hv, hb, hle, hx⟩
    · omega
    · simp only [Value.slice.injEq] at hv
      obtain ⟨rfl, _, rfl⟩ := hv
      rw [if_neg (by omega)]
      refine .inr ⟨b, o + l, c - l, cc, E, fr, ?_, hb, by omega, ?_⟩
      · simp [Option.map, addr_add]
      · rw [← hx]
        simp only [Array.toList_extract, List.extract_eq_take_drop, List.drop_take, List.drop_drop]
        congr 1
        omega
theorem Zm2 {P : Program} {ρ : Env} {T : Nat} {x : Operand} {k kk : IntKind} {n : Int} [hs : TyInt P T kk] (hx : ev ρ x = .int k n) : PV P (.makeInterface T x) ρ (.iface T (.int k n)) := by
  intro oo w ho; unfold execOp; rw [ho]; refine op_run_value ?_; rw [hx]
  unfold Instr.makeInterface
  rw [run_bind P _ _ w w _ (run_under hs.h)]; rfl
theorem int_eq {k : IntKind} {a b : Int} (h : a = b) : Value.int k a = .int k b := by rw [h]
section
variable {P : Program} {w0 : World} {ops : Array Oper} {dst : Option Nat} {ty T E : TypeId} {pos : String} {after : Array Edge} {rest : List Oper} {ρ : Env} {K : XK} {M : List Asrt} {x y : Operand}
/-- A made slice of cells that are alike. -/
theorem Zm3 {α : Type} {by' : Nat} {z : Value} {f : α → Value} {a : α} {len cap : Nat} [hs : TySlice P T E] [hi : TyI P E 1 by' z] (hl : ev ρ x = .int .i64 len) (hc : ev ρ y = .int .i64 cap) (hz : z.cells = #[f a]) (hle : len ≤ cap) (hcap : cap ≤ 9223372036854775807) (hb : cap * by' ≤ 281474976710656)
    (k : ∀ b, xOps P w0 ops rest (put ρ dst (.slice (some ⟨b, 0, none⟩) len cap)) (cl b ((List.replicate cap a).map f).toArray E :: M) K) :
    xOps P w0 ops (⟨dst, .makeSlice T x y, ty, pos, after, none⟩ :: rest) ρ M K := by
  refine Zh6 hl hc hle hcap hb (by omega) ?_
  intro b
  have e : (List.replicate cap z.cells.toList).flatten = (List.replicate cap a).map f := by
    rw [hz]; show (List.replicate cap [f a]).flatten = _
    rw [zeros1]; simp
  rw [e]; exact k b
end
theorem getL {α : Type} {f : α → Value} {l : List α} {i : Nat} (h : i < l.length) : ((l.map f).toArray)[i]? = some (f l[i]) := by simp [h]
theorem getM {α : Type} {f : α → Value} {l : List α} {i : Nat} (h : i < l.length) : (l.map f)[i]? = some (f l[i]) := by simp [h]
theorem setL {α : Type} {f : α → Value} {l : List α} {i : Nat} {x : α} : ((l.map f).toArray).setIfInBounds i (f x) = ((l.set i x).map f).toArray := by simp
theorem szL {α : Type} {f : α → Value} {l : List α} : ((l.map f).toArray).size = l.length := by simp
theorem oneL_u8 (l : List (BitVec 8)) : ((l.map u8b).toArray).toList.all oneC = true := by simp [oneC]
theorem oneL_u32 (l : List (BitVec 32)) : ((l.map u32b).toArray).toList.all oneC = true := by simp [oneC]
theorem oneL_u64 (l : List (BitVec 64)) : ((l.map u64b).toArray).toList.all oneC = true := by simp [oneC]
theorem oneM_u8 (l : List (BitVec 8)) : (l.map u8b).all oneC = true := by simp [oneC]
end Go.Sl

/- The engine over pieces alone: arrays of bytes compared; slices of bytes, of slices of bytes; many pieces as one. -/
set_option linter.unusedVariables false
set_option linter.unusedSimpArgs false
namespace Go.Sl
open Go
abbrev Byte := BitVec 8
/-- An array type of n bytes. -/
class TyBA (P : Program) (T : Nat) (n : outParam Nat) : Prop where
  ex : ∃ E, P.underlying T = some (.array n E) ∧ P.underlying E = some (.int .u8) ∧ P.cellsOf E = 1
  ct : P.cellsOf T = n
  key : P.keyTypeAt 4 T = true
  g : P.eqGuardType P.depth T = false
theorem byte_wf (b : Byte) : (Lit.int .u8 (b.toNat : Int)).wf = true := by
  have := b.isLt
  simp only [Lit.wf, Bool.and_eq_true, decide_eq_true_eq]
  have e1 : IntKind.u8.min = 0 := by decide
  have e2 : IntKind.u8.max = 255 := by decide
  omega
theorem ba_lits {P : Program} {T n : Nat} [h : TyBA P T n] (a : List Byte) (ha : a.length = n) : P.keyLits 2 T (a.map u8b) = some (a.map fun b => Lit.int .u8 (b.toNat : Int)) := by
  obtain ⟨E, h1, h2, h3⟩ := h.ex
  have := lits_arr (d := 0) (k := .u8) h1 h2 h3 h.ct (a.map fun b => (b.toNat : Int)) (by simpa using ha) (by
    intro x hx
    obtain ⟨b, _, rfl⟩ := List.mem_map.1 hx
    exact byte_wf b)
  rw [List.map_map, List.map_map] at this
  exact this
theorem ba_inj {a b : List Byte} : a = b ↔ (a.map fun b => Lit.int .u8 (b.toNat : Int)) = (b.map fun b => Lit.int .u8 (b.toNat : Int)) := by
  constructor
  · rintro rfl; rfl
  · intro h
    refine List.map_inj_right ?_ |>.1 h
    intro x y hxy
    simp only [Lit.int.injEq, true_and] at hxy
    exact BitVec.eq_of_toNat_eq (by omega)
theorem ba_formed {P : Program} {T n : Nat} [h : TyBA P T n] (a : List Byte) (ha : a.length = n) : (Value.agg (a.map u8b).toArray).formed P T = true := by
  obtain ⟨E, h1, h2, h3⟩ := h.ex
  have := h.ct
  simp [Value.formed, h1, this, ha]
section
variable {P : Program} {ρ : Env} {x y : Operand} {T T' n : Nat}
theorem Zm4 [h : TyBA P T n] {a b : List Byte} (ha : a.length = n) (hb : b.length = n) (hx : ev ρ x = .agg (a.map u8b).toArray) (hy : ev ρ y = .agg (b.map u8b).toArray) : PV P (.binOp .eql T x y T') ρ (.bool (decide (a = b))) :=
  Zf6 (m := 4) hx hy h.key (by omega) h.g (ba_formed a ha) (ba_formed b hb) (ba_lits a ha) (ba_lits b hb) ba_inj
theorem Zm5 [h : TyBA P T n] {a b : List Byte} (ha : a.length = n) (hb : b.length = n) (hx : ev ρ x = .agg (a.map u8b).toArray) (hy : ev ρ y = .agg (b.map u8b).toArray) : PV P (.binOp .neq T x y T') ρ (.bool (decide (¬ a = b))) :=
  Zf7 (m := 4) hx hy h.key (by omega) h.g (ba_formed a ha) (ba_formed b hb) (ba_lits a ha) (ba_lits b hb) ba_inj
end
/-- Among the pieces M the slice v holds the bytes l. -/
structure Bs (M : List Asrt) (v : Value) (l : List Byte) : Prop where
  rd : Rd M 1 v l.length (l.map u8b)
  sh : ∀ w0 F w, St w0 w (F :: M) → ∃ a c, v = .slice a l.length c ∧ l.length ≤ c ∧ c ≤ 9223372036854775807
theorem Bs.imp {M N : List Asrt} {v : Value} {l : List Byte} (h : Bs N v l) (hi : Imp M N) : Bs M v l := ⟨h.rd.imp hi, fun w0 F w H => h.sh w0 F w (H.enx hi)⟩
theorem own_shape {E size n : Nat} {v : Value} {xs : List Value} {w0 w : World} {L : List Asrt} (H : St w0 w (own E size v n xs :: L)) : ∃ a c, v = .slice a n c ∧ n ≤ c ∧ c ≤ 9223372036854775807 := by
  rcases H.own_get with ⟨rfl, rfl, rfl, _⟩|⟨g, cap, cur, rfl, h2, h3, h4, h5, h6, H⟩
  · exact ⟨none, 0, rfl, by omega, by omega⟩
  · exact ⟨_, cap, rfl, h2, h3⟩
theorem Bs.own {M M' : List Asrt} {E : Nat} {v : Value} {l : List Byte} (hm : Has M (own E 1 v l.length (l.map u8b)) M') : Bs M v l :=
  ⟨Rd.own hm, fun w0 F w H => own_shape (H.pick (.there hm))⟩
theorem Bs.old {M M' : List Asrt} {W : World} {v : Value} {l : List Byte} (hm : Has M (old W) M') (h : SlW W 1 v l.length (l.map u8b)) (hs : ∃ a c, v = .slice a l.length c ∧ l.length ≤ c ∧ c ≤ 9223372036854775807) : Bs M v l :=
  ⟨Rd.old hm h, fun _ _ _ _ => hs⟩
theorem Bs.cl {M M' : List Asrt} {b o c E : Nat} {cc : Array Value} {l : List Byte} (hm : Has M (cl b cc E) M') (hle : o + l.length ≤ cc.size) (h : (cc.extract o (o + l.length)).toList = l.map u8b) (hc : l.length ≤ c) (hcm : c ≤ 9223372036854775807) :
    Bs M (.slice (some ⟨b, o, none⟩) l.length c) l :=
  ⟨Rd.cl hm (by simp) (by omega) (by rw [Nat.mul_one]; exact h), fun _ _ _ _ => ⟨_, _, rfl, hc, hcm⟩⟩
theorem Bs.nil {M : List Asrt} : Bs M (.slice none 0 0) [] := ⟨Rd.nil, fun _ _ _ _ => ⟨none, 0, rfl, by simp, by omega⟩⟩
theorem Bs.some {M : List Asrt} {a : Option Addr} {n c : Nat} {l : List Byte} {w0 w : World} {F : Asrt} (h : Bs M (.slice a n c) l) (hn : 0 < l.length) (H : St w0 w (F :: M)) : ∃ b o, a = some ⟨b, o, none⟩ := by
  obtain ⟨a', c', hv, _, _⟩ := h.sh _ _ _ H
  simp only [Value.slice.injEq] at hv
  obtain ⟨rfl, rfl, rfl⟩ := hv
  exact h.rd.someAt hn H
/-- ... a slice of slices of bytes: each with its value. -/
structure Rs (M : List Asrt) (v : Value) (ps : List (Value × List Byte)) : Prop where
  rd : Rd M 1 v ps.length (ps.map (·.1))
  sh : ∀ w0 F w, St w0 w (F :: M) → ∃ a c, v = .slice a ps.length c ∧ ps.length ≤ c ∧ c ≤ 9223372036854775807
  el : ∀ x ∈ ps, Bs M x.1 x.2
theorem Rs.imp {M N : List Asrt} {v : Value} {ps : List (Value × List Byte)} (h : Rs N v ps) (hi : Imp M N) : Rs M v ps := ⟨h.rd.imp hi, fun w0 F w H => h.sh w0 F w (H.enx hi), fun x hx => (h.el x hx).imp hi⟩
theorem Rs.own {M M' : List Asrt} {E : Nat} {v : Value} {ps : List (Value × List Byte)} (hm : Has M (Sl.own E 1 v ps.length (ps.map (·.1))) M') (h : ∀ x ∈ ps, Bs M x.1 x.2) : Rs M v ps :=
  ⟨Rd.own hm, fun w0 F w H => own_shape (H.pick (.there hm)), h⟩
theorem Rs.cl {M M' : List Asrt} {b o c E : Nat} {cc : Array Value} {ps : List (Value × List Byte)} (hm : Has M (Sl.cl b cc E) M') (hle : o + ps.length ≤ cc.size) (h : (cc.extract o (o + ps.length)).toList = ps.map (·.1)) (hc : ps.length ≤ c) (hcm : c ≤ 9223372036854775807) (he : ∀ x ∈ ps, Bs M x.1 x.2) :
    Rs M (.slice (some ⟨b, o, none⟩) ps.length c) ps :=
  ⟨Rd.cl hm (by simp) (by omega) (by rw [Nat.mul_one]; exact h), fun _ _ _ _ => ⟨_, _, rfl, hc, hcm⟩, he⟩

theorem Imp.own_mk {E size n cap g : Nat} {cur : Array Value} {xs : List Value} {M : List Asrt} (h1 : n ≤ cap) (h2 : cap ≤ 9223372036854775807) (h3 : cur.size = cap * size) (h4 : cur.toList.take (n * size) = xs) :
    Imp (Sl.cl g cur E :: M) (Sl.own E size (.slice (some ⟨g, 0, none⟩) n cap) n xs :: M) :=
  Imp.head fun h hg => ⟨by rw [← h4, List.length_take, Array.length_toList, h3]; exact Nat.min_eq_left (Nat.mul_le_mul_right _ h1), .inr ⟨g, cap, cur, rfl, hg, h1, h2, h3, h4⟩⟩
theorem Imp.own_nil {E size : Nat} {M : List Asrt} : Imp M (Sl.own E size (.slice none 0 0) 0 [] :: M) :=
  fun h hs => ⟨fun _ => none, h, ⟨by simp, .inl ⟨rfl, rfl⟩⟩, hs, Frag.none_disj _, Frag.none_sub _, Frag.sub_refl _⟩
theorem own_some {E n c : Nat} {a : Option Addr} {xs : List Value} {w0 w : World} {F : Asrt} {M M' : List Asrt} (hm : Has M (Sl.own E 1 (.slice a n c) n xs) M') (hn : 0 < n) (H : St w0 w (F :: M)) : ∃ g, a = some ⟨g, 0, none⟩ := by
  rcases (H.pick (.there hm)).own_get with ⟨hv, rfl, _⟩|⟨g, cap, cur, hv, _⟩
  · omega
  · simp only [Value.slice.injEq] at hv
    exact ⟨g, hv.1⟩
theorem Zm6 {P : Program} {w0 : World} {ops : Array Oper} {dst : Option Nat} {ty T : TypeId} {pos : String} {after : Array Edge} {rest : List Oper} {ρ : Env} {K : XK} {M : List Asrt} {x : Operand} {b m k j : Nat} {xs : List Value} {v : Value} [hs : TyScal P T] (hx : ev ρ x = .pointer (some ⟨b, j, none⟩)) (HS : Rd M 1 (.slice (some ⟨b, 0, none⟩) m k) m xs) (hj : j < m) (hv : xs[j]? = some v)
    (kk : xOps P w0 ops rest (put ρ dst v) M K) : xOps P w0 ops (⟨dst, .load T x, ty, pos, after, none⟩ :: rest) ρ M K := Zic (o := 0) (j := j) (by rw [Nat.zero_add]; exact hx) HS hj hv kk
/-- An element of a slice with its room is written. -/
theorem Zm7 {P : Program} {w0 : World} {ops : Array Oper} {dst : Option Nat} {ty T : TypeId} {pos : String} {after : Array Edge} {rest : List Oper} {ρ : Env} {K : XK} {M M2 : List Asrt} {x y : Operand} {by' g i n c E : Nat} {z u : Value} {xs ys : List Value} [hi : TyI P T 1 by' z]
    (hx : ev ρ x = .pointer (some ⟨g, i, none⟩)) (hy : ev ρ y = u) (h1 : oneC u = true) (hm : Repl M (Sl.own E 1 (.slice (some ⟨g, 0, none⟩) n c) n xs) (Sl.own E 1 (.slice (some ⟨g, 0, none⟩) n c) n ys) M2) (hn : i < n) (hys : xs.set i u = ys)
    (k : xOps P w0 ops rest (put ρ dst undef) M2 K) : xOps P w0 ops (⟨dst, .store T x y, ty, pos, after, none⟩ :: rest) ρ M K := by
  intro F w H
  obtain ⟨R, hh1, hh2⟩ := hm.has
  have H1 := H.pick (.there hh1)
  rcases H1.own_get with ⟨hv, _⟩|⟨g', cap, cur, hv, h2, h3, h4, h5, h6, H3⟩
  · cases hv
  · simp only [Value.slice.injEq, Option.some.injEq, Addr.mk.injEq] at hv
    obtain ⟨⟨rfl, _, _⟩, _, rfl⟩ := hv
    refine Zda H3 hx hy h1 Repl.here (by omega) ?_
    intro w' H'
    have H4 := H'.own_mk (size := 1) (n := n) (cap := c) (xs := ys) h2 h3 (by simpa using h4) (by
      rw [← hys, ← h5, Nat.mul_one, Array.toList_setIfInBounds, List.take_set])
    exact k F w' (H4.unpick (.there hh2))
/-- Many pieces as one. -/
def star {α : Type} (A : α → Asrt) (l : List α) : Asrt := all (l.map A)
theorem star_nil {α : Type} {A : α → Asrt} {M : List Asrt} : Imp M (star A [] :: M) := by
  have := Imp.app (L := []) (M := M)
  exact this
theorem star_cons {α : Type} {A : α → Asrt} {x : α} {l : List α} {M : List Asrt} : Imp (A x :: star A l :: M) (star A (x :: l) :: M) := by
  have h : Imp (A x :: star A l :: M) (A x :: (l.map A ++ M)) := Imp.cons Imp.unapp
  exact h.trans (Imp.app (L := A x :: l.map A))
theorem star_uncons {α : Type} {A : α → Asrt} {x : α} {l : List α} {M : List Asrt} : Imp (star A (x :: l) :: M) (A x :: star A l :: M) := by
  have h : Imp (star A (x :: l) :: M) (A x :: (l.map A ++ M)) := Imp.unapp (L := A x :: l.map A)
  exact h.trans (Imp.cons Imp.app)
theorem star_app {α : Type} {A : α → Asrt} {l l2 : List α} {M : List Asrt} : Imp (star A l :: star A l2 :: M) (star A (l ++ l2) :: M) := by
  induction l with
  | nil => exact Imp.tail
  | cons x l ih =>
    refine (star_uncons (M := star A l2 :: M)).trans ?_
    exact (Imp.cons ih).trans star_cons
theorem star_unapp {α : Type} {A : α → Asrt} {l l2 : List α} {M : List Asrt} : Imp (star A (l ++ l2) :: M) (star A l :: star A l2 :: M) := by
  induction l with
  | nil => exact star_nil
  | cons x l ih =>
    refine (star_uncons (M := M)).trans ?_
    exact (Imp.cons ih).trans (star_cons (M := star A l2 :: M))
theorem star_snoc {α : Type} {A : α → Asrt} {x : α} {l : List α} {M : List Asrt} : Imp (A x :: star A l :: M) (star A (l ++ [x]) :: M) := by
  have h1 : Imp (A x :: star A l :: M) (star A [x] :: star A l :: M) := by
    have := star_cons (A := A) (x := x) (l := []) (M := star A l :: M)
    exact (Imp.cons star_nil).trans this
  exact h1.trans (Imp.swap.trans star_app)
/-- One of them, and the others. -/
theorem star_at {α : Type} {A : α → Asrt} {l : List α} {i : Nat} (h : i < l.length) {M : List Asrt} : Imp (star A l :: M) (A l[i] :: star A (l.eraseIdx i) :: M) := by
  have e : l = l.take i ++ l[i] :: l.drop (i + 1) := by rw [← List.drop_eq_getElem_cons h, List.take_append_drop]
  have e2 : l.eraseIdx i = l.take i ++ l.drop (i + 1) := List.eraseIdx_eq_take_drop_succ ..
  have h1 : Imp (star A l :: M) (star A (l.take i) :: star A (l[i] :: l.drop (i + 1)) :: M) := by
    have := star_unapp (A := A) (l := l.take i) (l2 := l[i] :: l.drop (i + 1)) (M := M)
    rwa [← e] at this
  rw [e2]
  refine h1.trans ((Imp.cons star_uncons).trans ?_)
  exact Imp.swap.trans (Imp.cons star_app)
theorem star_back {α : Type} {A : α → Asrt} {l : List α} {i : Nat} (h : i < l.length) (y : α) {M : List Asrt} : Imp (A y :: star A (l.eraseIdx i) :: M) (star A (l.set i y) :: M) := by
  have e2 : l.eraseIdx i = l.take i ++ l.drop (i + 1) := List.eraseIdx_eq_take_drop_succ ..
  rw [e2, List.set_eq_take_append_cons_drop, if_pos h]
  refine (Imp.cons star_unapp).trans ?_
  refine Imp.swap.trans ?_
  exact (Imp.cons star_cons).trans star_app
theorem star_mem {α : Type} {A : α → Asrt} {l : List α} {x : α} (h : x ∈ l) {M : List Asrt} : ∃ R, Imp (star A l :: M) (A x :: R) := by
  obtain ⟨i, hi, rfl⟩ := List.getElem_of_mem h
  exact ⟨_, star_at hi⟩
theorem star_has {α : Type} {A : α → Asrt} {l : List α} {x : α} (h : x ∈ l) {M M' : List Asrt} (hm : Has M (star A l) M') : ∃ R, Imp M (A x :: R) := by
  obtain ⟨R, hR⟩ := star_mem (A := A) h (M := M')
  exact ⟨R, (Imp.has hm).trans hR⟩
class NeB (a b : Nat) : Prop where h : Nat.beq a b = false
instance NeB.l {n : Nat} : NeB (n + 1) 0 := ⟨rfl⟩
instance NeB.r {n : Nat} : NeB 0 (n + 1) := ⟨rfl⟩
instance NeB.s {n m : Nat} [i : NeB n m] : NeB (n + 1) (m + 1) := ⟨i.h⟩
class Ct (A : Prop) (B : outParam Prop) : Prop where o : B → A
section
variable {P : Program} {w0 : World} {x y c : Code} {ρ : Env} {M : List Asrt} {Q : XQ} {k : XK} {id id' : Nat} {B : Prop}
instance (priority := low) Ct.iz {A : Prop} : Ct A A := ⟨fun h => h⟩
instance Ct.ja [i : Ct (xC P w0 x ρ M (xthen (fun ρ' M' => xC P w0 y ρ' M' Q) Q)) B] : Ct (xC P w0 (.seq x y) ρ M Q) B := ⟨fun h => zA (i.o h)⟩
instance Ct.jb [i : Ct (Q .normal ρ M) B] : Ct (xC P w0 .skip ρ M Q) B := ⟨fun h => zB (i.o h)⟩
instance Ct.jc [i : Ct (xC P w0 c ρ M (xblk id Q)) B] : Ct (xC P w0 (.block id c) ρ M Q) B := ⟨fun h => zC (i.o h)⟩
instance Ct.jd [i : Ct (Q .normal ρ M) B] : Ct (xC P w0 (.label id) ρ M Q) B := ⟨fun h => zD (i.o h)⟩
instance Ct.je [i : Ct (Q (.exit id) ρ M) B] : Ct (xC P w0 (.exit id) ρ M Q) B := ⟨fun h => zE (i.o h)⟩
instance Ct.jf [i : Ct (Q .ret ρ M) B] : Ct (xC P w0 .ret ρ M Q) B := ⟨fun h => zF (i.o h)⟩
instance Ct.jg [i : Ct (k ρ M) B] : Ct (xthen k Q .normal ρ M) B := ⟨fun h => zG (i.o h)⟩
instance Ct.jh [i : Ct (Q (.exit id) ρ M) B] : Ct (xthen k Q (.exit id) ρ M) B := ⟨fun h => zH (i.o h)⟩
instance Ct.ji [i : Ct (Q .ret ρ M) B] : Ct (xthen k Q .ret ρ M) B := ⟨fun h => zI (i.o h)⟩
instance Ct.jj [i : Ct (Q .normal ρ M) B] : Ct (xblk id Q .normal ρ M) B := ⟨fun h => zJ (i.o h)⟩
instance Ct.jk [i : Ct (Q .normal ρ M) B] : Ct (xblk id Q (.exit id) ρ M) B := ⟨fun h => zK (i.o h)⟩
instance Ct.jl [i : Ct (Q .ret ρ M) B] : Ct (xblk id Q .ret ρ M) B := ⟨fun h => zL (i.o h)⟩
instance (priority := 900) Ct.im [j : NeB id' id] [i : Ct (Q (.exit id') ρ M) B] : Ct (xblk id Q (.exit id') ρ M) B := ⟨fun h => zM j.h (i.o h)⟩
instance Ct.js {l : Nat} [i : Ct (Q (.goto l) ρ M) B] : Ct (xC P w0 (.goto l) ρ M Q) B := ⟨fun h => Znd (i.o h)⟩
instance Ct.jt {l : Nat} [i : Ct (Q (.goto l) ρ M) B] : Ct (xthen k Q (.goto l) ρ M) B := ⟨fun h => Zne (i.o h)⟩
instance Ct.ju {l : Nat} [i : Ct (Q (.goto l) ρ M) B] : Ct (xblk id Q (.goto l) ρ M) B := ⟨fun h => Znf (i.o h)⟩
instance Ct.jv [i : Ct (Q .normal ρ M) B] : Ct (xng Q .normal ρ M) B := ⟨fun h => Zng (i.o h)⟩
instance Ct.jw [i : Ct (Q (.exit id) ρ M) B] : Ct (xng Q (.exit id) ρ M) B := ⟨fun h => Znh (i.o h)⟩
instance Ct.jx [i : Ct (Q .ret ρ M) B] : Ct (xng Q .ret ρ M) B := ⟨fun h => Zni (i.o h)⟩
section
variable {S : Type} {I : S → Prop} {Mf : S → List Asrt} {U : S → List (Nat × Value)} {μ : S → Nat} {m : Nat}
instance Ct.k1 {l : Nat} [i : Ct (Q .normal ρ M) B] : Ct (xgo l I Mf U Q .normal ρ M) B := ⟨fun h => Znj (i.o h)⟩
instance Ct.k2 {l : Nat} [i : Ct (Q (.exit id) ρ M) B] : Ct (xgo l I Mf U Q (.exit id) ρ M) B := ⟨fun h => Znk (i.o h)⟩
instance Ct.k3 {l : Nat} [i : Ct (Q .ret ρ M) B] : Ct (xgo l I Mf U Q .ret ρ M) B := ⟨fun h => Znl (i.o h)⟩
instance Ct.jn [i : Ct (Q (.exit id) ρ M) B] : Ct (xcut I Mf U Q (.exit id) ρ M) B := ⟨fun h => zN (i.o h)⟩
instance Ct.jp [i : Ct (Q .ret ρ M) B] : Ct (xcut I Mf U Q .ret ρ M) B := ⟨fun h => zO (i.o h)⟩
instance Ct.jq [i : Ct (Q (.exit id) ρ M) B] : Ct (xloop I Mf U μ m Q (.exit id) ρ M) B := ⟨fun h => zP (i.o h)⟩
instance Ct.jr [i : Ct (Q .ret ρ M) B] : Ct (xloop I Mf U μ m Q .ret ρ M) B := ⟨fun h => zQ (i.o h)⟩
end
end
/-! short names for what a walk proves again and again -/
theorem qH {L L' : List Asrt} {A : Asrt} (h : Has L A L' := by repeat constructor) : Has L A L' := h
theorem qR {L L' : List Asrt} {A B : Asrt} (h : Repl L A B L' := by repeat constructor) : Repl L A B L' := h
theorem qT {L M R : List Asrt} (h : Take L M R := by repeat (first|exact Take.nil|exact Take.all|(apply Take.cons; (next => (repeat constructor); done))|apply Take.skip)) : Take L M R := h
theorem qA {L M R : List Asrt} (h : App L M R := by repeat (first|exact App.nil|apply App.cons|(apply App.flip; first|exact App.nil|apply App.cons)|exact App.any)) : App L M R := h
theorem qV {L M : List Asrt} (h : Arr L M := by repeat (first|exact Arr.nil|exact Arr.stop|refine Arr.cons (by repeat constructor) ?_|refine Arr.skip ?_)) : Arr L M := h
theorem qI {L M : List Asrt} (h : Arr L M := by repeat (first|exact Arr.nil|exact Arr.stop|refine Arr.cons (by repeat constructor) ?_|refine Arr.skip ?_)) : Imp L M := Imp.arr h
theorem qZ {p : Prop} (h : p := by first|omega|(rw [szL]; omega)|rfl|exact Nat.le_of_ble_eq_true rfl|(simp; done)|(simp; omega)) : p := h
theorem qS {p : Prop} (h : p := by first|omega|exact Nat.le_of_ble_eq_true rfl|(simp; done)|(simp; omega)|decide) : p := h
theorem qO {p : Prop} (h : p := by first|omega|(dsimp only; omega)|(simp only []; omega)) : p := h
theorem qL {p : Prop} (h : p := by first|assumption|rfl|(simp; done)|(simp; omega)) : p := h
theorem qF {p : Prop} (h : p := by first|rfl|exact fill_one rfl rfl) : p := h
theorem qB {p : Prop} (h : p := by first|rfl|(simp [optB]; done)|(simp [optB]; omega)) : p := h
theorem qN {p : Prop} (h : p := by first|rfl|exact oneM_u8 _|exact oneL_u8 _|(simp [oneC]; done)) : p := h
end Go.Sl

/- the bridge from a contract to a row. -/
namespace Go.Sl
open Go Go.ChangeShapes Go.WideShapes Go.ChangeAt Go.RowKit
theorem con_law {P : Program} {f : FuncId} {args : List Value} {W : World} (h : Con P f args [old W] (fun v M => v = .bool true ∧ [old W] = M)) : Calls P f args.toArray W (fun e w' => e = .returned (.bool true) ∧ Below W.heap.size W w') := by
  have H : St W W (pur True :: [old W]) := (St.start W).pur_mk trivial
  refine (h W _ W H).mono ?_
  rintro e w' ⟨v, he, M', H', hv, rfl⟩
  exact ⟨by rw [he, hv], H'.below (.there .here)⟩
/-- A contract that needs nothing, among whatever pieces. -/
theorem Con.frame {P : Program} {F : FuncId} {args : List Value} {M L : List Asrt} {Φ : Value → List Asrt → Prop} (h : Con P F args M Φ) : Con P F args (M ++ L) (fun v N => ∃ M', Φ v M' ∧ M' ++ L = N) := by
  intro w0 Fr w H
  have H2 : St w0 w (all (Fr :: L) :: M) := by
    refine H.ent ((Imp.cons Imp.comm).trans ?_)
    exact Imp.app (L := Fr :: L) (M := M)
  refine (h w0 _ w H2).mono (Ret.mono ?_)
  rintro v w' ⟨M', H', hφ⟩
  exact ⟨M' ++ L, H'.ent (Imp.unapp.trans (Imp.cons Imp.comm)), M', hφ, rfl⟩
end Go.Sl

/- what comes in, opened: arrays of bytes, bytes, slices of bytes. -/
set_option linter.unusedVariables false
set_option linter.unusedSimpArgs false
namespace Go.Sl
open Go Go.ChangeShapes Go.WideShapes Go.ChangeAt Go.RowKit
variable {H : Type} {enc : TypeId × Value → H} {P : Program} {w : World} {base : Nat} {spare : Nat → Bool} {held : Bool}
theorem byte_of {n : Int} (hw : (Lit.int .u8 n).wf = true) : ∃ b : Byte, Value.int .u8 n = u8b b := by
  simp only [Lit.wf, Bool.and_eq_true, decide_eq_true_eq] at hw
  have hlo : IntKind.u8.min = 0 := by decide
  have hhi : IntKind.u8.max = 255 := by decide
  refine ⟨BitVec.ofNat 8 n.toNat, ?_⟩
  show Value.int .u8 n = .int .u8 _
  rw [BitVec.toNat_ofNat]
  congr 1
  omega
theorem list_bytes {cs : List Value} (h : ∀ v ∈ cs, ∃ b : Byte, v = u8b b) : ∃ l : List Byte, cs = l.map u8b := by
  induction cs with
  | nil => exact ⟨[], rfl⟩
  | cons v cs ih =>
    obtain ⟨b, hb⟩ := h v (.head _)
    obtain ⟨l, hl⟩ := ih (fun x hx => h x (.tail _ hx))
    exact ⟨b :: l, by rw [hb, hl]; rfl⟩
/-- An array of bytes. -/
theorem open_ba {T n fuel : Nat} {cs : List Value} {x : DataW H × List MemPlace} [ht : TyBA P T n] (h : DataW.trod enc P w base spare held fuel T cs = some x) : ∃ l : List Byte, cs = l.map u8b ∧ l.length = n := by
  obtain ⟨E, h1, h2, h3⟩ := ht.ex
  obtain ⟨xs, m, _, _, hl, hxl, hel⟩ := DataW.trod_array h1 h
  rw [ht.ct] at hl
  have hb : ∀ v ∈ cs, ∃ b : Byte, v = u8b b := by
    intro v hv
    obtain ⟨i, hi, rfl⟩ := List.getElem_of_mem hv
    have h4 := hel i (by omega)
    rw [h3, Nat.mul_one] at h4
    rw [List.getElem?_eq_getElem (show i < xs.length by omega)] at h4
    have e : (cs.drop i).take 1 = [cs[i]] := by rw [List.drop_eq_getElem_cons hi]; rfl
    rw [e] at h4
    obtain ⟨k, hk, _, hw⟩ := DataW.trod_int h2 h4
    simp only [List.cons.injEq, and_true] at hk
    rw [hk]
    exact byte_of hw
  obtain ⟨l, rfl⟩ := list_bytes hb
  exact ⟨l, rfl, by simpa using hl⟩
theorem slice_shape {t e fuel : Nat} {cs : List Value} {x : DataW H × List MemPlace} (ht : P.underlying t = some (.slice e)) (h : DataW.trod enc P w base spare held fuel t cs = some x) :
    ∃ a len cap, cs = [.slice a len cap] ∧ len ≤ cap ∧ cap ≤ 9223372036854775807 := by
  rcases DataW.trod_slice ht h with ⟨rfl, _⟩|⟨a, len, cap, elems, rest, n, _, rfl, hx, hb, hl, hm, _⟩
  · exact ⟨none, 0, 0, rfl, by omega, by omega⟩
  · exact ⟨some a, len, cap, rfl, hl, by unfold Go.maxLen at hm; omega⟩
/-- What a slice of bytes is when it comes in. -/
structure InB (W : World) (v : Value) (l : List Byte) : Prop where
  sl : SlW W 1 v l.length (l.map u8b)
  sh : ∃ a c, v = .slice a l.length c ∧ l.length ≤ c ∧ c ≤ 9223372036854775807
  len : l.length ≤ 140737488351232
theorem InB.bs {W : World} {v : Value} {l : List Byte} {M M' : List Asrt} (h : InB W v l) (hm : Has M (old W) M') : Bs M v l := Bs.old hm h.sl h.sh
theorem open_bs {t e fuel : Nat} {cs : List Value} {x : DataW H × List MemPlace} (ht : P.underlying t = some (.slice e)) (he : P.underlying e = some (.int .u8)) (hc : P.cellsOf e = 1) (hby : P.bytesOf e = 1) (h : DataW.trod enc P w base spare held fuel t cs = some x) (hs : Small P t x.1) :
    ∃ (v : Value) (l : List Byte), cs = [v] ∧ InB w v l := by
  obtain ⟨v, l, h1, h2, h3, h4⟩ := open_bytess ht he hc hby h hs
  obtain ⟨a, len, cap, h5, h6, h7⟩ := slice_shape ht h
  rw [h1] at h5
  simp only [List.cons.injEq, and_true] at h5
  have hb : ∀ u ∈ l.map u8v, ∃ b : Byte, u = u8b b := by
    intro u hu
    obtain ⟨n, hn, rfl⟩ := List.mem_map.1 hu
    exact byte_of (h3 n hn)
  obtain ⟨lb, hlb⟩ := list_bytes hb
  have hll : l.length = lb.length := by have := congrArg List.length hlb; simpa using this
  rw [hlb, hll] at h2
  obtain ⟨a', k', hv⟩ := h2.len
  rw [h5] at hv
  simp only [Value.slice.injEq] at hv
  obtain ⟨rfl, rfl, rfl⟩ := hv
  exact ⟨v, lb, h1, ⟨h2, ⟨a, cap, h5, h6, h7⟩, by omega⟩⟩
/-- ... a slice of them. -/
structure InR (W : World) (v : Value) (ps : List (Value × List Byte)) : Prop where
  sl : SlW W 1 v ps.length (ps.map (·.1))
  sh : ∃ a c, v = .slice a ps.length c ∧ ps.length ≤ c ∧ c ≤ 9223372036854775807
  el : ∀ x ∈ ps, InB W x.1 x.2
  len : ps.length * 24 ≤ 140737488351232
theorem InR.rs {W : World} {v : Value} {ps : List (Value × List Byte)} {M M' : List Asrt} (h : InR W v ps) (hm : Has M (old W) M') : Rs M v ps :=
  ⟨Rd.old hm h.sl, fun _ _ _ _ => h.sh, fun x hx => (h.el x hx).bs hm⟩
theorem open_rs {t e e2 fuel : Nat} {cs : List Value} {x : DataW H × List MemPlace} (ht : P.underlying t = some (.slice e)) (hc : P.cellsOf e = 1) (hby : P.bytesOf e = 24) (ht2 : P.underlying e = some (.slice e2)) (he : P.underlying e2 = some (.int .u8)) (hc2 : P.cellsOf e2 = 1) (hby2 : P.bytesOf e2 = 1)
    (h : DataW.trod enc P w base spare held fuel t cs = some x) (hs : Small P t x.1) : ∃ (v : Value) (ps : List (Value × List Byte)), cs = [v] ∧ InR w v ps := by
  obtain ⟨v, l, h1, h2, h3, h4⟩ := open_sls (encd := fun x : Value × List Byte => [x.1]) (good := fun x => InB w x.1 x.2) ht hc (by decide) hby (fun _ => rfl) (fun n cs y hy hsm => by
    obtain ⟨v, l, rfl, hin⟩ := open_bs ht2 he hc2 hby2 hy hsm
    exact ⟨(v, l), rfl, hin⟩) h hs
  obtain ⟨a, len, cap, h5, h6, h7⟩ := slice_shape ht h
  rw [h1] at h5
  simp only [List.cons.injEq, and_true] at h5
  rw [flat_one] at h2
  obtain ⟨a', k', hv⟩ := h2.len
  rw [h5] at hv
  simp only [Value.slice.injEq] at hv
  obtain ⟨rfl, rfl, rfl⟩ := hv
  exact ⟨v, l, h1, ⟨h2, ⟨a, cap, h5, h6, h7⟩, h3, h4⟩⟩
/-- Arguments. -/
theorem arg_ba {T n b0 : Nat} {v : Value} {d : DataW H} {ps : List MemPlace} [ht : TyBA P T n] (hv : Value.okWide P w .any b0 T v) (h : DataW.Trod enc P w base spare held T v d ps) : ∃ l : List Byte, v = .agg (l.map u8b).toArray ∧ l.length = n := by
  obtain ⟨E, h1, _, _⟩ := ht.ex
  simp only [Value.okWide, h1] at hv
  obtain ⟨cs, rfl, _⟩ := hv
  obtain ⟨fuel, hf⟩ := h
  obtain ⟨l, hl, hn⟩ := open_ba hf
  refine ⟨l, ?_, hn⟩
  have : cs.toList = l.map u8b := hl
  rw [← this]
theorem arg_bs {t e b0 : Nat} {v : Value} {d : DataW H} {ps : List MemPlace} (ht : P.underlying t = some (.slice e)) (he : P.underlying e = some (.int .u8)) (hc : P.cellsOf e = 1) (hby : P.bytesOf e = 1) (hv : Value.okWide P w .any b0 t v) (h : DataW.Trod enc P w base spare held t v d ps) (hs : Small P t d) :
    ∃ l : List Byte, InB w v l := by
  obtain ⟨a, len, cap, rfl⟩ := okWide_slice ht hv
  obtain ⟨fuel, hf⟩ := h
  obtain ⟨u, l, hu, hin⟩ := open_bs ht he hc hby hf hs
  obtain rfl : Value.slice a len cap = u := by simpa [Value.cells] using hu
  exact ⟨l, hin⟩
theorem arg_rs {t e e2 b0 : Nat} {v : Value} {d : DataW H} {ps : List MemPlace} (ht : P.underlying t = some (.slice e)) (hc : P.cellsOf e = 1) (hby : P.bytesOf e = 24) (ht2 : P.underlying e = some (.slice e2)) (he : P.underlying e2 = some (.int .u8)) (hc2 : P.cellsOf e2 = 1) (hby2 : P.bytesOf e2 = 1)
    (hv : Value.okWide P w .any b0 t v) (h : DataW.Trod enc P w base spare held t v d ps) (hs : Small P t d) : ∃ l : List (Value × List Byte), InR w v l := by
  obtain ⟨a, len, cap, rfl⟩ := okWide_slice ht hv
  obtain ⟨fuel, hf⟩ := h
  obtain ⟨u, l, hu, hin⟩ := open_rs ht hc hby ht2 he hc2 hby2 hf hs
  obtain rfl : Value.slice a len cap = u := by simpa [Value.cells] using hu
  exact ⟨l, hin⟩
end Go.Sl

/- what comes in, opened: numbers. -/
set_option linter.unusedVariables false
namespace Go.Sl
open Go Go.ChangeShapes Go.WideShapes Go.ChangeAt Go.RowKit
theorem Imp.pur_mk {p : Prop} {M : List Asrt} (hp : p) : Imp M (pur p :: M) := fun h hs => ⟨fun _ => none, h, hp, hs, Frag.none_disj _, Frag.none_sub _, Frag.sub_refl _⟩
theorem i64_of {n : Int} (h : (Lit.int .i64 n).wf = true) : -9223372036854775808 ≤ n ∧ n ≤ 9223372036854775807 := by
  simp only [Lit.wf, Bool.and_eq_true, decide_eq_true_eq] at h
  have hlo : IntKind.i64.min = -9223372036854775808 := by decide
  have hhi : IntKind.i64.max = 9223372036854775807 := by decide
  omega
theorem u8_of {n : Int} (hw : (Lit.int .u8 n).wf = true) : ∃ b : BitVec 8, Value.int .u8 n = u8b b := byte_of hw
theorem u16_of {n : Int} (hw : (Lit.int .u16 n).wf = true) : ∃ b : BitVec 16, Value.int .u16 n = u16b b := by
  simp only [Lit.wf, Bool.and_eq_true, decide_eq_true_eq] at hw
  have hlo : IntKind.u16.min = 0 := by decide
  have hhi : IntKind.u16.max = 65535 := by decide
  refine ⟨BitVec.ofNat 16 n.toNat, ?_⟩
  show Value.int .u16 n = .int .u16 _
  rw [BitVec.toNat_ofNat]; congr 1; omega
theorem u32_of {n : Int} (hw : (Lit.int .u32 n).wf = true) : ∃ b : BitVec 32, Value.int .u32 n = u32b b := by
  simp only [Lit.wf, Bool.and_eq_true, decide_eq_true_eq] at hw
  have hlo : IntKind.u32.min = 0 := by decide
  have hhi : IntKind.u32.max = 4294967295 := by decide
  refine ⟨BitVec.ofNat 32 n.toNat, ?_⟩
  show Value.int .u32 n = .int .u32 _
  rw [BitVec.toNat_ofNat]; congr 1; omega
theorem u64_of {n : Int} (hw : (Lit.int .u64 n).wf = true) : ∃ b : BitVec 64, Value.int .u64 n = u64b b := by
  simp only [Lit.wf, Bool.and_eq_true, decide_eq_true_eq] at hw
  have hlo : IntKind.u64.min = 0 := by decide
  have hhi : IntKind.u64.max = 18446744073709551615 := by decide
  refine ⟨BitVec.ofNat 64 n.toNat, ?_⟩
  show Value.int .u64 n = .int .u64 _
  rw [BitVec.toNat_ofNat]; congr 1; omega
end Go.Sl

/- What the engine's rules ask of this program's types (written by gentypes.py). -/
namespace Go.Sl
open Go Go.Proofs
theorem Tryz.mixed : Tryz.prog.follows .mixedOrders = true := by kernel_rfl
instance : TyScal Tryz.prog 1 := ⟨by kernel_rfl⟩
instance : TyI Tryz.prog 1 1 8 (.nilFunc) := ⟨by kernel_rfl, by kernel_rfl⟩
instance : TyScal Tryz.prog 2 := ⟨by kernel_rfl⟩
instance : TyI Tryz.prog 2 1 8 (.int .i64 0) := ⟨by kernel_rfl, by kernel_rfl⟩
instance : TyInt Tryz.prog 2 .i64 := ⟨by kernel_rfl⟩
instance : TyScal Tryz.prog 3 := ⟨by kernel_rfl⟩
instance : TyI Tryz.prog 3 1 8 (.int .i64 0) := ⟨by kernel_rfl, by kernel_rfl⟩
instance : TyInt Tryz.prog 3 .i64 := ⟨by kernel_rfl⟩
instance : TyScal Tryz.prog 4 := ⟨by kernel_rfl⟩
instance : TyI Tryz.prog 4 1 1 (.bool false) := ⟨by kernel_rfl, by kernel_rfl⟩
instance : TyBool Tryz.prog 4 := ⟨by kernel_rfl⟩
instance : TyScal Tryz.prog 5 := ⟨by kernel_rfl⟩
instance : TyI Tryz.prog 5 1 1 (.int .u8 0) := ⟨by kernel_rfl, by kernel_rfl⟩
instance : TyInt Tryz.prog 5 .u8 := ⟨by kernel_rfl⟩
instance : TyScal Tryz.prog 6 := ⟨by kernel_rfl⟩
instance : TyI Tryz.prog 6 1 1 (.int .u8 0) := ⟨by kernel_rfl, by kernel_rfl⟩
instance : TyInt Tryz.prog 6 .u8 := ⟨by kernel_rfl⟩
instance : TyAggr Tryz.prog 7 := ⟨by kernel_rfl⟩
instance : TyI Tryz.prog 7 4 24 (.agg #[.int .i64 0, .int .i64 0, .bool false, .int .u8 0]) := ⟨by kernel_rfl, by kernel_rfl⟩
instance : Fld Tryz.prog 7 0 0 2 := ⟨by kernel_rfl⟩
instance : Fld Tryz.prog 7 1 1 3 := ⟨by kernel_rfl⟩
instance : Fld Tryz.prog 7 2 2 4 := ⟨by kernel_rfl⟩
instance : Fld Tryz.prog 7 3 3 6 := ⟨by kernel_rfl⟩
instance : TyStruct Tryz.prog 7 #[(0, 1), (1, 1), (2, 1), (3, 1)] := ⟨by kernel_rfl⟩
instance : TyAggr Tryz.prog 8 := ⟨by kernel_rfl⟩
instance : TyI Tryz.prog 8 4 24 (.agg #[.int .i64 0, .int .i64 0, .bool false, .int .u8 0]) := ⟨by kernel_rfl, by kernel_rfl⟩
instance : Fld Tryz.prog 8 0 0 2 := ⟨by kernel_rfl⟩
instance : Fld Tryz.prog 8 1 1 3 := ⟨by kernel_rfl⟩
instance : Fld Tryz.prog 8 2 2 4 := ⟨by kernel_rfl⟩
instance : Fld Tryz.prog 8 3 3 6 := ⟨by kernel_rfl⟩
instance : TyStruct Tryz.prog 8 #[(0, 1), (1, 1), (2, 1), (3, 1)] := ⟨by kernel_rfl⟩
instance : TyScal Tryz.prog 9 := ⟨by kernel_rfl⟩
instance : TyI Tryz.prog 9 1 16 (.string ByteArray.empty) := ⟨by kernel_rfl, by kernel_rfl⟩
instance : TyStr Tryz.prog 9 := ⟨by kernel_rfl⟩
instance : TyScal Tryz.prog 10 := ⟨by kernel_rfl⟩
instance : TyI Tryz.prog 10 1 16 (.string ByteArray.empty) := ⟨by kernel_rfl, by kernel_rfl⟩
instance : TyStr Tryz.prog 10 := ⟨by kernel_rfl⟩
instance : TyScal Tryz.prog 11 := ⟨by kernel_rfl⟩
instance : TyI Tryz.prog 11 1 16 (.string ByteArray.empty) := ⟨by kernel_rfl, by kernel_rfl⟩
instance : TyStr Tryz.prog 11 := ⟨by kernel_rfl⟩
instance : TyScal Tryz.prog 12 := ⟨by kernel_rfl⟩
instance : TyI Tryz.prog 12 1 8 (.int .u64 0) := ⟨by kernel_rfl, by kernel_rfl⟩
instance : TyInt Tryz.prog 12 .u64 := ⟨by kernel_rfl⟩
instance : TyAggr Tryz.prog 13 := ⟨by kernel_rfl⟩
instance : TyI Tryz.prog 13 2 24 (.agg #[.string ByteArray.empty, .int .u64 0]) := ⟨by kernel_rfl, by kernel_rfl⟩
instance : Fld Tryz.prog 13 0 0 9 := ⟨by kernel_rfl⟩
instance : Fld Tryz.prog 13 1 1 12 := ⟨by kernel_rfl⟩
instance : TyStruct Tryz.prog 13 #[(0, 1), (1, 1)] := ⟨by kernel_rfl⟩
instance : TyAggr Tryz.prog 14 := ⟨by kernel_rfl⟩
instance : TyI Tryz.prog 14 2 24 (.agg #[.string ByteArray.empty, .int .u64 0]) := ⟨by kernel_rfl, by kernel_rfl⟩
instance : Fld Tryz.prog 14 0 0 9 := ⟨by kernel_rfl⟩
instance : Fld Tryz.prog 14 1 1 12 := ⟨by kernel_rfl⟩
instance : TyStruct Tryz.prog 14 #[(0, 1), (1, 1)] := ⟨by kernel_rfl⟩
instance : TyScal Tryz.prog 15 := ⟨by kernel_rfl⟩
instance : TyI Tryz.prog 15 1 8 (.pointer none) := ⟨by kernel_rfl, by kernel_rfl⟩
instance : TyPtr Tryz.prog 15 160 := ⟨by kernel_rfl⟩
instance : TyScal Tryz.prog 16 := ⟨by kernel_rfl⟩
instance : TyI Tryz.prog 16 1 8 (.pointer none) := ⟨by kernel_rfl, by kernel_rfl⟩
instance : TyPtr Tryz.prog 16 163 := ⟨by kernel_rfl⟩
instance : TyScal Tryz.prog 17 := ⟨by kernel_rfl⟩
instance : TyI Tryz.prog 17 1 8 (.pointer none) := ⟨by kernel_rfl, by kernel_rfl⟩
instance : TyPtr Tryz.prog 17 171 := ⟨by kernel_rfl⟩
instance : TyAggr Tryz.prog 18 := ⟨by kernel_rfl⟩
instance : TyI Tryz.prog 18 1 8 (.agg #[.pointer none]) := ⟨by kernel_rfl, by kernel_rfl⟩
instance : Fld Tryz.prog 18 0 0 17 := ⟨by kernel_rfl⟩
instance : TyStruct Tryz.prog 18 #[(0, 1)] := ⟨by kernel_rfl⟩
instance : TyAggr Tryz.prog 19 := ⟨by kernel_rfl⟩
instance : TyI Tryz.prog 19 1 8 (.agg #[.pointer none]) := ⟨by kernel_rfl, by kernel_rfl⟩
instance : Fld Tryz.prog 19 0 0 17 := ⟨by kernel_rfl⟩
instance : TyStruct Tryz.prog 19 #[(0, 1)] := ⟨by kernel_rfl⟩
instance : TyScal Tryz.prog 20 := ⟨by kernel_rfl⟩
instance : TyI Tryz.prog 20 1 16 (.nilIface) := ⟨by kernel_rfl, by kernel_rfl⟩
instance : TyScal Tryz.prog 21 := ⟨by kernel_rfl⟩
instance : TyI Tryz.prog 21 1 4 (.int .i32 0) := ⟨by kernel_rfl, by kernel_rfl⟩
instance : TyInt Tryz.prog 21 .i32 := ⟨by kernel_rfl⟩
instance : TyAggr Tryz.prog 22 := ⟨by kernel_rfl⟩
instance : TyI Tryz.prog 22 32 32 (.agg #[.int .u8 0, .int .u8 0, .int .u8 0, .int .u8 0, .int .u8 0, .int .u8 0, .int .u8 0, .int .u8 0, .int .u8 0, .int .u8 0, .int .u8 0, .int .u8 0, .int .u8 0, .int .u8 0, .int .u8 0, .int .u8 0, .int .u8 0, .int .u8 0, .int .u8 0, .int .u8 0, .int .u8 0, .int .u8 0, .int .u8 0, .int .u8 0, .int .u8 0, .int .u8 0, .int .u8 0, .int .u8 0, .int .u8 0, .int .u8 0, .int .u8 0, .int .u8 0]) := ⟨by kernel_rfl, by kernel_rfl⟩
instance : TyArr Tryz.prog 22 32 5 := ⟨by kernel_rfl⟩
instance : TyAggr Tryz.prog 23 := ⟨by kernel_rfl⟩
instance : TyI Tryz.prog 23 32 32 (.agg #[.int .u8 0, .int .u8 0, .int .u8 0, .int .u8 0, .int .u8 0, .int .u8 0, .int .u8 0, .int .u8 0, .int .u8 0, .int .u8 0, .int .u8 0, .int .u8 0, .int .u8 0, .int .u8 0, .int .u8 0, .int .u8 0, .int .u8 0, .int .u8 0, .int .u8 0, .int .u8 0, .int .u8 0, .int .u8 0, .int .u8 0, .int .u8 0, .int .u8 0, .int .u8 0, .int .u8 0, .int .u8 0, .int .u8 0, .int .u8 0, .int .u8 0, .int .u8 0]) := ⟨by kernel_rfl, by kernel_rfl⟩
instance : TyArr Tryz.prog 23 32 5 := ⟨by kernel_rfl⟩
instance : TyScal Tryz.prog 24 := ⟨by kernel_rfl⟩
instance : TyI Tryz.prog 24 1 8 (.int .u64 0) := ⟨by kernel_rfl, by kernel_rfl⟩
instance : TyInt Tryz.prog 24 .u64 := ⟨by kernel_rfl⟩
instance : TyScal Tryz.prog 25 := ⟨by kernel_rfl⟩
instance : TyI Tryz.prog 25 1 4 (.int .u32 0) := ⟨by kernel_rfl, by kernel_rfl⟩
instance : TyInt Tryz.prog 25 .u32 := ⟨by kernel_rfl⟩
instance : TyAggr Tryz.prog 26 := ⟨by kernel_rfl⟩
instance : TyI Tryz.prog 26 4 24 (.agg #[.int .u64 0, .int .u32 0, .int .u32 0, .int .u32 0]) := ⟨by kernel_rfl, by kernel_rfl⟩
instance : Fld Tryz.prog 26 0 0 24 := ⟨by kernel_rfl⟩
instance : Fld Tryz.prog 26 1 1 25 := ⟨by kernel_rfl⟩
instance : Fld Tryz.prog 26 2 2 25 := ⟨by kernel_rfl⟩
instance : Fld Tryz.prog 26 3 3 25 := ⟨by kernel_rfl⟩
instance : TyStruct Tryz.prog 26 #[(0, 1), (1, 1), (2, 1), (3, 1)] := ⟨by kernel_rfl⟩
instance : TyAggr Tryz.prog 27 := ⟨by kernel_rfl⟩
instance : TyI Tryz.prog 27 4 24 (.agg #[.int .u64 0, .int .u32 0, .int .u32 0, .int .u32 0]) := ⟨by kernel_rfl, by kernel_rfl⟩
instance : Fld Tryz.prog 27 0 0 24 := ⟨by kernel_rfl⟩
instance : Fld Tryz.prog 27 1 1 25 := ⟨by kernel_rfl⟩
instance : Fld Tryz.prog 27 2 2 25 := ⟨by kernel_rfl⟩
instance : Fld Tryz.prog 27 3 3 25 := ⟨by kernel_rfl⟩
instance : TyStruct Tryz.prog 27 #[(0, 1), (1, 1), (2, 1), (3, 1)] := ⟨by kernel_rfl⟩
instance : TyScal Tryz.prog 28 := ⟨by kernel_rfl⟩
instance : TyI Tryz.prog 28 1 24 (.slice none 0 0) := ⟨by kernel_rfl, by kernel_rfl⟩
instance : TySlice Tryz.prog 28 5 := ⟨by kernel_rfl⟩
instance : TyAggr Tryz.prog 29 := ⟨by kernel_rfl⟩
instance : TyI Tryz.prog 29 37 80 (.agg #[.int .u8 0, .int .u8 0, .int .u8 0, .int .u8 0, .int .u8 0, .int .u8 0, .int .u8 0, .int .u8 0, .int .u8 0, .int .u8 0, .int .u8 0, .int .u8 0, .int .u8 0, .int .u8 0, .int .u8 0, .int .u8 0, .int .u8 0, .int .u8 0, .int .u8 0, .int .u8 0, .int .u8 0, .int .u8 0, .int .u8 0, .int .u8 0, .int .u8 0, .int .u8 0, .int .u8 0, .int .u8 0, .int .u8 0, .int .u8 0, .int .u8 0, .int .u8 0, .int .u64 0, .int .u32 0, .int .u32 0, .int .u32 0, .slice none 0 0]) := ⟨by kernel_rfl, by kernel_rfl⟩
instance : Fld Tryz.prog 29 0 0 23 := ⟨by kernel_rfl⟩
instance : Fld Tryz.prog 29 1 32 27 := ⟨by kernel_rfl⟩
instance : Fld Tryz.prog 29 2 36 28 := ⟨by kernel_rfl⟩
instance : TyStruct Tryz.prog 29 #[(0, 32), (32, 4), (36, 1)] := ⟨by kernel_rfl⟩
instance : TyAggr Tryz.prog 30 := ⟨by kernel_rfl⟩
instance : TyI Tryz.prog 30 37 80 (.agg #[.int .u8 0, .int .u8 0, .int .u8 0, .int .u8 0, .int .u8 0, .int .u8 0, .int .u8 0, .int .u8 0, .int .u8 0, .int .u8 0, .int .u8 0, .int .u8 0, .int .u8 0, .int .u8 0, .int .u8 0, .int .u8 0, .int .u8 0, .int .u8 0, .int .u8 0, .int .u8 0, .int .u8 0, .int .u8 0, .int .u8 0, .int .u8 0, .int .u8 0, .int .u8 0, .int .u8 0, .int .u8 0, .int .u8 0, .int .u8 0, .int .u8 0, .int .u8 0, .int .u64 0, .int .u32 0, .int .u32 0, .int .u32 0, .slice none 0 0]) := ⟨by kernel_rfl, by kernel_rfl⟩
instance : Fld Tryz.prog 30 0 0 23 := ⟨by kernel_rfl⟩
instance : Fld Tryz.prog 30 1 32 27 := ⟨by kernel_rfl⟩
instance : Fld Tryz.prog 30 2 36 28 := ⟨by kernel_rfl⟩
instance : TyStruct Tryz.prog 30 #[(0, 32), (32, 4), (36, 1)] := ⟨by kernel_rfl⟩
instance : TyScal Tryz.prog 31 := ⟨by kernel_rfl⟩
instance : TyI Tryz.prog 31 1 8 (.int .i64 0) := ⟨by kernel_rfl, by kernel_rfl⟩
instance : TyInt Tryz.prog 31 .i64 := ⟨by kernel_rfl⟩
instance : TyScal Tryz.prog 33 := ⟨by kernel_rfl⟩
instance : TyI Tryz.prog 33 1 8 (.nilFunc) := ⟨by kernel_rfl, by kernel_rfl⟩
instance : TyScal Tryz.prog 34 := ⟨by kernel_rfl⟩
instance : TyI Tryz.prog 34 1 8 (.nilFunc) := ⟨by kernel_rfl, by kernel_rfl⟩
instance : TyScal Tryz.prog 35 := ⟨by kernel_rfl⟩
instance : TyI Tryz.prog 35 1 8 (.nilFunc) := ⟨by kernel_rfl, by kernel_rfl⟩
instance : TyScal Tryz.prog 36 := ⟨by kernel_rfl⟩
instance : TyI Tryz.prog 36 1 8 (.nilFunc) := ⟨by kernel_rfl, by kernel_rfl⟩
instance : TyScal Tryz.prog 37 := ⟨by kernel_rfl⟩
instance : TyI Tryz.prog 37 1 24 (.slice none 0 0) := ⟨by kernel_rfl, by kernel_rfl⟩
instance : TySlice Tryz.prog 37 28 := ⟨by kernel_rfl⟩
instance : TyScal Tryz.prog 38 := ⟨by kernel_rfl⟩
instance : TyI Tryz.prog 38 1 8 (.nilFunc) := ⟨by kernel_rfl, by kernel_rfl⟩
instance : TyScal Tryz.prog 39 := ⟨by kernel_rfl⟩
instance : TyI Tryz.prog 39 1 8 (.nilFunc) := ⟨by kernel_rfl, by kernel_rfl⟩
instance : TyScal Tryz.prog 41 := ⟨by kernel_rfl⟩
instance : TyI Tryz.prog 41 1 8 (.nilFunc) := ⟨by kernel_rfl, by kernel_rfl⟩
instance : TyScal Tryz.prog 42 := ⟨by kernel_rfl⟩
instance : TyI Tryz.prog 42 1 8 (.nilFunc) := ⟨by kernel_rfl, by kernel_rfl⟩
instance : TyScal Tryz.prog 43 := ⟨by kernel_rfl⟩
instance : TyI Tryz.prog 43 1 8 (.nilFunc) := ⟨by kernel_rfl, by kernel_rfl⟩
instance : TyAggr Tryz.prog 44 := ⟨by kernel_rfl⟩
instance : TyI Tryz.prog 44 12 12 (.agg #[.int .u8 0, .int .u8 0, .int .u8 0, .int .u8 0, .int .u8 0, .int .u8 0, .int .u8 0, .int .u8 0, .int .u8 0, .int .u8 0, .int .u8 0, .int .u8 0]) := ⟨by kernel_rfl, by kernel_rfl⟩
instance : TyArr Tryz.prog 44 12 5 := ⟨by kernel_rfl⟩
instance : TyAggr Tryz.prog 45 := ⟨by kernel_rfl⟩
instance : TyI Tryz.prog 45 12 12 (.agg #[.int .u8 0, .int .u8 0, .int .u8 0, .int .u8 0, .int .u8 0, .int .u8 0, .int .u8 0, .int .u8 0, .int .u8 0, .int .u8 0, .int .u8 0, .int .u8 0]) := ⟨by kernel_rfl, by kernel_rfl⟩
instance : TyArr Tryz.prog 45 12 5 := ⟨by kernel_rfl⟩
instance : TyScal Tryz.prog 46 := ⟨by kernel_rfl⟩
instance : TyI Tryz.prog 46 1 8 (.nilFunc) := ⟨by kernel_rfl, by kernel_rfl⟩
instance : TyScal Tryz.prog 47 := ⟨by kernel_rfl⟩
instance : TyI Tryz.prog 47 1 8 (.nilFunc) := ⟨by kernel_rfl, by kernel_rfl⟩
instance : TyScal Tryz.prog 48 := ⟨by kernel_rfl⟩
instance : TyI Tryz.prog 48 1 8 (.nilFunc) := ⟨by kernel_rfl, by kernel_rfl⟩
instance : TyScal Tryz.prog 49 := ⟨by kernel_rfl⟩
instance : TyI Tryz.prog 49 1 8 (.nilFunc) := ⟨by kernel_rfl, by kernel_rfl⟩
instance : TyScal Tryz.prog 50 := ⟨by kernel_rfl⟩
instance : TyI Tryz.prog 50 1 8 (.nilFunc) := ⟨by kernel_rfl, by kernel_rfl⟩
instance : TyScal Tryz.prog 51 := ⟨by kernel_rfl⟩
instance : TyI Tryz.prog 51 1 8 (.nilFunc) := ⟨by kernel_rfl, by kernel_rfl⟩
instance : TyScal Tryz.prog 52 := ⟨by kernel_rfl⟩
instance : TyI Tryz.prog 52 1 8 (.pointer none) := ⟨by kernel_rfl, by kernel_rfl⟩
instance : TyPtr Tryz.prog 52 75 := ⟨by kernel_rfl⟩
instance : TyScal Tryz.prog 53 := ⟨by kernel_rfl⟩
instance : TyI Tryz.prog 53 1 8 (.nilFunc) := ⟨by kernel_rfl, by kernel_rfl⟩
instance : TyScal Tryz.prog 54 := ⟨by kernel_rfl⟩
instance : TyI Tryz.prog 54 1 8 (.nilFunc) := ⟨by kernel_rfl, by kernel_rfl⟩
instance : TyScal Tryz.prog 55 := ⟨by kernel_rfl⟩
instance : TyI Tryz.prog 55 1 8 (.nilFunc) := ⟨by kernel_rfl, by kernel_rfl⟩
instance : TyScal Tryz.prog 56 := ⟨by kernel_rfl⟩
instance : TyI Tryz.prog 56 1 8 (.nilFunc) := ⟨by kernel_rfl, by kernel_rfl⟩
instance : TyScal Tryz.prog 57 := ⟨by kernel_rfl⟩
instance : TyI Tryz.prog 57 1 8 (.nilFunc) := ⟨by kernel_rfl, by kernel_rfl⟩
instance : TyScal Tryz.prog 58 := ⟨by kernel_rfl⟩
instance : TyI Tryz.prog 58 1 8 (.nilFunc) := ⟨by kernel_rfl, by kernel_rfl⟩
instance : TyScal Tryz.prog 59 := ⟨by kernel_rfl⟩
instance : TyI Tryz.prog 59 1 8 (.nilFunc) := ⟨by kernel_rfl, by kernel_rfl⟩
instance : TyScal Tryz.prog 60 := ⟨by kernel_rfl⟩
instance : TyI Tryz.prog 60 1 8 (.nilFunc) := ⟨by kernel_rfl, by kernel_rfl⟩
instance : TyScal Tryz.prog 61 := ⟨by kernel_rfl⟩
instance : TyI Tryz.prog 61 1 8 (.nilFunc) := ⟨by kernel_rfl, by kernel_rfl⟩
instance : TyScal Tryz.prog 62 := ⟨by kernel_rfl⟩
instance : TyI Tryz.prog 62 1 8 (.nilFunc) := ⟨by kernel_rfl, by kernel_rfl⟩
instance : TyScal Tryz.prog 63 := ⟨by kernel_rfl⟩
instance : TyI Tryz.prog 63 1 8 (.nilFunc) := ⟨by kernel_rfl, by kernel_rfl⟩
instance : TyAggr Tryz.prog 64 := ⟨by kernel_rfl⟩
instance : TyI Tryz.prog 64 16 16 (.agg #[.int .u8 0, .int .u8 0, .int .u8 0, .int .u8 0, .int .u8 0, .int .u8 0, .int .u8 0, .int .u8 0, .int .u8 0, .int .u8 0, .int .u8 0, .int .u8 0, .int .u8 0, .int .u8 0, .int .u8 0, .int .u8 0]) := ⟨by kernel_rfl, by kernel_rfl⟩
instance : TyArr Tryz.prog 64 16 5 := ⟨by kernel_rfl⟩
instance : TyAggr Tryz.prog 65 := ⟨by kernel_rfl⟩
instance : TyI Tryz.prog 65 16 16 (.agg #[.int .u8 0, .int .u8 0, .int .u8 0, .int .u8 0, .int .u8 0, .int .u8 0, .int .u8 0, .int .u8 0, .int .u8 0, .int .u8 0, .int .u8 0, .int .u8 0, .int .u8 0, .int .u8 0, .int .u8 0, .int .u8 0]) := ⟨by kernel_rfl, by kernel_rfl⟩
instance : TyArr Tryz.prog 65 16 5 := ⟨by kernel_rfl⟩
instance : TyScal Tryz.prog 66 := ⟨by kernel_rfl⟩
instance : TyI Tryz.prog 66 1 8 (.nilFunc) := ⟨by kernel_rfl, by kernel_rfl⟩
instance : TyScal Tryz.prog 68 := ⟨by kernel_rfl⟩
instance : TyI Tryz.prog 68 1 8 (.nilFunc) := ⟨by kernel_rfl, by kernel_rfl⟩
instance : TyScal Tryz.prog 70 := ⟨by kernel_rfl⟩
instance : TyI Tryz.prog 70 1 8 (.nilFunc) := ⟨by kernel_rfl, by kernel_rfl⟩
instance : TyScal Tryz.prog 71 := ⟨by kernel_rfl⟩
instance : TyI Tryz.prog 71 1 16 (.nilIface) := ⟨by kernel_rfl, by kernel_rfl⟩
instance : TyScal Tryz.prog 72 := ⟨by kernel_rfl⟩
instance : TyI Tryz.prog 72 1 16 (.nilIface) := ⟨by kernel_rfl, by kernel_rfl⟩
instance : TyScal Tryz.prog 73 := ⟨by kernel_rfl⟩
instance : TyI Tryz.prog 73 1 8 (.nilFunc) := ⟨by kernel_rfl, by kernel_rfl⟩
instance : TyAggr Tryz.prog 74 := ⟨by kernel_rfl⟩
instance : TyI Tryz.prog 74 2 32 (.agg #[.slice none 0 0, .int .i64 0]) := ⟨by kernel_rfl, by kernel_rfl⟩
instance : Fld Tryz.prog 74 0 0 28 := ⟨by kernel_rfl⟩
instance : Fld Tryz.prog 74 1 1 31 := ⟨by kernel_rfl⟩
instance : TyStruct Tryz.prog 74 #[(0, 1), (1, 1)] := ⟨by kernel_rfl⟩
instance : TyAggr Tryz.prog 75 := ⟨by kernel_rfl⟩
instance : TyI Tryz.prog 75 2 32 (.agg #[.slice none 0 0, .int .i64 0]) := ⟨by kernel_rfl, by kernel_rfl⟩
instance : Fld Tryz.prog 75 0 0 28 := ⟨by kernel_rfl⟩
instance : Fld Tryz.prog 75 1 1 31 := ⟨by kernel_rfl⟩
instance : TyStruct Tryz.prog 75 #[(0, 1), (1, 1)] := ⟨by kernel_rfl⟩
instance : TyScal Tryz.prog 76 := ⟨by kernel_rfl⟩
instance : TyI Tryz.prog 76 1 8 (.nilFunc) := ⟨by kernel_rfl, by kernel_rfl⟩
instance : TyScal Tryz.prog 77 := ⟨by kernel_rfl⟩
instance : TyI Tryz.prog 77 1 8 (.nilFunc) := ⟨by kernel_rfl, by kernel_rfl⟩
instance : TyScal Tryz.prog 78 := ⟨by kernel_rfl⟩
instance : TyI Tryz.prog 78 1 8 (.nilFunc) := ⟨by kernel_rfl, by kernel_rfl⟩
instance : TyScal Tryz.prog 79 := ⟨by kernel_rfl⟩
instance : TyI Tryz.prog 79 1 8 (.nilFunc) := ⟨by kernel_rfl, by kernel_rfl⟩
instance : TyScal Tryz.prog 80 := ⟨by kernel_rfl⟩
instance : TyI Tryz.prog 80 1 8 (.pointer none) := ⟨by kernel_rfl, by kernel_rfl⟩
instance : TyPtr Tryz.prog 80 102 := ⟨by kernel_rfl⟩
instance : TyScal Tryz.prog 81 := ⟨by kernel_rfl⟩
instance : TyI Tryz.prog 81 1 8 (.nilFunc) := ⟨by kernel_rfl, by kernel_rfl⟩
instance : TyScal Tryz.prog 82 := ⟨by kernel_rfl⟩
instance : TyI Tryz.prog 82 1 8 (.nilFunc) := ⟨by kernel_rfl, by kernel_rfl⟩
instance : TyAggr Tryz.prog 83 := ⟨by kernel_rfl⟩
instance : TyI Tryz.prog 83 64 64 (.agg #[.int .u8 0, .int .u8 0, .int .u8 0, .int .u8 0, .int .u8 0, .int .u8 0, .int .u8 0, .int .u8 0, .int .u8 0, .int .u8 0, .int .u8 0, .int .u8 0, .int .u8 0, .int .u8 0, .int .u8 0, .int .u8 0, .int .u8 0, .int .u8 0, .int .u8 0, .int .u8 0, .int .u8 0, .int .u8 0, .int .u8 0, .int .u8 0, .int .u8 0, .int .u8 0, .int .u8 0, .int .u8 0, .int .u8 0, .int .u8 0, .int .u8 0, .int .u8 0, .int .u8 0, .int .u8 0, .int .u8 0, .int .u8 0, .int .u8 0, .int .u8 0, .int .u8 0, .int .u8 0, .int .u8 0, .int .u8 0, .int .u8 0, .int .u8 0, .int .u8 0, .int .u8 0, .int .u8 0, .int .u8 0, .int .u8 0, .int .u8 0, .int .u8 0, .int .u8 0, .int .u8 0, .int .u8 0, .int .u8 0, .int .u8 0, .int .u8 0, .int .u8 0, .int .u8 0, .int .u8 0, .int .u8 0, .int .u8 0, .int .u8 0, .int .u8 0]) := ⟨by kernel_rfl, by kernel_rfl⟩
instance : TyArr Tryz.prog 83 64 5 := ⟨by kernel_rfl⟩
instance : TyScal Tryz.prog 84 := ⟨by kernel_rfl⟩
instance : TyI Tryz.prog 84 1 8 (.nilFunc) := ⟨by kernel_rfl, by kernel_rfl⟩
instance : TyScal Tryz.prog 85 := ⟨by kernel_rfl⟩
instance : TyI Tryz.prog 85 1 8 (.pointer none) := ⟨by kernel_rfl, by kernel_rfl⟩
instance : TyPtr Tryz.prog 85 109 := ⟨by kernel_rfl⟩
instance : TyScal Tryz.prog 86 := ⟨by kernel_rfl⟩
instance : TyI Tryz.prog 86 1 8 (.nilFunc) := ⟨by kernel_rfl, by kernel_rfl⟩
instance : TyScal Tryz.prog 88 := ⟨by kernel_rfl⟩
instance : TyI Tryz.prog 88 1 8 (.nilFunc) := ⟨by kernel_rfl, by kernel_rfl⟩
instance : TyScal Tryz.prog 89 := ⟨by kernel_rfl⟩
instance : TyI Tryz.prog 89 1 8 (.nilFunc) := ⟨by kernel_rfl, by kernel_rfl⟩
instance : TyScal Tryz.prog 90 := ⟨by kernel_rfl⟩
instance : TyI Tryz.prog 90 1 8 (.nilFunc) := ⟨by kernel_rfl, by kernel_rfl⟩
instance : TyScal Tryz.prog 91 := ⟨by kernel_rfl⟩
instance : TyI Tryz.prog 91 1 16 (.nilIface) := ⟨by kernel_rfl, by kernel_rfl⟩
instance : TyScal Tryz.prog 92 := ⟨by kernel_rfl⟩
instance : TyI Tryz.prog 92 1 16 (.nilIface) := ⟨by kernel_rfl, by kernel_rfl⟩
instance : TyScal Tryz.prog 93 := ⟨by kernel_rfl⟩
instance : TyI Tryz.prog 93 1 8 (.nilFunc) := ⟨by kernel_rfl, by kernel_rfl⟩
instance : TyScal Tryz.prog 94 := ⟨by kernel_rfl⟩
instance : TyI Tryz.prog 94 1 8 (.nilFunc) := ⟨by kernel_rfl, by kernel_rfl⟩
instance : TyScal Tryz.prog 96 := ⟨by kernel_rfl⟩
instance : TyI Tryz.prog 96 1 8 (.pointer none) := ⟨by kernel_rfl, by kernel_rfl⟩
instance : TyPtr Tryz.prog 96 127 := ⟨by kernel_rfl⟩
instance : TyScal Tryz.prog 97 := ⟨by kernel_rfl⟩
instance : TyI Tryz.prog 97 1 8 (.nilFunc) := ⟨by kernel_rfl, by kernel_rfl⟩
instance : TyScal Tryz.prog 98 := ⟨by kernel_rfl⟩
instance : TyI Tryz.prog 98 1 8 (.nilFunc) := ⟨by kernel_rfl, by kernel_rfl⟩
instance : TyScal Tryz.prog 99 := ⟨by kernel_rfl⟩
instance : TyI Tryz.prog 99 1 8 (.nilFunc) := ⟨by kernel_rfl, by kernel_rfl⟩
instance : TyScal Tryz.prog 100 := ⟨by kernel_rfl⟩
instance : TyI Tryz.prog 100 1 8 (.int .u64 0) := ⟨by kernel_rfl, by kernel_rfl⟩
instance : TyInt Tryz.prog 100 .u64 := ⟨by kernel_rfl⟩
instance : TyAggr Tryz.prog 101 := ⟨by kernel_rfl⟩
instance : TyI Tryz.prog 101 45 56 (.agg #[.int .u8 0, .int .u8 0, .int .u8 0, .int .u8 0, .int .u8 0, .int .u8 0, .int .u8 0, .int .u8 0, .int .u8 0, .int .u8 0, .int .u8 0, .int .u8 0, .int .u8 0, .int .u8 0, .int .u8 0, .int .u8 0, .int .u8 0, .int .u8 0, .int .u8 0, .int .u8 0, .int .u8 0, .int .u8 0, .int .u8 0, .int .u8 0, .int .u8 0, .int .u8 0, .int .u8 0, .int .u8 0, .int .u8 0, .int .u8 0, .int .u8 0, .int .u8 0, .int .u8 0, .int .u8 0, .int .u8 0, .int .u8 0, .int .u8 0, .int .u8 0, .int .u8 0, .int .u8 0, .int .u8 0, .int .u8 0, .int .u8 0, .int .u8 0, .int .u64 0]) := ⟨by kernel_rfl, by kernel_rfl⟩
instance : Fld Tryz.prog 101 0 0 23 := ⟨by kernel_rfl⟩
instance : Fld Tryz.prog 101 1 32 45 := ⟨by kernel_rfl⟩
instance : Fld Tryz.prog 101 2 44 24 := ⟨by kernel_rfl⟩
instance : TyStruct Tryz.prog 101 #[(0, 32), (32, 12), (44, 1)] := ⟨by kernel_rfl⟩
instance : TyAggr Tryz.prog 102 := ⟨by kernel_rfl⟩
instance : TyI Tryz.prog 102 45 56 (.agg #[.int .u8 0, .int .u8 0, .int .u8 0, .int .u8 0, .int .u8 0, .int .u8 0, .int .u8 0, .int .u8 0, .int .u8 0, .int .u8 0, .int .u8 0, .int .u8 0, .int .u8 0, .int .u8 0, .int .u8 0, .int .u8 0, .int .u8 0, .int .u8 0, .int .u8 0, .int .u8 0, .int .u8 0, .int .u8 0, .int .u8 0, .int .u8 0, .int .u8 0, .int .u8 0, .int .u8 0, .int .u8 0, .int .u8 0, .int .u8 0, .int .u8 0, .int .u8 0, .int .u8 0, .int .u8 0, .int .u8 0, .int .u8 0, .int .u8 0, .int .u8 0, .int .u8 0, .int .u8 0, .int .u8 0, .int .u8 0, .int .u8 0, .int .u8 0, .int .u64 0]) := ⟨by kernel_rfl, by kernel_rfl⟩
instance : Fld Tryz.prog 102 0 0 23 := ⟨by kernel_rfl⟩
instance : Fld Tryz.prog 102 1 32 45 := ⟨by kernel_rfl⟩
instance : Fld Tryz.prog 102 2 44 24 := ⟨by kernel_rfl⟩
instance : TyStruct Tryz.prog 102 #[(0, 32), (32, 12), (44, 1)] := ⟨by kernel_rfl⟩
instance : TyAggr Tryz.prog 103 := ⟨by kernel_rfl⟩
instance : TyI Tryz.prog 103 16 64 (.agg #[.int .u32 0, .int .u32 0, .int .u32 0, .int .u32 0, .int .u32 0, .int .u32 0, .int .u32 0, .int .u32 0, .int .u32 0, .int .u32 0, .int .u32 0, .int .u32 0, .int .u32 0, .int .u32 0, .int .u32 0, .int .u32 0]) := ⟨by kernel_rfl, by kernel_rfl⟩
instance : TyArr Tryz.prog 103 16 25 := ⟨by kernel_rfl⟩
instance : TyScal Tryz.prog 104 := ⟨by kernel_rfl⟩
instance : TyI Tryz.prog 104 1 8 (.nilFunc) := ⟨by kernel_rfl, by kernel_rfl⟩
instance : TyScal Tryz.prog 105 := ⟨by kernel_rfl⟩
instance : TyI Tryz.prog 105 1 8 (.nilFunc) := ⟨by kernel_rfl, by kernel_rfl⟩
instance : TyAggr Tryz.prog 106 := ⟨by kernel_rfl⟩
instance : TyI Tryz.prog 106 2 16 (.agg #[.int .u64 0, .int .u64 0]) := ⟨by kernel_rfl, by kernel_rfl⟩
instance : TyArr Tryz.prog 106 2 24 := ⟨by kernel_rfl⟩
instance : TyAggr Tryz.prog 107 := ⟨by kernel_rfl⟩
instance : TyI Tryz.prog 107 3 24 (.agg #[.int .u64 0, .int .u64 0, .int .u64 0]) := ⟨by kernel_rfl, by kernel_rfl⟩
instance : TyArr Tryz.prog 107 3 24 := ⟨by kernel_rfl⟩
instance : TyAggr Tryz.prog 108 := ⟨by kernel_rfl⟩
instance : TyI Tryz.prog 108 24 80 (.agg #[.int .u64 0, .int .u64 0, .int .u64 0, .int .u64 0, .int .u64 0, .int .u64 0, .int .u64 0, .int .u8 0, .int .u8 0, .int .u8 0, .int .u8 0, .int .u8 0, .int .u8 0, .int .u8 0, .int .u8 0, .int .u8 0, .int .u8 0, .int .u8 0, .int .u8 0, .int .u8 0, .int .u8 0, .int .u8 0, .int .u8 0, .int .i64 0]) := ⟨by kernel_rfl, by kernel_rfl⟩
instance : Fld Tryz.prog 108 0 0 106 := ⟨by kernel_rfl⟩
instance : Fld Tryz.prog 108 1 2 106 := ⟨by kernel_rfl⟩
instance : Fld Tryz.prog 108 2 4 107 := ⟨by kernel_rfl⟩
instance : Fld Tryz.prog 108 3 7 64 := ⟨by kernel_rfl⟩
instance : Fld Tryz.prog 108 4 23 3 := ⟨by kernel_rfl⟩
instance : TyStruct Tryz.prog 108 #[(0, 2), (2, 2), (4, 3), (7, 16), (23, 1)] := ⟨by kernel_rfl⟩
instance : TyAggr Tryz.prog 109 := ⟨by kernel_rfl⟩
instance : TyI Tryz.prog 109 24 80 (.agg #[.int .u64 0, .int .u64 0, .int .u64 0, .int .u64 0, .int .u64 0, .int .u64 0, .int .u64 0, .int .u8 0, .int .u8 0, .int .u8 0, .int .u8 0, .int .u8 0, .int .u8 0, .int .u8 0, .int .u8 0, .int .u8 0, .int .u8 0, .int .u8 0, .int .u8 0, .int .u8 0, .int .u8 0, .int .u8 0, .int .u8 0, .int .i64 0]) := ⟨by kernel_rfl, by kernel_rfl⟩
instance : Fld Tryz.prog 109 0 0 106 := ⟨by kernel_rfl⟩
instance : Fld Tryz.prog 109 1 2 106 := ⟨by kernel_rfl⟩
instance : Fld Tryz.prog 109 2 4 107 := ⟨by kernel_rfl⟩
instance : Fld Tryz.prog 109 3 7 64 := ⟨by kernel_rfl⟩
instance : Fld Tryz.prog 109 4 23 3 := ⟨by kernel_rfl⟩
instance : TyStruct Tryz.prog 109 #[(0, 2), (2, 2), (4, 3), (7, 16), (23, 1)] := ⟨by kernel_rfl⟩
instance : TyScal Tryz.prog 110 := ⟨by kernel_rfl⟩
instance : TyI Tryz.prog 110 1 8 (.nilFunc) := ⟨by kernel_rfl, by kernel_rfl⟩
instance : TyAggr Tryz.prog 111 := ⟨by kernel_rfl⟩
instance : TyI Tryz.prog 111 8 8 (.agg #[.int .u8 0, .int .u8 0, .int .u8 0, .int .u8 0, .int .u8 0, .int .u8 0, .int .u8 0, .int .u8 0]) := ⟨by kernel_rfl, by kernel_rfl⟩
instance : TyArr Tryz.prog 111 8 5 := ⟨by kernel_rfl⟩
instance : TyScal Tryz.prog 112 := ⟨by kernel_rfl⟩
instance : TyI Tryz.prog 112 1 8 (.nilFunc) := ⟨by kernel_rfl, by kernel_rfl⟩
instance : TyScal Tryz.prog 114 := ⟨by kernel_rfl⟩
instance : TyI Tryz.prog 114 1 8 (.nilFunc) := ⟨by kernel_rfl, by kernel_rfl⟩
instance : TyScal Tryz.prog 115 := ⟨by kernel_rfl⟩
instance : TyI Tryz.prog 115 1 8 (.nilFunc) := ⟨by kernel_rfl, by kernel_rfl⟩
instance : TyAggr Tryz.prog 116 := ⟨by kernel_rfl⟩
instance : TyI Tryz.prog 116 1 8 (.agg #[.pointer none]) := ⟨by kernel_rfl, by kernel_rfl⟩
instance : Fld Tryz.prog 116 0 0 17 := ⟨by kernel_rfl⟩
instance : TyStruct Tryz.prog 116 #[(0, 1)] := ⟨by kernel_rfl⟩
instance : TyAggr Tryz.prog 117 := ⟨by kernel_rfl⟩
instance : TyI Tryz.prog 117 1 8 (.agg #[.pointer none]) := ⟨by kernel_rfl, by kernel_rfl⟩
instance : Fld Tryz.prog 117 0 0 17 := ⟨by kernel_rfl⟩
instance : TyStruct Tryz.prog 117 #[(0, 1)] := ⟨by kernel_rfl⟩
instance : TyScal Tryz.prog 118 := ⟨by kernel_rfl⟩
instance : TyI Tryz.prog 118 1 8 (.pointer none) := ⟨by kernel_rfl, by kernel_rfl⟩
instance : TyPtr Tryz.prog 118 180 := ⟨by kernel_rfl⟩
instance : TyScal Tryz.prog 119 := ⟨by kernel_rfl⟩
instance : TyI Tryz.prog 119 1 16 (.nilIface) := ⟨by kernel_rfl, by kernel_rfl⟩
instance : TyScal Tryz.prog 121 := ⟨by kernel_rfl⟩
instance : TyI Tryz.prog 121 1 16 (.nilIface) := ⟨by kernel_rfl, by kernel_rfl⟩
instance : TyScal Tryz.prog 122 := ⟨by kernel_rfl⟩
instance : TyI Tryz.prog 122 1 8 (.nilFunc) := ⟨by kernel_rfl, by kernel_rfl⟩
instance : TyScal Tryz.prog 123 := ⟨by kernel_rfl⟩
instance : TyI Tryz.prog 123 1 16 (.nilIface) := ⟨by kernel_rfl, by kernel_rfl⟩
instance : TyScal Tryz.prog 124 := ⟨by kernel_rfl⟩
instance : TyI Tryz.prog 124 1 24 (.slice none 0 0) := ⟨by kernel_rfl, by kernel_rfl⟩
instance : TySlice Tryz.prog 124 72 := ⟨by kernel_rfl⟩
instance : TyScal Tryz.prog 125 := ⟨by kernel_rfl⟩
instance : TyI Tryz.prog 125 1 8 (.nilFunc) := ⟨by kernel_rfl, by kernel_rfl⟩
instance : TyAggr Tryz.prog 126 := ⟨by kernel_rfl⟩
instance : TyI Tryz.prog 126 45 56 (.agg #[.int .u8 0, .int .u8 0, .int .u8 0, .int .u8 0, .int .u8 0, .int .u8 0, .int .u8 0, .int .u8 0, .int .u8 0, .int .u8 0, .int .u8 0, .int .u8 0, .int .u8 0, .int .u8 0, .int .u8 0, .int .u8 0, .int .u8 0, .int .u8 0, .int .u8 0, .int .u8 0, .int .u8 0, .int .u8 0, .int .u8 0, .int .u8 0, .int .u8 0, .int .u8 0, .int .u8 0, .int .u8 0, .int .u8 0, .int .u8 0, .int .u8 0, .int .u8 0, .int .u8 0, .int .u8 0, .int .u8 0, .int .u8 0, .int .u8 0, .int .u8 0, .int .u8 0, .int .u8 0, .int .u8 0, .int .u8 0, .int .u8 0, .int .u8 0, .int .u64 0]) := ⟨by kernel_rfl, by kernel_rfl⟩
instance : Fld Tryz.prog 126 0 0 23 := ⟨by kernel_rfl⟩
instance : Fld Tryz.prog 126 1 32 45 := ⟨by kernel_rfl⟩
instance : Fld Tryz.prog 126 2 44 24 := ⟨by kernel_rfl⟩
instance : TyStruct Tryz.prog 126 #[(0, 32), (32, 12), (44, 1)] := ⟨by kernel_rfl⟩
instance : TyAggr Tryz.prog 127 := ⟨by kernel_rfl⟩
instance : TyI Tryz.prog 127 45 56 (.agg #[.int .u8 0, .int .u8 0, .int .u8 0, .int .u8 0, .int .u8 0, .int .u8 0, .int .u8 0, .int .u8 0, .int .u8 0, .int .u8 0, .int .u8 0, .int .u8 0, .int .u8 0, .int .u8 0, .int .u8 0, .int .u8 0, .int .u8 0, .int .u8 0, .int .u8 0, .int .u8 0, .int .u8 0, .int .u8 0, .int .u8 0, .int .u8 0, .int .u8 0, .int .u8 0, .int .u8 0, .int .u8 0, .int .u8 0, .int .u8 0, .int .u8 0, .int .u8 0, .int .u8 0, .int .u8 0, .int .u8 0, .int .u8 0, .int .u8 0, .int .u8 0, .int .u8 0, .int .u8 0, .int .u8 0, .int .u8 0, .int .u8 0, .int .u8 0, .int .u64 0]) := ⟨by kernel_rfl, by kernel_rfl⟩
instance : Fld Tryz.prog 127 0 0 23 := ⟨by kernel_rfl⟩
instance : Fld Tryz.prog 127 1 32 45 := ⟨by kernel_rfl⟩
instance : Fld Tryz.prog 127 2 44 24 := ⟨by kernel_rfl⟩
instance : TyStruct Tryz.prog 127 #[(0, 32), (32, 12), (44, 1)] := ⟨by kernel_rfl⟩
instance : TyScal Tryz.prog 128 := ⟨by kernel_rfl⟩
instance : TyI Tryz.prog 128 1 8 (.nilFunc) := ⟨by kernel_rfl, by kernel_rfl⟩
instance : TyScal Tryz.prog 129 := ⟨by kernel_rfl⟩
instance : TyI Tryz.prog 129 1 24 (.slice none 0 0) := ⟨by kernel_rfl, by kernel_rfl⟩
instance : TySlice Tryz.prog 129 24 := ⟨by kernel_rfl⟩
instance : TyScal Tryz.prog 130 := ⟨by kernel_rfl⟩
instance : TyI Tryz.prog 130 1 8 (.nilFunc) := ⟨by kernel_rfl, by kernel_rfl⟩
instance : TyScal Tryz.prog 131 := ⟨by kernel_rfl⟩
instance : TyI Tryz.prog 131 1 24 (.slice none 0 0) := ⟨by kernel_rfl, by kernel_rfl⟩
instance : TySlice Tryz.prog 131 3 := ⟨by kernel_rfl⟩
instance : TyScal Tryz.prog 132 := ⟨by kernel_rfl⟩
instance : TyI Tryz.prog 132 1 8 (.nilFunc) := ⟨by kernel_rfl, by kernel_rfl⟩
instance : TyAggr Tryz.prog 133 := ⟨by kernel_rfl⟩
instance : TyI Tryz.prog 133 4 32 (.agg #[.int .u64 0, .int .u64 0, .int .u64 0, .int .u64 0]) := ⟨by kernel_rfl, by kernel_rfl⟩
instance : TyArr Tryz.prog 133 4 24 := ⟨by kernel_rfl⟩
instance : TyScal Tryz.prog 134 := ⟨by kernel_rfl⟩
instance : TyI Tryz.prog 134 1 8 (.nilFunc) := ⟨by kernel_rfl, by kernel_rfl⟩
instance : TyScal Tryz.prog 135 := ⟨by kernel_rfl⟩
instance : TyI Tryz.prog 135 1 8 (.nilFunc) := ⟨by kernel_rfl, by kernel_rfl⟩
instance : TyScal Tryz.prog 136 := ⟨by kernel_rfl⟩
instance : TyI Tryz.prog 136 1 8 (.nilFunc) := ⟨by kernel_rfl, by kernel_rfl⟩
instance : TyScal Tryz.prog 137 := ⟨by kernel_rfl⟩
instance : TyI Tryz.prog 137 1 8 (.nilFunc) := ⟨by kernel_rfl, by kernel_rfl⟩
instance : TyScal Tryz.prog 139 := ⟨by kernel_rfl⟩
instance : TyI Tryz.prog 139 1 8 (.nilFunc) := ⟨by kernel_rfl, by kernel_rfl⟩
instance : TyScal Tryz.prog 140 := ⟨by kernel_rfl⟩
instance : TyI Tryz.prog 140 1 8 (.nilFunc) := ⟨by kernel_rfl, by kernel_rfl⟩
instance : TyScal Tryz.prog 141 := ⟨by kernel_rfl⟩
instance : TyI Tryz.prog 141 1 8 (.nilFunc) := ⟨by kernel_rfl, by kernel_rfl⟩
instance : TyAggr Tryz.prog 142 := ⟨by kernel_rfl⟩
instance : TyI Tryz.prog 142 4 32 (.agg #[.int .i64 0, .int .i64 0, .int .i64 0, .int .i64 0]) := ⟨by kernel_rfl, by kernel_rfl⟩
instance : TyArr Tryz.prog 142 4 3 := ⟨by kernel_rfl⟩
instance : TyScal Tryz.prog 143 := ⟨by kernel_rfl⟩
instance : TyI Tryz.prog 143 1 8 (.nilFunc) := ⟨by kernel_rfl, by kernel_rfl⟩
instance : TyScal Tryz.prog 144 := ⟨by kernel_rfl⟩
instance : TyI Tryz.prog 144 1 8 (.nilFunc) := ⟨by kernel_rfl, by kernel_rfl⟩
instance : TyScal Tryz.prog 145 := ⟨by kernel_rfl⟩
instance : TyI Tryz.prog 145 1 8 (.nilFunc) := ⟨by kernel_rfl, by kernel_rfl⟩
instance : TyScal Tryz.prog 147 := ⟨by kernel_rfl⟩
instance : TyI Tryz.prog 147 1 8 (.nilFunc) := ⟨by kernel_rfl, by kernel_rfl⟩
instance : TyScal Tryz.prog 148 := ⟨by kernel_rfl⟩
instance : TyI Tryz.prog 148 1 8 (.nilFunc) := ⟨by kernel_rfl, by kernel_rfl⟩
instance : TyAggr Tryz.prog 149 := ⟨by kernel_rfl⟩
instance : TyI Tryz.prog 149 2 16 (.agg #[.int .u64 0, .int .u64 0]) := ⟨by kernel_rfl, by kernel_rfl⟩
instance : Fld Tryz.prog 149 0 0 24 := ⟨by kernel_rfl⟩
instance : Fld Tryz.prog 149 1 1 24 := ⟨by kernel_rfl⟩
instance : TyStruct Tryz.prog 149 #[(0, 1), (1, 1)] := ⟨by kernel_rfl⟩
instance : TyAggr Tryz.prog 150 := ⟨by kernel_rfl⟩
instance : TyI Tryz.prog 150 2 16 (.agg #[.int .u64 0, .int .u64 0]) := ⟨by kernel_rfl, by kernel_rfl⟩
instance : Fld Tryz.prog 150 0 0 24 := ⟨by kernel_rfl⟩
instance : Fld Tryz.prog 150 1 1 24 := ⟨by kernel_rfl⟩
instance : TyStruct Tryz.prog 150 #[(0, 1), (1, 1)] := ⟨by kernel_rfl⟩
instance : TyScal Tryz.prog 151 := ⟨by kernel_rfl⟩
instance : TyI Tryz.prog 151 1 8 (.nilFunc) := ⟨by kernel_rfl, by kernel_rfl⟩
instance : TyScal Tryz.prog 152 := ⟨by kernel_rfl⟩
instance : TyI Tryz.prog 152 1 8 (.nilFunc) := ⟨by kernel_rfl, by kernel_rfl⟩
instance : TyScal Tryz.prog 153 := ⟨by kernel_rfl⟩
instance : TyI Tryz.prog 153 1 8 (.nilFunc) := ⟨by kernel_rfl, by kernel_rfl⟩
instance : TyScal Tryz.prog 154 := ⟨by kernel_rfl⟩
instance : TyI Tryz.prog 154 1 8 (.nilFunc) := ⟨by kernel_rfl, by kernel_rfl⟩
instance : TyScal Tryz.prog 155 := ⟨by kernel_rfl⟩
instance : TyI Tryz.prog 155 1 8 (.nilFunc) := ⟨by kernel_rfl, by kernel_rfl⟩
instance : TyScal Tryz.prog 157 := ⟨by kernel_rfl⟩
instance : TyI Tryz.prog 157 1 8 (.nilFunc) := ⟨by kernel_rfl, by kernel_rfl⟩
instance : TyScal Tryz.prog 158 := ⟨by kernel_rfl⟩
instance : TyI Tryz.prog 158 1 8 (.nilFunc) := ⟨by kernel_rfl, by kernel_rfl⟩
instance : TyAggr Tryz.prog 159 := ⟨by kernel_rfl⟩
instance : TyI Tryz.prog 159 4 40 (.agg #[.pointer none, .pointer none, .pointer none, .string ByteArray.empty]) := ⟨by kernel_rfl, by kernel_rfl⟩
instance : Fld Tryz.prog 159 0 0 17 := ⟨by kernel_rfl⟩
instance : Fld Tryz.prog 159 1 1 17 := ⟨by kernel_rfl⟩
instance : Fld Tryz.prog 159 2 2 17 := ⟨by kernel_rfl⟩
instance : Fld Tryz.prog 159 3 3 9 := ⟨by kernel_rfl⟩
instance : TyStruct Tryz.prog 159 #[(0, 1), (1, 1), (2, 1), (3, 1)] := ⟨by kernel_rfl⟩
instance : TyAggr Tryz.prog 160 := ⟨by kernel_rfl⟩
instance : TyI Tryz.prog 160 4 40 (.agg #[.pointer none, .pointer none, .pointer none, .string ByteArray.empty]) := ⟨by kernel_rfl, by kernel_rfl⟩
instance : Fld Tryz.prog 160 0 0 17 := ⟨by kernel_rfl⟩
instance : Fld Tryz.prog 160 1 1 17 := ⟨by kernel_rfl⟩
instance : Fld Tryz.prog 160 2 2 17 := ⟨by kernel_rfl⟩
instance : Fld Tryz.prog 160 3 3 9 := ⟨by kernel_rfl⟩
instance : TyStruct Tryz.prog 160 #[(0, 1), (1, 1), (2, 1), (3, 1)] := ⟨by kernel_rfl⟩
instance : TyAggr Tryz.prog 161 := ⟨by kernel_rfl⟩
instance : TyI Tryz.prog 161 0 0 (.agg #[]) := ⟨by kernel_rfl, by kernel_rfl⟩
instance : TyArr Tryz.prog 161 0 16 := ⟨by kernel_rfl⟩
instance : TyAggr Tryz.prog 162 := ⟨by kernel_rfl⟩
instance : TyI Tryz.prog 162 0 0 (.agg #[]) := ⟨by kernel_rfl, by kernel_rfl⟩
instance : Fld Tryz.prog 162 0 0 161 := ⟨by kernel_rfl⟩
instance : TyStruct Tryz.prog 162 #[(0, 0)] := ⟨by kernel_rfl⟩
instance : TyAggr Tryz.prog 163 := ⟨by kernel_rfl⟩
instance : TyI Tryz.prog 163 0 0 (.agg #[]) := ⟨by kernel_rfl, by kernel_rfl⟩
instance : Fld Tryz.prog 163 0 0 161 := ⟨by kernel_rfl⟩
instance : TyStruct Tryz.prog 163 #[(0, 0)] := ⟨by kernel_rfl⟩
instance : TyScal Tryz.prog 164 := ⟨by kernel_rfl⟩
instance : TyI Tryz.prog 164 1 1 (.int .u8 0) := ⟨by kernel_rfl, by kernel_rfl⟩
instance : TyInt Tryz.prog 164 .u8 := ⟨by kernel_rfl⟩
instance : TyScal Tryz.prog 165 := ⟨by kernel_rfl⟩
instance : TyI Tryz.prog 165 1 1 (.int .u8 0) := ⟨by kernel_rfl, by kernel_rfl⟩
instance : TyInt Tryz.prog 165 .u8 := ⟨by kernel_rfl⟩
instance : TyScal Tryz.prog 166 := ⟨by kernel_rfl⟩
instance : TyI Tryz.prog 166 1 8 (.nilFunc) := ⟨by kernel_rfl, by kernel_rfl⟩
instance : TyScal Tryz.prog 167 := ⟨by kernel_rfl⟩
instance : TyI Tryz.prog 167 1 8 (.pointer none) := ⟨by kernel_rfl, by kernel_rfl⟩
instance : TyPtr Tryz.prog 167 5 := ⟨by kernel_rfl⟩
instance : TyScal Tryz.prog 168 := ⟨by kernel_rfl⟩
instance : TyI Tryz.prog 168 1 4 (.int .i32 0) := ⟨by kernel_rfl, by kernel_rfl⟩
instance : TyInt Tryz.prog 168 .i32 := ⟨by kernel_rfl⟩
instance : TyScal Tryz.prog 169 := ⟨by kernel_rfl⟩
instance : TyI Tryz.prog 169 1 4 (.int .i32 0) := ⟨by kernel_rfl, by kernel_rfl⟩
instance : TyInt Tryz.prog 169 .i32 := ⟨by kernel_rfl⟩
instance : TyAggr Tryz.prog 170 := ⟨by kernel_rfl⟩
instance : TyI Tryz.prog 170 11 48 (.agg #[.int .u64 0, .int .u64 0, .int .u32 0, .int .u8 0, .int .u8 0, .int .u8 0, .int .u8 0, .nilFunc, .pointer none, .int .i32 0, .int .i32 0]) := ⟨by kernel_rfl, by kernel_rfl⟩
instance : Fld Tryz.prog 170 0 0 12 := ⟨by kernel_rfl⟩
instance : Fld Tryz.prog 170 1 1 12 := ⟨by kernel_rfl⟩
instance : Fld Tryz.prog 170 2 2 25 := ⟨by kernel_rfl⟩
instance : Fld Tryz.prog 170 3 3 164 := ⟨by kernel_rfl⟩
instance : Fld Tryz.prog 170 4 4 5 := ⟨by kernel_rfl⟩
instance : Fld Tryz.prog 170 5 5 5 := ⟨by kernel_rfl⟩
instance : Fld Tryz.prog 170 6 6 165 := ⟨by kernel_rfl⟩
instance : Fld Tryz.prog 170 7 7 166 := ⟨by kernel_rfl⟩
instance : Fld Tryz.prog 170 8 8 167 := ⟨by kernel_rfl⟩
instance : Fld Tryz.prog 170 9 9 168 := ⟨by kernel_rfl⟩
instance : Fld Tryz.prog 170 10 10 169 := ⟨by kernel_rfl⟩
instance : TyStruct Tryz.prog 170 #[(0, 1), (1, 1), (2, 1), (3, 1), (4, 1), (5, 1), (6, 1), (7, 1), (8, 1), (9, 1), (10, 1)] := ⟨by kernel_rfl⟩
instance : TyAggr Tryz.prog 171 := ⟨by kernel_rfl⟩
instance : TyI Tryz.prog 171 11 48 (.agg #[.int .u64 0, .int .u64 0, .int .u32 0, .int .u8 0, .int .u8 0, .int .u8 0, .int .u8 0, .nilFunc, .pointer none, .int .i32 0, .int .i32 0]) := ⟨by kernel_rfl, by kernel_rfl⟩
instance : Fld Tryz.prog 171 0 0 12 := ⟨by kernel_rfl⟩
instance : Fld Tryz.prog 171 1 1 12 := ⟨by kernel_rfl⟩
instance : Fld Tryz.prog 171 2 2 25 := ⟨by kernel_rfl⟩
instance : Fld Tryz.prog 171 3 3 164 := ⟨by kernel_rfl⟩
instance : Fld Tryz.prog 171 4 4 5 := ⟨by kernel_rfl⟩
instance : Fld Tryz.prog 171 5 5 5 := ⟨by kernel_rfl⟩
instance : Fld Tryz.prog 171 6 6 165 := ⟨by kernel_rfl⟩
instance : Fld Tryz.prog 171 7 7 166 := ⟨by kernel_rfl⟩
instance : Fld Tryz.prog 171 8 8 167 := ⟨by kernel_rfl⟩
instance : Fld Tryz.prog 171 9 9 168 := ⟨by kernel_rfl⟩
instance : Fld Tryz.prog 171 10 10 169 := ⟨by kernel_rfl⟩
instance : TyStruct Tryz.prog 171 #[(0, 1), (1, 1), (2, 1), (3, 1), (4, 1), (5, 1), (6, 1), (7, 1), (8, 1), (9, 1), (10, 1)] := ⟨by kernel_rfl⟩
instance : TyScal Tryz.prog 172 := ⟨by kernel_rfl⟩
instance : TyI Tryz.prog 172 1 8 (.nilFunc) := ⟨by kernel_rfl, by kernel_rfl⟩
instance : TyScal Tryz.prog 173 := ⟨by kernel_rfl⟩
instance : TyI Tryz.prog 173 1 8 (.nilFunc) := ⟨by kernel_rfl, by kernel_rfl⟩
instance : TyScal Tryz.prog 174 := ⟨by kernel_rfl⟩
instance : TyI Tryz.prog 174 1 8 (.nilFunc) := ⟨by kernel_rfl, by kernel_rfl⟩
instance : TyScal Tryz.prog 175 := ⟨by kernel_rfl⟩
instance : TyI Tryz.prog 175 1 8 (.nilFunc) := ⟨by kernel_rfl, by kernel_rfl⟩
instance : TyScal Tryz.prog 176 := ⟨by kernel_rfl⟩
instance : TyI Tryz.prog 176 1 8 (.nilFunc) := ⟨by kernel_rfl, by kernel_rfl⟩
instance : TyScal Tryz.prog 177 := ⟨by kernel_rfl⟩
instance : TyI Tryz.prog 177 1 8 (.nilFunc) := ⟨by kernel_rfl, by kernel_rfl⟩
instance : TyScal Tryz.prog 178 := ⟨by kernel_rfl⟩
instance : TyI Tryz.prog 178 1 8 (.nilFunc) := ⟨by kernel_rfl, by kernel_rfl⟩
instance : TyAggr Tryz.prog 179 := ⟨by kernel_rfl⟩
instance : TyI Tryz.prog 179 2 24 (.agg #[.string ByteArray.empty, .int .u8 0]) := ⟨by kernel_rfl, by kernel_rfl⟩
instance : Fld Tryz.prog 179 0 0 9 := ⟨by kernel_rfl⟩
instance : Fld Tryz.prog 179 1 1 165 := ⟨by kernel_rfl⟩
instance : TyStruct Tryz.prog 179 #[(0, 1), (1, 1)] := ⟨by kernel_rfl⟩
instance : TyAggr Tryz.prog 180 := ⟨by kernel_rfl⟩
instance : TyI Tryz.prog 180 2 24 (.agg #[.string ByteArray.empty, .int .u8 0]) := ⟨by kernel_rfl, by kernel_rfl⟩
instance : Fld Tryz.prog 180 0 0 9 := ⟨by kernel_rfl⟩
instance : Fld Tryz.prog 180 1 1 165 := ⟨by kernel_rfl⟩
instance : TyStruct Tryz.prog 180 #[(0, 1), (1, 1)] := ⟨by kernel_rfl⟩
instance : TyScal Tryz.prog 182 := ⟨by kernel_rfl⟩
instance : TyI Tryz.prog 182 1 8 (.pointer none) := ⟨by kernel_rfl, by kernel_rfl⟩
instance : TyPtr Tryz.prog 182 186 := ⟨by kernel_rfl⟩
instance : TyScal Tryz.prog 183 := ⟨by kernel_rfl⟩
instance : TyI Tryz.prog 183 1 8 (.nilFunc) := ⟨by kernel_rfl, by kernel_rfl⟩
instance : TyScal Tryz.prog 184 := ⟨by kernel_rfl⟩
instance : TyI Tryz.prog 184 1 2 (.int .u16 0) := ⟨by kernel_rfl, by kernel_rfl⟩
instance : TyInt Tryz.prog 184 .u16 := ⟨by kernel_rfl⟩
instance : TyAggr Tryz.prog 185 := ⟨by kernel_rfl⟩
instance : TyI Tryz.prog 185 5 16 (.agg #[.int .i32 0, .int .u16 0, .int .u16 0, .int .u32 0, .int .u32 0]) := ⟨by kernel_rfl, by kernel_rfl⟩
instance : Fld Tryz.prog 185 0 0 168 := ⟨by kernel_rfl⟩
instance : Fld Tryz.prog 185 1 1 184 := ⟨by kernel_rfl⟩
instance : Fld Tryz.prog 185 2 2 184 := ⟨by kernel_rfl⟩
instance : Fld Tryz.prog 185 3 3 25 := ⟨by kernel_rfl⟩
instance : Fld Tryz.prog 185 4 4 25 := ⟨by kernel_rfl⟩
instance : TyStruct Tryz.prog 185 #[(0, 1), (1, 1), (2, 1), (3, 1), (4, 1)] := ⟨by kernel_rfl⟩
instance : TyAggr Tryz.prog 186 := ⟨by kernel_rfl⟩
instance : TyI Tryz.prog 186 5 16 (.agg #[.int .i32 0, .int .u16 0, .int .u16 0, .int .u32 0, .int .u32 0]) := ⟨by kernel_rfl, by kernel_rfl⟩
instance : Fld Tryz.prog 186 0 0 168 := ⟨by kernel_rfl⟩
instance : Fld Tryz.prog 186 1 1 184 := ⟨by kernel_rfl⟩
instance : Fld Tryz.prog 186 2 2 184 := ⟨by kernel_rfl⟩
instance : Fld Tryz.prog 186 3 3 25 := ⟨by kernel_rfl⟩
instance : Fld Tryz.prog 186 4 4 25 := ⟨by kernel_rfl⟩
instance : TyStruct Tryz.prog 186 #[(0, 1), (1, 1), (2, 1), (3, 1), (4, 1)] := ⟨by kernel_rfl⟩
instance : TyScal Tryz.prog 187 := ⟨by kernel_rfl⟩
instance : TyI Tryz.prog 187 1 24 (.slice none 0 0) := ⟨by kernel_rfl, by kernel_rfl⟩
instance : TySlice Tryz.prog 187 190 := ⟨by kernel_rfl⟩
instance : TyScal Tryz.prog 188 := ⟨by kernel_rfl⟩
instance : TyI Tryz.prog 188 1 4 (.int .i32 0) := ⟨by kernel_rfl, by kernel_rfl⟩
instance : TyInt Tryz.prog 188 .i32 := ⟨by kernel_rfl⟩
instance : TyAggr Tryz.prog 189 := ⟨by kernel_rfl⟩
instance : TyI Tryz.prog 189 4 16 (.agg #[.int .i32 0, .int .i32 0, .int .i32 0, .int .i32 0]) := ⟨by kernel_rfl, by kernel_rfl⟩
instance : Fld Tryz.prog 189 0 0 168 := ⟨by kernel_rfl⟩
instance : Fld Tryz.prog 189 1 1 169 := ⟨by kernel_rfl⟩
instance : Fld Tryz.prog 189 2 2 188 := ⟨by kernel_rfl⟩
instance : Fld Tryz.prog 189 3 3 188 := ⟨by kernel_rfl⟩
instance : TyStruct Tryz.prog 189 #[(0, 1), (1, 1), (2, 1), (3, 1)] := ⟨by kernel_rfl⟩
instance : TyAggr Tryz.prog 190 := ⟨by kernel_rfl⟩
instance : TyI Tryz.prog 190 4 16 (.agg #[.int .i32 0, .int .i32 0, .int .i32 0, .int .i32 0]) := ⟨by kernel_rfl, by kernel_rfl⟩
instance : Fld Tryz.prog 190 0 0 168 := ⟨by kernel_rfl⟩
instance : Fld Tryz.prog 190 1 1 169 := ⟨by kernel_rfl⟩
instance : Fld Tryz.prog 190 2 2 188 := ⟨by kernel_rfl⟩
instance : Fld Tryz.prog 190 3 3 188 := ⟨by kernel_rfl⟩
instance : TyStruct Tryz.prog 190 #[(0, 1), (1, 1), (2, 1), (3, 1)] := ⟨by kernel_rfl⟩
end Go.Sl

/- Array types of bytes (written by gentypes.py). -/
namespace Go.Sl
open Go Go.Proofs
instance : TyBA Tryz.prog 22 32 := ⟨⟨5, by kernel_rfl, by kernel_rfl, by kernel_rfl⟩, by kernel_rfl, by kernel_rfl, by kernel_rfl⟩
instance : TyBA Tryz.prog 23 32 := ⟨⟨5, by kernel_rfl, by kernel_rfl, by kernel_rfl⟩, by kernel_rfl, by kernel_rfl, by kernel_rfl⟩
instance : TyBA Tryz.prog 44 12 := ⟨⟨5, by kernel_rfl, by kernel_rfl, by kernel_rfl⟩, by kernel_rfl, by kernel_rfl, by kernel_rfl⟩
instance : TyBA Tryz.prog 45 12 := ⟨⟨5, by kernel_rfl, by kernel_rfl, by kernel_rfl⟩, by kernel_rfl, by kernel_rfl, by kernel_rfl⟩
instance : TyBA Tryz.prog 64 16 := ⟨⟨5, by kernel_rfl, by kernel_rfl, by kernel_rfl⟩, by kernel_rfl, by kernel_rfl, by kernel_rfl⟩
instance : TyBA Tryz.prog 65 16 := ⟨⟨5, by kernel_rfl, by kernel_rfl, by kernel_rfl⟩, by kernel_rfl, by kernel_rfl, by kernel_rfl⟩
instance : TyBA Tryz.prog 83 64 := ⟨⟨5, by kernel_rfl, by kernel_rfl, by kernel_rfl⟩, by kernel_rfl, by kernel_rfl, by kernel_rfl⟩
instance : TyBA Tryz.prog 111 8 := ⟨⟨5, by kernel_rfl, by kernel_rfl, by kernel_rfl⟩, by kernel_rfl, by kernel_rfl, by kernel_rfl⟩
end Go.Sl

/- slices cut from their beginning on. -/
set_option linter.unusedVariables false
set_option linter.unusedSimpArgs false
namespace Go.Sl
open Go
theorem Bs.take {M : List Asrt} {b o c n : Nat} {l : List Byte} (h : Bs M (.slice (Option.some ⟨b, o, none⟩) l.length c) l) (hn : n ≤ l.length) : Bs M (.slice (Option.some ⟨b, o, none⟩) n c) (l.take n) := by
  have e : (l.take n).length = n := by simp; omega
  refine ⟨?_, ?_⟩
  · rw [e]
    intro w0 F w H
    obtain ⟨h1, h2⟩ := h.rd w0 F w H
    refine ⟨by simp; omega, ?_⟩
    rcases h2 with ⟨a, k, _, h0⟩|⟨b', o', k, cc, E, fr, hv, hb, hle, hx⟩
    · exact .inl ⟨_, _, rfl, by omega⟩
    · simp only [Value.slice.injEq, Option.some.injEq, Addr.mk.injEq] at hv
      obtain ⟨⟨rfl, rfl, _⟩, _, rfl⟩ := hv
      refine .inr ⟨b, o, c, cc, E, fr, rfl, hb, by omega, ?_⟩
      rw [List.map_take, ← hx]
      simp only [Array.toList_extract, List.extract_eq_take_drop, List.take_take]
      congr 1; omega
  · intro w0 F w H
    obtain ⟨a, c', hv, h1, h2⟩ := h.sh w0 F w H
    simp only [Value.slice.injEq] at hv
    obtain ⟨_, _, rfl⟩ := hv
    exact ⟨_, _, by rw [e], by omega, h2⟩
theorem Bs.take0 {M : List Asrt} {a : Option Addr} {c : Nat} {l : List Byte} (h : Bs M (.slice a l.length c) l) : Bs M (.slice a 0 c) (l.take 0) := by
  refine ⟨Rd.nil, ?_⟩
  intro w0 F w H
  obtain ⟨a', c', hv, h1, h2⟩ := h.sh w0 F w H
  simp only [Value.slice.injEq] at hv
  obtain ⟨_, _, rfl⟩ := hv
  exact ⟨_, _, rfl, by simp, h2⟩
theorem Zm8 {P : Program} {ρ : Env} {x : Operand} {S E sz by' n c h : Nat} {a : Option Addr} {z : Value} {hi : Option Operand} [hs : TySlice P S E] [hi' : TyI P E sz by' z] (hx : ev ρ x = .slice a n c)
    (hh : optB ρ n hi = some (h : Int)) (hc : h ≤ c) : PV P (.slice S x none hi none) ρ (.slice a h c) := by
  have := Zm1 (P := P) (S := S) (lo := none) (l := 0) hx rfl hh (by omega) hc
  have e : (if c = 0 then a else a.map (·.add (0 * sz))) = a := by
    split
    · rfl
    · cases a with
      | none => rfl
      | some a => simp [Option.map, Addr.add]
  rw [e] at this
  simpa using this
theorem Bs.takeA {M : List Asrt} {a : Option Addr} {c n : Nat} {l : List Byte} (h : Bs M (.slice a l.length c) l) (hn : n ≤ l.length) : Bs M (.slice a n c) (l.take n) := by
  have e : (l.take n).length = n := by simp; omega
  by_cases h0 : n = 0
  · subst h0; exact h.take0
  · refine ⟨?_, ?_⟩
    · intro w0 F w H
      obtain ⟨b, o, rfl⟩ := h.some (by omega) H
      exact (h.take hn).rd w0 F w H
    · intro w0 F w H
      obtain ⟨a', c', hv, h1, h2⟩ := h.sh w0 F w H
      simp only [Value.slice.injEq] at hv
      obtain ⟨_, _, rfl⟩ := hv
      exact ⟨_, _, by rw [e], by omega, h2⟩
end Go.Sl

/- cells that may be read, wherever they stand. -/
set_option linter.unusedVariables false
set_option linter.unusedSimpArgs false
namespace Go.Sl
open Go
theorem Zm9 {P : Program} {ρ : Env} {x : Operand} {S E by' bb n : Nat} {z : Value} {lo hi : Option Operand} {l h : Nat} [hs : TyArr P S n E] [hi' : TyI P E 1 by' z] (hx : ev ρ x = .pointer (some ⟨bb, 0, none⟩))
    (hl : optB ρ 0 lo = some (l : Int)) (hh : optB ρ n hi = some (h : Int)) (hle : l ≤ h := by first|omega|exact Nat.le_of_ble_eq_true rfl|(simp; done)|(simp; omega)|decide) (hc : h ≤ n := by first|omega|exact Nat.le_of_ble_eq_true rfl|(simp; done)|(simp; omega)|decide) (hn : l < n := by first|omega|exact Nat.le_of_ble_eq_true rfl|(simp; done)|(simp; omega)|decide) : PV P (.slice S x lo hi none) ρ (.slice (some ⟨bb, l, none⟩) (h - l) (n - l)) := by
  have := Zmx (P := P) (S := S) hx hl hh hle hc hn
  rwa [Nat.zero_add] at this
theorem Zna {P : Program} {ρ : Env} {x : Operand} {S E by' bb n c : Nat} {z : Value} {lo hi : Option Operand} {l h : Nat} [hs : TySlice P S E] [hi' : TyI P E 1 by' z] (hx : ev ρ x = .slice (some ⟨bb, 0, none⟩) n c)
    (hl : optB ρ 0 lo = some (l : Int)) (hh : optB ρ n hi = some (h : Int)) (hle : l ≤ h := by first|omega|exact Nat.le_of_ble_eq_true rfl|(simp; done)|(simp; omega)|decide) (hc : h ≤ c := by first|omega|exact Nat.le_of_ble_eq_true rfl|(simp; done)|(simp; omega)|decide) (hn : l < c := by first|omega|exact Nat.le_of_ble_eq_true rfl|(simp; done)|(simp; omega)|decide) : PV P (.slice S x lo hi none) ρ (.slice (some ⟨bb, l, none⟩) (h - l) (c - l)) := by
  have := Zmz (P := P) (S := S) hx hl hh hle hc hn
  rwa [Nat.zero_add] at this
theorem Znb {P : Program} {ρ : Env} {x y : Operand} {k : IntKind} {S n E by' i : Nat} {z v : Value} {cs : Array Value} [hs : TyArr P S n E] [he : TyScal P E] [hi : TyI P E 1 by' z] (hx : ev ρ x = .agg cs) (hy : ev ρ y = .int k (i : Int)) (hv : cs[i]? = some v) (h : i < n := by first|omega|exact Nat.le_of_ble_eq_true rfl|(simp; done)|(simp; omega)|decide) : PV P (.index S x y) ρ v :=
  Zcn hx hy ⟨by omega, by omega⟩ (by simpa using hv)
/-- A literal of a struct, a part at a time. -/
theorem fill_part {pl : Nat → Option (Nat × Nat)} {z z' cs : Array Value} {i o n : Nat} {v : Value} {rest : List (Nat × Value)} (hp : pl i = some (o, n)) (hv : v.cells.size = n) (hz : o + n ≤ z.size) (hw : wr z o v.cells.toList = z') (k : Instr.fill pl z' rest = some cs) : Instr.fill pl z ((i, v) :: rest) = some cs := by
  unfold Instr.fill
  rw [hp]
  show (if v.cells.size ≠ n || o + v.cells.size > z.size then none else Instr.fill pl (v.cells.zipIdx.foldl (fun cs (p : Value × Nat) => cs.setIfInBounds (o + p.2) p.1) z) rest) = _
  rw [if_neg (by simp [hv]; omega), ← Array.foldl_toList, Array.toList_zipIdx, fold_wr o v.cells.toList 0 z, Nat.add_zero, hw]
  exact k
theorem fill_end {pl : Nat → Option (Nat × Nat)} {z : Array Value} : Instr.fill pl z [] = some z := rfl
/-- A scope out of which no jump leads. -/
theorem Zno {P : Program} {w0 : World} {c : Code} {ρ : Env} {M : List Asrt} {Q : XQ} (hm : P.follows .mixedOrders = true) (h : xC P w0 c ρ M (xng Q)) : xC P w0 (.scope c) ρ M Q := by
  intro F w H n a hfr hc
  refine wp_scope_straight (wp_mono (Zaa hm c ρ w _ a hfr hc (h F w H)) ?_)
  rintro e a' w' ⟨ρ', hfr', M', H', hq⟩
  cases e with
  | goto l => exact hq.elim
  | _ => exact ⟨ρ', hfr', M', H', hq⟩
theorem bs_drop {M : List Asrt} {b o c k : Nat} {l : List Byte} (h : Bs M (.slice (some ⟨b, o, none⟩) l.length c) l) (hk : k ≤ l.length) (hkc : k < c) : Bs M (.slice (some ⟨b, o + k, none⟩) (l.length - k) (c - k)) (l.drop k) := by
  have hl : (l.drop k).length = l.length - k := by simp
  refine ⟨?_, ?_⟩
  · rw [hl]
    intro w0 F w H
    obtain ⟨a', c', hv, h1, h2⟩ := h.sh w0 F w H
    simp only [Value.slice.injEq] at hv
    obtain ⟨rfl, _, rfl⟩ := hv
    have h3 := h.rd.cut hk h1 w0 F w H
    rw [if_neg (by omega)] at h3
    rw [List.map_drop]
    have e : Option.map (fun x : Addr => x.add (k * 1)) (some ⟨b, o, none⟩) = some ⟨b, o + k, none⟩ := by simp [Option.map, addr_add]
    rw [e] at h3
    exact h3
  · intro w0 F w H
    obtain ⟨a', c', hv, h1, h2⟩ := h.sh w0 F w H
    simp only [Value.slice.injEq] at hv
    obtain ⟨_, _, rfl⟩ := hv
    exact ⟨_, _, by rw [hl], by rw [hl]; omega, by omega⟩
theorem rx4 {P : Program} {w0 : World} {ρ : Env} {M : List Asrt} {Φ : Value → List Asrt → Prop} {r r' r2 r3 : ResultVar} {v v' v2 v3 : Value} (hr : resX P w0 ρ M [r, r', r2, r3] [v, v', v2, v3]) (h : ∃ N, Φ (.tuple #[v, v', v2, v3]) N ∧ Imp M N) : retX P w0 [r, r', r2, r3] Φ .ret ρ M := by
  obtain ⟨N, h, hM⟩ := h; exact ⟨[v, v', v2, v3], N, hr, h, hM⟩
theorem PV.eq {P : Program} {op : Op} {ρ : Env} {v v' : Value} (h : PV P op ρ v) (e : v = v') : PV P op ρ v' := e ▸ h
theorem wr_pre {α : Type} {f : α → Value} (l z : List α) (h : l.length ≤ z.length) : wr ((z.map f).toArray) 0 (l.map f) = ((l ++ z.drop l.length).map f).toArray := by
  apply Array.ext'
  rw [wr_toList _ _ _ (by simp; omega)]
  simp
theorem copy_pre (l : List Byte) (k : Nat) : wr (((List.replicate (l.length + k) 0#8).map u8b).toArray) 0 ((l.map u8b).take (min l.length l.length * 1)) = ((l ++ List.replicate k 0#8).map u8b).toArray := by
  rw [Nat.min_self, Nat.mul_one, List.take_of_length_le (by simp), wr_pre l (List.replicate (l.length + k) 0#8) (by simp)]
  simp
/-- Among the pieces M the cell o of the block b is v. -/
def RdAt (M : List Asrt) (b o : Nat) (v : Value) : Prop := ∀ w0 F w, St w0 w (F :: M) → ∃ c E fr, w.heap[b]? = some (.cells c E fr) ∧ c[o]? = some v
/-- ... n cells from o on. -/
def RdAg (M : List Asrt) (b o n : Nat) (cs : Array Value) : Prop := ∀ w0 F w, St w0 w (F :: M) → ∃ c E fr, w.heap[b]? = some (.cells c E fr) ∧ o + n ≤ c.size ∧ c.extract o (o + n) = cs
section
variable {M M' : List Asrt} {b o : Nat}
theorem RdAt.imp {v : Value} (h : RdAt M b o v) (hi : Imp M' M) : RdAt M' b o v := fun _ _ _ H => h _ _ _ (H.enx hi)
theorem RdAg.imp {n : Nat} {cs : Array Value} (h : RdAg M b o n cs) (hi : Imp M' M) : RdAg M' b o n cs := fun _ _ _ H => h _ _ _ (H.enx hi)
theorem RdAt.cl {c : Array Value} {E : Nat} {v : Value} (hm : Has M (cl b c E) M') (hv : c[o]? = some v) : RdAt M b o v := fun _ _ _ H => ⟨c, E, (0, 0), (H.pick (.there hm)).cl_get, hv⟩
theorem RdAg.cl {c cs : Array Value} {E n : Nat} (hm : Has M (Sl.cl b c E) M') (hv : o + n ≤ c.size) (hc : c.extract o (o + n) = cs) : RdAg M b o n cs := fun _ _ _ H => ⟨c, E, (0, 0), (H.pick (.there hm)).cl_get, hv, hc⟩
theorem Rd.at {m k j : Nat} {xs : List Value} {v : Value} (h : Rd M 1 (.slice (some ⟨b, o, none⟩) m k) m xs) (hj : j < m) (hv : xs[j]? = some v) : RdAt M b (o + j) v := fun _ _ _ H => by
  obtain ⟨c, E, fr, hb, hc⟩ := (h _ _ _ H).cellAt hj
  exact ⟨c, E, fr, hb, hc.trans hv⟩
theorem Rd.at0 {m k j : Nat} {xs : List Value} {v : Value} (h : Rd M 1 (.slice (some ⟨b, 0, none⟩) m k) m xs) (hj : j < m) (hv : xs[j]? = some v) : RdAt M b j v := by
  have := h.at hj hv; rwa [Nat.zero_add] at this
theorem Rd.atN {α : Type} {enc : α → List Value} {l : List α} {sz k i j : Nat} {v : Value} (h : Rd M sz (.slice (some ⟨b, o, none⟩) l.length k) l.length (l.flatMap enc)) (he : ∀ a, (enc a).length = sz) (hi : i < l.length) (hj : j < sz) (hv : (enc l[i])[j]? = some v) : RdAt M b (o + i * sz + j) v := fun _ _ _ H => by
  obtain ⟨c, E, fr, hb, hc⟩ := (h _ _ _ H).cellAtN he (by omega) hi hj
  exact ⟨c, E, fr, hb, hc.trans hv⟩
theorem Rd.atN0 {α : Type} {enc : α → List Value} {l : List α} {sz k i j : Nat} {v : Value} (h : Rd M sz (.slice (some ⟨b, 0, none⟩) l.length k) l.length (l.flatMap enc)) (he : ∀ a, (enc a).length = sz) (hi : i < l.length) (hj : j < sz) (hv : (enc l[i])[j]? = some v) : RdAt M b (i * sz + j) v := by
  have := h.atN he hi hj hv; rwa [Nat.zero_add] at this
theorem Rd.atF {α : Type} {enc : α → List Value} {l : List α} {sz k i : Nat} {v : Value} (h : Rd M sz (.slice (some ⟨b, o, none⟩) l.length k) l.length (l.flatMap enc)) (he : ∀ a, (enc a).length = sz) (hi : i < l.length) (hj : 0 < sz) (hv : (enc l[i])[0]? = some v) : RdAt M b (o + i * sz) v := h.atN (j := 0) he hi hj hv
theorem Rd.agN {α : Type} {enc : α → List Value} {l : List α} {sz k i : Nat} (h : Rd M sz (.slice (some ⟨b, o, none⟩) l.length k) l.length (l.flatMap enc)) (he : ∀ a, (enc a).length = sz) (hsz : 0 < sz) (hi : i < l.length) : RdAg M b (o + i * sz) sz (enc l[i]).toArray := fun _ _ _ H => by
  obtain ⟨c, E, fr, hb, hle, hc⟩ := (h _ _ _ H).cellsAt he hsz hi
  exact ⟨c, E, fr, hb, hle, hc⟩
/-- A whole slice of cells, as an array. -/
theorem Rd.ag0 {m k : Nat} {xs : List Value} (h : Rd M 1 (.slice (some ⟨b, 0, none⟩) m k) m xs) (hm : 0 < m) : RdAg M b 0 m xs.toArray := fun _ _ _ H => by
  obtain ⟨hx, h2⟩ := h _ _ _ H
  rcases h2 with ⟨a, k', _, h0⟩|⟨b', o', k', c, E, fr, hv, hb, hle, he⟩
  · omega
  · simp only [Value.slice.injEq, Option.some.injEq, Addr.mk.injEq] at hv
    obtain ⟨⟨rfl, rfl, _⟩, _, rfl⟩ := hv
    refine ⟨c, E, fr, hb, by omega, ?_⟩
    apply Array.ext'
    rw [← he, Nat.mul_one]
theorem Rd.agN0 {α : Type} {enc : α → List Value} {l : List α} {sz k i : Nat} (h : Rd M sz (.slice (some ⟨b, 0, none⟩) l.length k) l.length (l.flatMap enc)) (he : ∀ a, (enc a).length = sz) (hsz : 0 < sz) (hi : i < l.length) : RdAg M b (i * sz) sz (enc l[i]).toArray := by
  have := h.agN he hsz hi; rwa [Nat.zero_add] at this
end
section
variable {P : Program} {w0 : World} {ops : Array Oper} {dst : Option Nat} {ty T : TypeId} {pos : String} {after : Array Edge} {rest : List Oper} {ρ : Env} {K : XK} {M SM : List Asrt} {x : Operand} {b o i j n by' : Nat} {z v : Value} {cs : Array Value} {r : Ord} {t : Bool}
theorem run_ldc {oo : Oper} {w : World} [hs : TyScal P T] (hoo : oo.op = .load T x) (hx : ev ρ x = .pointer (some ⟨b, o, none⟩)) (h : RdAt SM b o v) {F : Asrt} (H : St w0 w (F :: SM)) : (execOp (ev ρ) oo).run P w = .ok (.value v) w := by
  obtain ⟨c, E, fr, hb, hc⟩ := h _ _ _ H
  have hr : (Instr.loadAt T (ev ρ x)).run P w = .ok v w := by
    rw [hx]; unfold Instr.loadAt
    rw [run_bind P _ _ w w _ rfl]; unfold loadVar
    rw [run_bind P _ _ w w _ (run_isAgg hs.h)]
    exact run_load1 hb hc
  unfold execOp; rw [hoo]
  exact op_run_value hr
theorem run_ldg {oo : Oper} {w : World} [hs : TyAggr P T] [hi : TyI P T n by' z] (hoo : oo.op = .load T x) (hx : ev ρ x = .pointer (some ⟨b, o, none⟩)) (h : RdAg SM b o n cs) {F : Asrt} (H : St w0 w (F :: SM)) : (execOp (ev ρ) oo).run P w = .ok (.value (.agg cs)) w := by
  obtain ⟨c, E, fr, hb, hv, hc⟩ := h _ _ _ H
  have hr := run_loadAgg (P := P) (ρ := ρ) (x := x) (T := T) (n := n) hb hv hx
  rw [hc] at hr
  unfold execOp; rw [hoo]
  exact op_run_value hr
theorem Zff [hs : TyScal P T] (hx : ev ρ x = .pointer (some ⟨b, o, none⟩)) (h : RdAt M b o v) (kk : xOps P w0 ops rest (put ρ dst v) M K) : xOps P w0 ops (⟨dst, .load T x, ty, pos, after, none⟩ :: rest) ρ M K := fun F w H => by
  obtain ⟨c, E, fr, hb, hc⟩ := h _ _ _ H
  exact Zfs hx hb hc (kk F w H)
theorem Zfg [hs : TyAggr P T] [hi : TyI P T n by' z] (hx : ev ρ x = .pointer (some ⟨b, o, none⟩)) (h : RdAg M b o n cs) (kk : xOps P w0 ops rest (put ρ dst (.agg cs)) M K) : xOps P w0 ops (⟨dst, .load T x, ty, pos, after, none⟩ :: rest) ρ M K := fun F w H => by
  obtain ⟨c, E, fr, hb, hv, hc⟩ := h _ _ _ H
  exact Zft hx hb hv hc (kk F w H)
theorem Zfh [hs : TyScal P T] (ho : ops[i]? = some ⟨dst, .load T x, ty, pos, after, none⟩) (hx : ev ρ x = .pointer (some ⟨b, o, none⟩)) (h : RdAt SM b o v) (k : cX P w0 ops SM r (put ρ dst v) M K) : cX P w0 ops SM (.r i r) ρ M K :=
  Zit ho (fun F w H => run_ldc rfl hx h H) k
theorem Zfi [hs : TyScal P T] (ho : ops[i]? = some ⟨dst, .load T x, ty, pos, after, some (j, t)⟩) (hg : yl ops ρ j = some t) (hx : ev ρ x = .pointer (some ⟨b, o, none⟩)) (h : RdAt SM b o v) (k : cX P w0 ops SM r (put ρ dst v) M K) : cX P w0 ops SM (.r i r) ρ M K :=
  Ziu ho hg (fun F w H => run_ldc rfl hx h H) k
theorem Zfj [hs : TyAggr P T] [hi : TyI P T n by' z] (ho : ops[i]? = some ⟨dst, .load T x, ty, pos, after, none⟩) (hx : ev ρ x = .pointer (some ⟨b, o, none⟩)) (h : RdAg SM b o n cs) (k : cX P w0 ops SM r (put ρ dst (.agg cs)) M K) : cX P w0 ops SM (.r i r) ρ M K :=
  Zit ho (fun F w H => run_ldg rfl hx h H) k
theorem Zfk [hs : TyAggr P T] [hi : TyI P T n by' z] (ho : ops[i]? = some ⟨dst, .load T x, ty, pos, after, some (j, t)⟩) (hg : yl ops ρ j = some t) (hx : ev ρ x = .pointer (some ⟨b, o, none⟩)) (h : RdAg SM b o n cs) (k : cX P w0 ops SM r (put ρ dst (.agg cs)) M K) : cX P w0 ops SM (.r i r) ρ M K :=
  Ziu ho hg (fun F w H => run_ldg rfl hx h H) k
end
end Go.Sl

/- stream: the key stream in plain Lean. No program in sight. -/
set_option linter.unusedVariables false
set_option linter.unusedSimpArgs false
namespace Go.Sl
open Go
abbrev Wd := BitVec 32
/-- The n lowest bytes of a number, the lowest first. -/
def leB {w : Nat} (x : BitVec w) (n : Nat) : List Byte := (List.range n).map fun i => (x >>> (8 * i)).setWidth 8
theorem leB_len {w : Nat} (x : BitVec w) (n : Nat) : (leB x n).length = n := by simp [leB]
theorem leB_succ {w : Nat} (x : BitVec w) (n : Nat) : leB x (n + 1) = leB x n ++ [(x >>> (8 * n)).setWidth 8] := by simp [leB, List.range_succ]
/-- A number out of its bytes, the lowest first. -/
def lowB (w : Nat) (b : List Byte) : BitVec w := (b.zipIdx).foldl (fun (v : BitVec w) (x : Byte × Nat) => v ||| (x.1.setWidth w) <<< (8 * x.2)) 0#w
theorem lowB_snoc (w : Nat) (b : List Byte) (x : Byte) : lowB w (b ++ [x]) = lowB w b ||| (x.setWidth w) <<< (8 * b.length) := by
  unfold lowB
  rw [List.zipIdx_append, List.foldl_append]
  simp
def rotW (x : Wd) (n : Nat) : Wd := x <<< n ||| x >>> (32 - n)
def quarterW (a b c d : Wd) : Wd × Wd × Wd × Wd :=
  let a1 := a + b
  let d1 := rotW (d ^^^ a1) 16
  let c1 := c + d1
  let b1 := rotW (b ^^^ c1) 12
  let a2 := a1 + b1
  let d2 := rotW (d1 ^^^ a2) 8
  let c2 := c1 + d2
  let b2 := rotW (b1 ^^^ c2) 7
  (a2, b2, c2, d2)
abbrev Quad := Nat × Nat × Nat × Nat
def qAt (s : List Wd) (q : Quad) : List Wd :=
  let r := quarterW (s.getD q.1 0) (s.getD q.2.1 0) (s.getD q.2.2.1 0) (s.getD q.2.2.2 0)
  (((s.set q.1 r.1).set q.2.1 r.2.1).set q.2.2.1 r.2.2.1).set q.2.2.2 r.2.2.2
theorem qAt_len (s : List Wd) (q : Quad) : (qAt s q).length = s.length := by simp [qAt]
/-- The quarter of a turn at a place. -/
def quadOf (turn i : Nat) : Quad := (i, 4 + (i + turn) % 4, 8 + (i + 2 * turn) % 4, 12 + (i + 3 * turn) % 4)
def quads : List Quad := [quadOf 0 0, quadOf 0 1, quadOf 0 2, quadOf 0 3, quadOf 1 0, quadOf 1 1, quadOf 1 2, quadOf 1 3]
def twiceN (s : List Wd) (n : Nat) : List Wd := (quads.take n).foldl qAt s
def twiceW (s : List Wd) : List Wd := twiceN s 8
theorem foldq_len (l : List Quad) (s : List Wd) : (l.foldl qAt s).length = s.length := by
  induction l generalizing s with
  | nil => rfl
  | cons q l ih => rw [List.foldl_cons, ih, qAt_len]
theorem twiceN_len (s : List Wd) (n : Nat) : (twiceN s n).length = s.length := foldq_len _ _
theorem twiceW_len (s : List Wd) : (twiceW s).length = s.length := twiceN_len _ _
theorem twiceN_succ (s : List Wd) (n : Nat) (h : n < 8) : twiceN s (n + 1) = qAt (twiceN s n) (quadOf (n / 4) (n % 4)) := by
  have e : ∀ m : Fin 8, quads.take (m.val + 1) = quads.take m.val ++ [quadOf (m.val / 4) (m.val % 4)] := by decide
  unfold twiceN
  rw [e ⟨n, h⟩, List.foldl_append]; rfl
def iterW : Nat → List Wd → List Wd
  | 0, s => s
  | n + 1, s => twiceW (iterW n s)
theorem iterW_len (n : Nat) (s : List Wd) : (iterW n s).length = s.length := by
  induction n with
  | zero => rfl
  | succ n ih => rw [iterW, twiceW_len, ih]
/-- The state: of a key, a counter and a nonce. -/
def stateW (key : List Byte) (ctr : Wd) (nonce : List Byte) : List Wd :=
  [1634760805#32, 857760878#32, 2036477234#32, 1797285236#32] ++ ((List.range 8).map (fun i => lowB 32 ((key.drop (4 * i)).take 4)) ++ (ctr :: (List.range 3).map (fun i => lowB 32 ((nonce.drop (4 * i)).take 4))))
theorem stateW_len (key : List Byte) (ctr : Wd) (nonce : List Byte) : (stateW key ctr nonce).length = 16 := by simp [stateW]
def sumW (s f : List Wd) (i : Nat) : Wd := s.getD i 0 + f.getD i 0
def outW64 (s f : List Wd) (n : Nat) : List Byte := (List.range n).flatMap fun i => leB (sumW s f i) 4
theorem outW64_len (s f : List Wd) (n : Nat) : (outW64 s f n).length = 4 * n := by
  induction n with
  | zero => rfl
  | succ n ih => rw [outW64, List.range_succ, List.flatMap_append, List.length_append]; rw [outW64] at ih; rw [ih]; simp [leB_len]; omega
theorem outW64_succ (s f : List Wd) (n : Nat) : outW64 s f (n + 1) = outW64 s f n ++ leB (sumW s f n) 4 := by
  unfold outW64; rw [List.range_succ, List.flatMap_append]; simp
/-- A block of the key stream. -/
def blockB (key : List Byte) (ctr : Wd) (nonce : List Byte) : List Byte := outW64 (iterW 10 (stateW key ctr nonce)) (stateW key ctr nonce) 16
theorem blockB_len (key : List Byte) (ctr : Wd) (nonce : List Byte) : (blockB key ctr nonce).length = 64 := outW64_len _ _ _
/-- The byte of the key stream at a place. -/
def ksB (key nonce : List Byte) (p : Nat) : Byte := (blockB key (BitVec.ofNat 32 (p / 64)) nonce).getD (p % 64) 0#8
def xorB (key nonce : List Byte) (p : Nat) (b : List Byte) : List Byte := (List.range b.length).map fun j => b.getD j 0#8 ^^^ ksB key nonce (p + j)
theorem xorB_len (key nonce : List Byte) (p : Nat) (b : List Byte) : (xorB key nonce p b).length = b.length := by simp [xorB]
theorem xorB_get (key nonce : List Byte) (p : Nat) (b : List Byte) (j : Nat) (h : j < b.length) : (xorB key nonce p b)[j]'(by rw [xorB_len]; exact h) = b[j] ^^^ ksB key nonce (p + j) := by
  simp only [xorB, List.getElem_map, List.getElem_range]
  rw [List.getD_eq_getElem?_getD, List.getElem?_eq_getElem h]; rfl
theorem xorB_back (key nonce : List Byte) (p : Nat) (b : List Byte) : xorB key nonce p (xorB key nonce p b) = b := by
  apply List.ext_getElem (by rw [xorB_len, xorB_len])
  intro j h1 h2
  rw [xorB_get _ _ _ _ _ (by rw [xorB_len]; exact h2), xorB_get _ _ _ _ _ h2, BitVec.xor_assoc, BitVec.xor_self, BitVec.xor_zero]
end Go.Sl

/- octet: numbers of uint32 as bytes: width, PutLittle. -/
set_option maxHeartbeats 4000000
set_option maxRecDepth 10000
set_option linter.unusedVariables false
set_option linter.unusedSimpArgs false
namespace Go.Sl
open Go Go.Proofs
attribute [local irreducible] cl pt own old pur ex all den denOps denS xOps xC cX CX xthen xblk xcut xloop xgo xng retX resX Calls PV Rd Con
/-- A number that an int holds. -/
abbrev nvv (n : Nat) : Value := .int .i64 (n : Int)
theorem width32_x : Con Tryz.prog 52 [] [] (fun r M => r = nvv 4 ∧ M = []) := by
  refine fn_x Tryz.func52 rfl rfl rfl Tryz.mixed (by kernel_rfl) ?_
  intro w0
  refine Ct.o ?_
  refine Zgb ?_
  first|refine Zhg (Zaz rfl) ?_|refine Zhg (Zas rfl) ?_
  refine Zg3 ?_
  refine Ct.o ?_
  refine Zgb ?_
  refine Zhg (Zk6 rfl) ?_
  refine Zhg (Zkw rfl) ?_
  first|refine Zhg (Zaz rfl) ?_|refine Zhg (Zas rfl) ?_
  refine Zg3 ?_
  refine Ct.o ?_
  refine Zgb ?_
  first|refine Zhg (Zaz rfl) ?_|refine Zhg (Zas rfl) ?_
  refine Zg3 ?_
  refine Ct.o ?_
  refine Zgo [(1, 2), (5, 12)] (by kernel_rfl) (fun i : Nat => i ≤ 4) (fun _ => []) (fun i => [(1, u32b ((~~~ (BitVec.ofInt 32 0)) >>> (8 * i))), (2, nvv i)]) (fun i => 4 - i) 0 (by omega) qI ⟨rfl, rfl, trivial⟩ ?_
  intro i u hi
  have hz : ∀ j : Fin (4 + 1), (~~~ (BitVec.ofInt 32 0)) >>> (8 * j.val) = 0#32 ↔ j.val = 4 := by decide
  have hs : ∀ j : Fin 4, (~~~ (BitVec.ofInt 32 0)) >>> (8 * j.val) >>> 7 >>> 1 = (~~~ (BitVec.ofInt 32 0)) >>> (8 * (j.val + 1)) := by decide
  by_cases hB : i = 4
  · subst hB
    refine Ct.o ?_
    refine Zgb ?_
    first|refine Zhg (Zat rfl) ?_|refine Zhg (Zar rfl) ?_
    refine Zhg (Zkz (y := 0#32) rfl rfl) ?_
    refine Zhn 6 rfl (decide_eq_false ((fun h => h ((hz ⟨4, by omega⟩).2 rfl)))) ?_
    refine Zg3 ?_
    refine Ct.o ?_
    refine Zgf rfl ?_
    refine Ct.o ?_
    refine Zgb ?_
    first|refine Zhg (Zat rfl) ?_|refine Zhg (Zar rfl) ?_
    first|refine Zhg (Zaz rfl) ?_|refine Zhg (Zas rfl) ?_
    refine Zg3 ?_
    refine Ct.o ?_
    refine rx1 (Zg9 rfl (Zg7)) ?_
    exact ⟨_, ⟨rfl, rfl⟩, by exact Imp.arr (by repeat (first|exact Arr.nil|exact Arr.stop|refine Arr.cons (by repeat constructor) ?_|refine Arr.skip ?_))⟩
  · refine Ct.o ?_
    refine Zgb ?_
    first|refine Zhg (Zat rfl) ?_|refine Zhg (Zar rfl) ?_
    refine Zhg (Zkz (y := 0#32) rfl rfl) ?_
    refine Zhm 6 rfl (decide_eq_true ((fun h => hB ((hz ⟨i, by omega⟩).1 h)))) ?_
    refine Zg3 ?_
    refine Ct.o ?_
    refine Zge rfl ?_
    refine Ct.o ?_
    refine Zgb ?_
    first|refine Zhg (Zat rfl) ?_|refine Zhg (Zar rfl) ?_
    refine Zhg (Zkv (m := 7) rfl rfl) ?_
    first|refine Zhg (Zaz rfl) ?_|refine Zhg (Zas rfl) ?_
    refine Zg3 ?_
    refine Ct.o ?_
    refine Zgb ?_
    first|refine Zhg (Zat rfl) ?_|refine Zhg (Zar rfl) ?_
    refine Zhg (Zkv (m := 1) rfl rfl) ?_
    first|refine Zhg (Zaz rfl) ?_|refine Zhg (Zas rfl) ?_
    refine Zg3 ?_
    refine Ct.o ?_
    refine Zgb ?_
    first|refine Zhg (Zat rfl) ?_|refine Zhg (Zar rfl) ?_
    first|refine Zhg (Zma (b := 1) rfl rfl) ?_|refine Zhg (Zbg rfl rfl) ?_
    first|refine Zhg (Zaz rfl) ?_|refine Zhg (Zas rfl) ?_
    refine Zg3 ?_
    refine Ct.o ?_
    have e := hs ⟨i, by omega⟩
    dsimp only at e
    exact Zgl (i + 1) qO (by omega) qI ⟨by rw [← e]; rfl, rfl, trivial⟩
theorem put32_x {L : List Asrt} {v : Value} {b : List Byte} (x : BitVec 32) (h : Bs L v b) (hb : b.length ≤ 140737488355000) :
    Con Tryz.prog 39 [v, u32b x] L (fun r M => ∃ a c, r = .slice a (b ++ leB x 4).length c ∧ M = own 5 1 r (b ++ leB x 4).length ((b ++ leB x 4).map u8b) :: L) := by
  refine Con.get (fun w0 w F H => h.sh _ _ _ H) ?_
  rintro ⟨va, vc, rfl, hvc, hvcm⟩
  refine fn_x Tryz.func39 rfl rfl rfl Tryz.mixed (by kernel_rfl) ?_
  intro w0
  refine Ct.o ?_
  refine Zgb ?_
  first|refine Zhg (Za2 rfl) ?_|refine Zhg (Zas rfl) ?_
  refine Zg3 ?_
  refine Ct.o ?_
  refine Zgb ?_
  refine Zh8 rfl (by kernel_rfl) (width32_x) rfl qT ?_
  rintro _ _ ⟨rfl, rfl⟩
  refine Zg2 qA ?_
  first|refine Zhg (Zaz rfl) ?_|refine Zhg (Zas rfl) ?_
  refine Zg3 ?_
  refine Ct.o ?_
  refine Zgb ?_
  first|refine Zhg (Zaw rfl) ?_|refine Zhg (Zar rfl) ?_
  first|refine Zhg (Zcr rfl) ?_|refine Zhg (Zct) ?_|refine Zhg (Zcu rfl) ?_
  first|refine Zhg (Zaw rfl) ?_|refine Zhg (Zar rfl) ?_
  first|refine Zhg (Zcr rfl) ?_|refine Zhg (Zct) ?_|refine Zhg (Zcu rfl) ?_
  first|refine Zhg (Zat rfl) ?_|refine Zhg (Zar rfl) ?_
  first|refine Zhg (Zma rfl rfl) ?_|refine Zhg (Zbg rfl rfl) ?_
  refine Zm3 (f := u8b) (a := 0#8) rfl rfl rfl qS qS qS ?_; intro b15
  first|refine Zhg (Za2 rfl) ?_|refine Zhg (Zas rfl) ?_
  refine Zg3 ?_
  refine Ct.o ?_
  refine Zgb ?_
  first|refine Zhg (Zaw rfl) ?_|refine Zhg (Zar rfl) ?_
  first|refine Zhg (Zaw rfl) ?_|refine Zhg (Zar rfl) ?_
  refine Zib rfl rfl (h.rd.imp Imp.tail) qR qZ qN (copy_pre b 4) ?_
  refine Zg3 ?_
  refine Ct.o ?_
  refine Zgp (Imp.own_mk (n := b.length) (cap := b.length + 4) (size := 1) (xs := b.map u8b) (by omega) (by omega) (by simp) (by simp)) ?_
  refine Ct.o ?_
  refine Zgb ?_
  first|refine Zhg (Zat rfl) ?_|refine Zhg (Zar rfl) ?_
  first|refine Zhg (Zat rfl) ?_|refine Zhg (Zar rfl) ?_
  refine Zg3 ?_
  refine Ct.o ?_
  refine Zgo [(6, 7), (20, 31)] (by kernel_rfl) (fun s : Nat × Option Addr × Nat => s.1 ≤ 4) (fun s => own 5 1 (.slice s.2.1 (b ++ leB x s.1).length s.2.2) (b ++ leB x s.1).length ((b ++ leB x s.1).map u8b) :: L)
    (fun s => [(20, nvv s.1), (6, .slice s.2.1 (b ++ leB x s.1).length s.2.2)]) (fun s => 4 - s.1) (0, some ⟨b15, 0, none⟩, b.length + 4) (by show 0 ≤ _; omega) (by show Imp _ (own _ _ (.slice _ (b ++ []).length _) (b ++ []).length ((b ++ []).map u8b) :: L); rw [List.append_nil]; exact qI) ⟨rfl, by show _ = Value.slice _ (b ++ []).length _; rw [List.append_nil]; rfl, trivial⟩ ?_
  rintro ⟨i, a, c⟩ u hi
  dsimp only at hi ⊢
  have hll : (b ++ leB x i).length = b.length + i := by simp [leB_len]
  refine Ct.o ?_
  refine Zgb ?_
  first|refine Zhg (Zmf rfl rfl) ?_|refine Zhg (Zbn rfl rfl) ?_
  refine Zg3 ?_
  refine Ct.o ?_
  refine Zgg rfl (fun hB => ?_) (fun hB => ?_)
  · refine Ct.o ?_
    refine Zgb ?_
    first|refine Zhg (Zat rfl) ?_|refine Zhg (Zar rfl) ?_
    first|refine Zhg (Zaz rfl) ?_|refine Zhg (Zas rfl) ?_
    refine Zg3 ?_
    refine Ct.o ?_
    refine Zgb ?_
    first|refine Zhg (Zaw rfl) ?_|refine Zhg (Zar rfl) ?_
    first|refine Zhg (Zat rfl) ?_|refine Zhg (Zar rfl) ?_
    first|refine Zhg (Zat rfl) ?_|refine Zhg (Zar rfl) ?_
    first|refine Zhg (Zmc (a := 8) rfl rfl) ?_|refine Zhg (Zbi rfl rfl) ?_
    refine Zhg (Zkv rfl rfl) ?_
    refine Zhg (Zk8 rfl) ?_
    refine Zh7 (cs := #[.int .u8 _]) (by omega) (by omega) rfl ?_; intro b29
    refine Zia rfl rfl qH (Rd.cl (xs := [u8b ((x >>> (8 * i)).setWidth 8)]) qH rfl qZ rfl) qN (by omega) qS ?_; intro a3 c3
    first|refine Zhg (Za2 rfl) ?_|refine Zhg (Zas rfl) ?_
    refine Zg3 ?_
    refine Ct.o ?_
    refine Zgb ?_
    first|refine Zhg (Zma (b := 1) rfl rfl) ?_|refine Zhg (Zbg rfl rfl) ?_
    first|refine Zhg (Zat rfl) ?_|refine Zhg (Zar rfl) ?_
    refine Zg3 ?_
    refine Ct.o ?_
    have e : (b ++ leB x i) ++ [(x >>> (8 * i)).setWidth 8] = b ++ leB x (i + 1) := by rw [leB_succ, List.append_assoc]
    have e2 : (b ++ leB x i).map u8b ++ [u8b ((x >>> (8 * i)).setWidth 8)] = (b ++ leB x (i + 1)).map u8b := by rw [← e]; simp only [List.map_append, List.map_cons, List.map_nil]
    have e3 : (b ++ leB x i).length + 1 = (b ++ leB x (i + 1)).length := by rw [← e]; simp only [List.length_append, List.length_cons, List.length_nil]
    rw [e2, e3]
    exact Zgl (i + 1, a3, c3) qO qO qI ⟨rfl, rfl, trivial⟩
  · have hie : i = 4 := by omega
    subst hie
    refine Ct.o ?_
    refine Zgb ?_
    first|refine Zhg (Zaw rfl) ?_|refine Zhg (Zar rfl) ?_
    first|refine Zhg (Za2 rfl) ?_|refine Zhg (Zas rfl) ?_
    refine Zg3 ?_
    refine Ct.o ?_
    refine rx1 (Zhc rfl (Zg7)) ?_
    exact ⟨_, ⟨a, c, rfl, rfl⟩, by exact Imp.arr (by repeat (first|exact Arr.nil|exact Arr.stop|refine Arr.cons (by repeat constructor) ?_|refine Arr.skip ?_))⟩
end Go.Sl

/- octet: numbers of uint64 as bytes: width, PutLittle. -/
set_option maxHeartbeats 4000000
set_option maxRecDepth 10000
set_option linter.unusedVariables false
set_option linter.unusedSimpArgs false
namespace Go.Sl
open Go Go.Proofs
attribute [local irreducible] cl pt own old pur ex all den denOps denS xOps xC cX CX xthen xblk xcut xloop xgo xng retX resX Calls PV Rd Con
theorem width64_x : Con Tryz.prog 51 [] [] (fun r M => r = nvv 8 ∧ M = []) := by
  refine fn_x Tryz.func51 rfl rfl rfl Tryz.mixed (by kernel_rfl) ?_
  intro w0
  refine Ct.o ?_
  refine Zgb ?_
  first|refine Zhg (Zaz rfl) ?_|refine Zhg (Zas rfl) ?_
  refine Zg3 ?_
  refine Ct.o ?_
  refine Zgb ?_
  refine Zhg (Zlv rfl) ?_
  refine Zhg (Zll rfl) ?_
  first|refine Zhg (Zaz rfl) ?_|refine Zhg (Zas rfl) ?_
  refine Zg3 ?_
  refine Ct.o ?_
  refine Zgb ?_
  first|refine Zhg (Zaz rfl) ?_|refine Zhg (Zas rfl) ?_
  refine Zg3 ?_
  refine Ct.o ?_
  refine Zgo [(1, 2), (5, 12)] (by kernel_rfl) (fun i : Nat => i ≤ 8) (fun _ => []) (fun i => [(1, u64b ((~~~ (BitVec.ofInt 64 0)) >>> (8 * i))), (2, nvv i)]) (fun i => 8 - i) 0 (by omega) qI ⟨rfl, rfl, trivial⟩ ?_
  intro i u hi
  have hz : ∀ j : Fin (8 + 1), (~~~ (BitVec.ofInt 64 0)) >>> (8 * j.val) = 0#64 ↔ j.val = 8 := by decide
  have hs : ∀ j : Fin 8, (~~~ (BitVec.ofInt 64 0)) >>> (8 * j.val) >>> 7 >>> 1 = (~~~ (BitVec.ofInt 64 0)) >>> (8 * (j.val + 1)) := by decide
  by_cases hB : i = 8
  · subst hB
    refine Ct.o ?_
    refine Zgb ?_
    first|refine Zhg (Zat rfl) ?_|refine Zhg (Zar rfl) ?_
    refine Zhg (Zlo (y := 0#64) rfl rfl) ?_
    refine Zhn 6 rfl (decide_eq_false ((fun h => h ((hz ⟨8, by omega⟩).2 rfl)))) ?_
    refine Zg3 ?_
    refine Ct.o ?_
    refine Zgf rfl ?_
    refine Ct.o ?_
    refine Zgb ?_
    first|refine Zhg (Zat rfl) ?_|refine Zhg (Zar rfl) ?_
    first|refine Zhg (Zaz rfl) ?_|refine Zhg (Zas rfl) ?_
    refine Zg3 ?_
    refine Ct.o ?_
    refine rx1 (Zg9 rfl (Zg7)) ?_
    exact ⟨_, ⟨rfl, rfl⟩, by exact Imp.arr (by repeat (first|exact Arr.nil|exact Arr.stop|refine Arr.cons (by repeat constructor) ?_|refine Arr.skip ?_))⟩
  · refine Ct.o ?_
    refine Zgb ?_
    first|refine Zhg (Zat rfl) ?_|refine Zhg (Zar rfl) ?_
    refine Zhg (Zlo (y := 0#64) rfl rfl) ?_
    refine Zhm 6 rfl (decide_eq_true ((fun h => hB ((hz ⟨i, by omega⟩).1 h)))) ?_
    refine Zg3 ?_
    refine Ct.o ?_
    refine Zge rfl ?_
    refine Ct.o ?_
    refine Zgb ?_
    first|refine Zhg (Zat rfl) ?_|refine Zhg (Zar rfl) ?_
    refine Zhg (Zlk (m := 7) rfl rfl) ?_
    first|refine Zhg (Zaz rfl) ?_|refine Zhg (Zas rfl) ?_
    refine Zg3 ?_
    refine Ct.o ?_
    refine Zgb ?_
    first|refine Zhg (Zat rfl) ?_|refine Zhg (Zar rfl) ?_
    refine Zhg (Zlk (m := 1) rfl rfl) ?_
    first|refine Zhg (Zaz rfl) ?_|refine Zhg (Zas rfl) ?_
    refine Zg3 ?_
    refine Ct.o ?_
    refine Zgb ?_
    first|refine Zhg (Zat rfl) ?_|refine Zhg (Zar rfl) ?_
    first|refine Zhg (Zma (b := 1) rfl rfl) ?_|refine Zhg (Zbg rfl rfl) ?_
    first|refine Zhg (Zaz rfl) ?_|refine Zhg (Zas rfl) ?_
    refine Zg3 ?_
    refine Ct.o ?_
    have e := hs ⟨i, by omega⟩
    dsimp only at e
    exact Zgl (i + 1) qO (by omega) qI ⟨by rw [← e]; rfl, rfl, trivial⟩
theorem put64_x {L : List Asrt} {v : Value} {b : List Byte} (x : BitVec 64) (h : Bs L v b) (hb : b.length ≤ 140737488355000) :
    Con Tryz.prog 38 [v, u64b x] L (fun r M => ∃ a c, r = .slice a (b ++ leB x 8).length c ∧ M = own 5 1 r (b ++ leB x 8).length ((b ++ leB x 8).map u8b) :: L) := by
  refine Con.get (fun w0 w F H => h.sh _ _ _ H) ?_
  rintro ⟨va, vc, rfl, hvc, hvcm⟩
  refine fn_x Tryz.func38 rfl rfl rfl Tryz.mixed (by kernel_rfl) ?_
  intro w0
  refine Ct.o ?_
  refine Zgb ?_
  first|refine Zhg (Za2 rfl) ?_|refine Zhg (Zas rfl) ?_
  refine Zg3 ?_
  refine Ct.o ?_
  refine Zgb ?_
  refine Zh8 rfl (by kernel_rfl) (width64_x) rfl qT ?_
  rintro _ _ ⟨rfl, rfl⟩
  refine Zg2 qA ?_
  first|refine Zhg (Zaz rfl) ?_|refine Zhg (Zas rfl) ?_
  refine Zg3 ?_
  refine Ct.o ?_
  refine Zgb ?_
  first|refine Zhg (Zaw rfl) ?_|refine Zhg (Zar rfl) ?_
  first|refine Zhg (Zcr rfl) ?_|refine Zhg (Zct) ?_|refine Zhg (Zcu rfl) ?_
  first|refine Zhg (Zaw rfl) ?_|refine Zhg (Zar rfl) ?_
  first|refine Zhg (Zcr rfl) ?_|refine Zhg (Zct) ?_|refine Zhg (Zcu rfl) ?_
  first|refine Zhg (Zat rfl) ?_|refine Zhg (Zar rfl) ?_
  first|refine Zhg (Zma rfl rfl) ?_|refine Zhg (Zbg rfl rfl) ?_
  refine Zm3 (f := u8b) (a := 0#8) rfl rfl rfl qS qS qS ?_; intro b15
  first|refine Zhg (Za2 rfl) ?_|refine Zhg (Zas rfl) ?_
  refine Zg3 ?_
  refine Ct.o ?_
  refine Zgb ?_
  first|refine Zhg (Zaw rfl) ?_|refine Zhg (Zar rfl) ?_
  first|refine Zhg (Zaw rfl) ?_|refine Zhg (Zar rfl) ?_
  refine Zib rfl rfl (h.rd.imp Imp.tail) qR qZ qN (copy_pre b 8) ?_
  refine Zg3 ?_
  refine Ct.o ?_
  refine Zgp (Imp.own_mk (n := b.length) (cap := b.length + 8) (size := 1) (xs := b.map u8b) (by omega) (by omega) (by simp) (by simp)) ?_
  refine Ct.o ?_
  refine Zgb ?_
  first|refine Zhg (Zat rfl) ?_|refine Zhg (Zar rfl) ?_
  first|refine Zhg (Zat rfl) ?_|refine Zhg (Zar rfl) ?_
  refine Zg3 ?_
  refine Ct.o ?_
  refine Zgo [(6, 7), (20, 31)] (by kernel_rfl) (fun s : Nat × Option Addr × Nat => s.1 ≤ 8) (fun s => own 5 1 (.slice s.2.1 (b ++ leB x s.1).length s.2.2) (b ++ leB x s.1).length ((b ++ leB x s.1).map u8b) :: L)
    (fun s => [(20, nvv s.1), (6, .slice s.2.1 (b ++ leB x s.1).length s.2.2)]) (fun s => 8 - s.1) (0, some ⟨b15, 0, none⟩, b.length + 8) (by show 0 ≤ _; omega) (by show Imp _ (own _ _ (.slice _ (b ++ []).length _) (b ++ []).length ((b ++ []).map u8b) :: L); rw [List.append_nil]; exact qI) ⟨rfl, by show _ = Value.slice _ (b ++ []).length _; rw [List.append_nil]; rfl, trivial⟩ ?_
  rintro ⟨i, a, c⟩ u hi
  dsimp only at hi ⊢
  have hll : (b ++ leB x i).length = b.length + i := by simp [leB_len]
  refine Ct.o ?_
  refine Zgb ?_
  first|refine Zhg (Zmf rfl rfl) ?_|refine Zhg (Zbn rfl rfl) ?_
  refine Zg3 ?_
  refine Ct.o ?_
  refine Zgg rfl (fun hB => ?_) (fun hB => ?_)
  · refine Ct.o ?_
    refine Zgb ?_
    first|refine Zhg (Zat rfl) ?_|refine Zhg (Zar rfl) ?_
    first|refine Zhg (Zaz rfl) ?_|refine Zhg (Zas rfl) ?_
    refine Zg3 ?_
    refine Ct.o ?_
    refine Zgb ?_
    first|refine Zhg (Zaw rfl) ?_|refine Zhg (Zar rfl) ?_
    first|refine Zhg (Zat rfl) ?_|refine Zhg (Zar rfl) ?_
    first|refine Zhg (Zat rfl) ?_|refine Zhg (Zar rfl) ?_
    first|refine Zhg (Zmc (a := 8) rfl rfl) ?_|refine Zhg (Zbi rfl rfl) ?_
    refine Zhg (Zlk rfl rfl) ?_
    refine Zhg (Zlx rfl) ?_
    refine Zh7 (cs := #[.int .u8 _]) (by omega) (by omega) rfl ?_; intro b29
    refine Zia rfl rfl qH (Rd.cl (xs := [u8b ((x >>> (8 * i)).setWidth 8)]) qH rfl qZ rfl) qN (by omega) qS ?_; intro a3 c3
    first|refine Zhg (Za2 rfl) ?_|refine Zhg (Zas rfl) ?_
    refine Zg3 ?_
    refine Ct.o ?_
    refine Zgb ?_
    first|refine Zhg (Zma (b := 1) rfl rfl) ?_|refine Zhg (Zbg rfl rfl) ?_
    first|refine Zhg (Zat rfl) ?_|refine Zhg (Zar rfl) ?_
    refine Zg3 ?_
    refine Ct.o ?_
    have e : (b ++ leB x i) ++ [(x >>> (8 * i)).setWidth 8] = b ++ leB x (i + 1) := by rw [leB_succ, List.append_assoc]
    have e2 : (b ++ leB x i).map u8b ++ [u8b ((x >>> (8 * i)).setWidth 8)] = (b ++ leB x (i + 1)).map u8b := by rw [← e]; simp only [List.map_append, List.map_cons, List.map_nil]
    have e3 : (b ++ leB x i).length + 1 = (b ++ leB x (i + 1)).length := by rw [← e]; simp only [List.length_append, List.length_cons, List.length_nil]
    rw [e2, e3]
    exact Zgl (i + 1, a3, c3) qO qO qI ⟨rfl, rfl, trivial⟩
  · have hie : i = 8 := by omega
    subst hie
    refine Ct.o ?_
    refine Zgb ?_
    first|refine Zhg (Zaw rfl) ?_|refine Zhg (Zar rfl) ?_
    first|refine Zhg (Za2 rfl) ?_|refine Zhg (Zas rfl) ?_
    refine Zg3 ?_
    refine Ct.o ?_
    refine rx1 (Zhc rfl (Zg7)) ?_
    exact ⟨_, ⟨a, c, rfl, rfl⟩, by exact Imp.arr (by repeat (first|exact Arr.nil|exact Arr.stop|refine Arr.cons (by repeat constructor) ?_|refine Arr.skip ?_))⟩
end Go.Sl

/- octet: a number of uint32 out of its bytes; mask: Bit, Zero, Same; bits: RotateLeft32. -/
set_option maxHeartbeats 4000000
set_option maxRecDepth 10000
set_option linter.unusedVariables false
set_option linter.unusedSimpArgs false
namespace Go.Sl
open Go Go.Proofs
attribute [local irreducible] cl pt own old pur ex all den denOps denS xOps xC cX CX xthen xblk xcut xloop xgo xng retX resX Calls PV Rd Con
theorem fits32_x {L : List Asrt} {v : Value} {b : List Byte} (h : Bs L v b) (hb : b.length = 4) : Con Tryz.prog 99 [v] L (fun r M => r = nvv 0 ∧ L = M) := by
  refine Con.get (fun w0 w F H => h.sh _ _ _ H) ?_
  rintro ⟨va, vc, rfl, hvc, hvcm⟩
  refine fn_x Tryz.func99 rfl rfl rfl Tryz.mixed (by kernel_rfl) ?_
  intro w0
  refine Ct.o ?_
  refine Zgb ?_
  first|refine Zhg (Zaz rfl) ?_|refine Zhg (Zas rfl) ?_
  refine Zg3 ?_
  refine Ct.o ?_
  refine Zgb ?_
  refine Zh8 rfl (by kernel_rfl) (width32_x) rfl qT ?_
  rintro _ _ ⟨rfl, rfl⟩
  refine Zg2 qA ?_
  first|refine Zhg (Zaz rfl) ?_|refine Zhg (Zas rfl) ?_
  refine Zg3 ?_
  refine Ct.o ?_
  refine Zgb ?_
  first|refine Zhg (Zaw rfl) ?_|refine Zhg (Zar rfl) ?_
  first|refine Zhg (Zcr rfl) ?_|refine Zhg (Zct) ?_|refine Zhg (Zcu rfl) ?_
  first|refine Zhg (Zat rfl) ?_|refine Zhg (Zar rfl) ?_
  first|refine Zhg (Zmf rfl rfl) ?_|refine Zhg (Zbn rfl rfl) ?_
  refine Zhn 8 rfl (decide_eq_false (by omega)) ?_
  refine Zg3 ?_
  refine Ct.o ?_
  refine Zgf rfl ?_
  refine Ct.o ?_
  refine Zgb ?_
  first|refine Zhg (Zaw rfl) ?_|refine Zhg (Zar rfl) ?_
  first|refine Zhg (Zcr rfl) ?_|refine Zhg (Zct) ?_|refine Zhg (Zcu rfl) ?_
  first|refine Zhg (Zat rfl) ?_|refine Zhg (Zar rfl) ?_
  first|refine Zhg (Zmh rfl rfl) ?_|refine Zhg (Zbp rfl rfl) ?_
  refine Zhn 12 rfl (decide_eq_false (by omega)) ?_
  refine Zg3 ?_
  refine Ct.o ?_
  refine Zgf rfl ?_
  refine Ct.o ?_
  refine Zgb ?_
  first|refine Zhg (Zaz rfl) ?_|refine Zhg (Zas rfl) ?_
  refine Zg3 ?_
  refine Ct.o ?_
  refine rx1 (Zg9 rfl (Zg7)) ?_
  exact ⟨_, ⟨rfl, rfl⟩, by exact Imp.arr (by repeat (first|exact Arr.nil|exact Arr.stop|refine Arr.cons (by repeat constructor) ?_|refine Arr.skip ?_))⟩
theorem low32_x {L : List Asrt} {v : Value} {b : List Byte} (h : Bs L v b) (hb : b.length ≤ 140737488355000) : Con Tryz.prog 48 [v] L (fun r M => r = u32b (lowB 32 b) ∧ L = M) := by
  refine Con.get (fun w0 w F H => h.sh _ _ _ H) ?_
  rintro ⟨va, vc, rfl, hvc, hvcm⟩
  refine fn_x Tryz.func48 rfl rfl rfl Tryz.mixed (by kernel_rfl) ?_
  intro w0
  refine Ct.o ?_
  refine Zgb ?_
  first|refine Zhg (Zaz rfl) ?_|refine Zhg (Zas rfl) ?_
  refine Zg3 ?_
  refine Ct.o ?_
  refine Zgb ?_
  first|refine Zhg (Zaz rfl) ?_|refine Zhg (Zas rfl) ?_
  refine Zg3 ?_
  refine Ct.o ?_
  refine Zgb ?_
  first|refine Zhg (Zaw rfl) ?_|refine Zhg (Zar rfl) ?_
  first|refine Zhg (Zcr rfl) ?_|refine Zhg (Zct) ?_|refine Zhg (Zcu rfl) ?_
  first|refine Zhg (Zat rfl) ?_|refine Zhg (Zar rfl) ?_
  refine Zg3 ?_
  refine Ct.o ?_
  refine Zgo [(3, 5), (8, 20)] (by kernel_rfl) (fun i : Nat => i ≤ b.length) (fun _ => L) (fun i => [(3, u32b (lowB 32 (b.take i))), (8, nvv i)]) (fun i => b.length - i) 0 (by omega) qI ⟨by rw [List.take_zero]; rfl, rfl, trivial⟩ ?_
  intro i u hi
  refine Ct.o ?_
  refine Zgb ?_
  first|refine Zhg (Zmf rfl rfl) ?_|refine Zhg (Zbn rfl rfl) ?_
  refine Zg3 ?_
  refine Ct.o ?_
  refine Zgg rfl (fun hB => ?_) (fun hB => ?_)
  · refine Zgt (fun F w H => h.some (by omega) H) ?_
    rintro ⟨a1, a2, rfl⟩
    refine Ct.o ?_
    refine Zgb ?_
    first|refine Zhg (Zat rfl) ?_|refine Zhg (Zar rfl) ?_
    first|refine Zhg (Zl4 rfl rfl) ?_|refine Zhg (Zl1 rfl rfl) ?_
    refine Zff rfl (h.rd.at hB (getM hB)) ?_
    first|refine Zhg (Zaz rfl) ?_|refine Zhg (Zas rfl) ?_
    first|refine Zhg (Zaz rfl) ?_|refine Zhg (Zas rfl) ?_
    refine Zg3 ?_
    refine Ct.o ?_
    refine Zgb ?_
    first|refine Zhg (Zat rfl) ?_|refine Zhg (Zar rfl) ?_
    first|refine Zhg (Zat rfl) ?_|refine Zhg (Zar rfl) ?_
    refine Zhg (Zjw rfl) ?_
    first|refine Zhg (Zat rfl) ?_|refine Zhg (Zar rfl) ?_
    first|refine Zhg (Zmc (a := 8) rfl rfl) ?_|refine Zhg (Zbi rfl rfl) ?_
    refine Zhg (Zku rfl rfl) ?_
    refine Zhg (Zkr rfl rfl) ?_
    first|refine Zhg (Zaz rfl) ?_|refine Zhg (Zas rfl) ?_
    refine Zg3 ?_
    refine Ct.o ?_
    refine Zgb ?_
    first|refine Zhg (Zma (b := 1) rfl rfl) ?_|refine Zhg (Zbg rfl rfl) ?_
    first|refine Zhg (Zat rfl) ?_|refine Zhg (Zar rfl) ?_
    refine Zg3 ?_
    refine Ct.o ?_
    have e : lowB 32 (b.take (i + 1)) = lowB 32 (b.take i) ||| (b[i].setWidth 32) <<< (8 * i) := by
      rw [List.take_succ_eq_append_getElem hB, lowB_snoc, List.length_take, Nat.min_eq_left hi]
    exact Zgl (i + 1) qO (by omega) qI ⟨by rw [e]; rfl, rfl, trivial⟩
  · have hie : i = b.length := by omega
    subst hie
    rw [List.take_length]
    refine Ct.o ?_
    refine Zgb ?_
    first|refine Zhg (Zat rfl) ?_|refine Zhg (Zar rfl) ?_
    first|refine Zhg (Zaz rfl) ?_|refine Zhg (Zas rfl) ?_
    refine Zg3 ?_
    refine Ct.o ?_
    refine rx1 (Zg9 rfl (Zg7)) ?_
    exact ⟨_, ⟨rfl, rfl⟩, by exact Imp.arr (by repeat (first|exact Arr.nil|exact Arr.stop|refine Arr.cons (by repeat constructor) ?_|refine Arr.skip ?_))⟩
theorem little32_x {L : List Asrt} {v : Value} {b : List Byte} (h : Bs L v b) (hb : b.length = 4) : Con Tryz.prog 93 [v] L (fun r M => r = .tuple #[u32b (lowB 32 b), nvv 0] ∧ L = M) := by
  refine Con.get (fun w0 w F H => h.sh _ _ _ H) ?_
  rintro ⟨va, vc, rfl, hvc, hvcm⟩
  refine fn_x Tryz.func93 rfl rfl rfl Tryz.mixed (by kernel_rfl) ?_
  intro w0
  refine Ct.o ?_
  refine Zgb ?_
  first|refine Zhg (Zaz rfl) ?_|refine Zhg (Zas rfl) ?_
  first|refine Zhg (Zaz rfl) ?_|refine Zhg (Zas rfl) ?_
  refine Zg3 ?_
  refine Ct.o ?_
  refine Zgb ?_
  first|refine Zhg (Zaw rfl) ?_|refine Zhg (Zar rfl) ?_
  refine Zh8 rfl (by kernel_rfl) (fits32_x h hb) rfl qT ?_
  rintro _ _ ⟨rfl, rfl⟩
  refine Zg2 qA ?_
  first|refine Zhg (Zaz rfl) ?_|refine Zhg (Zas rfl) ?_
  refine Zg3 ?_
  refine Ct.o ?_
  refine Zgb ?_
  first|refine Zhg (Zat rfl) ?_|refine Zhg (Zar rfl) ?_
  first|refine Zhg (Zmk (b := 0) rfl rfl) ?_|refine Zhg (Zbs rfl rfl) ?_
  refine Zhn 8 rfl (rfl) ?_
  refine Zg3 ?_
  refine Ct.o ?_
  refine Zgf rfl ?_
  refine Ct.o ?_
  refine Zgb ?_
  first|refine Zhg (Zaw rfl) ?_|refine Zhg (Zar rfl) ?_
  refine Zh8 rfl (by kernel_rfl) (low32_x h (by omega)) rfl qT ?_
  rintro _ _ ⟨rfl, rfl⟩
  refine Zg2 qA ?_
  first|refine Zhg (Zaz rfl) ?_|refine Zhg (Zas rfl) ?_
  first|refine Zhg (Zaz rfl) ?_|refine Zhg (Zas rfl) ?_
  refine Zg3 ?_
  refine Ct.o ?_
  refine rx2 (Zg9 rfl (Zg9 rfl (Zg7))) ?_
  exact ⟨_, ⟨rfl, rfl⟩, by exact Imp.arr (by repeat (first|exact Arr.nil|exact Arr.stop|refine Arr.cons (by repeat constructor) ?_|refine Arr.skip ?_))⟩
theorem bit_x (x : BitVec 64) : Con Tryz.prog 87 [u64b x] [] (fun r M => r = u64b (0#64 - (x &&& 1#64)) ∧ M = []) := by
  refine fn_x Tryz.func87 rfl rfl rfl Tryz.mixed (by kernel_rfl) ?_
  intro w0
  refine Ct.o ?_
  refine Zgb ?_
  first|refine Zhg (Zaz rfl) ?_|refine Zhg (Zas rfl) ?_
  refine Zg3 ?_
  refine Ct.o ?_
  refine Zgb ?_
  first|refine Zhg (Zat rfl) ?_|refine Zhg (Zar rfl) ?_
  refine Zhg (Zlf (y := 1#64) rfl rfl) ?_
  refine Zhg (Zld (x := 0#64) rfl rfl) ?_
  first|refine Zhg (Zaz rfl) ?_|refine Zhg (Zas rfl) ?_
  refine Zg3 ?_
  refine Ct.o ?_
  refine rx1 (Zg9 rfl (Zg7)) ?_
  exact ⟨_, ⟨rfl, rfl⟩, by exact Imp.arr (by repeat (first|exact Arr.nil|exact Arr.stop|refine Arr.cons (by repeat constructor) ?_|refine Arr.skip ?_))⟩
def zeroB (x : BitVec 64) : BitVec 64 := 0#64 - ((((x ||| (0#64 - x)) >>> 63) ^^^ 1#64) &&& 1#64)
theorem zero_x (x : BitVec 64) : Con Tryz.prog 73 [u64b x] [] (fun r M => r = u64b (zeroB x) ∧ M = []) := by
  refine fn_x Tryz.func73 rfl rfl rfl Tryz.mixed (by kernel_rfl) ?_
  intro w0
  refine Ct.o ?_
  refine Zgb ?_
  first|refine Zhg (Zaz rfl) ?_|refine Zhg (Zas rfl) ?_
  refine Zg3 ?_
  refine Ct.o ?_
  refine Zgb ?_
  first|refine Zhg (Zat rfl) ?_|refine Zhg (Zar rfl) ?_
  first|refine Zhg (Zat rfl) ?_|refine Zhg (Zar rfl) ?_
  refine Zhg (Zld (x := 0#64) rfl rfl) ?_
  refine Zhg (Zlg rfl rfl) ?_
  refine Zhg (Zlk (m := 63) rfl rfl) ?_
  refine Zhg (Zlh (y := 1#64) rfl rfl) ?_
  refine Zh8 rfl (by kernel_rfl) (bit_x _) rfl qT ?_
  rintro _ _ ⟨rfl, rfl⟩
  refine Zg2 qA ?_
  first|refine Zhg (Zaz rfl) ?_|refine Zhg (Zas rfl) ?_
  refine Zg3 ?_
  refine Ct.o ?_
  refine rx1 (Zg9 rfl (Zg7)) ?_
  exact ⟨_, ⟨rfl, rfl⟩, by exact Imp.arr (by repeat (first|exact Arr.nil|exact Arr.stop|refine Arr.cons (by repeat constructor) ?_|refine Arr.skip ?_))⟩
/-- All unlike bits of two lists of bytes. -/
def offB (a b : List Byte) : BitVec 64 := (List.zip a b).foldl (fun (d : BitVec 64) (x : Byte × Byte) => d ||| (x.1 ^^^ x.2).setWidth 64) 0#64
theorem offB_take {a b : List Byte} {i : Nat} (ha : i < a.length) (hb : i < b.length) : offB (a.take (i + 1)) (b.take (i + 1)) = offB (a.take i) (b.take i) ||| (a[i] ^^^ b[i]).setWidth 64 := by
  unfold offB
  rw [List.take_succ_eq_append_getElem ha, List.take_succ_eq_append_getElem hb, List.zip_append (by simp; omega), List.foldl_append]
  rfl
theorem zeroB_byte (x : Byte) : zeroB (x.setWidth 64) = if x = 0#8 then 18446744073709551615#64 else 0#64 := by
  have h : ∀ n : Fin 256, zeroB ((BitVec.ofFin n : Byte).setWidth 64) = if (BitVec.ofFin n : Byte) = 0#8 then 18446744073709551615#64 else 0#64 := by decide +kernel
  exact h x.toFin
theorem offB_byte : ∀ (a b : List Byte) (d : Byte), ∃ e : Byte, (List.zip a b).foldl (fun (d : BitVec 64) (x : Byte × Byte) => d ||| (x.1 ^^^ x.2).setWidth 64) (d.setWidth 64) = e.setWidth 64 ∧ (e = 0#8 ↔ d = 0#8 ∧ ∀ x ∈ List.zip a b, x.1 = x.2)
  | [], b, d => ⟨d, by simp, by simp⟩
  | x :: a, [], d => ⟨d, by simp, by simp⟩
  | x :: a, y :: b, d => by
    obtain ⟨e, h1, h2⟩ := offB_byte a b (d ||| (x ^^^ y))
    refine ⟨e, ?_, ?_⟩
    · rw [List.zip_cons_cons, List.foldl_cons, ← h1, BitVec.setWidth_or]
    · rw [h2]
      have e1 : (d ||| (x ^^^ y)) = 0#8 ↔ d = 0#8 ∧ x = y := by
        constructor
        · intro h
          have hd : d = 0#8 := by
            apply BitVec.eq_of_getLsbD_eq
            intro i hi
            have := congrArg (fun z => z.getLsbD i) h
            simp only [BitVec.getLsbD_or, BitVec.getLsbD_zero, Bool.or_eq_false_iff] at this
            rw [this.1]; simp
          rw [hd, BitVec.zero_or] at h
          refine ⟨hd, ?_⟩
          have := congrArg (fun z => z ^^^ y) h
          simp only [BitVec.xor_assoc, BitVec.xor_self, BitVec.xor_zero, BitVec.zero_xor] at this
          exact this
        · rintro ⟨rfl, rfl⟩; simp
      rw [e1, List.zip_cons_cons]
      simp only [List.mem_cons, forall_eq_or_imp]
      constructor
      · rintro ⟨⟨h1, h2⟩, h3⟩; exact ⟨h1, h2, h3⟩
      · rintro ⟨h1, h2, h3⟩; exact ⟨⟨h1, h2⟩, h3⟩
theorem zip_all_eq : ∀ (a b : List Byte), a.length = b.length → ((∀ x ∈ List.zip a b, x.1 = x.2) ↔ a = b)
  | [], [], _ => by simp
  | x :: a, y :: b, h => by
    have ih := zip_all_eq a b (by simpa using h)
    rw [List.zip_cons_cons]
    simp only [List.mem_cons, forall_eq_or_imp, ih, List.cons.injEq]
  | [], _ :: _, h => by simp at h
  | _ :: _, [], h => by simp at h
theorem same_val (a b : List Byte) (h : a.length = b.length) : zeroB (offB a b) = if a = b then 18446744073709551615#64 else 0#64 := by
  obtain ⟨e, h1, h2⟩ := offB_byte a b 0#8
  unfold offB
  rw [show (0#64 : BitVec 64) = (0#8 : Byte).setWidth 64 by decide, h1, zeroB_byte]
  have : e = 0#8 ↔ a = b := by rw [h2, zip_all_eq a b h]; simp
  by_cases hab : a = b
  · rw [if_pos hab, if_pos (this.2 hab)]
  · rw [if_neg hab, if_neg (fun h => hab (this.1 h))]; decide
theorem same_x {L : List Asrt} {va vb : Value} {a b : List Byte} (ha : Bs L va a) (hb : Bs L vb b) (hl : a.length = b.length) : Con Tryz.prog 59 [va, vb] L (fun r M => r = u64b (if a = b then 18446744073709551615#64 else 0#64) ∧ L = M) := by
  rw [← same_val a b hl]
  refine Con.get (fun w0 w F H => ha.sh _ _ _ H) ?_
  rintro ⟨aa, ac, rfl, hac, hacm⟩
  refine Con.get (fun w0 w F H => hb.sh _ _ _ H) ?_
  rintro ⟨ba, bc, rfl, hbc, hbcm⟩
  refine fn_x Tryz.func59 rfl rfl rfl Tryz.mixed (by kernel_rfl) ?_
  intro w0
  refine Ct.o ?_
  refine Zgb ?_
  first|refine Zhg (Zaz rfl) ?_|refine Zhg (Zas rfl) ?_
  refine Zg3 ?_
  refine Ct.o ?_
  refine Zgb ?_
  first|refine Zhg (Zaw rfl) ?_|refine Zhg (Zar rfl) ?_
  first|refine Zhg (Zcr rfl) ?_|refine Zhg (Zct) ?_|refine Zhg (Zcu rfl) ?_
  first|refine Zhg (Zaw rfl) ?_|refine Zhg (Zar rfl) ?_
  first|refine Zhg (Zcr rfl) ?_|refine Zhg (Zct) ?_|refine Zhg (Zcu rfl) ?_
  first|refine Zhg (Zmk rfl rfl) ?_|refine Zhg (Zbs rfl rfl) ?_
  refine Zhn 11 rfl (decide_eq_false ((fun h => h hl))) ?_
  refine Zg3 ?_
  refine Ct.o ?_
  refine Zgf rfl ?_
  refine Ct.o ?_
  refine Zgb ?_
  first|refine Zhg (Zaz rfl) ?_|refine Zhg (Zas rfl) ?_
  refine Zg3 ?_
  refine Ct.o ?_
  refine Zgb ?_
  first|refine Zhg (Zaw rfl) ?_|refine Zhg (Zar rfl) ?_
  first|refine Zhg (Zcr rfl) ?_|refine Zhg (Zct) ?_|refine Zhg (Zcu rfl) ?_
  first|refine Zhg (Zat rfl) ?_|refine Zhg (Zar rfl) ?_
  refine Zg3 ?_
  refine Ct.o ?_
  refine Zgo [(5, 6), (14, 29)] (by kernel_rfl) (fun i : Nat => i ≤ a.length) (fun _ => L) (fun i => [(5, u64b (offB (a.take i) (b.take i))), (14, nvv i)]) (fun i => a.length - i) 0 (by omega) qI ⟨by rw [List.take_zero, List.take_zero]; rfl, rfl, trivial⟩ ?_
  intro i u hi
  refine Ct.o ?_
  refine Zgb ?_
  first|refine Zhg (Zmf rfl rfl) ?_|refine Zhg (Zbn rfl rfl) ?_
  refine Zg3 ?_
  refine Ct.o ?_
  refine Zgg rfl (fun hB => ?_) (fun hB => ?_)
  · refine Zgt (fun F w H => ha.some (by omega) H) ?_
    rintro ⟨a1, a2, rfl⟩
    refine Zgt (fun F w H => hb.some (by omega) H) ?_
    rintro ⟨a3, a4, rfl⟩
    have hB2 : i < b.length := by omega
    refine Ct.o ?_
    refine Zgb ?_
    first|refine Zhg (Zat rfl) ?_|refine Zhg (Zar rfl) ?_
    first|refine Zhg (Zaz rfl) ?_|refine Zhg (Zas rfl) ?_
    refine Zg3 ?_
    refine Ct.o ?_
    refine Zij (_) [8] (.q 0 (.q 1 (.q 2 (.q 3 (.q 5 (.q 6 (.q 7 (.r 4 (.r 8 (.q 9 (.q 10 (.q 11 (.q 12 .nil))))))))))))) (by kernel_rfl) (by kernel_rfl) (Imp.refl _) ?_
    first|refine Zim rfl (Zat rfl) ?_|refine Zim rfl (Zar rfl) ?_
    first|refine Zim rfl (Zaw rfl) ?_|refine Zim rfl (Zar rfl) ?_
    first|refine Zim rfl (Zat rfl) ?_|refine Zim rfl (Zar rfl) ?_
    first|refine Zim rfl (Zl4 rfl rfl) ?_|refine Zim rfl (Zl1 rfl rfl) ?_
    first|refine Zim rfl (Zaw rfl) ?_|refine Zim rfl (Zar rfl) ?_
    first|refine Zim rfl (Zat rfl) ?_|refine Zim rfl (Zar rfl) ?_
    first|refine Zim rfl (Zl4 rfl rfl) ?_|refine Zim rfl (Zl1 rfl rfl) ?_
    refine Zfh rfl rfl (ha.rd.at hB (getM hB)) ?_
    refine Zfh rfl rfl (hb.rd.at hB2 (getM hB2)) ?_
    refine Zim rfl (Zje rfl rfl) ?_
    refine Zim rfl (Zjx rfl) ?_
    refine Zim rfl (Zlg rfl rfl) ?_
    first|refine Zim rfl (Zaz rfl) ?_|refine Zim rfl (Zas rfl) ?_
    refine Zik ?_
    refine Ct.o ?_
    refine Zgb ?_
    first|refine Zhg (Zma (b := 1) rfl rfl) ?_|refine Zhg (Zbg rfl rfl) ?_
    first|refine Zhg (Zat rfl) ?_|refine Zhg (Zar rfl) ?_
    refine Zg3 ?_
    refine Ct.o ?_
    exact Zgl (i + 1) qO (by omega) qI ⟨by rw [offB_take hB hB2]; rfl, rfl, trivial⟩
  · have hie : i = a.length := by omega
    rw [List.take_of_length_le (by omega), List.take_of_length_le (by omega)]
    refine Ct.o ?_
    refine Zgb ?_
    first|refine Zhg (Zat rfl) ?_|refine Zhg (Zar rfl) ?_
    refine Zh8 rfl (by kernel_rfl) (zero_x _) rfl qT ?_
    rintro _ _ ⟨rfl, rfl⟩
    refine Zg2 qA ?_
    first|refine Zhg (Zaz rfl) ?_|refine Zhg (Zas rfl) ?_
    refine Zg3 ?_
    refine Ct.o ?_
    refine rx1 (Zg9 rfl (Zg7)) ?_
    exact ⟨_, ⟨rfl, rfl⟩, by exact Imp.arr (by repeat (first|exact Arr.nil|exact Arr.stop|refine Arr.cons (by repeat constructor) ?_|refine Arr.skip ?_))⟩
theorem rotl_x (x : Wd) (n : Nat) (hn : n = 7 ∨ n = 8 ∨ n = 12 ∨ n = 16) : Con Tryz.prog 94 [u32b x, nvv n] [] (fun r M => r = u32b (rotW x n) ∧ M = []) := by
  refine fn_x Tryz.func94 rfl rfl rfl Tryz.mixed (by kernel_rfl) ?_
  intro w0
  refine Ct.o ?_
  refine Zgb ?_
  first|refine Zhg (Zaz rfl) ?_|refine Zhg (Zas rfl) ?_
  refine Zg3 ?_
  refine Ct.o ?_
  refine Zgb ?_
  first|refine Zhg (Zat rfl) ?_|refine Zhg (Zar rfl) ?_
  refine Zhg (Zlv rfl) ?_
  refine Zhg (Zlf (y := 31#64) rfl rfl) ?_
  first|refine Zhg (Zaz rfl) ?_|refine Zhg (Zas rfl) ?_
  refine Zg3 ?_
  refine Ct.o ?_
  refine Zgb ?_
  first|refine Zhg (Zat rfl) ?_|refine Zhg (Zar rfl) ?_
  first|refine Zhg (Zat rfl) ?_|refine Zhg (Zar rfl) ?_
  refine Zhg (Zku rfl rfl) ?_
  first|refine Zhg (Zat rfl) ?_|refine Zhg (Zar rfl) ?_
  first|refine Zhg (Zat rfl) ?_|refine Zhg (Zar rfl) ?_
  refine Zhg (Zld (x := 32#64) rfl rfl) ?_
  refine Zhg (Zkv rfl rfl) ?_
  refine Zhg (Zkr rfl rfl) ?_
  first|refine Zhg (Zaz rfl) ?_|refine Zhg (Zas rfl) ?_
  refine Zg3 ?_
  refine Ct.o ?_
  refine rx1 (Zg9 rfl (Zg7)) ?_
  rcases hn with rfl|rfl|rfl|rfl <;> exact ⟨_, ⟨rfl, rfl⟩, qI⟩
end Go.Sl
