/- Parts of the proof. -/
import Derived.Test.YtkifhflakdkemaaGreatLawSorterBlindM0
import Derived.Test.YtkifhflakdkemaaGreatLawSorterBlindM1
import Derived.Test.YtkifhflakdkemaaGreatLawSorterBlindM2
import Derived.Test.YtkifhflakdkemaaGreatLawSorterBlindM3
import Derived.RangeFuncRecord
import Derived.RangeFuncLeaves
set_option maxHeartbeats 4000000
set_option maxRecDepth 10000
set_option linter.unusedVariables false
set_option linter.unusedSimpArgs false
namespace Go.Sl
open Go
def Yield (P : Program) (l : Nat) (vs : List Value) (A B C : Asrt) : Prop :=
  ∀ w0 F w, St w0 w [F, A] → ∃ fn tmps assign body, (Instr.yield l vs.toArray).run P w = .ok (.round l fn tmps assign body) w ∧
    RoundIn Fence.wide 0 P l fn tmps assign body w (Ret fun r w' => (r = .bool true ∧ St w0 w' [F, B]) ∨ (r = .bool false ∧ St w0 w' [F, C]))
def Gives (P : Program) (F : FuncId) (lb : List Value) (Mi : List Asrt) (xs : List (List Value)) : Prop :=
  ∀ (l : Nat) (J : Nat → Asrt) (E : Asrt), (∀ k (h : k < xs.length), Yield P l xs[k] (J k) (J (k + 1)) E) →
    Con P F (.func (.yield l) #[] #[] :: lb) (J 0 :: Mi) (fun r N => N = J xs.length :: Mi ∨ N = E :: Mi)

section ops
variable {P : Program} {w0 : World} {ops : Array Oper} {rest : List Oper} {ρ : Env} {M R : List Asrt} {K : XK} {dst : Option Nat} {ty : TypeId} {pos : String} {after : Array Edge}
theorem Zox {f : Operand} {ars : Array Operand} {ts : Array TypeId} {l : Nat} {vs : List Value} {A B C : Asrt} (hf : ev ρ f = .func (.yield l) #[] #[]) (hy : Yield P l vs A B C) (ha : argL ρ #[] ars #[] = vs) (hs : Has M A R)
    (k1 : xOps P w0 ops rest (put ρ dst (.bool true)) (B :: R) K) (k2 : xOps P w0 ops rest (put ρ dst (.bool false)) (C :: R) K) :
    xOps P w0 ops (⟨dst, .call { callee := .value f, args := ars, argTypes := ts }, ty, pos, after, none⟩ :: rest) ρ M K := by
  intro F w H
  have H1 : St w0 w [all (F :: R), A] := by
    have h1 : Imp (F :: M) (A :: (F :: R)) := (Imp.cons (Imp.has hs)).trans Imp.swap
    have h2 : Imp (A :: (F :: R)) ((F :: R) ++ [A]) := Imp.comm (L := [A]) (M := F :: R)
    exact H.ent (h1.trans (h2.trans Imp.app))
  obtain ⟨fn, tmps, assign, body, hrun, hround⟩ := hy w0 _ w H1
  refine Zcy ?_
  have e : (execOp (ev ρ) ⟨dst, .call { callee := .value f, args := ars, argTypes := ts }, ty, pos, after, none⟩).run P w = .ok (.round l fn tmps assign body) w := by
    unfold execOp
    simp only [resolve, hf, Deferred.ofValue, pure_bind, invoke]
    have : #[] ++ Array.map (ev ρ) ars = vs.toArray := by
      apply Array.ext'
      simp [← ha, argL]
    rw [this]
    exact hrun
  rw [e]
  have back : ∀ (B : Asrt) (w' : World), St w0 w' [all (F :: R), B] → St w0 w' (F :: (B :: R)) := fun B w' h => by
    have h1 : Imp [all (F :: R), B] ((F :: R) ++ [B]) := Imp.unapp
    have h2 : Imp ((F :: R) ++ [B]) (B :: (F :: R)) := Imp.comm (L := F :: R) (M := [B])
    exact h.ent (h1.trans (h2.trans Imp.swap))
  refine RoundIn.mono hround (Ret.mono ?_)
  rintro r w' (⟨rfl, H'⟩|⟨rfl, H'⟩)
  · exact k1 F w' (back _ _ H')
  · exact k2 F w' (back _ _ H')
end ops

theorem enters_x {P : Program} {F : FuncId} (hb : callable P F = true) (args : Array Value) (w : World) : (callFunc F args).run P w = .ok (.enter F args) w := by
  unfold callFunc
  unfold callable at hb
  show ((program >>= _) : Sem Next).run P w = _
  rw [run_bind P _ _ w w P rfl]
  split at hb
  · rename_i fn hfn
    simp only [hfn]
    simp only [Bool.and_eq_true, bne_iff_ne, ne_eq, Option.isSome_iff_ne_none] at hb
    rw [if_neg (by simp [hb.1]), if_neg (by simp [hb.2])]
    rfl
  · cases hb
def mksD (ds : List Nat) : List Deferred := ds.map fun D => { target := .collected D, args := #[] }
def mksP (ds : List Nat) : List Asrt := ds.map fun D => pt D (.deferred (some []))
def leaveX (w0 : World) (F : Asrt) (Φ : Value → List Asrt → Prop) : Ending → World → Prop := Ret fun v w' => ∃ M', St w0 w' (F :: M') ∧ Φ v M'
def xS (P : Program) (fn : Func) (n : Nat) (ds : List Nat) (w0 : World) (c : Code) (ρ : Env) (M : List Asrt) (Φ : Value → List Asrt → Prop) : Prop :=
  ∀ F w, St w0 w (F :: (mksP ds ++ M)) → ∀ a, Fr (mksD ds) n a ρ → c.wpIn Fence.wide 0 P (bodyPostM Fence.wide 0 P fn (leaveX w0 F Φ)) a w
def xT (P : Program) (fn : Func) (n : Nat) (ds : List Nat) (w0 : World) (b y : Code) (ρ : Env) (M : List Asrt) (Φ : Value → List Asrt → Prop) : Prop :=
  ∀ F w, St w0 w (F :: (mksP ds ++ M)) → ∀ a, Fr (mksD ds) n a ρ → b.wpIn Fence.wide 0 P (Exit.then (y.wpIn Fence.wide 0 P (bodyPostM Fence.wide 0 P fn (leaveX w0 F Φ))) (bodyPostM Fence.wide 0 P fn (leaveX w0 F Φ))) a w
section spine
variable {P : Program} {fn : Func} {n : Nat} {ds : List Nat} {w0 : World} {c x y : Code} {ρ : Env} {M R : List Asrt} {Φ : Value → List Asrt → Prop} {rs : List ResultVar}
theorem leaves_x (hr : fn.results.toList = rs) {dd : List Deferred} {a : Act} (hfr : Fr dd n a ρ) (hq : retX P w0 rs Φ .ret ρ M) : ∀ (ds : List Nat) (F : Asrt) (w : World), St w0 w (F :: (mksP ds ++ M)) → LeavesInM Fence.wide 0 P fn a.tmps (leaveX w0 F Φ) (mksD ds) .returning w
  | [], F, w, H => by
    obtain ⟨vs, N, h1, h2, h3⟩ := hq
    have H : St w0 w (F :: M) := H
    exact ⟨packV vs, results_run hfr (by rw [hr]; exact h1 F w H), _, rfl, N, H.enx h3, h2⟩
  | D :: ds, F, w, H => by
    have H : St w0 w (F :: (pt D (.deferred (some [])) :: (mksP ds ++ M))) := H
    have H2 : St w0 (w.putObj D (.deferred none)) (pt D (.deferred none) :: (F :: (mksP ds ++ M))) := H.swap.set (.deferred none)
    exact ⟨fun hh => (by cases hh), .inl ⟨D, _, rfl, run_takeDeferred H.swap.pt_get, leaves_x hr hfr hq ds F _ H2.drop⟩⟩
theorem xS_c (hm : P.follows .mixedOrders = true) (hr : fn.results.toList = rs) (hc : cfits n c = true) (h : xC P w0 c ρ M (retX P w0 rs Φ)) : xS P fn n ds w0 c ρ M Φ := by
  intro F w H a hfr
  have H' : St w0 w (all (F :: mksP ds) :: M) := St.ent (N := all (F :: mksP ds) :: M) H (Imp.app (L := F :: mksP ds) (M := M))
  refine wpIn_mono (Zow (r := none) (k := 0) hm c ρ w _ a (.inl rfl) hfr hc (h _ w H')) ?_
  rintro e a' w' ⟨ρ', hfr', M', H'', hq⟩
  have H3 : St w0 w' (F :: (mksP ds ++ M')) := H''.ent (Imp.unapp (L := F :: mksP ds) (M := M'))
  cases e <;> first
    | (show LeavesInM _ _ _ _ _ _ _ _ _
       rw [hfr'.defs]
       exact leaves_x hr hfr' hq ds F w' H3)
    | exact hq.elim
theorem xS_seq (hm : P.follows .mixedOrders = true) (hr : fn.results.toList = rs) (hc : cfits n x = true) (h : xC P w0 x ρ M (xthen (fun ρ' M' => xS P fn n ds w0 y ρ' M' Φ) (retX P w0 rs Φ))) : xS P fn n ds w0 (.seq x y) ρ M Φ := by
  intro F w H a hfr
  have H' : St w0 w (all (F :: mksP ds) :: M) := St.ent (N := all (F :: mksP ds) :: M) H (Imp.app (L := F :: mksP ds) (M := M))
  refine wpIn_seq (wpIn_mono (Zow (r := none) (k := 0) hm x ρ w _ a (.inl rfl) hfr hc (h _ w H')) ?_)
  rintro e a' w' ⟨ρ', hfr', M', H'', hq⟩
  have H3 : St w0 w' (F :: (mksP ds ++ M')) := H''.ent (Imp.unapp (L := F :: mksP ds) (M := M'))
  cases e <;> first
    | exact hq F w' H3 a' hfr'
    | (show LeavesInM _ _ _ _ _ _ _ _ _
       rw [hfr'.defs]
       exact leaves_x hr hfr' hq ds F w' H3)
    | exact hq.elim
theorem xS_t {b : Code} (h : xT P fn n ds w0 b y ρ M Φ) : xS P fn n ds w0 (.seq b y) ρ M Φ := fun F w H a hfr => wpIn_seq (h F w H a hfr)
theorem xT_seq {b : Code} (hm : P.follows .mixedOrders = true) (hr : fn.results.toList = rs) (hc : cfits n x = true) (h : xC P w0 x ρ M (xthen (fun ρ' M' => xT P fn n ds w0 b y ρ' M' Φ) (retX P w0 rs Φ))) : xT P fn n ds w0 (.seq x b) y ρ M Φ := by
  intro F w H a hfr
  have H' : St w0 w (all (F :: mksP ds) :: M) := St.ent (N := all (F :: mksP ds) :: M) H (Imp.app (L := F :: mksP ds) (M := M))
  refine wpIn_seq (wpIn_mono (Zow (r := none) (k := 0) hm x ρ w _ a (.inl rfl) hfr hc (h _ w H')) ?_)
  rintro e a' w' ⟨ρ', hfr', M', H'', hq⟩
  have H3 : St w0 w' (F :: (mksP ds ++ M')) := H''.ent (Imp.unapp (L := F :: mksP ds) (M := M'))
  cases e <;> first
    | exact hq F w' H3 a' hfr'
    | (show LeavesInM _ _ _ _ _ _ _ _ _
       rw [hfr'.defs]
       exact leaves_x hr hfr' hq ds F w' H3)
    | exact hq.elim
theorem fn_s {f : FuncId} {args : List Value} (hf : P.funcs[f]? = some fn) (hb : fn.body = some c) (hn : fn.ntmps = n) (hfit : Nat.ble args.length n = true)
    (h : ∀ w0, xS P fn n [] w0 c (nth args) M Φ) : Con P f args M Φ := by
  intro w0 F w H
  have hlen : args.length ≤ n := Nat.le_of_ble_eq_true hfit
  refine (callsIn_wide (n := 0)).1 (callsIn_of_wp_marks (R := leaveX w0 F Φ) hf hb trivial (h w0 F w H _ ?_))
  refine ⟨fun t => ?_, ?_, rfl⟩
  · rw [nth_eq]
    simp only [Array.getD_eq_getD_getElem?, List.getD_eq_getElem?_getD]
    by_cases ht : t < args.length
    · rw [Array.getElem?_append_left (by simpa using ht)]
      simp
    · rw [Array.getElem?_append_right (by simpa using ht), List.getElem?_eq_none (by omega)]
      simp only [Array.getElem?_replicate]
      split <;> rfl
  · simp [hn]; omega
def putl (ρ : Env) (ps : List Tmp) (vs : List Value) : Env := (ps.zip vs).foldl (fun ρ (p, v) => put ρ (some p) v) ρ
theorem fr_putl {dd : List Deferred} : ∀ (l : List (Tmp × Value)) (a : Array Value) (ρ : Env), (∀ t, a.getD t undef = ρ t) → a.size = n → (∀ p ∈ l, p.1 < n) → Fr [] n { tmps := l.foldl (fun (t : Array Value) (x : Tmp × Value) => t.setIfInBounds x.1 x.2) a, defers := [] } (l.foldl (fun ρ (x : Tmp × Value) => put ρ (some x.1) x.2) ρ)
  | [], a, ρ, h1, h2, _ => ⟨h1, h2, rfl⟩
  | (p, v) :: l, a, ρ, h1, h2, h3 => by
    have hfr : Fr [] n { tmps := a, defers := [] } ρ := ⟨h1, h2, rfl⟩
    have hp := hfr.put (d := some p) (fun k hk => by cases hk; exact h3 (p, v) List.mem_cons_self) v
    exact fr_putl (dd := dd) l _ _ hp.val hp.size fun q hq => h3 q (List.mem_cons_of_mem _ hq)
def xround {S T : Type} (I : S → Prop) (Mf : S → List Asrt) (Mt : T → List Asrt) : XQ := fun e _ M => match e with|.normal => ∃ s, I s ∧ Imp M (Mf s)|.ret => ∃ t, Imp M (Mt t)|_ => False
theorem Zoy {S T : Type} {I : S → Prop} {Mf : S → List Asrt} {Mt : T → List Asrt} (s : S) (hI : I s) (hM : Imp M (Mf s)) : xround I Mf Mt .normal ρ M := ⟨s, hI, hM⟩
set_option maxHeartbeats 1000000 in
theorem xT_rf {bid : Nat} {g : Operand} {ps : Array Tmp} {assign body : Code} {gf : FuncId} {lb : Array Value} {Mi N : List Asrt} {xs : List (List Value)} (hm : P.follows .mixedOrders = true) (hr : fn.results.toList = rs)
    (hg : ev ρ g = .func (.func gf) #[] lb) (hcal : callable P gf = true) (hit : Gives P gf lb.toList Mi xs) (hs : Imp M (Mi ++ N))
    (hc : (cfits n assign && cfits n body && plainC assign && plainC body && ps.toList.all (fun p => Nat.blt p n)) = true) (hps : ∀ v ∈ xs, v.length = ps.size)
    {S T : Type} (I : Nat → S → Prop) (Mf : S → List Asrt) (Mt : T → List Asrt) (s0 : S) (h0 : I 0 s0) (hM : Imp N (Mf s0))
    (round : ∀ k (hk : k < xs.length) s w0, I k s → xC P w0 assign (putl ρ ps.toList xs[k]) (Mf s) (xthen (fun ρ' M' => xC P w0 body ρ' M' (xround (I (k + 1)) Mf Mt)) (fun _ _ _ => False)))
    (done : ∀ s D, I xs.length s → xS P fn n (D :: ds) w0 y ρ (Mf s ++ Mi) Φ) (stop : ∀ t, retX P w0 rs Φ .ret ρ (Mt t ++ Mi)) : xT P fn n ds w0 (.block bid (.rangeFunc g ps assign body)) y ρ M Φ := by
  intro F w H a hfr
  simp only [Bool.and_eq_true] at hc
  obtain ⟨⟨⟨⟨hc1, hc2⟩, hc3⟩, hc4⟩, hc5⟩ := hc
  refine wpIn_block (wpIn_rangeFunc ?_)
  intro id _
  obtain ⟨rec, hrec⟩ : ∃ rec : LoopState → Option Code → Loop, rec = fun st pe => { state := st, pending := pe, fn := id, tmps := a.tmps, params := ps, assign, body, defers := w.heap.size } := ⟨_, rfl⟩
  obtain ⟨L, hL⟩ : ∃ L, L = w.heap.size + 1 := ⟨_, rfl⟩
  obtain ⟨W1, hW1⟩ : ∃ W1, (w.alloc (.deferred (some []))).alloc (.loop (rec .ready none)) = W1 := ⟨_, rfl⟩
  have H1 : St w0 W1 (pt L (.loop (rec .ready none)) :: pt w.heap.size (.deferred (some [])) :: (F :: (mksP ds ++ M))) := by
    have h1 := (H.alloc (.deferred (some []))).alloc (.loop (rec .ready none))
    have e : ({ w with heap := w.heap.push (.deferred (some [])) } : World).heap.size = L := by rw [hL]; simp
    rw [e] at h1
    rw [← hW1]
    exact h1
  -- the pieces that stand by
  generalize hD : w.heap.size = D at *
  have himp : Imp (pt L (.loop (rec .ready none)) :: pt D (.deferred (some [])) :: (F :: (mksP ds ++ M))) (all (F :: mksP (D :: ds)) :: (all (pt L (.loop (rec .ready none)) :: Mf s0) :: Mi)) := by
    have a1 : Imp (mksP ds ++ M) (mksP ds ++ (Mi ++ Mf s0)) := Imp.left (hs.trans (Imp.left hM))
    have a2 : Imp (pt L (.loop (rec .ready none)) :: pt D (.deferred (some [])) :: (F :: (mksP ds ++ M))) (pt L (.loop (rec .ready none)) :: pt D (.deferred (some [])) :: (F :: (mksP ds ++ (Mi ++ Mf s0)))) := Imp.cons (Imp.cons (Imp.cons a1))
    have a3 : Imp (pt D (.deferred (some [])) :: (F :: (mksP ds ++ (Mi ++ Mf s0)))) (F :: (mksP (D :: ds) ++ (Mi ++ Mf s0))) := Imp.swap
    have a4 : Imp (F :: (mksP (D :: ds) ++ (Mi ++ Mf s0))) (all (F :: mksP (D :: ds)) :: (Mi ++ Mf s0)) := Imp.app (L := F :: mksP (D :: ds))
    have a5 : Imp (Mi ++ Mf s0) (Mf s0 ++ Mi) := Imp.comm
    refine a2.trans ((Imp.cons (a3.trans (a4.trans (Imp.cons a5)))).trans (Imp.swap.trans (Imp.cons ?_)))
    exact Imp.app (L := pt L (.loop (rec .ready none)) :: Mf s0) (M := Mi)
  let J : Nat → Asrt := fun k => ex fun s : { s : S // I k s } => all (pt L (.loop (rec .ready none)) :: Mf s.1)
  let E : Asrt := ex fun t : T => all (pt L (.loop (rec .done (some .ret))) :: Mt t)
  have H2 : St w0 W1 (all (F :: mksP (D :: ds)) :: (J 0 :: Mi)) := (H1.ent himp).enx (Imp.head fun f hf => ⟨⟨s0, h0⟩, hf⟩)
  have hY : ∀ k (h : k < xs.length), Yield P L xs[k] (J k) (J (k + 1)) E := by
    intro k hk w0' F' w1 K1
    obtain ⟨⟨s, hI⟩, K1⟩ := K1.swap.ex_get
    have K2 : St w0' w1 (pt L (.loop (rec .ready none)) :: (Mf s ++ [F'])) := K1.all_get
    have hrun := run_yield (P := P) (args := (xs[k]).toArray) K2.pt_get (by rw [hrec]; simp [hps _ (List.getElem_mem hk)])
    rw [hrec] at hrun
    refine ⟨_, _, _, _, hrun, roundIn_of_wpIn trivial ?_⟩
    have hfr0 : Fr [] n { tmps := (ps.zip (xs[k]).toArray).foldl (fun tmps (t, a) => tmps.setIfInBounds t a) a.tmps, defers := [] } (putl ρ ps.toList xs[k]) := by
      have := fr_putl (dd := []) (n := n) (ps.toList.zip xs[k]) a.tmps ρ hfr.val hfr.size (fun p hp => by
        have := List.all_eq_true.1 hc5 p.1 (List.of_mem_zip hp).1
        exact Nat.le_of_ble_eq_true this)
      rw [← Array.foldl_toList, Array.toList_zip]
      exact this
    have K3 : St w0' w1 (all [F', pt L (.loop (rec .ready none))] :: Mf s) := by
      refine K2.ent ?_
      have b1 : Imp (pt L (.loop (rec .ready none)) :: (Mf s ++ [F'])) (pt L (.loop (rec .ready none)) :: ([F'] ++ Mf s)) := Imp.cons Imp.comm
      exact b1.trans (Imp.swap.trans (Imp.app (L := [F', pt L (.loop (rec .ready none))]) (M := Mf s)))
    refine wpIn_mono (Zow (r := some L) (k := 0) hm assign _ w1 _ _ (.inr hc3) hfr0 hc1 (round k hk s w0' hI _ w1 K3)) ?_
    rintro e a2 w2 ⟨ρ2, hfr2, M2, K4, hq⟩
    cases e with
    | normal =>
      have hq : xC P w0' body ρ2 M2 (xround (I (k + 1)) Mf Mt) := hq
      have K5 : St w0' w2 (pt L (.loop (rec .ready none)) :: (F' :: M2)) := K4.ent ((Imp.unapp (L := [F', pt L (.loop (rec .ready none))]) (M := M2)).trans Imp.swap)
      have hbr := run_beginRound (P := P) K5.pt_get (by rw [hrec])
      refine ⟨_, hbr, ?_⟩
      have K6 : St w0' (w2.putObj L (.loop { rec .ready none with state := .busy })) (all [F', pt L (.loop (rec .busy none))] :: M2) := by
        have := K5.set (.loop { rec .ready none with state := .busy })
        rw [hrec] at this ⊢
        exact this.ent (Imp.swap.trans (Imp.app (L := [F', _]) (M := M2)))
      refine wpIn_mono (Zow (r := some L) (k := 0) hm body ρ2 _ _ a2 (.inr hc4) hfr2 hc2 (hq _ _ K6)) ?_
      rintro e a3 w3 ⟨ρ3, hfr3, M3, K7, hp⟩
      have K8 : St w0' w3 (pt L (.loop (rec .busy none)) :: (F' :: M3)) := K7.ent ((Imp.unapp (L := [F', pt L (.loop (rec .busy none))]) (M := M3)).trans Imp.swap)
      cases e with
      | normal =>
        obtain ⟨s', hI', hM'⟩ := hp
        refine ⟨_, _, run_endRound none K8.pt_get, _, rfl, .inl ⟨rfl, ?_⟩⟩
        have := K8.set (.loop { rec .busy none with state := .ready, pending := none })
        rw [hrec] at this ⊢
        refine St.ent (N := [F', J (k + 1)]) this (Imp.swap.trans (Imp.cons ?_))
        have c1 := (Imp.cons (A := pt L (.loop (rec .ready none))) hM').trans (by have := Imp.app (L := pt L (.loop (rec .ready none)) :: Mf s') (M := []); rwa [List.append_nil] at this)
        rw [hrec] at c1
        refine c1.trans (Imp.head fun f hf => ⟨⟨s', hI'⟩, ?_⟩)
        rw [hrec]; exact hf
      | ret =>
        obtain ⟨t, hM'⟩ := hp
        refine ⟨_, _, run_endRound (some .ret) K8.pt_get, _, rfl, .inr ⟨rfl, ?_⟩⟩
        have := K8.set (.loop { rec .busy none with state := .done, pending := some .ret })
        rw [hrec] at this ⊢
        refine St.ent (N := [F', E]) this (Imp.swap.trans (Imp.cons ?_))
        have c1 := (Imp.cons (A := pt L (.loop (rec .done (some .ret)))) hM').trans (by have := Imp.app (L := pt L (.loop (rec .done (some .ret))) :: Mt t) (M := []); rwa [List.append_nil] at this)
        rw [hrec] at c1
        refine c1.trans (Imp.head fun f hf => ⟨t, ?_⟩)
        rw [hrec]; exact hf
      | exit id => exact hp.elim
      | goto t => exact hp.elim
      | panic ch => exact hp.elim
      | outgrown => exact hp.elim
    | exit id => exact hq.elim
    | goto t => exact hq.elim
    | ret => exact hq.elim
    | panic ch => exact hq.elim
    | outgrown => exact hq.elim
  have hcall := (callsIn_wide (n := 0 - 1)).2 (hit L J E hY w0 _ W1 H2)
  refine ⟨L, [{ target := .collected D, args := #[] }], W1, { target := .fn (.func gf) lb, args := #[.func (.yield L) #[] #[]] }, W1, gf, (.func (.yield L) #[] #[] :: lb.toList).toArray, W1, ?_, ?_, fun _ _ => trivial, ?_, wide_dep (r := none), ?_⟩
  · rw [← hW1, hrec, hL]
    have := run_enterLoop_outer (P := P) (w := w) id a.tmps ps assign body
    rw [hD] at this
    exact this
  · have hev : a.eval g = .func (.func gf) #[] lb := by rw [hfr.eval]; exact hg
    simp only [resolve, hev]
    simp [go_sem]
  · have := enters_x hcal (.func (.yield L) #[] #[] :: lb.toList).toArray W1
    simp only [invoke]
    rw [show #[Value.func (.yield L) #[] #[]] ++ lb = (.func (.yield L) #[] #[] :: lb.toList).toArray by apply Array.ext'; simp]
    exact this
  · refine CallsIn.mono hcall ?_
    rintro e w3 ⟨v, rfl, N', H3, rfl|rfl⟩
    · have H4 := H3.enx (M := J xs.length :: Mi) (N := J xs.length :: Mi) (Imp.refl _)
      obtain ⟨⟨s, hI⟩, H5⟩ := H4.swap.ex_get
      have H6 : St w0 w3 (pt L (.loop (rec .ready none)) :: (Mf s ++ (all (F :: mksP (D :: ds)) :: Mi))) := H5.all_get
      obtain ⟨w4, hw4⟩ : ∃ w4, w4 = w3.putObj L (.loop { rec .ready none with state := .exhausted }) := ⟨_, rfl⟩
      refine ⟨_, w4, by rw [hw4]; exact run_endLoop H6.pt_get (by rw [hrec]; simp), ?_⟩
      have H7 : St w0 w4 (F :: (mksP (D :: ds) ++ (Mf s ++ Mi))) := by
        rw [hw4]
        refine (H6.set (.loop { rec .ready none with state := .exhausted })).drop.ent ?_
        have d1 : Imp (Mf s ++ (all (F :: mksP (D :: ds)) :: Mi)) ((all (F :: mksP (D :: ds)) :: Mi) ++ Mf s) := Imp.comm
        have d2 : Imp ((all (F :: mksP (D :: ds)) :: Mi) ++ Mf s) (all (F :: mksP (D :: ds)) :: (Mf s ++ Mi)) := Imp.cons Imp.comm
        exact d1.trans (d2.trans (Imp.unapp (L := F :: mksP (D :: ds)) (M := Mf s ++ Mi)))
      have hpe : (rec .ready none).pending = none := by rw [hrec]
      rw [hpe]
      have hfr' : Fr (mksD (D :: ds)) n { a with defers := [{ target := .collected D, args := #[] }] ++ a.defers } ρ := ⟨hfr.val, hfr.size, by show _ :: a.defers = _; rw [hfr.defs]; rfl⟩
      exact done s D hI F _ H7 _ hfr'
    · have H4 := H3.enx (M := E :: Mi) (N := E :: Mi) (Imp.refl _)
      obtain ⟨t, H5⟩ := H4.swap.ex_get
      have H6 : St w0 w3 (pt L (.loop (rec .done (some .ret))) :: (Mt t ++ (all (F :: mksP (D :: ds)) :: Mi))) := H5.all_get
      obtain ⟨w4, hw4⟩ : ∃ w4, w4 = w3.putObj L (.loop { rec .done (some .ret) with state := .exhausted }) := ⟨_, rfl⟩
      refine ⟨_, w4, by rw [hw4]; exact run_endLoop H6.pt_get (by rw [hrec]; simp), ?_⟩
      have H7 : St w0 w4 (F :: (mksP (D :: ds) ++ (Mt t ++ Mi))) := by
        rw [hw4]
        refine (H6.set (.loop { rec .done (some .ret) with state := .exhausted })).drop.ent ?_
        have d1 : Imp (Mt t ++ (all (F :: mksP (D :: ds)) :: Mi)) ((all (F :: mksP (D :: ds)) :: Mi) ++ Mt t) := Imp.comm
        have d2 : Imp ((all (F :: mksP (D :: ds)) :: Mi) ++ Mt t) (all (F :: mksP (D :: ds)) :: (Mt t ++ Mi)) := Imp.cons Imp.comm
        exact d1.trans (d2.trans (Imp.unapp (L := F :: mksP (D :: ds)) (M := Mt t ++ Mi)))
      have hpe : (rec .done (some .ret)).pending = some .ret := by rw [hrec]
      rw [hpe]
      refine wpIn_ret ?_
      have hfr' : Fr (mksD (D :: ds)) n { a with defers := [{ target := .collected D, args := #[] }] ++ a.defers } ρ := ⟨hfr.val, hfr.size, by show _ :: a.defers = _; rw [hfr.defs]; rfl⟩
      show LeavesInM _ _ _ _ _ _ _ _ _
      rw [hfr'.defs]
      exact leaves_x hr hfr' (stop t) (D :: ds) F _ H7
end spine
end Go.Sl
namespace Go.Sl
open Go
theorem Znr {P : Program} {ρ : Env} {x y : Operand} {S i : Nat} {k : IntKind} {s : ByteArray} {b : Byte} (hS : P.underlying S = some .string) (hx : ev ρ x = .string s) (hy : ev ρ y = .int k (i : Int)) (hb : s[i]? = some (UInt8.ofBitVec b)) : PV P (.index S x y) ρ (u8b b) := by
  intro oo w ho; unfold execOp; rw [ho]; refine op_run_value ?_; rw [hx, hy]
  unfold Instr.index
  simp only [asIntOf, pure_bind]
  rw [run_bind P _ _ w w _ (run_under hS)]
  simp only []
  rw [if_pos (by omega), Int.toNat_natCast, hb]
  rfl
end Go.Sl
namespace Go.Sl
open Go
theorem Imp.snd : ∀ {A B : List Asrt}, Imp (A ++ B) B
  | [], B => Imp.refl B
  | _ :: A, B => Imp.tail.trans (Imp.snd (A := A) (B := B))
theorem Imp.fst {A B : List Asrt} : Imp (A ++ B) A := Imp.comm.trans Imp.snd
section
variable {P : Program} {ρ : Env} {T T' : Nat} {x y : Operand} {a b : Nat}
theorem ofInt_natB (a : Nat) : (BitVec.ofInt 64 (a : Int)) = BitVec.ofNat 64 a := by
  apply BitVec.eq_of_toNat_eq
  rw [BitVec.toNat_ofInt, BitVec.toNat_ofNat]
  omega
theorem Zo0 (hx : ev ρ x = .int .i64 (a : Int)) (hy : ev ρ y = .int .i64 (b : Int)) (ha : a ≤ 9223372036854775807 := by first|omega|exact Nat.le_of_ble_eq_true rfl|(simp; done)|(simp; omega)|decide) (hb : b ≤ 9223372036854775807 := by first|omega|exact Nat.le_of_ble_eq_true rfl|(simp; done)|(simp; omega)|decide) : PV P (.binOp .and T x y T') ρ (.int .i64 ((a &&& b : Nat) : Int)) := by
  have := Zbu (P := P) (T := T) (T' := T') hx hy
  have e : (BitVec.ofInt IntKind.i64.bits (a : Int) &&& BitVec.ofInt IntKind.i64.bits (b : Int)).toNat = a &&& b := by
    show (BitVec.ofInt 64 (a : Int) &&& BitVec.ofInt 64 (b : Int)).toNat = _
    rw [ofInt_natB, ofInt_natB, BitVec.toNat_and, BitVec.toNat_ofNat, BitVec.toNat_ofNat, Nat.mod_eq_of_lt (by omega), Nat.mod_eq_of_lt (by omega)]
  have hle : a &&& b ≤ a := Nat.and_le_left
  rw [e, IntWalk.i64_in _ ⟨by omega, by omega⟩] at this
  exact this
theorem Zo1 (hx : ev ρ x = .int .i64 (a : Int)) (hy : ev ρ y = .int .i64 (b : Int)) (ha : a < 4611686018427387904 := by first|omega|exact Nat.le_of_ble_eq_true rfl|(simp; done)|(simp; omega)|decide) (hb : b < 4611686018427387904 := by first|omega|exact Nat.le_of_ble_eq_true rfl|(simp; done)|(simp; omega)|decide) : PV P (.binOp .or T x y T') ρ (.int .i64 ((a ||| b : Nat) : Int)) := by
  have := Zbv (P := P) (T := T) (T' := T') hx hy
  have e : (BitVec.ofInt IntKind.i64.bits (a : Int) ||| BitVec.ofInt IntKind.i64.bits (b : Int)).toNat = a ||| b := by
    show (BitVec.ofInt 64 (a : Int) ||| BitVec.ofInt 64 (b : Int)).toNat = _
    rw [ofInt_natB, ofInt_natB, BitVec.toNat_or, BitVec.toNat_ofNat, BitVec.toNat_ofNat, Nat.mod_eq_of_lt (by omega), Nat.mod_eq_of_lt (by omega)]
  have hlt : a ||| b < 2 ^ 62 := Nat.or_lt_two_pow (by omega) (by omega)
  rw [e, IntWalk.i64_in _ ⟨by omega, by omega⟩] at this
  exact this
theorem Zo2 {k' : IntKind} (hx : ev ρ x = .int .i64 (a : Int)) (hy : ev ρ y = .int k' (b : Int)) (hb : b < 64) (h : a * 2 ^ b ≤ 9223372036854775807) : PV P (.binOp .shl T x y T') ρ (.int .i64 ((a * 2 ^ b : Nat) : Int)) := by
  have := Zby (P := P) (T := T) (T' := T') hx hy (by omega)
  have e : min ((b : Int)).toNat IntKind.i64.bits = b := by show min b 64 = b; omega
  have e2 : ((a : Int) * 2 ^ b) = ((a * 2 ^ b : Nat) : Int) := by push_cast; rfl
  rw [e, e2, IntWalk.i64_in _ ⟨by omega, by omega⟩] at this
  exact this
theorem Zo3 {k' : IntKind} (hx : ev ρ x = .int .i64 (a : Int)) (hy : ev ρ y = .int k' (b : Int)) (hb : b < 64) : PV P (.binOp .shr T x y T') ρ (.int .i64 ((a / 2 ^ b : Nat) : Int)) := by
  have := Zbz (P := P) (T := T) (T' := T') hx hy (by omega)
  have e : min ((b : Int)).toNat IntKind.i64.bits = b := by show min b 64 = b; omega
  rw [e] at this
  have e2 : (a : Int).fdiv (2 ^ b) = ((a / 2 ^ b : Nat) : Int) := by
    rw [Int.fdiv_eq_ediv_of_nonneg _ (Int.pow_nonneg (by omega))]
    push_cast
    rfl
  rw [e2] at this
  exact this
end
section
variable {P : Program} {w0 : World} {ops : Array Oper} {rest : List Oper} {ρ : Env} {M R : List Asrt} {K : XK} {dst : Option Nat} {ty : TypeId} {pos : String} {after : Array Edge}
theorem Zo4 {f : Operand} {ars : Array Operand} {ts : Array TypeId} {l : Nat} {vs : List Value} {A B C : Asrt} (hf : ev ρ f = .func (.yield l) #[] #[]) (hy : Yield P l vs A B C) (ha : argL ρ #[] ars #[] = vs) (hs : Has M A R)
    (k : ∀ t : Bool, xOps P w0 ops rest (put ρ dst (.bool t)) ((if t then B else C) :: R) K) :
    xOps P w0 ops (⟨dst, .call { callee := .value f, args := ars, argTypes := ts }, ty, pos, after, none⟩ :: rest) ρ M K := Zox hf hy ha hs (k true) (k false)
end
end Go.Sl
namespace Go.Sl
open Go Go.Proofs
attribute [local irreducible] pt own old pur ex all den denOps denS xOps xC cX CX xthen xblk xcut xloop xng retX resX Calls PV Rd Con
open NetS (gates gTo gPre gRow gAt come)
attribute [local irreducible] NetS.gates NetS.gTo NetS.gPre NetS.gRow NetS.come
def lenN (n : Nat) : Nat := if n = 0 then 0 else n.log2 + 1
def padN (n : Nat) : Nat := if n = 0 then 0 else 2 ^ lenN (n - 1)
theorem lenN_le : ∀ n : Fin 256, lenN n.val ≤ 8 := by decide
theorem padN_pow : ∀ m : Fin 9, padN (2 ^ m.val) = 2 ^ m.val := by decide
theorem padN_le {n : Nat} (h : n ≤ 256) : padN n ≤ 256 := by
  unfold padN
  split
  · omega
  · have := lenN_le ⟨n - 1, by omega⟩
    exact Nat.pow_le_pow_right (by omega) this
theorem pv_len8 {P : Program} {ρ : Env} {x y : Operand} {S i : Nat} {k : IntKind} {s : ByteArray} [hs : TyStr P S] (hx : ev ρ x = .string s) (hy : ev ρ y = .int k (i : Int)) (hi : i < 256) (ht : ((List.range 256).map fun i => s[i]?) = ((List.range 256).map fun i => some (UInt8.ofBitVec (BitVec.ofNat 8 (lenN i))))) : PV P (.index S x y) ρ (.int .u8 (lenN i : Int)) := by
  have h : s[i]? = some (UInt8.ofBitVec (BitVec.ofNat 8 (lenN i))) := by
    have := congrArg (fun l => l[i]?) ht
    rw [List.getElem?_map, List.getElem?_map, List.getElem?_range hi] at this
    exact Option.some.inj this
  have h2 := Znr (P := P) (S := S) hs.h hx hy h
  have h3 : lenN i ≤ 8 := lenN_le ⟨i, hi⟩
  have e : (BitVec.ofNat 8 (lenN i)).toNat = lenN i := by rw [BitVec.toNat_ofNat]; omega
  have e2 : u8b (BitVec.ofNat 8 (lenN i)) = .int .u8 (lenN i : Int) := by
    show Value.int .u8 ((BitVec.ofNat 8 (lenN i)).toNat : Int) = _
    rw [e]
  rw [e2] at h2
  exact h2
theorem len64_x (n : Nat) (h : n < 256) : Con Tryz.prog 162 [u64b (BitVec.ofNat 64 n)] [] (fun r M => r = nvv (lenN n) ∧ M = []) := by
  have hl := lenN_le ⟨n, h⟩
  have hl : lenN n ≤ 8 := hl
  have e1 : (BitVec.ofNat 64 n).toNat = n := by rw [BitVec.toNat_ofNat]; omega
  have e2 : ((BitVec.ofNat 64 n).setWidth 8).toNat = n := by rw [BitVec.toNat_setWidth, e1]; omega
  refine fn_y Tryz.func162 Tryz.mixed ?_
  intro w0
  refine Y5 ?_
  refine Zhg (Zls (y := 4294967296#64) rfl rfl) ?_
  refine Zot 4 rfl ((by rw [e1]; show ¬ 4294967296 ≤ n; omega)) ?_
  refine Y4 ?_
  refine Zhg (Zls (y := 65536#64) rfl rfl) ?_
  refine Zot 8 rfl ((by rw [e1]; show ¬ 65536 ≤ n; omega)) ?_
  refine Y4 ?_
  refine Zhg (Zls (y := 256#64) rfl rfl) ?_
  refine Zot 14 rfl ((by rw [e1]; show ¬ 256 ≤ n; omega)) ?_
  refine Y5 ?_
  refine Zhg (Zlx rfl) ?_
  refine Zhg (pv_len8 (i := n) rfl (by exact congrArg (fun z : Nat => Value.int .u8 (z : Int)) e2) h (by kernel_rfl)) ?_
  refine Zhg (Zb5 rfl (by rw [IntWalk.i64_in _ ⟨by omega, by omega⟩])) ?_
  refine Zhg (Zma (a := 0) (b := lenN n) rfl rfl) ?_
  refine V2 ?_
  refine rx1 (Zg9 rfl (Zg7)) ?_
  exact ⟨_, ⟨by rw [Nat.zero_add], rfl⟩, qI⟩
theorem len_x (n : Nat) (h : n < 256) : Con Tryz.prog 126 [u64b (BitVec.ofNat 64 n)] [] (fun r M => r = nvv (lenN n) ∧ M = []) := by
  refine fn_y Tryz.func126 Tryz.mixed ?_
  intro w0
  refine Y6 ?_
  refine Zor (c := len64_x n h) (k := ?_)
  rintro _ _ ⟨rfl, rfl⟩
  refine V3 ?_
  refine rx1 (Zg9 rfl (Zg7)) ?_
  exact ⟨_, ⟨rfl, rfl⟩, qI⟩
theorem pad_x (n : Nat) (h : n ≤ 256) : Con Tryz.prog 92 [nvv n] [] (fun r M => r = nvv (padN n) ∧ M = []) := by
  by_cases h0 : n = 0
  · subst h0
    refine fn_y Tryz.func92 Tryz.mixed ?_
    intro w0
    refine Y6 ?_
    refine Zos 4 rfl ((by omega)) ?_
    refine V9 ?_
    refine rx1 (Zg9 rfl (Zg7)) ?_
    exact ⟨_, ⟨rfl, rfl⟩, qI⟩
  · have e : padN n = 1 * 2 ^ lenN (n - 1) := by unfold padN; rw [if_neg h0, Nat.one_mul]
    have hl := lenN_le ⟨n - 1, by omega⟩
    have hl : lenN (n - 1) ≤ 8 := hl
    have hp := padN_le h
    rw [e] at hp ⊢
    refine fn_y Tryz.func92 Tryz.mixed ?_
    intro w0
    refine Y6 ?_
    refine Zot 4 rfl ((by omega)) ?_
    refine Y3 ?_
    refine Zot 7 rfl ((by omega)) ?_
    refine Y5 ?_
    refine Zhg (Zmb (a := n) (b := 1) rfl rfl (by omega) (by omega)) ?_
    refine Zhg (Zlv rfl) ?_
    refine Zor (c := len_x (n - 1) (by omega)) (k := ?_)
    rintro _ _ ⟨rfl, rfl⟩
    refine Y1 ?_
    refine Zhg (Zo2 (a := 1) (b := lenN (n - 1)) rfl rfl (by omega) (by omega)) ?_
    refine V2 ?_
    refine rx1 (Zg9 rfl (Zg7)) ?_
    exact ⟨_, ⟨rfl, rfl⟩, qI⟩
theorem size_pow_x (m : Nat) (h : m ≤ 16) : Con Tryz.prog 128 [nvv (2 ^ m)] [] (fun r M => r = .bool true ∧ M = []) := by
  have h1 := NetS.pow_pos2 m
  have h2 : 2 ^ m ≤ 2 ^ 16 := Nat.pow_le_pow_right (by omega) h
  have e : (2 ^ m) &&& (2 ^ m - 1) = 0 := by rw [Nat.and_two_pow_sub_one_eq_mod, Nat.mod_self]
  refine fn_y Tryz.func128 Tryz.mixed ?_
  intro w0
  refine Y6 ?_
  refine Zos 4 rfl ((by omega)) ?_
  refine Y3 ?_
  refine Zos 7 rfl ((by omega)) ?_
  refine Y4 ?_
  first|refine Y0 ?_|(refine Zhh rfl ?_; (refine Zhg (Zmb (a := 2 ^ m) (b := 1) rfl rfl (by omega) (by omega)) ?_))
  first|refine Y0 ?_|(refine Zhh rfl ?_; (refine Zhg (Zo0 (a := 2 ^ m) (b := 2 ^ m - 1) rfl rfl (by omega) (by omega)) ?_))
  first|refine Y0 ?_|(refine Zhh rfl ?_; (refine Zhg (Zmj (a := 2 ^ m &&& (2 ^ m - 1)) (b := 0) rfl rfl) ?_))
  refine Zos 14 rfl (e) ?_
  refine V3 ?_
  refine rx1 (Zha rfl (Zg7)) ?_
  exact ⟨_, ⟨rfl, rfl⟩, qI⟩
theorem size_0_x : Con Tryz.prog 128 [nvv 0] [] (fun r M => r = .bool false ∧ M = []) := by
  refine fn_y Tryz.func128 Tryz.mixed ?_
  intro w0
  refine Y6 ?_
  refine Zot 4 rfl ((by omega)) ?_
  refine V13 ?_
  refine rx1 (Zha rfl (Zg7)) ?_
  exact ⟨_, ⟨rfl, rfl⟩, qI⟩
end Go.Sl
namespace Go.Sl
open Go Go.Proofs
attribute [local irreducible] pt own old pur ex all den denOps denS xOps xC cX CX xthen xblk xcut xloop xng retX resX Calls PV Rd Con
open NetS (gates gTo gPre gRow gAt come)
attribute [local irreducible] NetS.gates NetS.gTo NetS.gPre NetS.gRow NetS.come
def encG (g : Nat × Nat) : List Value := [.agg #[nvv g.1, nvv g.2]]
theorem come_hit {m p r i : Nat} (hp : p < m) (hr : r ≤ p) (hi : i < 2 ^ m) (h : ¬ i / 2 ^ (p - r) % 2 = 1) : ∃ hk : (come (2 ^ m) p r i).length < (gates m).length, (gates m)[(come (2 ^ m) p r i).length] = (if i / 2 ^ (p + 1) % 2 = 1 then (i + 2 ^ (p - r), i) else (i, i + 2 ^ (p - r))) ∧ (come (2 ^ m) p r (i + 1)).length = (come (2 ^ m) p r i).length + 1 := by
  have h1 := NetS.come_pre hp hr (i := i + 1) (by omega)
  rw [NetS.come_succ] at h1 ⊢
  have e : gAt (2 ^ (p + 1)) (2 ^ (p - r)) i = [if i / 2 ^ (p + 1) % 2 = 1 then (i + 2 ^ (p - r), i) else (i, i + 2 ^ (p - r))] := by unfold NetS.gAt; rw [if_neg h]
  rw [e] at h1 ⊢
  obtain ⟨hk, hx⟩ := NetS.pre_at h1
  exact ⟨hk, hx, by simp⟩
theorem come_miss {m p r i : Nat} (h : i / 2 ^ (p - r) % 2 = 1) : come (2 ^ m) p r (i + 1) = come (2 ^ m) p r i := by
  rw [NetS.come_succ]
  have e : gAt (2 ^ (p + 1)) (2 ^ (p - r)) i = [] := by unfold NetS.gAt; rw [if_pos h]
  rw [e, List.append_nil]
theorem bitonic0_g {b : Nat} : Gives Tryz.prog 127 [.pointer (some ⟨b, 0, none⟩)] [cl b #[nvv 0] 3] [] := by
  intro l J E hy
  refine fn_y Tryz.func127 Tryz.mixed ?_
  intro w0
  refine Zno Tryz.mixed ?_
  refine Y2 ?_
  refine Zor (c := size_0_x) (k := ?_)
  rintro _ _ ⟨rfl, rfl⟩
  refine Y1 ?_
  refine Zhg (Zb0 rfl) ?_
  refine Zhm 9 rfl (rfl) ?_
  refine V2 ?_
  first|refine rx0 ?_|refine rx0n ?_
  exact ⟨_, .inl rfl, qI⟩
theorem bitonic_g {b m : Nat} (hm : m ≤ 16) : Gives Tryz.prog 127 [.pointer (some ⟨b, 0, none⟩)] [cl b #[nvv (2 ^ m)] 3] ((gates m).map encG) := by
  intro l J E hy
  have hN : 2 ^ m ≤ 2 ^ 16 := Nat.pow_le_pow_right (by omega) hm
  have hlen : ((gates m).map encG).length = (gates m).length := by simp
  have hy2 : ∀ k (hk : k < (gates m).length), Yield Tryz.prog l (encG (gates m)[k]) (J k) (J (k + 1)) E := fun k hk => by
    have := hy k (by rw [hlen]; exact hk)
    simpa using this
  rw [hlen]
  refine fn_y Tryz.func127 Tryz.mixed ?_
  intro w0
  refine Zno Tryz.mixed ?_
  refine Y2 ?_
  refine Zor (c := size_pow_x m hm) (k := ?_)
  rintro _ _ ⟨rfl, rfl⟩
  refine Y1 ?_
  refine Zhg (Zb0 rfl) ?_
  refine Zhn 9 rfl (rfl) ?_
  refine V5 ?_
  refine Zgo [(3, 6), (10, 48)] (by kernel_rfl) (fun p : Nat => p ≤ m) (fun p => J (gTo (2 ^ m) p).length :: [cl b #[nvv (2 ^ m)] 3]) (fun p => [(3, nvv (2 ^ (p + 1)))]) (fun p => m + 1 - p) 0 (Nat.zero_le _) (by with_unfolding_all exact qI) ⟨rfl, trivial⟩ ?_
  intro p u0 hp
  have hp1 : 2 ^ (p + 1) ≤ 2 ^ 17 := Nat.pow_le_pow_right (by omega) (by omega)
  by_cases hpm : p < m
  · have hle : 2 ^ (p + 1) ≤ 2 ^ m := Nat.pow_le_pow_right (by omega) hpm
    have hhalf : 2 ^ (p + 1) / 2 ^ 1 = 2 ^ (p - 0) := by rw [Nat.pow_div (by omega) (by omega)]; congr 1
    refine Y3 ?_
    refine Zhg (Zmg (a := 2 ^ (p + 1)) (b := 2 ^ m) rfl rfl) ?_
    refine Zos 12 rfl (hle) ?_
    refine Y4 ?_
    refine Zhg (Zo3 (a := 2 ^ (p + 1)) (b := 1) rfl rfl (by omega)) ?_
    refine V2 ?_
    rw [hhalf]
    refine Zgo [(4, 6), (17, 48)] (by kernel_rfl) (fun r : Nat => r ≤ p + 1) (fun r => J (gTo (2 ^ m) p ++ gPre (2 ^ m) (2 ^ (p + 1)) p r).length :: [cl b #[nvv (2 ^ m)] 3]) (fun r => [(4, nvv (if r ≤ p then 2 ^ (p - r) else 0))]) (fun r => p + 2 - r) 0 (Nat.zero_le _) (by with_unfolding_all (rw [show gTo (2 ^ m) p ++ gPre (2 ^ m) (2 ^ (p + 1)) p 0 = gTo (2 ^ m) p from List.append_nil _]; exact qI)) ⟨by rw [if_pos (Nat.zero_le _)]; rfl, trivial⟩ ?_
    intro r u1 hr
    by_cases hrp : r ≤ p
    · have hj1 := NetS.pow_pos2 (p - r)
      have hj2 : 2 ^ (p - r) ≤ 2 ^ 16 := Nat.pow_le_pow_right (by omega) (by omega)
      rw [if_pos hrp]
      refine Y2 ?_
      refine Zhg (Zmh (a := 2 ^ (p - r)) (b := 0) rfl rfl) ?_
      refine Zos 18 rfl (hj1) ?_
      refine V6 ?_
      refine Zgo [(5, 6), (22, 48)] (by kernel_rfl) (fun i : Nat => i ≤ 2 ^ m) (fun i => J (come (2 ^ m) p r i).length :: [cl b #[nvv (2 ^ m)] 3]) (fun i => [(22, nvv i)]) (fun i => 2 ^ m - i) 0 (Nat.zero_le _) (by rw [NetS.come_0]; exact qI) ⟨rfl, trivial⟩ ?_
      intro i u2 hi
      refine V3 ?_
      refine Zgg rfl (fun hB => ?_) (fun hB => ?_)
      · refine V4 ?_
        by_cases hb : i / 2 ^ (p - r) % 2 = 1
        · have e1 : i &&& 2 ^ (p - r) ≠ 0 := fun hh => (NetS.and_pow i (p - r)).1 hh hb
          refine Y3 ?_
          refine Zhg (Zo0 (a := i) (b := 2 ^ (p - r)) rfl rfl (by omega) (by omega)) ?_
          refine Zhg (Zmk (a := i &&& 2 ^ (p - r)) (b := 0) rfl rfl) ?_
          refine Zos 28 rfl (e1) ?_
          refine V6 ?_
          rw [← come_miss (m := m) hb]
          exact Zgl (i + 1) qO (by omega) qI ⟨rfl, trivial⟩
        · have e1 := (NetS.and_pow i (p - r)).2 hb
          have e2 := NetS.or_pow hb
          obtain ⟨hk, hx, hl⟩ := come_hit hpm hrp hB hb
          have hyk := hy2 _ hk
          rw [hx, ← hl] at hyk
          refine Y3 ?_
          refine Zhg (Zo0 (a := i) (b := 2 ^ (p - r)) rfl rfl (by omega) (by omega)) ?_
          refine Zhg (Zmk (a := i &&& 2 ^ (p - r)) (b := 0) rfl rfl) ?_
          refine Zot 28 rfl ((fun hh => hh e1)) ?_
          refine Y6 ?_
          refine Zhg (Zo1 (a := i) (b := 2 ^ (p - r)) rfl rfl (by omega) (by omega)) ?_
          refine Zhg (Zdm (cs := #[nvv i, nvv (i ||| 2 ^ (p - r))]) rfl) ?_
          refine Zhz (cs := #[.int .i64 0, .int .i64 0]) rfl ?_; intro b6
          first|refine Zhy rfl rfl qR qZ (by first|rfl|assumption|(simp [oneC]; done)) qZ ?_|refine Zhx rfl rfl qR qZ (by first|rfl|assumption|(simp [oneC]; done)) qZ rfl ?_
          refine V1 ?_
          rw [e2]
          by_cases hd : i / 2 ^ (p + 1) % 2 = 1
          · have e3 : i &&& 2 ^ (p + 1) ≠ 0 := fun hh => (NetS.and_pow i (p + 1)).1 hh hd
            rw [if_pos hd] at hyk
            refine Y3 ?_
            refine Zhg (Zo0 (a := i) (b := 2 ^ (p + 1)) rfl rfl (by omega) (by omega)) ?_
            refine Zhg (Zmk (a := i &&& 2 ^ (p + 1)) (b := 0) rfl rfl) ?_
            refine Zos 37 rfl (e3) ?_
            refine Y15 ?_
            refine Zo4 rfl hyk rfl qH ?_; intro tb
            refine Zhg (Zb0 rfl) ?_
            refine V1 ?_
            refine Zgh rfl (fun ht => ?_) (fun ht => ?_)
            · obtain rfl : tb = false := by simpa using ht
              refine Ct.o ?_
              first|refine rx0 ?_|refine rx0n ?_
              exact ⟨_, .inr rfl, qI⟩
            · obtain rfl : tb = true := by simpa using ht
              refine V4 ?_
              exact Zgl (i + 1) qO (by omega) qI ⟨rfl, trivial⟩
          · have e3 := (NetS.and_pow i (p + 1)).2 hd
            rw [if_neg hd] at hyk
            refine Y3 ?_
            refine Zhg (Zo0 (a := i) (b := 2 ^ (p + 1)) rfl rfl (by omega) (by omega)) ?_
            refine Zhg (Zmk (a := i &&& 2 ^ (p + 1)) (b := 0) rfl rfl) ?_
            refine Zot 37 rfl ((fun hh => hh e3)) ?_
            refine Y5 ?_
            refine Zo4 rfl hyk rfl qH ?_; intro tb
            refine Zhg (Zb0 rfl) ?_
            refine V1 ?_
            refine Zgh rfl (fun ht => ?_) (fun ht => ?_)
            · obtain rfl : tb = false := by simpa using ht
              refine Ct.o ?_
              first|refine rx0 ?_|refine rx0n ?_
              exact ⟨_, .inr rfl, qI⟩
            · obtain rfl : tb = true := by simpa using ht
              refine V4 ?_
              exact Zgl (i + 1) qO (by omega) qI ⟨rfl, trivial⟩
      · have hie : i = 2 ^ m := by omega
        subst hie
        rw [NetS.come_row]
        have hnext : (2 ^ (p - r)) / 2 ^ 1 = if r + 1 ≤ p then 2 ^ (p - (r + 1)) else 0 := by
          by_cases h : r + 1 ≤ p
          · rw [if_pos h, Nat.pow_div (by omega) (by omega)]; congr 1
          · rw [if_neg h, show p - r = 0 by omega]
        refine Y2 ?_
        refine Zhg (Zo3 (a := 2 ^ (p - r)) (b := 1) rfl rfl (by omega)) ?_
        refine V2 ?_
        rw [hnext]
        exact Zgl (r + 1) qO (by omega) qI ⟨rfl, trivial⟩
    · obtain rfl : r = p + 1 := by omega
      rw [if_neg hrp, NetS.come_stage]
      refine Y2 ?_
      refine Zhg (Zmh (a := 0) (b := 0) rfl rfl) ?_
      refine Zot 18 rfl ((by omega)) ?_
      refine Y4 ?_
      refine Zhg (Zo2 (a := 2 ^ (p + 1)) (b := 1) rfl rfl (by omega) (by omega)) ?_
      refine V2 ?_
      rw [← Nat.pow_succ]
      exact Zgl (p + 1) qO (by omega) qI ⟨rfl, trivial⟩
  · obtain rfl : p = m := by omega
    have hgt : ¬ 2 ^ (p + 1) ≤ 2 ^ p := by
      have := NetS.pow_pos2 p
      rw [Nat.pow_succ]; omega
    refine Y3 ?_
    refine Zhg (Zmg (a := 2 ^ (p + 1)) (b := 2 ^ p) rfl rfl) ?_
    refine Zot 12 rfl (hgt) ?_
    refine V2 ?_
    first|refine rx0 ?_|refine rx0n ?_
    exact ⟨_, .inl rfl, by with_unfolding_all exact qI⟩
theorem bitonic_x (n : Nat) : Con Tryz.prog 93 [nvv n] [] (fun r M => ∃ b, r = .func (.func 127) #[] #[.pointer (some ⟨b, 0, none⟩)] ∧ M = [cl b #[nvv n] 3]) := by
  refine fn_y Tryz.func93 Tryz.mixed ?_
  intro w0
  refine Y1 ?_
  refine Zh1 rfl ?_; intro b1
  refine V6 ?_
  refine rx1 (Zg8 rfl (Zg7)) ?_
  exact ⟨_, ⟨b1, rfl, rfl⟩, qI⟩
end Go.Sl
namespace Go.Sl
open Go
def yesM (b : Bool) : BitVec 64 := if b then 18446744073709551615#64 else 0#64
theorem yesM_and (a b : Bool) : yesM a &&& yesM b = yesM (a && b) := by cases a <;> cases b <;> decide
theorem yesM_or (a b : Bool) : yesM a ||| yesM b = yesM (a || b) := by cases a <;> cases b <;> decide
theorem yesM_xor (a b : Bool) : yesM a ^^^ yesM b = yesM (a ^^ b) := by cases a <;> cases b <;> decide
theorem yesM_eq0 (a : Bool) : yesM a = 0#64 ↔ a = false := by cases a <;> decide
theorem shr63 (v : BitVec 64) : v >>> 63 = if v.msb then 1#64 else 0#64 := by
  apply BitVec.eq_of_toNat_eq
  rw [BitVec.toNat_ushiftRight, Nat.shiftRight_eq_div_pow, BitVec.msb_eq_decide]
  have := v.isLt
  by_cases h : 2 ^ (64 - 1) ≤ v.toNat
  · rw [decide_eq_true h]
    show _ = 1
    omega
  · rw [decide_eq_false h]
    show _ = 0
    omega
theorem bitM (b : Bool) : 0#64 - ((if b then 1#64 else 0#64) &&& 1#64) = yesM b := by cases b <;> decide
theorem bitN (b : Bool) : 0#64 - (((if b then 1#64 else 0#64) ^^^ 1#64) &&& 1#64) = yesM (!b) := by cases b <;> decide
theorem zeroB_is (x : BitVec 64) : zeroB x = yesM (decide (x = 0#64)) := by
  unfold zeroB
  rw [shr63, bitN]
  congr 1
  rw [BitVec.msb_or, BitVec.msb_eq_decide, BitVec.msb_eq_decide, BitVec.toNat_sub]
  have := x.isLt
  by_cases h : x = 0#64
  · subst h; decide
  · have h0 : x.toNat ≠ 0 := fun hh => h (BitVec.eq_of_toNat_eq hh)
    rw [decide_eq_false h]
    have e0 : (0#64 : BitVec 64).toNat = 0 := rfl
    rw [e0]
    by_cases h1 : 2 ^ (64 - 1) ≤ x.toNat
    · rw [decide_eq_true h1]; rfl
    · rw [decide_eq_false h1, decide_eq_true (by omega)]; rfl
def lessB (x y : BitVec 64) : BitVec 64 := 0#64 - ((((~~~ x &&& y) ||| ((~~~ x ||| y) &&& (x - y))) >>> 63) &&& 1#64)
theorem lessB_is {x y : BitVec 64} (hx : x.toNat < 9223372036854775808) (hy : y.toNat < 9223372036854775808) : lessB x y = yesM (decide (x.toNat < y.toNat)) := by
  unfold lessB
  rw [shr63, bitM]
  congr 1
  have mx : x.msb = false := by rw [BitVec.msb_eq_decide]; exact decide_eq_false (by omega)
  have my : y.msb = false := by rw [BitVec.msb_eq_decide]; exact decide_eq_false (by omega)
  have md : (x - y).msb = decide (x.toNat < y.toNat) := by
    rw [BitVec.msb_eq_decide, BitVec.toNat_sub]
    have := x.isLt
    by_cases h : x.toNat < y.toNat
    · rw [decide_eq_true h]; exact decide_eq_true (by omega)
    · rw [decide_eq_false h]; exact decide_eq_false (by omega)
  have mn : (~~~ x).msb = true := by rw [BitVec.msb_not, mx]; rfl
  rw [BitVec.msb_or, BitVec.msb_and, BitVec.msb_and, BitVec.msb_or, mn, my, md]
  simp
theorem pickB (b : Bool) (x y : BitVec 64) : y ^^^ (yesM b &&& (x ^^^ y)) = if b then x else y := by
  cases b with
  | false => show y ^^^ (0#64 &&& _) = y; simp
  | true =>
    show y ^^^ (18446744073709551615#64 &&& (x ^^^ y)) = x
    have : (18446744073709551615#64 : BitVec 64) = BitVec.allOnes 64 := by decide
    rw [this, BitVec.allOnes_and, BitVec.xor_comm x y, ← BitVec.xor_assoc, BitVec.xor_self, BitVec.zero_xor]
def ltB : List Byte → List Byte → Bool
  | [], [] => false
  | [], _ :: _ => true
  | _ :: _, [] => false
  | x :: a, y :: b => if x = y then ltB a b else decide (x.toNat < y.toNat)
theorem ltB_rest : ∀ (l r a b : List Byte), l.length = r.length → ltB (l ++ a) (r ++ b) = (ltB l r || (decide (l = r) && ltB a b))
  | [], [], a, b, _ => by simp [ltB]
  | x :: l, y :: r, a, b, h => by
    have ih := ltB_rest l r a b (by simpa using h)
    simp only [List.cons_append, ltB]
    by_cases e : x = y
    · subst e
      rw [if_pos rfl, if_pos rfl, ih]
      simp
    · rw [if_neg e, if_neg e]
      simp [e]
  | [], _ :: _, _, _, h => by simp at h
  | _ :: _, [], _, _, h => by simp at h
theorem ltB_one (x y : Byte) : ltB [x] [y] = decide (x.toNat < y.toNat) := by
  unfold ltB
  by_cases e : x = y
  · subst e; rw [if_pos rfl]; simp [ltB]
  · rw [if_neg e]
theorem ltB_step {a b : List Byte} {i : Nat} (ha : i < a.length) (hb : i < b.length) : ltB (a.take (i + 1)) (b.take (i + 1)) = (ltB (a.take i) (b.take i) || (decide (a.take i = b.take i) && decide (a[i].toNat < b[i].toNat))) := by
  rw [List.take_succ_eq_append_getElem ha, List.take_succ_eq_append_getElem hb, ltB_rest _ _ _ _ (by rw [List.length_take, List.length_take]; omega), ltB_one]
theorem eqT_step {a b : List Byte} {i : Nat} (ha : i < a.length) (hb : i < b.length) : decide (a.take (i + 1) = b.take (i + 1)) = (decide (a.take i = b.take i) && decide (a[i] = b[i])) := by
  rw [List.take_succ_eq_append_getElem ha, List.take_succ_eq_append_getElem hb, ← Bool.decide_and]
  apply decide_eq_decide.2
  constructor
  · intro h
    have h1 := List.append_inj h (by rw [List.length_take, List.length_take]; omega)
    exact ⟨h1.1, by simpa using h1.2⟩
  · rintro ⟨h1, h2⟩; rw [h1, h2]
theorem ltB_end (a b : List Byte) : ltB a b = (ltB (a.take (min a.length b.length)) (b.take (min a.length b.length)) || (decide (a.take (min a.length b.length) = b.take (min a.length b.length)) && decide (a.length < b.length))) := by
  have h := ltB_rest (a.take (min a.length b.length)) (b.take (min a.length b.length)) (a.drop (min a.length b.length)) (b.drop (min a.length b.length)) (by rw [List.length_take, List.length_take]; omega)
  rw [List.take_append_drop, List.take_append_drop] at h
  rw [h]
  congr 2
  by_cases hl : a.length < b.length
  · rw [Nat.min_eq_left (by omega), List.drop_length, decide_eq_true hl]
    cases hd : b.drop a.length with
    | nil => have := congrArg List.length hd; simp at this; omega
    | cons y r => rfl
  · rw [Nat.min_eq_right (by omega), List.drop_length, decide_eq_false hl]
    cases a.drop b.length <;> rfl
def trd (m : Byte) (x y : Byte) : Byte := m &&& (x ^^^ y)
def tradeT (m : Byte) (A B : List Byte) (i : Nat) : List Byte × List Byte :=
  ((List.range A.length).map fun k => if k < i then A.getD k 0#8 ^^^ trd m (A.getD k 0#8) (B.getD k 0#8) else A.getD k 0#8, (List.range B.length).map fun k => if k < i then B.getD k 0#8 ^^^ trd m (A.getD k 0#8) (B.getD k 0#8) else B.getD k 0#8)
def tradeB (m : BitVec 64) (A B : List Byte) : List Byte × List Byte := tradeT (m.setWidth 8) A B A.length
theorem tradeT_len (m : Byte) (A B : List Byte) (i : Nat) : (tradeT m A B i).1.length = A.length ∧ (tradeT m A B i).2.length = B.length := by simp [tradeT]
theorem range_self (A : List Byte) : (List.range A.length).map (fun k => A.getD k 0#8) = A := by
  apply List.ext_getElem (by simp)
  intro j h1 h2
  simp [h2]
theorem tradeT_zero (m : Byte) (A B : List Byte) : tradeT m A B 0 = (A, B) := by
  unfold tradeT
  simp only [Nat.not_lt_zero, if_false, range_self]
theorem tradeT_at (m : Byte) {A B : List Byte} {i : Nat} (ha : i < A.length) (hb : i < B.length) : (tradeT m A B i).1[i]'(by rw [(tradeT_len m A B i).1]; exact ha) = A[i] ∧ (tradeT m A B i).2[i]'(by rw [(tradeT_len m A B i).2]; exact hb) = B[i] := by
  simp [tradeT, ha, hb]
theorem tradeT_set1 (m : Byte) {A B : List Byte} {i : Nat} (ha : i < A.length) (hb : i < B.length) : (tradeT m A B i).1.set i (A[i] ^^^ trd m A[i] B[i]) = (tradeT m A B (i + 1)).1 := by
  apply List.ext_getElem (by simp [tradeT])
  intro j h1 h2
  rw [List.getElem_set]
  simp only [tradeT, List.getElem_map, List.getElem_range]
  by_cases e : i = j
  · subst e
    rw [if_pos rfl, if_pos (by omega)]; simp only [List.getD_eq_getElem?_getD, List.getElem?_eq_getElem ha, List.getElem?_eq_getElem hb, Option.getD_some]
  · rw [if_neg e]
    by_cases e2 : j < i
    · rw [if_pos e2, if_pos (by omega)]
    · rw [if_neg e2, if_neg (by omega)]
theorem tradeT_set2 (m : Byte) {A B : List Byte} {i : Nat} (ha : i < A.length) (hb : i < B.length) : (tradeT m A B i).2.set i (B[i] ^^^ trd m A[i] B[i]) = (tradeT m A B (i + 1)).2 := by
  apply List.ext_getElem (by simp [tradeT])
  intro j h1 h2
  rw [List.getElem_set]
  simp only [tradeT, List.getElem_map, List.getElem_range]
  by_cases e : i = j
  · subst e
    rw [if_pos rfl, if_pos (by omega)]; simp only [List.getD_eq_getElem?_getD, List.getElem?_eq_getElem ha, List.getElem?_eq_getElem hb, Option.getD_some]
  · rw [if_neg e]
    by_cases e2 : j < i
    · rw [if_pos e2, if_pos (by omega)]
    · rw [if_neg e2, if_neg (by omega)]
theorem tradeB_len (m : BitVec 64) (A B : List Byte) : (tradeB m A B).1.length = A.length ∧ (tradeB m A B).2.length = B.length := tradeT_len _ _ _ _
-- records
def isR (r : List Byte) : Bool := decide (26 ≤ r.length) && decide ((r.getD 0 0#8).toNat < 2) && decide ((r.getD 1 0#8).toNat < 2)
def liveR (r : List Byte) : Bool := isR r && decide (r.getD 0 0#8 = 1#8)
def num4 (r : List Byte) (k : Nat) : BitVec 32 := lowB 32 ((r.drop k).take 4)
def grpR (r : List Byte) : List Byte := (r.drop 10).take 16
def byIdx (a b : List Byte) : Bool := (isR a && isR b) && decide ((num4 a 2).toNat < (num4 b 2).toNat)
def byGrp (a b : List Byte) : Bool :=
  (isR a && isR b) && (if liveR a ^^ liveR b then liveR a else if liveR a then (if ltB (grpR a) (grpR b) || ltB (grpR b) (grpR a) then ltB (grpR a) (grpR b) else byIdx a b) else byIdx a b)
end Go.Sl
namespace Go.Sl
open Go Go.Proofs
attribute [local irreducible] pt own old pur ex all den denOps denS xOps xC cX CX xthen xblk xcut xloop xng retX resX Calls PV Rd Con
theorem less_x (x y : BitVec 64) (hx : x.toNat < 9223372036854775808) (hy : y.toNat < 9223372036854775808) : Con Tryz.prog 89 [u64b x, u64b y] [] (fun r M => r = u64b (yesM (decide (x.toNat < y.toNat))) ∧ M = []) := by
  rw [← lessB_is hx hy]
  refine fn_y Tryz.func89 Tryz.mixed ?_
  intro w0
  refine Y5 ?_
  refine Zhg (Zll rfl) ?_
  refine Y3 ?_
  refine Zhg (Zll rfl) ?_
  refine Y4 ?_
  refine Zhg (Zld rfl rfl) ?_
  refine Y2 ?_
  refine Zhg (Zlk (m := 63) rfl rfl) ?_
  refine Zor (c := bit_x _) (k := ?_)
  rintro _ _ ⟨rfl, rfl⟩
  refine V3 ?_
  refine rx1 (Zg9 rfl (Zg7)) ?_
  exact ⟨_, ⟨rfl, rfl⟩, by exact Imp.arr (by repeat (first|exact Arr.nil|exact Arr.stop|refine Arr.cons (by repeat constructor) ?_|refine Arr.skip ?_))⟩
theorem equal_x (x y : BitVec 64) : Con Tryz.prog 123 [u64b x, u64b y] [] (fun r M => r = u64b (yesM (decide (x = y))) ∧ M = []) := by
  have e : zeroB (x ^^^ y) = yesM (decide (x = y)) := by
    rw [zeroB_is]
    congr 1
    apply decide_eq_decide.2
    exact ⟨fun h => by have := congrArg (fun z => z ^^^ y) h; simpa [BitVec.xor_assoc] using this, fun h => by rw [h, BitVec.xor_self]⟩
  rw [← e]
  refine fn_y Tryz.func123 Tryz.mixed ?_
  intro w0
  refine Y7 ?_
  refine Zor (c := zero_x _) (k := ?_)
  rintro _ _ ⟨rfl, rfl⟩
  refine V3 ?_
  refine rx1 (Zg9 rfl (Zg7)) ?_
  exact ⟨_, ⟨rfl, rfl⟩, by exact Imp.arr (by repeat (first|exact Arr.nil|exact Arr.stop|refine Arr.cons (by repeat constructor) ?_|refine Arr.skip ?_))⟩
theorem pick_x (b : Bool) (x y : BitVec 64) : Con Tryz.prog 88 [u64b (yesM b), u64b x, u64b y] [] (fun r M => r = u64b (if b then x else y) ∧ M = []) := by
  rw [← pickB b x y]
  refine fn_y Tryz.func88 Tryz.mixed ?_
  intro w0
  refine V13 ?_
  refine rx1 (Zg9 rfl (Zg7)) ?_
  exact ⟨_, ⟨rfl, rfl⟩, by exact Imp.arr (by repeat (first|exact Arr.nil|exact Arr.stop|refine Arr.cons (by repeat constructor) ?_|refine Arr.skip ?_))⟩
theorem byte64 (x : Byte) : (x.setWidth 64).toNat = x.toNat := by
  have := x.isLt
  rw [BitVec.toNat_setWidth]
  omega
theorem byte64_eq (x y : Byte) : decide (x.setWidth 64 = y.setWidth 64) = decide (x = y) := by
  apply decide_eq_decide.2
  constructor
  · intro h
    have := congrArg BitVec.toNat h
    rw [byte64, byte64] at this
    exact BitVec.eq_of_toNat_eq this
  · intro h; rw [h]
theorem before_x {L : List Asrt} {va vb : Value} {a b : List Byte} (ha : Bs L va a) (hb : Bs L vb b) : Con Tryz.prog 87 [va, vb] L (fun r M => r = u64b (yesM (ltB a b)) ∧ L = M) := by
  refine Con.get (fun w0 w F H => ha.sh _ _ _ H) ?_
  rintro ⟨aa, ac, rfl, hac, hacm⟩
  refine Con.get (fun w0 w F H => hb.sh _ _ _ H) ?_
  rintro ⟨ba, bc, rfl, hbc, hbcm⟩
  have hmin : (min (a.length : Int) (b.length : Int)) = ((min a.length b.length : Nat) : Int) := by omega
  refine fn_y Tryz.func87 Tryz.mixed ?_
  intro w0
  refine V11 ?_
  rw [hmin]
  refine V10 ?_
  refine Zgo [(6, 10), (17, 42)] (by kernel_rfl) (fun i : Nat => i ≤ min a.length b.length) (fun _ => L) (fun i => [(6, u64b (yesM (decide (a.take i = b.take i)))), (7, u64b (yesM (ltB (a.take i) (b.take i)))), (17, nvv i)]) (fun i => min a.length b.length - i) 0 (by omega) qI ⟨by rw [List.take_zero, List.take_zero]; rfl, by rw [List.take_zero, List.take_zero]; rfl, rfl, trivial⟩ ?_
  intro i u hi
  refine V3 ?_
  refine Zgg rfl (fun hB => ?_) (fun hB => ?_)
  · have hB1 : i < a.length := by omega
    have hB2 : i < b.length := by omega
    refine Zgt (fun F w H => ha.some (by omega) H) ?_
    rintro ⟨a1, a2, rfl⟩
    refine Zgt (fun F w H => hb.some (by omega) H) ?_
    rintro ⟨a3, a4, rfl⟩
    have l1 := less_x (a[i].setWidth 64) (b[i].setWidth 64) (by rw [byte64]; omega) (by rw [byte64]; omega)
    have l2 := equal_x (a[i].setWidth 64) (b[i].setWidth 64)
    rw [byte64, byte64] at l1
    rw [byte64_eq] at l2
    refine V4 ?_
    refine Zij (L) [8, 9] (.q 0 (.q 1 (.q 2 (.q 5 (.q 6 (.q 7 (.r 3 (.q 4 (.q 10 (.r 8 (.r 9 (.q 11 .nil)))))))))))) (by kernel_rfl) (by kernel_rfl) (Imp.arr qV) ?_
    refine W6 ?_
    refine Zfh rfl rfl (ha.rd.at hB1 (getM hB1)) ?_
    refine Zim rfl (Zjx rfl) ?_
    refine W1 ?_
    refine Zfh rfl rfl (hb.rd.at hB2 (getM hB2)) ?_
    refine Ziz rfl (Zjx rfl) ?_
    refine W2 ?_
    refine Y5 ?_
    refine Zor (c := l1) (k := ?_)
    rintro _ _ ⟨rfl, rfl⟩
    refine Y9 ?_
    refine Zor (c := l2) (k := ?_)
    rintro _ _ ⟨rfl, rfl⟩
    refine V8 ?_
    exact Zgl (i + 1) qO (by omega) qI ⟨by rw [eqT_step hB1 hB2, ← yesM_and]; rfl, by rw [ltB_step hB1 hB2, ← yesM_or, ← yesM_and]; rfl, rfl, trivial⟩
  · have hie : i = min a.length b.length := by omega
    have l1 := less_x (BitVec.ofNat 64 a.length) (BitVec.ofNat 64 b.length) (by rw [BitVec.toNat_ofNat]; omega) (by rw [BitVec.toNat_ofNat]; omega)
    rw [BitVec.toNat_ofNat, BitVec.toNat_ofNat, Nat.mod_eq_of_lt (by omega), Nat.mod_eq_of_lt (by omega)] at l1
    have e9 := ltB_end a b
    rw [← hie] at e9
    refine Y5 ?_
    refine Zhg (Zlv rfl) ?_
    refine Y2 ?_
    refine Zhg (Zlv rfl) ?_
    refine Zor (c := l1) (k := ?_)
    rintro _ _ ⟨rfl, rfl⟩
    refine V5 ?_
    refine rx1 (Zg9 rfl (Zg7)) ?_
    exact ⟨_, ⟨by rw [e9, ← yesM_or, ← yesM_and], rfl⟩, qI⟩
theorem trade_x {L : List Asrt} {a b n : Nat} (m : BitVec 64) {A B : List Byte} (hA : A.length = n) (hB : B.length = n) (hn : n ≤ 4096) : Con Tryz.prog 95 [u64b m, fsl a n, fsl b n] (blk a A :: blk b B :: L) (fun r M => r = nvv 0 ∧ blk a (tradeB m A B).1 :: blk b (tradeB m A B).2 :: L = M) := by
  refine fn_y Tryz.func95 Tryz.mixed ?_
  intro w0
  refine Y9 ?_
  refine Zot 13 rfl ((fun hh => hh rfl)) ?_
  refine V7 ?_
  refine Zgo [(7, 8), (16, 45)] (by kernel_rfl) (fun i : Nat => i ≤ n) (fun i => blk a (tradeT (m.setWidth 8) A B i).1 :: blk b (tradeT (m.setWidth 8) A B i).2 :: L) (fun i => [(16, nvv i)]) (fun i => n - i) 0 (Nat.zero_le _) (by rw [tradeT_zero]; exact qI) ⟨rfl, trivial⟩ ?_
  intro i u hi
  obtain ⟨hl1, hl2⟩ := tradeT_len (m.setWidth 8) A B i
  refine V3 ?_
  refine Zgg rfl (fun hC => ?_) (fun hC => ?_)
  · obtain ⟨g1, g2⟩ := tradeT_at (m.setWidth 8) (A := A) (B := B) (i := i) (by omega) (by omega)
    refine V4 ?_
    refine Zij ((blk a (tradeT (m.setWidth 8) A B i).1 :: blk b (tradeT (m.setWidth 8) A B i).2 :: L)) [9] (.q 0 (.q 1 (.q 2 (.q 3 (.q 4 (.q 6 (.q 7 (.q 8 (.r 5 (.r 9 (.q 10 (.q 11 (.q 12 .nil))))))))))))) (by kernel_rfl) (by kernel_rfl) (Imp.arr qV) ?_
    refine W1 ?_
    refine Zim rfl (Zlx rfl) ?_
    refine W6 ?_
    refine Ziv rfl rfl qH ((getL (f := u8b) (l := (tradeT (m.setWidth 8) A B i).1) (by omega)).trans (by rw [g1])) ?_
    refine Ziv rfl rfl qH ((getL (f := u8b) (l := (tradeT (m.setWidth 8) A B i).2) (by omega)).trans (by rw [g2])) ?_
    refine Zim rfl (Zje (x := A[i]) (y := B[i]) rfl rfl) ?_
    refine Zim rfl (Zjc (x := m.setWidth 8) (y := A[i] ^^^ B[i]) rfl rfl) ?_
    refine W2 ?_
    refine Y4 ?_
    refine Zhp rfl qH ((getL (f := u8b) (l := (tradeT (m.setWidth 8) A B i).1) (by omega)).trans (by rw [g1])) ?_
    refine Y1 ?_
    refine Zhg (Zje (x := A[i]) (y := trd (m.setWidth 8) A[i] B[i]) rfl rfl) ?_
    refine Y1 ?_
    refine Zht rfl rfl qR qZ (setL (f := u8b) (l := (tradeT (m.setWidth 8) A B i).1)) ?_
    refine Y5 ?_
    refine Zhp rfl qH ((getL (f := u8b) (l := (tradeT (m.setWidth 8) A B i).2) (by omega)).trans (by rw [g2])) ?_
    refine Y1 ?_
    refine Zhg (Zje (x := B[i]) (y := trd (m.setWidth 8) A[i] B[i]) rfl rfl) ?_
    refine Y1 ?_
    refine Zht rfl rfl qR qZ (setL (f := u8b) (l := (tradeT (m.setWidth 8) A B i).2)) ?_
    refine V1 ?_
    rw [tradeT_set1 _ (by omega) (by omega), tradeT_set2 _ (by omega) (by omega)]
    refine V4 ?_
    exact Zgl (i + 1) qO (by omega) qI ⟨rfl, trivial⟩
  · have hie : i = A.length := by omega
    subst hie
    refine V3 ?_
    refine rx1 (Zg9 rfl (Zg7)) ?_
    exact ⟨_, ⟨rfl, rfl⟩, qI⟩
end Go.Sl
namespace Go.Sl
open Go Go.Proofs
attribute [local irreducible] pt own old pur ex all den denOps denS xOps xC cX CX xthen xblk xcut xloop xng retX resX Calls PV Rd Con
attribute [local irreducible] lowB
section
variable {L : List Asrt} {v vb : Value} {r b : List Byte}
theorem r_get {l : List Byte} {k : Nat} (hk : k < l.length) : (l.map u8b)[k]? = some (u8b (l.getD k 0#8)) := by
  rw [List.getElem?_map, List.getElem?_eq_getElem hk, List.getD_eq_getElem?_getD, List.getElem?_eq_getElem hk]; rfl
theorem rcIs_x (h : Bs L v r) : Con Tryz.prog 84 [v] L (fun x M => x = u64b (yesM (isR r)) ∧ L = M) := by
  refine Con.get (fun w0 w F H => h.sh _ _ _ H) ?_
  rintro ⟨a, c, rfl, hac, hacm⟩
  by_cases h26 : r.length < 26
  · have e : isR r = false := by unfold isR; rw [decide_eq_false (by omega)]; rfl
    rw [e]
    refine fn_y Tryz.func84 Tryz.mixed ?_
    intro w0
    refine Y7 ?_
    refine Zos 5 rfl (h26) ?_
    refine V5 ?_
    refine rx1 (Zg9 rfl (Zg7)) ?_
    exact ⟨_, ⟨rfl, rfl⟩, qI⟩
  · have e : isR r = (decide ((r.getD 0 0#8).toNat < 2) && decide ((r.getD 1 0#8).toNat < 2)) := by unfold isR; rw [decide_eq_true (by omega)]; rfl
    rw [e, ← yesM_and]
    refine Con.get (fun w0 w F H => h.some (by omega) H) ?_
    rintro ⟨g, o, rfl⟩
    have l1 := less_x ((r.getD 0 0#8).setWidth 64) 2#64 (by rw [byte64]; omega) (by decide)
    have l2 := less_x ((r.getD 1 0#8).setWidth 64) 2#64 (by rw [byte64]; omega) (by decide)
    rw [byte64] at l1 l2
    have k1 := h.rd.at (j := 0) (by omega) (r_get (by omega))
    rw [Nat.add_zero] at k1
    refine fn_y Tryz.func84 Tryz.mixed ?_
    intro w0
    refine Y7 ?_
    refine Zot 5 rfl (h26) ?_
    refine V2 ?_
    refine Zij (L) [4, 7, 8] (.q 0 (.q 1 (.q 5 (.q 6 (.r 2 (.q 3 (.r 7 (.r 8 (.e 4 true (.e 9 false (.q 10 (.q 11 .nil)))))))))))) (by kernel_rfl) (by kernel_rfl) (Imp.arr qV) ?_
    refine W1 ?_
    first|refine Zim rfl (Zl4 (n := 0) rfl rfl) ?_|refine Zim rfl (Zl1 (n := 0) rfl rfl) ?_
    refine W1 ?_
    first|refine Zim rfl (Zl4 (n := 1) rfl rfl) ?_|refine Zim rfl (Zl1 (n := 1) rfl rfl) ?_
    refine Zfh rfl rfl (k1) ?_
    refine Zim rfl (Zjx rfl) ?_
    refine Zfh rfl rfl (h.rd.at (j := 1) (by omega) (r_get (by omega))) ?_
    refine Ziz rfl (Zjx rfl) ?_
    refine Ziq rfl ?_
    refine Zor (c := l1) (k := ?_)
    rintro _ _ ⟨rfl, rfl⟩
    refine Y1 ?_
    refine Zg3 ⟨fun _ => Imp.arr qV, ?_⟩
    refine Ziq rfl ?_
    refine Zor (c := l2) (k := ?_)
    rintro _ _ ⟨rfl, rfl⟩
    refine Y1 ?_
    refine Zg3 ⟨(fun hh => Bool.noConfusion hh), ?_⟩
    refine W3 ?_
    refine Ct.o ?_
    refine rx1 (Zg9 rfl (Zg7)) ?_
    exact ⟨_, ⟨rfl, rfl⟩, qI⟩
theorem bs_cut {g o c l n : Nat} (h : Bs L (.slice (some ⟨g, o, none⟩) r.length c) r) (hc : r.length ≤ c) (hl : l + n ≤ r.length) (hn : 0 < n) : Bs L (.slice (some ⟨g, o + l, none⟩) n (c - l)) ((r.drop l).take n) := by
  have h1 := bs_drop h (k := l) (by omega) (by omega)
  have e : r.length - l = (r.drop l).length := by simp
  rw [e] at h1
  exact h1.take (by rw [List.length_drop]; omega)
theorem number_x (h : Bs L v r) (k : Nat) (hk : k + 4 ≤ r.length) (hk2 : k ≤ 1000) : Con Tryz.prog 90 [v, nvv k] L (fun x M => x = u32b (num4 r k) ∧ L = M) := by
  refine Con.get (fun w0 w F H => h.sh _ _ _ H) ?_
  rintro ⟨a, c, rfl, hac, hacm⟩
  refine Con.get (fun w0 w F H => h.some (by omega) H) ?_
  rintro ⟨g, o, rfl⟩
  have hb := bs_cut h hac (l := k) (n := 4) hk (by omega)
  have hlen : ((r.drop k).take 4).length = 4 := by rw [List.length_take, List.length_drop]; omega
  have hln := little32_x hb hlen
  have e4 : k + 4 - k = 4 := by omega
  unfold num4
  refine fn_y Tryz.func90 Tryz.mixed ?_
  intro w0
  refine Y8 ?_
  refine Zhg (Zmz (l := k) (h := k + 4) rfl rfl rfl (by omega) (by omega) (by omega)) ?_
  rw [e4]; refine Zor (c := hln) (k := ?_); rintro _ _ ⟨rfl, rfl⟩; refine Zg2 qA ?_
  refine V10 ?_
  refine rx1 (Zg9 rfl (Zg7)) ?_
  exact ⟨_, ⟨rfl, rfl⟩, qI⟩
theorem live_x (h : Bs L v r) : Con Tryz.prog 85 [v] L (fun x M => x = u64b (yesM (liveR r)) ∧ L = M) := by
  refine Con.get (fun w0 w F H => h.sh _ _ _ H) ?_
  rintro ⟨a, c, rfl, hac, hacm⟩
  by_cases hi : isR r = true
  · have h26 : 26 ≤ r.length := by unfold isR at hi; simp at hi; omega
    have e : liveR r = decide (r.getD 0 0#8 = 1#8) := by unfold liveR; rw [hi]; rfl
    rw [e]
    refine Con.get (fun w0 w F H => h.some (by omega) H) ?_
    rintro ⟨g, o, rfl⟩
    have l1 := equal_x ((r.getD 0 0#8).setWidth 64) 1#64
    rw [show (1#64 : BitVec 64) = (1#8 : Byte).setWidth 64 by decide, byte64_eq] at l1
    have l1 : Con Tryz.prog 123 [u64b ((r.getD 0 0#8).setWidth 64), u64b 1#64] [] (fun x M => x = u64b (yesM (decide (r.getD 0 0#8 = 1#8))) ∧ M = []) := l1
    have k1 := h.rd.at (j := 0) (by omega) (r_get (by omega))
    rw [Nat.add_zero] at k1
    refine fn_y Tryz.func85 Tryz.mixed ?_
    intro w0
    refine Y5 ?_
    refine Zor (c := rcIs_x h) (k := ?_)
    rintro _ _ ⟨rfl, rfl⟩
    refine Y1 ?_
    refine Zhg (Zln (x := yesM (isR r)) (y := 0#64) rfl rfl) ?_
    refine Zot 5 rfl ((fun hh => by rw [yesM_eq0, hi] at hh; cases hh)) ?_
    refine Y4 ?_
    first|refine Zhg (Zl4 (n := 0) rfl rfl) ?_|refine Zhg (Zl1 (n := 0) rfl rfl) ?_
    refine Zff rfl (k1) ?_
    refine Zhg (Zjx rfl) ?_
    refine Zor (c := l1) (k := ?_)
    rintro _ _ ⟨rfl, rfl⟩
    refine V3 ?_
    refine rx1 (Zg9 rfl (Zg7)) ?_
    exact ⟨_, ⟨rfl, rfl⟩, qI⟩
  · have e : liveR r = false := by unfold liveR; rw [Bool.not_eq_true] at hi; rw [hi]; rfl
    rw [e]
    refine fn_y Tryz.func85 Tryz.mixed ?_
    intro w0
    refine Y5 ?_
    refine Zor (c := rcIs_x h) (k := ?_)
    rintro _ _ ⟨rfl, rfl⟩
    refine Y1 ?_
    refine Zhg (Zln (x := yesM (isR r)) (y := 0#64) rfl rfl) ?_
    refine Zos 5 rfl ((by rw [yesM_eq0]; simpa using hi)) ?_
    refine V5 ?_
    refine rx1 (Zg9 rfl (Zg7)) ?_
    exact ⟨_, ⟨rfl, rfl⟩, qI⟩
theorem u32_64 (x : BitVec 32) : (x.setWidth 64).toNat = x.toNat := by
  have := x.isLt
  rw [BitVec.toNat_setWidth]
  omega
theorem isR_len {r : List Byte} (hi : isR r = true) : 26 ≤ r.length := by unfold isR at hi; simp at hi; omega
theorem byIdx_x (h : Bs L v r) (hb : Bs L vb b) : Con Tryz.prog 47 [v, vb] L (fun x M => x = u64b (yesM (byIdx r b)) ∧ L = M) := by
  by_cases hi : (isR r && isR b) = true
  · have e : byIdx r b = decide ((num4 r 2).toNat < (num4 b 2).toNat) := by unfold byIdx; rw [hi]; rfl
    rw [e]
    have h1 : isR r = true := (Bool.and_eq_true _ _ ▸ hi).1
    have h2 : isR b = true := (Bool.and_eq_true _ _ ▸ hi).2
    have i1 := isR_len h1
    have i2 := isR_len h2
    have l1 := less_x ((num4 r 2).setWidth 64) ((num4 b 2).setWidth 64) (by rw [u32_64]; omega) (by rw [u32_64]; omega)
    rw [u32_64, u32_64] at l1
    refine fn_y Tryz.func47 Tryz.mixed ?_
    intro w0
    refine Y5 ?_
    refine Zor (c := rcIs_x h) (k := ?_)
    rintro _ _ ⟨rfl, rfl⟩
    refine Y2 ?_
    refine Zor (c := rcIs_x hb) (k := ?_)
    rintro _ _ ⟨rfl, rfl⟩
    refine Y1 ?_
    refine Zhg (Zlf (x := yesM (isR r)) (y := yesM (isR b)) rfl rfl) ?_
    refine Zhg (Zln (x := yesM (isR r) &&& yesM (isR b)) (y := 0#64) rfl rfl) ?_
    refine Zot 10 rfl ((fun hh => by rw [yesM_and, yesM_eq0, hi] at hh; cases hh)) ?_
    refine Y4 ?_
    refine Zor (c := number_x h 2 (by omega) (by omega)) (k := ?_)
    rintro _ _ ⟨rfl, rfl⟩
    refine Y1 ?_
    refine Zhg (Zlb rfl) ?_
    refine Y1 ?_
    refine Zor (c := number_x hb 2 (by omega) (by omega)) (k := ?_)
    rintro _ _ ⟨rfl, rfl⟩
    refine Y1 ?_
    refine Zhg (Zlb rfl) ?_
    refine Zor (c := l1) (k := ?_)
    rintro _ _ ⟨rfl, rfl⟩
    refine V3 ?_
    refine rx1 (Zg9 rfl (Zg7)) ?_
    exact ⟨_, ⟨rfl, rfl⟩, qI⟩
  · have e : byIdx r b = false := by unfold byIdx; rw [Bool.not_eq_true] at hi; rw [hi]; rfl
    rw [e]
    refine fn_y Tryz.func47 Tryz.mixed ?_
    intro w0
    refine Y5 ?_
    refine Zor (c := rcIs_x h) (k := ?_)
    rintro _ _ ⟨rfl, rfl⟩
    refine Y2 ?_
    refine Zor (c := rcIs_x hb) (k := ?_)
    rintro _ _ ⟨rfl, rfl⟩
    refine Y1 ?_
    refine Zhg (Zlf (x := yesM (isR r)) (y := yesM (isR b)) rfl rfl) ?_
    refine Zhg (Zln (x := yesM (isR r) &&& yesM (isR b)) (y := 0#64) rfl rfl) ?_
    refine Zos 10 rfl ((by rw [yesM_and, yesM_eq0]; simpa using hi)) ?_
    refine V5 ?_
    refine rx1 (Zg9 rfl (Zg7)) ?_
    exact ⟨_, ⟨rfl, rfl⟩, qI⟩
end
end Go.Sl
namespace Go.Sl
open Go Go.Proofs
attribute [local irreducible] pt own old pur ex all den denOps denS xOps xC cX CX xthen xblk xcut xloop xng retX resX Calls PV Rd Con
attribute [local irreducible] lowB
theorem Rd.ag {M : List Asrt} {b o m k : Nat} {xs : List Value} (h : Rd M 1 (.slice (some ⟨b, o, none⟩) m k) m xs) (hm : 0 < m) : RdAg M b o m xs.toArray := by
  unfold Rd at h
  unfold RdAg
  intro _ _ _ H
  obtain ⟨hx, h2⟩ := h _ _ _ H
  rcases h2 with ⟨a, k', _, h0⟩|⟨b', o', k', c, E, fr, hv, hb, hle, he⟩
  · omega
  · simp only [Value.slice.injEq, Option.some.injEq, Addr.mk.injEq] at hv
    obtain ⟨⟨rfl, rfl, _⟩, _, rfl⟩ := hv
    refine ⟨c, E, fr, hb, by omega, ?_⟩
    apply Array.ext'
    rw [← he, Nat.mul_one]
section
variable {L : List Asrt} {v vb : Value} {r b : List Byte}
theorem group_x (h : Bs L v r) (hr : 26 ≤ r.length) : Con Tryz.prog 86 [v] L (fun x M => x = .agg ((grpR r).map u8b).toArray ∧ L = M) := by
  refine Con.get (fun w0 w F H => h.sh _ _ _ H) ?_
  rintro ⟨a, c, rfl, hac, hacm⟩
  refine Con.get (fun w0 w F H => h.some (by omega) H) ?_
  rintro ⟨g, o, rfl⟩
  have hb := bs_cut h hac (l := 10) (n := 16) (by omega) (by omega)
  have hlen : (grpR r).length = 16 := by unfold grpR; rw [List.length_take, List.length_drop]; omega
  have hag := hb.rd
  have e16 : ((r.drop 10).take 16).length = 16 := hlen
  rw [e16] at hag
  have hag2 := Rd.ag hag (by omega)
  have hag3 : RdAg L g (o + 10) 16 ((grpR r).map u8b).toArray := hag2
  have hsz : ((grpR r).map u8b).toArray.size = 16 := by simp [hlen]
  refine fn_y Tryz.func86 Tryz.mixed ?_
  intro w0
  refine Y1 ?_
  refine Zhz (cs := ((List.replicate 16 0#8).map u8b).toArray) rfl ?_; intro b2
  refine Y3 ?_
  refine Zhg (Zmz (l := 10) (h := 26) rfl rfl rfl (by omega) (by omega) (by omega)) ?_
  refine Zhg (Zl9 rfl) ?_
  refine Zfg rfl ((hag3.imp qI)) ?_
  first|refine Zhy rfl rfl qR qZ (by first|rfl|exact oneM_u8 _|exact oneL_u8 _|assumption|(simp [oneC]; done)) qZ ?_|refine Zhx rfl rfl qR qZ (by first|rfl|exact oneM_u8 _|exact oneL_u8 _|assumption|(simp [oneC]; done)) qZ rfl ?_
  refine V1 ?_
  refine rx1 (Zhe rfl qH qZ (Zg7)) ?_
  exact ⟨_, ⟨rfl, rfl⟩, qI⟩
theorem byGrp_x (h : Bs L v r) (hb : Bs L vb b) : Con Tryz.prog 46 [v, vb] L (fun x M => x = u64b (yesM (byGrp r b)) ∧ L = M) := by
  by_cases hi : (isR r && isR b) = true
  · have e : byGrp r b = (if liveR r ^^ liveR b then liveR r else if liveR r then (if ltB (grpR r) (grpR b) || ltB (grpR b) (grpR r) then ltB (grpR r) (grpR b) else byIdx r b) else byIdx r b) := by unfold byGrp; rw [hi]; rfl
    have h1 : isR r = true := (Bool.and_eq_true _ _ ▸ hi).1
    have h2 : isR b = true := (Bool.and_eq_true _ _ ▸ hi).2
    have i1 := isR_len h1
    have i2 := isR_len h2
    have s1 : ((grpR r).map u8b).toArray.size = 16 := by unfold grpR; simp; omega
    have s2 : ((grpR b).map u8b).toArray.size = 16 := by unfold grpR; simp; omega
    have l1 : (grpR r).length = 16 := by simpa using s1
    have l2 : (grpR b).length = 16 := by simpa using s2
    have p1 := pick_x (ltB (grpR r) (grpR b) || ltB (grpR b) (grpR r)) (yesM (ltB (grpR r) (grpR b))) (yesM (byIdx r b))
    have e1 : (if ltB (grpR r) (grpR b) || ltB (grpR b) (grpR r) then yesM (ltB (grpR r) (grpR b)) else yesM (byIdx r b)) = yesM (if ltB (grpR r) (grpR b) || ltB (grpR b) (grpR r) then ltB (grpR r) (grpR b) else byIdx r b) := by split <;> rfl
    rw [e1] at p1
    generalize hal : (if ltB (grpR r) (grpR b) || ltB (grpR b) (grpR r) then ltB (grpR r) (grpR b) else byIdx r b) = al at *
    have p2 := pick_x (liveR r) (yesM al) (yesM (byIdx r b))
    have e2 : (if liveR r then yesM al else yesM (byIdx r b)) = yesM (if liveR r then al else byIdx r b) := by split <;> rfl
    rw [e2] at p2
    have p3 := pick_x (liveR r ^^ liveR b) (yesM (liveR r)) (yesM (if liveR r then al else byIdx r b))
    have e3 : (if liveR r ^^ liveR b then yesM (liveR r) else yesM (if liveR r then al else byIdx r b)) = yesM (if liveR r ^^ liveR b then liveR r else if liveR r then al else byIdx r b) := by split <;> rfl
    rw [e3] at p3
    rw [e]
    rw [← yesM_or] at p1
    rw [← yesM_xor] at p3
    refine fn_y Tryz.func46 Tryz.mixed ?_
    intro w0
    refine Y5 ?_
    refine Zor (c := rcIs_x h) (k := ?_)
    rintro _ _ ⟨rfl, rfl⟩
    refine Y2 ?_
    refine Zor (c := rcIs_x hb) (k := ?_)
    rintro _ _ ⟨rfl, rfl⟩
    refine Y1 ?_
    refine Zhg (Zlf (x := yesM (isR r)) (y := yesM (isR b)) rfl rfl) ?_
    refine Y4 ?_
    refine Zhg (Zln (x := yesM (isR r) &&& yesM (isR b)) (y := 0#64) rfl rfl) ?_
    refine Zot 20 rfl ((fun hh => by rw [yesM_and, yesM_eq0, hi] at hh; cases hh)) ?_
    refine Y4 ?_
    refine Zor (c := live_x h) (k := ?_)
    rintro _ _ ⟨rfl, rfl⟩
    refine Y2 ?_
    refine Zor (c := live_x hb) (k := ?_)
    rintro _ _ ⟨rfl, rfl⟩
    refine Y6 ?_
    refine Zor (c := group_x h i1) (k := ?_)
    rintro _ _ ⟨rfl, rfl⟩
    refine Y2 ?_
    refine Zor (c := group_x hb i2) (k := ?_)
    rintro _ _ ⟨rfl, rfl⟩
    refine Y1 ?_
    refine Zhz (cs := ((List.replicate 16 0#8).map u8b).toArray) rfl ?_; intro b8
    refine Zhz (cs := ((List.replicate 16 0#8).map u8b).toArray) rfl ?_; intro b9
    first|refine Zhy rfl rfl qR qZ (by first|rfl|exact oneM_u8 _|exact oneL_u8 _|assumption|(simp [oneC]; done)) qZ ?_|refine Zhx rfl rfl qR qZ (by first|rfl|exact oneM_u8 _|exact oneL_u8 _|assumption|(simp [oneC]; done)) qZ rfl ?_
    first|refine Zhy rfl rfl qR qZ (by first|rfl|exact oneM_u8 _|exact oneL_u8 _|assumption|(simp [oneC]; done)) qZ ?_|refine Zhx rfl rfl qR qZ (by first|rfl|exact oneM_u8 _|exact oneL_u8 _|assumption|(simp [oneC]; done)) qZ rfl ?_
    refine V1 ?_
    have q1 : Bs [cl b8 ((grpR r).map u8b).toArray 161, cl b9 ((grpR b).map u8b).toArray 161] (.slice (some ⟨b8, 0, none⟩) 16 16) (grpR r) := bs_full qH l1 (by omega)
    have q2 : Bs [cl b8 ((grpR r).map u8b).toArray 161, cl b9 ((grpR b).map u8b).toArray 161] (.slice (some ⟨b9, 0, none⟩) 16 16) (grpR b) := bs_full qH l2 (by omega)
    refine Ct.o ?_
    refine Zij ([]) [] (.q 0 (.q 1 (.e 2 false (.q 3 .nil)))) (by kernel_rfl) (by kernel_rfl) (Imp.arr Arr.stop) ?_
    refine Zim rfl (Zmy (h := 16) rfl rfl) ?_
    refine Zim rfl (Zmy (h := 16) rfl rfl) ?_
    refine Ziq rfl ?_
    refine Zor (c := before_x q1 q2) (k := ?_)
    rintro _ _ ⟨rfl, rfl⟩
    refine Y1 ?_
    refine Zg3 ⟨(fun hh => Bool.noConfusion hh), ?_⟩
    refine W2 ?_
    refine Ct.o ?_
    refine Zij ([]) [] (.q 0 (.q 1 (.e 2 false (.q 3 .nil)))) (by kernel_rfl) (by kernel_rfl) (Imp.arr Arr.stop) ?_
    refine Zim rfl (Zmy (h := 16) rfl rfl) ?_
    refine Zim rfl (Zmy (h := 16) rfl rfl) ?_
    refine Ziq rfl ?_
    refine Zor (c := before_x q2 q1) (k := ?_)
    rintro _ _ ⟨rfl, rfl⟩
    refine Y1 ?_
    refine Zg3 ⟨(fun hh => Bool.noConfusion hh), ?_⟩
    refine W2 ?_
    refine Y3 ?_
    refine Zor (c := byIdx_x h hb) (k := ?_)
    rintro _ _ ⟨rfl, rfl⟩
    refine Y6 ?_
    refine Zhg (Zlg (x := yesM (ltB (grpR r) (grpR b))) (y := yesM (ltB (grpR b) (grpR r))) rfl rfl) ?_
    refine Y2 ?_
    refine Zor (c := p1) (k := ?_)
    rintro _ _ ⟨rfl, rfl⟩
    refine Y6 ?_
    refine Zhg (Zlh (x := yesM (liveR r)) (y := yesM (liveR b)) rfl rfl) ?_
    refine Y4 ?_
    refine Zor (c := p2) (k := ?_)
    rintro _ _ ⟨rfl, rfl⟩
    refine Y1 ?_
    refine Zor (c := p3) (k := ?_)
    rintro _ _ ⟨rfl, rfl⟩
    refine V3 ?_
    refine rx1 (Zg9 rfl (Zg7)) ?_
    exact ⟨_, ⟨rfl, rfl⟩, qI⟩
  · have e : byGrp r b = false := by unfold byGrp; rw [Bool.not_eq_true] at hi; rw [hi]; rfl
    rw [e]
    refine fn_y Tryz.func46 Tryz.mixed ?_
    intro w0
    refine Y5 ?_
    refine Zor (c := rcIs_x h) (k := ?_)
    rintro _ _ ⟨rfl, rfl⟩
    refine Y2 ?_
    refine Zor (c := rcIs_x hb) (k := ?_)
    rintro _ _ ⟨rfl, rfl⟩
    refine Y1 ?_
    refine Zhg (Zlf (x := yesM (isR r)) (y := yesM (isR b)) rfl rfl) ?_
    refine Y4 ?_
    refine Zhg (Zln (x := yesM (isR r) &&& yesM (isR b)) (y := 0#64) rfl rfl) ?_
    refine Zos 20 rfl ((by rw [yesM_and, yesM_eq0]; simpa using hi)) ?_
    refine V5 ?_
    refine rx1 (Zg9 rfl (Zg7)) ?_
    exact ⟨_, ⟨rfl, rfl⟩, qI⟩
end
end Go.Sl
namespace Go.Sl.NetS
theorem gAt_len (k j i : Nat) : (gAt k j i).length ≤ 1 := by unfold gAt; split <;> simp
theorem flat_len {α β : Type} (f : α → List β) (h : ∀ a, (f a).length ≤ 1) : ∀ l : List α, (l.flatMap f).length ≤ l.length
  | [] => by simp
  | a :: l => by
    have := flat_len f h l
    have := h a
    rw [List.flatMap_cons, List.length_append, List.length_cons]
    omega
theorem gRow_len (n k j : Nat) : (gRow n k j).length ≤ n := by
  have := flat_len (gAt k j) (gAt_len k j) (List.range n)
  rwa [List.length_range] at this
theorem gStage_len (n k : Nat) : ∀ q, (gStage n k q).length ≤ n * (q + 1)
  | 0 => by show (gRow n k 1).length ≤ _; have := gRow_len n k 1; omega
  | q + 1 => by
    show (gRow n k _ ++ gStage n k q).length ≤ _
    have h1 := gRow_len n k (2 ^ (q + 1))
    have h2 := gStage_len n k q
    rw [List.length_append, Nat.mul_succ]
    omega
theorem gTo_len (n : Nat) : ∀ p, (gTo n p).length ≤ n * (p * p)
  | 0 => by show 0 ≤ _; omega
  | p + 1 => by
    show (gTo n p ++ gStage n _ p).length ≤ _
    have h1 := gTo_len n p
    have h2 := gStage_len n (2 ^ (p + 1)) p
    have e : n * ((p + 1) * (p + 1)) = n * (p * p) + (n * (p + 1) + n * p) := by
      have : (p + 1) * (p + 1) = p * p + ((p + 1) + p) := by rw [Nat.add_mul, Nat.mul_add]; omega
      rw [this, Nat.mul_add, Nat.mul_add]
    rw [List.length_append, e]
    omega
theorem gates_len {m : Nat} (h : m ≤ 8) : (gates m).length ≤ 16384 := by
  have h1 := gTo_len (2 ^ m) m
  have h2 : 2 ^ m ≤ 2 ^ 8 := Nat.pow_le_pow_right (by omega) h
  have h3 : m * m ≤ 8 * 8 := Nat.mul_le_mul h h
  have h4 : 2 ^ m * (m * m) ≤ 2 ^ 8 * (8 * 8) := Nat.mul_le_mul h2 h3
  unfold gates
  omega
def pairG (μ : Row → Row → BitVec 64) (rows : List Row) (g : Nat × Nat) : List Row :=
  (rows.set g.1 (Go.Sl.tradeB (μ (rows.getD g.2 []) (rows.getD g.1 [])) (rows.getD g.1 []) (rows.getD g.2 [])).1).set g.2 (Go.Sl.tradeB (μ (rows.getD g.2 []) (rows.getD g.1 [])) (rows.getD g.1 []) (rows.getD g.2 [])).2
end Go.Sl.NetS
namespace Go.Sl
open Go Go.Proofs
attribute [local irreducible] pt own old pur ex all den denOps denS xOps xC cX CX xthen xblk xcut xloop xng retX resX Calls PV Rd Con
attribute [local irreducible] hostA pgA qsA NetS.gates xS xT xround
open SlotS (SL Acc Fit QI slv)
open PagerS (PS Over)
open NetS (gates pairG)
theorem twin_x {L : List Asrt} {v : Value} {l : List Byte} (h : Bs L v l) (hl : l.length ≤ 1000000) : Con Tryz.prog 96 [v] L (fun r M => ∃ a c, r = .slice a l.length c ∧ M = ownB a c l :: L) := by
  refine Con.get (fun w0 w F H => h.sh _ _ _ H) ?_
  rintro ⟨va, vc, rfl, hvc, hvcm⟩
  refine fn_y Tryz.func96 Tryz.mixed ?_
  intro w0
  refine Y1 ?_
  refine Zhg (Za2 rfl) ?_; refine Zgw (Imp.own_nil (E := 5) (size := 1)) ?_
  refine Y3 ?_
  refine Zia rfl rfl qH ((h.rd.imp Imp.tail)) (by first|rfl|exact oneM_u8 _|exact oneL_u8 _|exact acc_one _|exact acc_ones _|assumption|(simp [oneC]; done)) (by omega) qS ?_; intro a3 c3
  refine V2 ?_
  refine rx1 (Zhc rfl (Zg7)) ?_
  refine ⟨_, ⟨a3, c3, by rw [Nat.zero_add], rfl⟩, ?_⟩
  unfold ownB
  rw [Nat.zero_add, List.nil_append]
  exact qI
structure BCon (F : FuncId) (fi ca : Array Value) (n : Nat) (X : List Asrt) (μ : List Byte → List Byte → BitVec 64) : Prop where
  callable : callable Tryz.prog F = true
  con : ∀ (a1 a2 : Option Addr) (c1 c2 : Nat) A B, A.length = n → B.length = n → Con Tryz.prog F (fi.toList ++ [.slice a1 n c1, .slice a2 n c2] ++ ca.toList) (ownB a1 c1 A :: ownB a2 c2 B :: X) (fun r M => r = u64b (μ A B) ∧ M = X)
section
variable {F : FuncId} {fi ca : Array Value} {X : List Asrt} {μ : List Byte → List Byte → BitVec 64} {n g a b : Nat} {A B : List Byte}
theorem soOne_x (hc : BCon F fi ca n X μ) (hA : A.length = n) (hB : B.length = n) (hn : n ≤ 4096) :
    Con Tryz.prog 94 [fsl a n, fsl b n, .pointer (some ⟨g, 0, none⟩)] (blk a A :: blk b B :: cl g #[.func (.func F) fi ca] 92 :: X) (fun r M => M = blk a (tradeB (μ B A) A B).1 :: blk b (tradeB (μ B A) A B).2 :: cl g #[.func (.func F) fi ca] 92 :: X) := by
  have t1 := twin_x (L := [blk b B]) (v := fsl b n) (bs_full (l := B) .here hB (by omega)) (by omega)
  have t2 := twin_x (L := [blk a A]) (v := fsl a n) (bs_full (l := A) .here hA (by omega)) (by omega)
  rw [hB] at t1
  rw [hA] at t2
  have tr := trade_x (L := []) (a := a) (b := b) (μ B A) hA hB hn
  refine fn_y Tryz.func94 Tryz.mixed ?_
  intro w0
  refine Ct.o ?_
  refine Zij ([cl g #[.func (.func F) fi ca] 92]) [2, 4] (.q 1 (.q 3 (.q 6 (.q 7 (.r 0 (.e 2 true (.e 4 true (.e 5 false (.e 8 false .nil))))))))) (by kernel_rfl) (by kernel_rfl) (Imp.arr qV) ?_
  refine W5 ?_
  refine Ziq rfl ?_
  refine Zor (c := t1) (k := ?_)
  rintro _ _ ⟨a1, c1, rfl, rfl⟩
  refine Y1 ?_
  refine Zg3 ⟨fun _ => Imp.arr qV, ?_⟩
  refine Ziq rfl ?_
  refine Zor (c := t2) (k := ?_)
  rintro _ _ ⟨a2, c2, rfl, rfl⟩
  refine Y1 ?_
  refine Zg3 ⟨fun _ => Imp.arr qV, ?_⟩
  refine Ziq rfl ?_; refine Zh8 rfl hc.callable (hc.con a1 a2 c1 c2 B A hB hA) rfl qT ?_; rintro _ _ ⟨rfl, rfl⟩; refine Zg2 qA ?_; refine Zg3 ⟨(fun hh => Bool.noConfusion hh), ?_⟩
  refine Ziq rfl ?_
  refine Zor (c := tr) (k := ?_)
  rintro _ _ ⟨rfl, rfl⟩
  refine Y1 ?_
  refine Zg3 ⟨(fun hh => Bool.noConfusion hh), ?_⟩
  refine Zik ?_
  refine Ct.o ?_
  all_goals
    first|refine rx0 ?_|refine rx0n ?_
    exact ⟨_, rfl, qI⟩
theorem soOne_con (hc : BCon F fi ca n X μ) (hn : n ≤ 4096) : FCon 94 #[] #[.pointer (some ⟨g, 0, none⟩)] n (cl g #[.func (.func F) fi ca] 92 :: X) (fun A B => tradeB (μ B A) A B) (fun _ _ _ _ Z => Z = cl g #[.func (.func F) fi ca] 92 :: X) :=
  ⟨by kernel_rfl, fun A B hA hB => ⟨(tradeB_len _ A B).1.trans hA, (tradeB_len _ A B).2.trans hB⟩, fun a b A B hA hB => (soOne_x hc hA hB hn).mono fun r M hM => ⟨M, Imp.refl _, _, rfl, hM⟩⟩
end
section
variable {q pp ph : Nat} {s0 : SL} {tg : PS × HostS.HS} {rows : List (List Byte)} {log : List Acc} {L : List Asrt} {F : FuncId} {fi ca : Array Value} {μ : List Byte → List Byte → BitVec 64}
theorem sfits_x (n : Nat) (h : n ≤ s0.n) : Con Tryz.prog 91 [hp q, nvv n] [qsA q pp ph s0 tg rows log] (fun r M => r = nvv 0 ∧ M = [qsA q pp ph s0 tg rows log]) := by
  refine fn_y Tryz.func91 Tryz.mixed ?_
  intro w0
  refine Y6 ?_
  refine Zhn 6 rfl (rfl) ?_
  refine Y5 ?_
  refine Zot 8 rfl ((by omega)) ?_
  refine Y3 ?_
  first|refine Y0 ?_|(refine Zhh rfl ?_; (refine Zor (c := qlen_x) (k := ?_)); (rintro _ _ ⟨rfl, rfl⟩); (refine Zg2 qA ?_))
  first|refine Y0 ?_|(refine Zhh rfl ?_; (refine Zhg (Zmh (a := n) (b := s0.n) rfl rfl) ?_))
  refine Zot 13 rfl ((by omega)) ?_
  refine V6 ?_
  refine rx1 (Zg9 rfl (Zg7)) ?_
  exact ⟨_, ⟨rfl, rfl⟩, qI⟩
def accG (g : Nat × Nat) : Acc := (2, (g.1 : Int), (g.2 : Int))
theorem soSort_x {n m : Nat} {gs : List (Nat × Nat)} (hn : n ≤ 256) (hns : n ≤ s0.n) (hpad : padN n = n) (hgs : ∀ b, Gives Tryz.prog 127 [.pointer (some ⟨b, 0, none⟩)] [cl b #[nvv n] 3] (gs.map encG)) (hok : ∀ g ∈ gs, NetS.okG s0.n g) (hlog : log.length + gs.length ≤ 2000000) (hz : s0.size ≤ 4096) (hc : BCon F fi ca s0.size L μ) :
    Con Tryz.prog 50 [hp q, nvv n, .func (.func F) fi ca] (qsA q pp ph s0 tg rows log :: L) (fun r M => r = nvv 0 ∧ M = qsA q pp ph s0 tg (gs.foldl (pairG μ) rows) (log ++ gs.map accG) :: L) := by
  refine fn_s (n := 33) Tryz.func50 rfl rfl (by kernel_rfl) ?_
  intro w0
  refine xS_seq Tryz.mixed rfl (by kernel_rfl) ?_
  refine Y1 ?_
  refine Zh3 rfl ?_; intro b3
  refine Zh0 (v := .func (.func F) fi ca) (cs := #[.func (.func F) fi ca]) rfl rfl ?_; intro b5
  refine Zhz (cs := #[.int .i64 0]) rfl ?_; intro b6
  refine V1 ?_
  refine xS_seq Tryz.mixed rfl (by kernel_rfl) ?_
  refine Y3 ?_
  refine Zor (c := sfits_x (q := q) (pp := pp) (ph := ph) (s0 := s0) (tg := tg) (rows := rows) (log := log) n hns) (k := ?_)
  rintro _ _ ⟨rfl, rfl⟩
  refine Y6 ?_
  refine Zot 14 rfl ((fun hh => hh rfl)) ?_
  refine V2 ?_
  refine xS_seq Tryz.mixed rfl (by kernel_rfl) ?_
  refine Y3 ?_
  refine Zor (c := pad_x n hn) (k := ?_)
  rintro _ _ ⟨rfl, rfl⟩
  refine Y1 ?_
  refine Zhg (Zmk (a := n) (b := padN n) rfl rfl) ?_
  refine Zot 19 rfl ((fun hh => hh hpad.symm)) ?_
  refine V2 ?_
  refine xS_t ?_
  refine xT_seq Tryz.mixed rfl (by kernel_rfl) ?_
  refine Y2 ?_
  refine Zor (c := bitonic_x n) (k := ?_)
  rintro _ _ ⟨bn, rfl, rfl⟩
  refine V2 ?_
  refine xT_rf Tryz.mixed rfl (gf := 127) (lb := #[.pointer (some ⟨bn, 0, none⟩)]) (Mi := [cl bn #[nvv n] 3]) (N := qsA q pp ph s0 tg rows log :: cl b6 #[.int .i64 0] 22 :: cl b5 #[.func (.func F) fi ca] 92 :: cl b3 #[hp q] 28 :: L) (xs := gs.map encG) rfl (by kernel_rfl) (hgs bn) (by exact Imp.refl _) (by kernel_rfl) (fun v hv => by obtain ⟨g, _, rfl⟩ := List.mem_map.1 hv; rfl)
    (S := Nat) (T := Empty) (fun k s => s = k) (fun k => qsA q pp ph s0 tg ((gs.take k).foldl (pairG μ) rows) (log ++ (gs.take k).map accG) :: cl b6 #[.int .i64 0] 22 :: cl b5 #[.func (.func F) fi ca] 92 :: cl b3 #[hp q] 28 :: L) (fun e => e.elim) 0 rfl (by rw [List.take_zero]; show Imp _ (qsA q pp ph s0 tg rows (log ++ []) :: _); rw [List.append_nil]; exact Imp.refl _) ?round ?done (fun t => t.elim)
  case round =>
    rintro k hk s w0 hs
    obtain rfl : k = s := (show s = k from hs).symm
    have hk2 : k < gs.length := by simpa using hk
    have ek : (gs.map encG)[k] = encG gs[k] := by simp
    rw [ek]
    show xC _ _ _ (put _ (some 22) (.agg #[nvv gs[k].1, nvv gs[k].2])) _ _
    obtain ⟨h1, h2, h3⟩ := hok _ (List.getElem_mem hk2)
    have hlk : (log ++ (gs.take k).map accG).length ≤ 2000000 := by simp; omega
    have hp2 := qpair_x (q := q) (pp := pp) (ph := ph) (tg := tg) (rows := (gs.take k).foldl (pairG μ) rows) (log := log ++ (gs.take k).map accG) hlk h1 h2 h3 (soOne_con (g := b5) hc hz)
    have e1 : pairR (fun A B => tradeB (μ B A) A B) ((gs.take k).foldl (pairG μ) rows) gs[k].1 gs[k].2 = (gs.take (k + 1)).foldl (pairG μ) rows := by
      rw [List.take_succ_eq_append_getElem hk2, List.foldl_append]
      rfl
    have e2 : (log ++ (gs.take k).map accG) ++ [(2, (gs[k].1 : Int), (gs[k].2 : Int))] = log ++ (gs.take (k + 1)).map accG := by
      rw [List.take_succ_eq_append_getElem hk2, List.map_append, List.append_assoc]
      rfl
    rw [e1, e2] at hp2
    generalize gs[k] = gk at *
    refine Y1 ?_
    refine Zhz (cs := #[.int .i64 0, .int .i64 0]) rfl ?_; intro b8
    first|refine Zhy rfl rfl qR qZ (by first|rfl|exact oneM_u8 _|exact oneL_u8 _|exact acc_one _|exact acc_ones _|assumption|(simp [oneC]; done)) qZ ?_|refine Zhx rfl rfl qR qZ (by first|rfl|exact oneM_u8 _|exact oneL_u8 _|exact acc_one _|exact acc_ones _|assumption|(simp [oneC]; done)) qZ rfl ?_
    refine Y8 ?_
    refine Zor (c := hp2) (k := ?_)
    rintro _ _ ⟨rfl, a1, a2, Z, rfl, rfl⟩
    refine Y6 ?_
    refine Zot 31 rfl ((fun hh => hh rfl)) ?_
    refine V2 ?_
    exact Zoy (k + 1) rfl qI
  case done =>
    rintro s D hs
    obtain rfl : s = gs.length := (show s = _ from hs).trans (by simp)
    rw [List.take_length]
    refine xS_c (rs := [.cell 6 22]) Tryz.mixed rfl (by kernel_rfl) ?_
    refine Zgp Imp.fst ?_
    refine V3 ?_
    refine rx1 (Zhf rfl qH (Zg7)) ?_
    exact ⟨_, ⟨rfl, rfl⟩, qI⟩
end
end Go.Sl
namespace Go.Sl
open Go Go.Proofs
attribute [local irreducible] pt own old pur ex all den denOps denS xOps xC cX CX xthen xblk xcut xloop xng retX resX Calls PV Rd Con
attribute [local irreducible] hostA pgA qsA NetS.gates xS xT xround
open SlotS (SL Acc Fit QI slv)
open PagerS (PS Over)
open NetS (gates pairG)
theorem drop2 {A B : Asrt} {L : List Asrt} : Imp (A :: B :: L) L := Imp.tail.trans Imp.tail
theorem byIdx_con {n : Nat} {L : List Asrt} : BCon 47 #[] #[] n L (fun a b => yesM (byIdx a b)) :=
  ⟨by kernel_rfl, fun a1 a2 c1 c2 A B hA hB => by
    subst hA
    have h1 : Bs (ownB a1 c1 A :: ownB a2 c2 B :: L) (.slice a1 A.length c1) A := Bs.own .here
    have h2 : Bs (ownB a1 c1 A :: ownB a2 c2 B :: L) (.slice a2 A.length c2) B := by rw [← hB]; exact Bs.own (.there .here)
    refine (byIdx_x h1 h2).mono ?_
    rintro r M ⟨h3, h4⟩
    subst h4
    exact ⟨_, drop2, h3, rfl⟩⟩
theorem byGrp_con {n : Nat} {L : List Asrt} : BCon 46 #[] #[] n L (fun a b => yesM (byGrp a b)) :=
  ⟨by kernel_rfl, fun a1 a2 c1 c2 A B hA hB => by
    subst hA
    have h1 : Bs (ownB a1 c1 A :: ownB a2 c2 B :: L) (.slice a1 A.length c1) A := Bs.own .here
    have h2 : Bs (ownB a1 c1 A :: ownB a2 c2 B :: L) (.slice a2 A.length c2) B := by rw [← hB]; exact Bs.own (.there .here)
    refine (byGrp_x h1 h2).mono ?_
    rintro r M ⟨h3, h4⟩
    subst h4
    exact ⟨_, drop2, h3, rfl⟩⟩
def orW (μ : List Byte → List Byte → BitVec 64) (rows : List (List Byte)) : Nat → BitVec 64
  | 0 => 0#64
  | i + 1 => if 0 < i then orW μ rows i ||| μ (rows.getD i []) (rows.getD (i - 1) []) else orW μ rows i
def getsL (i : Nat) : List Acc := (List.range i).map fun k : Nat => ((0, (k : Int), 0) : Acc)
theorem getsL_succ (i : Nat) : getsL (i + 1) = getsL i ++ [(0, (i : Int), 0)] := by unfold getsL; rw [List.range_succ, List.map_append]; rfl
theorem getsL_len (i : Nat) : (getsL i).length = i := by unfold getsL; simp
def lastR (rows : List (List Byte)) (i : Nat) : List Byte := if 0 < i then rows.getD (i - 1) [] else []
section
variable {q pp ph : Nat} {s0 : SL} {tg : PS × HostS.HS} {rows : List (List Byte)} {log : List Acc} {L : List Asrt} {F : FuncId} {fi ca : Array Value} {μ : List Byte → List Byte → BitVec 64}
theorem soSorted_x {n : Nat} (hns : n ≤ s0.n) (hn : n ≤ 1000) (hlog : log.length + n ≤ 2000000) (hz : s0.size ≤ 4096) (hrl : ∀ k, k < s0.n → (rows.getD k []).length = s0.size) (hc : BCon F fi ca s0.size L μ) :
    Con Tryz.prog 51 [hp q, nvv n, .func (.func F) fi ca] (qsA q pp ph s0 tg rows log :: L) (fun r M => r = .tuple #[.bool (decide (orW μ rows n = 0#64)), nvv 0] ∧ M = qsA q pp ph s0 tg rows (log ++ getsL n) :: L) := by
  refine fn_y Tryz.func51 Tryz.mixed ?_
  intro w0
  refine Y7 ?_
  refine Zor (c := sfits_x (q := q) (pp := pp) (ph := ph) (s0 := s0) (tg := tg) (rows := rows) (log := log) n hns) (k := ?_)
  rintro _ _ ⟨rfl, rfl⟩
  refine Y6 ?_
  refine Zot 18 rfl ((fun hh => hh rfl)) ?_
  refine V12 ?_
  refine Zgo [(6, 7), (9, 13), (21, 43)] (by kernel_rfl) (fun s : Nat × Option Addr × Nat => s.1 ≤ n) (fun s => qsA q pp ph s0 tg rows (log ++ getsL s.1) :: ownB s.2.1 s.2.2 (lastR rows s.1) :: L) (fun s => [(9, .slice s.2.1 (lastR rows s.1).length s.2.2), (10, u64b (orW μ rows s.1)), (21, nvv s.1)]) (fun s => n - s.1) (0, none, 0) (Nat.zero_le _) (by show Imp _ (qsA q pp ph s0 tg rows (log ++ []) :: ownB none 0 [] :: L); rw [List.append_nil]; exact (Imp.cons Imp.own_nil)) ⟨rfl, rfl, rfl, trivial⟩ ?_
  rintro ⟨i, la, lc⟩ u hi
  dsimp only at hi ⊢
  refine V3 ?_
  refine Zgg rfl (fun hB => ?_) (fun hB => ?_)
  · have hgt := qget_x (q := q) (pp := pp) (ph := ph) (s0 := s0) (tg := tg) (rows := rows) (log := log ++ getsL i) (by rw [List.length_append, getsL_len]; omega) (m := i) (by omega)
    have hri := hrl i (by omega)
    have e1 : lastR rows (i + 1) = rows.getD i [] := by unfold lastR; rw [if_pos (by omega), Nat.add_sub_cancel]
    have e2 : log ++ getsL i ++ [(0, (i : Int), 0)] = log ++ getsL (i + 1) := by rw [getsL_succ, List.append_assoc]
    rw [e2] at hgt
    by_cases h0 : 0 < i
    · have hrj := hrl (i - 1) (by omega)
      have e3 : lastR rows i = rows.getD (i - 1) [] := by unfold lastR; rw [if_pos h0]
      have e4 : orW μ rows (i + 1) = orW μ rows i ||| μ (rows.getD i []) (rows.getD (i - 1) []) := by show (if 0 < i then _ else _) = _; rw [if_pos h0]
      have htw := fun ga gc => twin_x (L := [ownB ga gc (rows.getD i [])]) (v := .slice ga (rows.getD i []).length gc) (Bs.own .here) (by omega)
      have hbe := fun a1 c1 a2 c2 => hc.con a1 a2 c1 c2 (rows.getD i []) (rows.getD (i - 1) []) hri hrj
      rw [hri] at hgt htw
      rw [e3, hrj]
      refine Y7 ?_
      refine Zor (c := hgt) (k := ?_)
      rintro _ _ ⟨ga, gc, rfl, rfl⟩
      refine Y10 ?_
      refine Zot 31 rfl ((fun hh => hh rfl)) ?_
      refine Y4 ?_
      refine Zhg (Zmh (a := i) (b := 0) rfl rfl) ?_
      refine Zos 34 rfl (h0) ?_
      refine Y6 ?_
      refine Zor (c := htw ga gc) (k := ?_)
      rintro _ _ ⟨ta, tc, rfl, rfl⟩
      refine Y2 ?_
      refine Zh8 rfl hc.callable (hbe ta tc la lc) rfl qT ?_; rintro _ _ ⟨rfl, rfl⟩; refine Zg2 qA ?_
      refine Zhg (Zlg (x := orW μ rows i) (y := μ (rows.getD i []) (rows.getD (i - 1) [])) rfl rfl) ?_
      refine V10 ?_
      exact Zgl (i + 1, ga, gc) qO (by dsimp only; omega) (by dsimp only; rw [e1]; exact qI) ⟨by dsimp only; rw [e1, hri]; rfl, by dsimp only; rw [e4]; rfl, rfl, trivial⟩
    · have e4 : orW μ rows (i + 1) = orW μ rows i := by show (if 0 < i then _ else _) = _; rw [if_neg h0]
      refine Y7 ?_
      refine Zor (c := hgt) (k := ?_)
      rintro _ _ ⟨ga, gc, rfl, rfl⟩
      refine Y10 ?_
      refine Zot 31 rfl ((fun hh => hh rfl)) ?_
      refine Y4 ?_
      refine Zhg (Zmh (a := i) (b := 0) rfl rfl) ?_
      refine Zot 34 rfl (h0) ?_
      refine V10 ?_
      exact Zgl (i + 1, ga, gc) qO (by dsimp only; omega) (by dsimp only; rw [e1]; exact qI) ⟨by dsimp only; rw [e1]; rfl, by dsimp only; rw [e4]; rfl, rfl, trivial⟩
  · obtain rfl : i = n := by omega
    refine Y2 ?_
    refine Zhg (Zln (x := orW μ rows i) (y := 0#64) rfl rfl) ?_
    refine V3 ?_
    refine rx2 (Zha rfl (Zg9 rfl (Zg7))) ?_
    exact ⟨_, ⟨rfl, rfl⟩, qI⟩
theorem soBack_x {n : Nat} {gs : List (Nat × Nat)} (hn : n ≤ 256) (hns : n ≤ s0.n) (hpad : padN n = n) (hgs : ∀ b, Gives Tryz.prog 127 [.pointer (some ⟨b, 0, none⟩)] [cl b #[nvv n] 3] (gs.map encG)) (hok : ∀ g ∈ gs, NetS.okG s0.n g) (hlog : log.length + gs.length ≤ 2000000) (hz : s0.size ≤ 4096) :
    Con Tryz.prog 56 [hp q, nvv n] (qsA q pp ph s0 tg rows log :: L) (fun r M => r = nvv 0 ∧ M = qsA q pp ph s0 tg (gs.foldl (pairG fun a b => yesM (byIdx a b)) rows) (log ++ gs.map accG) :: L) := by
  have hs := soSort_x (m := 0) (q := q) (pp := pp) (ph := ph) (s0 := s0) (tg := tg) (rows := rows) (log := log) hn hns hpad hgs hok hlog hz (byIdx_con (L := L))
  refine fn_y Tryz.func56 Tryz.mixed ?_
  intro w0
  refine Y6 ?_
  refine Zor (c := hs) (k := ?_)
  rintro _ _ ⟨rfl, rfl⟩
  refine V3 ?_
  refine rx1 (Zg9 rfl (Zg7)) ?_
  exact ⟨_, ⟨rfl, rfl⟩, qI⟩
end
end Go.Sl
namespace Go.Sl
open Go Go.Proofs
attribute [local irreducible] pt own old pur ex all den denOps denS xOps xC cX CX xthen xblk xcut xloop xng retX resX Calls PV Rd Con
abbrev Part := Option Addr × Nat × List Byte
def vP (p : Part) : Value := .slice p.1 p.2.2.length p.2.1
def ownP (p : Part) : Asrt := own 5 1 (vP p) p.2.2.length (p.2.2.map u8b)
theorem ownP_bs {M M' : List Asrt} {p : Part} (hm : Has M (ownP p) M') : Bs M (vP p) p.2.2 := Bs.own (E := 5) hm
theorem star_bs {α : Type} {A : α → Asrt} {l : List α} {x : α} {v : Value} {b : List Byte} (hx : x ∈ l) (h : ∀ R, Bs (A x :: R) v b) {M M' : List Asrt} (hm : Has M (star A l) M') : Bs M v b := by
  obtain ⟨R, hR⟩ := star_has (A := A) hx hm
  exact (h R).imp hR
end Go.Sl
namespace Go.Sl
open Go Go.Proofs
attribute [local irreducible] pt own old pur ex all den denOps denS xOps xC cX CX xthen xblk xcut xloop xng retX resX Calls PV Rd Con
abbrev rowS (a : Option Addr) (c : Nat) (ps : List Part) : Asrt := own 66 1 (.slice a ps.length c) ps.length (ps.map vP)
theorem rowS_snoc {a : Option Addr} {c : Nat} {ps : List Part} {p : Part} {M : List Asrt} : Imp (own 66 1 (.slice a (ps.length + 1) c) (ps.length + 1) (ps.map vP ++ [vP p]) :: ownP p :: star ownP ps :: M) (rowS a c (ps ++ [p]) :: star ownP (ps ++ [p]) :: M) := by
  unfold rowS
  rw [List.map_append, List.length_append]
  exact Imp.cons star_snoc
theorem own_part {g n : Nat} {l : List Byte} (hl : l.length = n) (hn : n ≤ 4096) {M : List Asrt} : Imp (blk g l :: M) (ownP (some ⟨g, 0, none⟩, n, l) :: M) := by
  have e : ownP (some ⟨g, 0, none⟩, n, l) = ownB (some ⟨g, 0, none⟩) n l := by unfold ownP vP; rfl
  rw [e]
  exact own_block hl (by omega)
end Go.Sl
namespace Go.Sl
open Go Go.Proofs
attribute [local irreducible] pt own old pur ex all den denOps denS xOps xC cX CX xthen xblk xcut xloop xng retX resX Calls PV Rd Con
end Go.Sl
namespace Go.Sl
open Go Go.Proofs
attribute [local irreducible] pt own old pur ex all den denOps denS xOps xC cX CX xthen xblk xcut xloop xng retX resX Calls PV Rd Con
attribute [local irreducible] hostA pgA qsA PagerS.loadP PagerS.saveP withinN wso
open SlotS (SL Acc Fit QI slv zb)
open PagerS (PS Over)
abbrev oPs (x : SoWorldV) : PS := psN x.key_ x.round_ (oWn x) (oPg x) (oTx x)
abbrev oHs (x : SoWorldV) (fl : List HostS.Fault) : HostS.HS := HostS.fresh (oPg x : Int) (oTx x + 28) fl
abbrev oSl (x : SoWorldV) : SL := ⟨0, oNn x, oSz x, oTx x / oSz x, []⟩
abbrev oTg (x : SoWorldV) : PS × HostS.HS := (psN (zb 32) x.round_ (oWn x) (oPg x) (oTx x), hsN (oPg x) (oTx x))
theorem oNew (x : SoWorldV) (key : List Byte) : SlotS.newS 0 (oNn x) (oSz x) (psN key x.round_ (oWn x) (oPg x) (oTx x)) = 0 := by
  have h := onum x
  have h1 := h.sz; have h2 := h.tx
  unfold SlotS.newS
  have e1 : (psN key x.round_ (oWn x) (oPg x) (oTx x)).text = oTx x := rfl
  have e2 : (psN key x.round_ (oWn x) (oPg x) (oTx x)).pages = (oPg x : Int) := rfl
  have e3 : SlotS.takeN (oNn x) (oTx x / oSz x) = oPg x := rfl
  rw [e1, e2]
  simp only [Int.toNat_natCast]
  rw [if_neg (by omega), if_neg (by omega), if_neg (by rw [e3]; omega)]
theorem oQi {x : SoWorldV} (hk : x.key_.length = 32) : QI (oSl x) (oTg x) (List.replicate (oNn x) (zb (oSz x))) [] (oPs x) (hsN (oPg x) (oTx x)) (fun _ => List.replicate (oTx x) 0#8) := by
  have h := onum x
  have h1 := h.sz; have h2 := h.tx; have h3 := h.pg; have h4 := h.wn
  exact SlotS.qi_fresh (pages := (oPg x : Int)) (text := oTx x) hk h4 ⟨by omega, by omega⟩ ⟨by omega, by omega⟩ (oNew x x.key_)
theorem begun_x {L : List Asrt} {x : SoWorldV} (hi : SoIn x) {fv : Value} {fl : List HostS.Fault} (hfl : fl.length ≤ 1000000) (hfo : ∀ f ∈ fl, HostS.FOk f) (hf : Rd L 6 fv fl.length (fl.flatMap fcells)) (hkd : fl.all HostS.kindly = true) : Con Tryz.prog 57 [.agg (wso x), fv] L (fun r M => ∃ q pp ph, r = .tuple #[hp ph, hp q, .bool true] ∧ M = slA q pp (oSl x) :: pgA pp ph (oPs x) :: hostA ph (oHs x fl) :: L) := by
  have hk := hi.key
  have hlen := wso_len hk
  have h := onum x
  have h1 := h.sz; have h2 := h.tx; have h3 := h.pg; have h4 := h.wn; have h5 := h.n
  have hsh := shape_x hi
  have hnw := new_ok (L := L) (oPg x : Int) ((oTx x + 28 : Nat) : Int) (by omega) hfo hf ⟨⟨by omega, by omega, by omega, by omega⟩, hkd⟩
  rw [Int.toNat_natCast] at hnw
  have hnw : Con Tryz.prog 19 [nvv (oPg x), nvv (oTx x + 28), fv] L (fun v M => ∃ p, v = .tuple #[hp p, nvv 0] ∧ M = hostA p (oHs x fl) :: L) := hnw
  have hz : newR (oHs x fl) (oWn x : Int) = 0 := by
    unfold newR
    rw [if_neg (by omega), if_neg (show ¬ (oHs x fl).size ≤ 28 by show ¬ oTx x + 28 ≤ 28; omega)]
  have hpn := fun ph => pnew_ok (ph := ph) (h := oHs x fl) hk x.round_ hz
  have hpe : PagerS.freshP x.key_ x.round_ ((oWn x : Int)).toNat (oHs x fl).pages ((oHs x fl).size - 28) = oPs x := by
    show PagerS.freshP x.key_ x.round_ (oWn x) (oPg x : Int) (oTx x + 28 - 28) = _
    rw [Nat.add_sub_cancel]
  rw [hpe] at hpn
  have hok : PagerS.Ok (oPs x) := PagerS.ok_fresh hk h4 ⟨by omega, by omega⟩ ⟨by omega, by omega⟩
  have hsn := fun pp ph => slnew_ok (pp := pp) (ph := ph) hok (first := 0) (n := (oNn x : Int)) (size := (oSz x : Int)) (by omega) (by omega) (by omega) (oNew x x.key_)
  have hs0 : SlotS.freshS 0 (oNn x : Int) (oSz x : Int) (oPs x) = oSl x := rfl
  rw [hs0] at hsn
  generalize hH0 : oHs x fl = H0 at *
  refine fn_y Tryz.func57 Tryz.mixed ?_
  intro w0
  refine Y1 ?_
  refine Zh5 rfl ?_; intro b2
  refine Y6 ?_
  refine Zor (c := hsh) (k := ?_)
  rintro _ _ ⟨rfl, rfl⟩
  refine Y1 ?_
  refine Zhz (cs := #[.int .i64 0, .int .i64 0, .int .i64 0, .int .i64 0, .int .i64 0]) rfl ?_; intro b7
  first|refine Zhy rfl rfl qR qZ (by first|rfl|exact oneM_u8 _|exact oneL_u8 _|exact acc_one _|exact acc_ones _|assumption|(simp [oneC]; done)) qZ ?_|refine Zhx rfl rfl qR qZ (by first|rfl|exact oneM_u8 _|exact oneL_u8 _|exact acc_one _|exact acc_ones _|assumption|(simp [oneC]; done)) qZ rfl ?_
  refine Y8 ?_
  refine Zor (c := hnw) (k := ?_)
  rintro _ _ ⟨ph, rfl, rfl⟩
  refine Y10 ?_
  refine Zot 27 rfl ((fun hh => hh rfl)) ?_
  refine Y3 ?_
  refine Zhn 30 rfl (rfl) ?_
  refine Y5 ?_
  refine Zhg (Zol rfl) ?_
  refine Y1 ?_
  refine Zhq (n := 32) rfl qH qZ (wso_key_ hk) ?_
  refine Y1 ?_
  refine Zhp rfl qH (wso_round_ hk) ?_
  refine Y2 ?_
  refine Zor (c := hpn ph) (k := ?_)
  rintro _ _ ⟨pp, rfl, rfl⟩
  refine Y10 ?_
  refine Zot 45 rfl ((fun hh => hh rfl)) ?_
  refine Y3 ?_
  refine Zhn 48 rfl (rfl) ?_
  refine Y9 ?_
  refine Zor (c := hsn pp ph) (k := ?_)
  rintro _ _ ⟨q, rfl, rfl⟩
  refine Y12 ?_
  refine Zos 62 rfl (rfl) ?_
  refine Y3 ?_
  refine Zhm 65 rfl (rfl) ?_
  refine V5 ?_
  refine rx3 (Zhb rfl (Zhb rfl (Zha rfl (Zg7)))) ?_
  exact ⟨_, ⟨q, pp, ph, rfl, rfl⟩, qI⟩
theorem begunQ_x {L : List Asrt} {x : SoWorldV} (hi : SoIn x) : Con Tryz.prog 57 [.agg (wso x), nilF] L (fun r M => ∃ q pp ph, r = .tuple #[hp ph, hp q, .bool true] ∧ M = qsA q pp ph (oSl x) (oTg x) (List.replicate (oNn x) (zb (oSz x))) [] :: L) :=
  (begun_x (L := L) hi (fv := nilF) (fl := []) (by simp) (by simp) Rd.nil rfl).mono fun r M hh => by
    obtain ⟨q, pp, ph, h1, rfl⟩ := hh
    exact ⟨_, qsA_mk (s0 := oSl x) (log := []) (oQi hi.key), q, pp, ph, h1, rfl⟩
def powN (n : Nat) : Nat := if n = 0 then 0 else 2 ^ n.log2
theorem power_x (n : Nat) (hn : n ≤ 40) : Con Tryz.prog 45 [nvv n] [] (fun r M => r = nvv (powN n) ∧ M = []) := by
  refine fn_y Tryz.func45 Tryz.mixed ?_
  intro w0
  refine V9 ?_
  refine Zgo [(3, 10)] (by kernel_rfl) (fun i : Nat => i ≤ 6 ∧ (i = 0 ∨ 2 ^ (i - 1) ≤ n)) (fun _ => []) (fun i => [(3, nvv (if i = 0 then 0 else 2 ^ (i - 1))), (4, nvv (2 ^ i))]) (fun i => 7 - i) 0 ⟨by omega, .inl rfl⟩ qI ⟨rfl, rfl, trivial⟩ ?_
  rintro i u ⟨hi, hi2⟩
  have hp : 2 ^ i ≤ 2 ^ 6 := Nat.pow_le_pow_right (by omega) hi
  by_cases hB : 2 ^ i ≤ n
  · have hi6 : i < 6 := by
      apply Nat.lt_of_not_le
      intro hh
      obtain rfl : i = 6 := by omega
      omega
    have e : 2 * 2 ^ i = 2 ^ (i + 1) := by rw [Nat.pow_succ, Nat.mul_comm]
    refine Y3 ?_
    refine Zhg (Zmg (a := 2 ^ i) (b := n) rfl rfl) ?_
    refine Zos 7 rfl (hB) ?_
    refine Y8 ?_
    refine Zhg (Zmc (a := 2) (b := 2 ^ i) rfl rfl (by omega)) ?_
    refine V2 ?_
    rw [e]
    exact Zgl (i + 1) qO ⟨by omega, .inr hB⟩ qI ⟨rfl, rfl, trivial⟩
  · have e : (if i = 0 then 0 else 2 ^ (i - 1)) = powN n := by
      unfold powN
      by_cases h0 : i = 0
      · subst h0
        have : n = 0 := by
          have : ¬ 1 ≤ n := hB
          omega
        rw [if_pos rfl, if_pos this]
      · have h2 := hi2.resolve_left h0
        have hpos := NetS.pow_pos2 (i - 1)
        have hn0 : n ≠ 0 := by omega
        rw [if_neg h0, if_neg hn0]
        congr 1
        have e1 : 2 ^ (i - 1) * 2 = 2 ^ i := by rw [← Nat.pow_succ]; congr 1; omega
        exact ((Nat.log2_eq_iff hn0).2 ⟨h2, by rw [show i - 1 + 1 = i by omega]; omega⟩).symm
    rw [e]
    refine Y3 ?_
    refine Zhg (Zmg (a := 2 ^ i) (b := n) rfl rfl) ?_
    refine Zot 7 rfl (hB) ?_
    refine V6 ?_
    refine rx1 (Zg9 rfl (Zg7)) ?_
    exact ⟨_, ⟨rfl, rfl⟩, qI⟩
theorem powN_le (n : Nat) : powN n ≤ n := by
  unfold powN
  split
  · omega
  · rename_i h; exact Nat.log2_self_le h
theorem powN_pad {n : Nat} (hn : n ≤ 256) : padN (powN n) = powN n := by
  unfold powN
  by_cases h : n = 0
  · rw [if_pos h]; rfl
  · rw [if_neg h]
    have : n.log2 < 9 := (Nat.log2_lt h).2 (by omega)
    exact padN_pow ⟨_, this⟩
def gatesN (n : Nat) : List (Nat × Nat) := if n = 0 then [] else NetS.gates n.log2
theorem gatesN_g {n : Nat} (hn : n ≤ 256) (b : Nat) : Gives Tryz.prog 127 [.pointer (some ⟨b, 0, none⟩)] [cl b #[nvv (powN n)] 3] ((gatesN n).map encG) := by
  unfold powN gatesN
  by_cases h : n = 0
  · rw [if_pos h, if_pos h]; exact bitonic0_g
  · rw [if_neg h, if_neg h]
    have : n.log2 < 9 := (Nat.log2_lt h).2 (by omega)
    exact bitonic_g (by omega)
theorem gatesN_ok {n N : Nat} (hN : n ≤ N) : ∀ g ∈ gatesN n, NetS.okG N g := by
  intro g hg
  unfold gatesN at hg
  split at hg
  · cases hg
  · rename_i h
    obtain ⟨h1, h2, h3⟩ := NetS.gates_ok _ g hg
    have := Nat.log2_self_le h
    exact ⟨by omega, by omega, h3⟩
theorem gatesN_len {n : Nat} (hn : n ≤ 256) : (gatesN n).length ≤ 16384 := by
  unfold gatesN
  split
  · show 0 ≤ _; omega
  · rename_i h
    have : n.log2 < 9 := (Nat.log2_lt h).2 (by omega)
    exact NetS.gates_len (by omega)
end Go.Sl
namespace Go.Sl
open Go Go.Proofs
attribute [local irreducible] pt own old pur ex all den denOps denS xOps xC cX CX xthen xblk xcut xloop xng retX resX Calls PV Rd Con
attribute [local irreducible] hostA pgA qsA PagerS.loadP PagerS.saveP withinN wso sizedB
open SlotS (SL Acc Fit QI slv zb)
open PagerS (PS Over)
def fillT (bs : List (List Byte)) (sz n i : Nat) : List (List Byte) := (List.range n).map fun k => if k < i then sizedB (bs.getD k []) sz else zb sz
theorem fillT_zero (bs : List (List Byte)) (sz n : Nat) : fillT bs sz n 0 = List.replicate n (zb sz) := by
  apply List.ext_getElem (by simp [fillT])
  intro j h1 h2
  simp [fillT]
theorem fillT_set {bs : List (List Byte)} {sz n i : Nat} (hi : i < n) : (fillT bs sz n i).set i (sizedB (bs.getD i []) sz) = fillT bs sz n (i + 1) := by
  apply List.ext_getElem (by simp [fillT])
  intro j h1 h2
  rw [List.getElem_set]
  simp only [fillT, List.getElem_map, List.getElem_range]
  by_cases e : i = j
  · subst e; rw [if_pos rfl, if_pos (by omega)]
  · rw [if_neg e]
    by_cases e2 : j < i
    · rw [if_pos e2, if_pos (by omega)]
    · rw [if_neg e2, if_neg (by omega)]
def setsL (i : Nat) : List Acc := (List.range i).map fun k : Nat => ((1, (k : Int), 0) : Acc)
theorem setsL_succ (i : Nat) : setsL (i + 1) = setsL i ++ [(1, (i : Int), 0)] := by unfold setsL; rw [List.range_succ, List.map_append]; rfl
theorem setsL_len (i : Nat) : (setsL i).length = i := by unfold setsL; simp
def rowsF (bs : List (List Byte)) (sz n : Nat) : List (List Byte) := fillT bs sz n n
abbrev bsOf (ps : List (Value × List Byte)) : List (List Byte) := ps.map (·.2)
theorem bsOf_at {ps : List (Value × List Byte)} {i : Nat} (h : i < ps.length) : (bsOf ps).getD i [] = ps[i].2 := by
  rw [List.getD_eq_getElem?_getD, List.getElem?_map, List.getElem?_eq_getElem h]; rfl
section
variable {L : List Asrt} {x : SoWorldV} {v : Value} {ps : List (Value × List Byte)}
theorem filled_x (hi : SoIn x) (hr : Rs L v ps) (hl : oNn x ≤ ps.length) : Con Tryz.prog 43 [.agg (wso x), v] L (fun r M => ∃ q pp ph, r = .tuple #[hp ph, hp q, .bool true] ∧ M = qsA q pp ph (oSl x) (oTg x) (rowsF (bsOf ps) (oSz x) (oNn x)) (setsL (oNn x)) :: L) := by
  refine Con.get (fun w0 w F H => hr.sh _ _ _ H) ?_
  rintro ⟨va, vc, rfl, hvc, hvcm⟩
  have hk := hi.key
  have hlen := wso_len hk
  have h := onum x
  have h1 := h.sz; have h2 := h.tx; have h3 := h.pg; have h4 := h.wn; have h5 := h.n
  have hsh := shape_x hi
  have hbg := begunQ_x (L := []) hi
  unfold rowsF
  have es : (oSl x).size = oSz x := rfl
  have en : (oSl x).n = oNn x := rfl
  generalize oSl x = S0 at *
  generalize oTg x = T0 at *
  refine fn_y Tryz.func43 Tryz.mixed ?_
  intro w0
  refine Y1 ?_
  refine Zh5 rfl ?_; intro b2
  refine Y6 ?_
  refine Zor (c := hbg) (k := ?_)
  rintro _ _ ⟨q, pp, ph, rfl, rfl⟩
  refine Y11 ?_
  refine Zhg (Zb0 rfl) ?_
  refine Zhn 19 rfl (rfl) ?_
  refine Y4 ?_
  refine Zor (c := hsh) (k := ?_)
  rintro _ _ ⟨rfl, rfl⟩
  refine Y1 ?_
  refine Zhz (cs := #[.int .i64 0, .int .i64 0, .int .i64 0, .int .i64 0, .int .i64 0]) rfl ?_; intro b10
  first|refine Zhy rfl rfl qR qZ (by first|rfl|exact oneM_u8 _|exact oneL_u8 _|exact acc_one _|exact acc_ones _|assumption|(simp [oneC]; done)) qZ ?_|refine Zhx rfl rfl qR qZ (by first|rfl|exact oneM_u8 _|exact oneL_u8 _|exact acc_one _|exact acc_ones _|assumption|(simp [oneC]; done)) qZ rfl ?_
  refine V4 ?_
  refine Zgo [(4, 6), (11, 11), (22, 38)] (by kernel_rfl) (fun i : Nat => i ≤ oNn x) (fun i => qsA q pp ph S0 T0 (fillT (bsOf ps) (oSz x) (oNn x) i) (setsL i) :: cl b10 (shV x) 86 :: cl b2 (wso x) 84 :: L) (fun i => [(11, nvv i)]) (fun i => oNn x - i) 0 (Nat.zero_le _) (by rw [fillT_zero]; show Imp _ (qsA q pp ph S0 T0 _ [] :: _); exact qI) ⟨rfl, trivial⟩ ?_
  intro i u hi9
  refine V6 ?_
  refine Zgg rfl (fun hB => ?_) (fun hB => ?_)
  · have hib : i < ps.length := by omega
    refine Zgt (fun F w H => (hr.rd.imp qI).someAt (by omega) H) ?_
    rintro ⟨g, o, rfl⟩
    have hbi := hr.el _ (List.getElem_mem hib)
    have hsz := sized_x hbi (oSz x) (by omega)
    have hq2 := fun gb => qset_x (q := q) (pp := pp) (ph := ph) (s0 := S0) (tg := T0) (rows := fillT (bsOf ps) (oSz x) (oNn x) i) (log := setsL i) (by rw [setsL_len]; omega) (m := i) (by omega) (v := sizedB ps[i].2 (oSz x)) (by rw [sizedB_len, es]) (L := [blk gb (sizedB ps[i].2 (oSz x))]) (bs_full (n := oSz x) .here (sizedB_len _ _) (by omega))
    have e1 : (fillT (bsOf ps) (oSz x) (oNn x) i).set i (sizedB ps[i].2 (oSz x)) = fillT (bsOf ps) (oSz x) (oNn x) (i + 1) := by rw [← bsOf_at hib]; exact fillT_set hB
    rw [e1, ← setsL_succ] at hq2
    refine Ct.o ?_
    refine Zij ((cl b10 (shV x) 86 :: L)) [7] (.q 0 (.q 1 (.q 2 (.q 3 (.q 4 (.q 6 (.r 5 (.r 7 (.e 8 false (.e 9 false (.q 10 .nil))))))))))) (by kernel_rfl) (by kernel_rfl) (Imp.arr qV) ?_
    refine W6 ?_
    refine Zfh rfl rfl (((hr.imp qI).rd.at hib (getM (f := Prod.fst) hib))) ?_
    refine W1 ?_
    refine Ziq rfl ?_
    refine Zor (c := hsz) (k := ?_)
    rintro _ _ ⟨gb, rfl, rfl⟩
    refine Y1 ?_
    refine Zg3 ⟨(fun hh => Bool.noConfusion hh), ?_⟩
    refine Ziq rfl ?_
    refine Zor (c := hq2 gb) (k := ?_)
    rintro _ _ ⟨rfl, rfl⟩
    refine Y1 ?_
    refine Zg3 ⟨(fun hh => Bool.noConfusion hh), ?_⟩
    refine W1 ?_
    refine Zov 38 rfl ((fun hh => hh rfl)) ?_
    refine Zik ?_
    refine V6 ?_
    exact Zgl (i + 1) qO (by omega) qI ⟨rfl, trivial⟩
  · obtain rfl : i = oNn x := by omega
    refine V7 ?_
    refine rx3 (Zhb rfl (Zhb rfl (Zha rfl (Zg7)))) ?_
    exact ⟨_, ⟨q, pp, ph, rfl, rfl⟩, qI⟩
end
section
variable {q pp ph : Nat} {s0 : SL} {tg : PS × HostS.HS} {rows : List (List Byte)} {log : List Acc}
end
abbrev prt (ps : List Part) : List (Value × List Byte) := ps.map fun p => (vP p, p.2.2)
theorem prt_rs {a : Option Addr} {c : Nat} {ps : List Part} {L M' M2 : List Asrt} (h1 : Has L (rowS a c ps) M') (h2 : Has L (star ownP ps) M2) : Rs L (.slice a ps.length c) (prt ps) := by
  have e : (prt ps).length = ps.length := by simp
  have e2 : (prt ps).map (·.1) = ps.map vP := by simp [Function.comp_def]
  have := Rs.own (E := 66) (v := .slice a ps.length c) (ps := prt ps) (M := L) (M' := M') (by rw [e, e2]; exact h1) (fun y hy => by
    obtain ⟨p, hp, rfl⟩ := List.mem_map.1 hy
    exact star_bs (A := ownP) hp (fun R => ownP_bs .here) h2)
  exact this
end Go.Sl
namespace Go.Sl
open Go Go.Proofs
attribute [local irreducible] pt own old pur ex all den denOps denS xOps xC cX CX xthen xblk xcut xloop xng retX resX Calls PV Rd Con
attribute [local irreducible] lowB leB
def hdV (live flag : Byte) (index rank : BitVec 32) (grp : List Byte) : Array Value := #[u8b live, u8b flag, u32b index, u32b rank] ++ (grp.map u8b).toArray
def mkR (live flag : Byte) (index rank : BitVec 32) (grp body : List Byte) : List Byte := (([live, flag] ++ leB index 4) ++ leB rank 4) ++ grp ++ body
theorem mkR_len {live flag : Byte} {index rank : BitVec 32} {grp body : List Byte} (hg : grp.length = 16) : (mkR live flag index rank grp body).length = 26 + body.length := by unfold mkR; simp only [List.length_append, leB_len, hg, List.length_cons, List.length_nil]
theorem hdV_len {live flag : Byte} {index rank : BitVec 32} {grp : List Byte} (hg : grp.length = 16) : (hdV live flag index rank grp).size = 20 := by unfold hdV; simp [hg]
section
variable {live flag : Byte} {index rank : BitVec 32} {grp : List Byte}
theorem hdV_0 : (hdV live flag index rank grp)[0]? = some (u8b live) := by unfold hdV; simp
theorem hdV_1 : (hdV live flag index rank grp)[1]? = some (u8b flag) := by unfold hdV; simp
theorem hdV_2 : (hdV live flag index rank grp)[2]? = some (u32b index) := by unfold hdV; simp
theorem hdV_3 : (hdV live flag index rank grp)[3]? = some (u32b rank) := by unfold hdV; simp
theorem hdV_g (hg : grp.length = 16) : (hdV live flag index rank grp).extract 4 (4 + 16 * 1) = (grp.map u8b).toArray := by
  unfold hdV
  apply Array.ext'
  simp [List.extract_eq_take_drop, List.take_of_length_le, hg]
attribute [local irreducible] hdV
theorem head_x (hg : grp.length = 16) : Con Tryz.prog 122 [.agg (hdV live flag index rank grp)] [] (fun r M => ∃ a c, r = .slice a (mkR live flag index rank grp []).length c ∧ M = [ownB a c (mkR live flag index rank grp [])]) := by
  have hlen := hdV_len (live := live) (flag := flag) (index := index) (rank := rank) hg
  have p1 := fun b => put32_x (L := [cl b #[u8b live, u8b flag] 5]) (v := .slice (some ⟨b, 0, none⟩) 2 2) (b := [live, flag]) index (bs_full (n := 2) .here rfl (by omega)) (by show 2 ≤ _; omega)
  have l1 : ([live, flag] ++ leB index 4).length = 6 := by simp [leB_len]
  have p2 := fun a c => put32_x (L := [own 5 1 (.slice a ([live, flag] ++ leB index 4).length c) ([live, flag] ++ leB index 4).length (([live, flag] ++ leB index 4).map u8b)]) (b := [live, flag] ++ leB index 4) rank (Bs.own .here) (by omega)
  have l2 : (([live, flag] ++ leB index 4) ++ leB rank 4).length = 10 := by simp [leB_len]
  have e9 : mkR live flag index rank grp [] = (([live, flag] ++ leB index 4) ++ leB rank 4) ++ grp := by unfold mkR; rw [List.append_nil]
  rw [e9]
  generalize ([live, flag] ++ leB index 4) ++ leB rank 4 = l10 at *
  generalize [live, flag] ++ leB index 4 = l6 at *
  refine fn_y Tryz.func122 Tryz.mixed ?_
  intro w0
  refine Y1 ?_
  refine Zh5 rfl ?_; intro b1
  refine Y4 ?_
  refine Zhp rfl qH (hdV_0) ?_
  refine Y1 ?_
  refine Zhp rfl qH (hdV_1) ?_
  refine Zh7 (cs := #[.int .u8 _, .int .u8 _]) (by omega) (by omega) rfl ?_; intro b8
  refine Y1 ?_
  refine Zhp rfl qH (hdV_2) ?_
  refine Zor (c := p1 b8) (k := ?_)
  rintro _ _ ⟨a1, c1, rfl, rfl⟩
  refine Y6 ?_
  refine Zhp rfl qH (hdV_3) ?_
  refine Zor (c := p2 a1 c1) (k := ?_)
  rintro _ _ ⟨a2, c2, rfl, rfl⟩
  refine Y6 ?_
  refine Zhg (Zmy (h := 16) rfl rfl) ?_
  refine Zia rfl rfl qH (Rd.cl (xs := grp.map u8b) qH (by rw [List.length_map, hg]) (by omega) (by rw [hdV_g hg])) (by first|rfl|exact oneM_u8 _|exact oneL_u8 _|assumption|(simp [oneC]; done)) (by omega) qS ?_; intro a3 c3
  refine V2 ?_
  refine rx1 (Zhc rfl (Zg7)) ?_
  refine ⟨_, ⟨a3, c3, ?_, rfl⟩, ?_⟩
  · rw [List.length_append, hg]
  · unfold ownB
    rw [List.length_append, hg, List.map_append]
    exact qI
theorem make_x {L : List Asrt} {vb : Value} {body : List Byte} (hg : grp.length = 16) (hb : Bs L vb body) (hbl : body.length ≤ 1000000) : Con Tryz.prog 83 [.agg (hdV live flag index rank grp), vb] L (fun r M => ∃ a c, r = .slice a (mkR live flag index rank grp body).length c ∧ M = ownB a c (mkR live flag index rank grp body) :: L) := by
  refine Con.get (fun w0 w F H => hb.sh _ _ _ H) ?_
  rintro ⟨va, vc, rfl, hvc, hvcm⟩
  have hlen := hdV_len (live := live) (flag := flag) (index := index) (rank := rank) hg
  have hh := head_x (live := live) (flag := flag) (index := index) (rank := rank) hg
  have hl := mkR_len (live := live) (flag := flag) (index := index) (rank := rank) (body := []) hg
  have e9 : mkR live flag index rank grp body = mkR live flag index rank grp [] ++ body := by unfold mkR; rw [List.append_nil]
  rw [e9]
  generalize mkR live flag index rank grp [] = l26 at *
  have hl : l26.length = 26 := hl
  refine fn_y Tryz.func83 Tryz.mixed ?_
  intro w0
  refine Y1 ?_
  refine Zh5 rfl ?_; intro b2
  refine Y4 ?_
  refine Zor (c := hh) (k := ?_)
  rintro _ _ ⟨a1, c1, rfl, rfl⟩
  refine Y2 ?_
  refine Zia rfl rfl qH ((hb.rd.imp qI)) (by first|rfl|exact oneM_u8 _|exact oneL_u8 _|assumption|(simp [oneC]; done)) (by omega) qS ?_; intro a3 c3
  refine V2 ?_
  refine rx1 (Zhc rfl (Zg7)) ?_
  refine ⟨_, ⟨a3, c3, by rw [List.length_append], rfl⟩, ?_⟩
  unfold ownB
  rw [List.length_append, List.map_append]
  exact qI
end
end Go.Sl
namespace Go.Sl
open Go Go.Proofs
attribute [local irreducible] pt own old pur ex all den denOps denS xOps xC cX CX xthen xblk xcut xloop xng retX resX Calls PV Rd Con
attribute [local irreducible] hostA pgA qsA PagerS.loadP PagerS.saveP withinN wso sizedB
open SlotS (SL Acc Fit QI slv zb)
open PagerS (PS Over)
open NetS (pairG)
def fstB (a b : List Byte) : Bool := decide ((a.getD 0 0#8).toNat < (b.getD 0 0#8).toNat)
theorem first_x {L : List Asrt} {v vb : Value} {r b : List Byte} (h : Bs L v r) (hb : Bs L vb b) (h1 : 0 < r.length) (h2 : 0 < b.length) : Con Tryz.prog 48 [v, vb] L (fun x M => x = u64b (yesM (fstB r b)) ∧ L = M) := by
  refine Con.get (fun w0 w F H => h.sh _ _ _ H) ?_
  rintro ⟨va, vc, rfl, hvc, hvcm⟩
  refine Con.get (fun w0 w F H => hb.sh _ _ _ H) ?_
  rintro ⟨wa, wc, rfl, hwc, hwcm⟩
  refine Con.get (fun w0 w F H => h.some (by omega) H) ?_
  rintro ⟨g, o, rfl⟩
  refine Con.get (fun w0 w F H => hb.some (by omega) H) ?_
  rintro ⟨g2, o2, rfl⟩
  have k1 := h.rd.at (j := 0) (by omega) (r_get (by omega))
  have k2 := hb.rd.at (j := 0) (by omega) (r_get (by omega))
  rw [Nat.add_zero] at k1 k2
  unfold fstB
  by_cases hlt : (r.getD 0 0#8).toNat < (b.getD 0 0#8).toNat
  · rw [decide_eq_true hlt]
    refine fn_y Tryz.func48 Tryz.mixed ?_
    intro w0
    refine V3 ?_
    refine Zij (L) [5] (.q 0 (.q 1 (.q 3 (.q 4 (.r 2 (.r 5 (.q 6 .nil))))))) (by kernel_rfl) (by kernel_rfl) (Imp.arr qV) ?_
    refine W1 ?_
    first|refine Zim rfl (Zl4 (n := 0) rfl rfl) ?_|refine Zim rfl (Zl1 (n := 0) rfl rfl) ?_
    refine W1 ?_
    first|refine Zim rfl (Zl4 (n := 0) rfl rfl) ?_|refine Zim rfl (Zl1 (n := 0) rfl rfl) ?_
    refine Zfh rfl rfl (k1) ?_
    refine Zfh rfl rfl (k2) ?_
    refine Zim rfl (Zjm (x := r.getD 0 0#8) (y := b.getD 0 0#8) rfl rfl) ?_
    refine Zou 11 rfl (hlt) ?_
    refine Zik ?_
    refine V4 ?_
    refine rx1 (Zg9 rfl (Zg7)) ?_
    exact ⟨_, ⟨rfl, rfl⟩, qI⟩
  · rw [decide_eq_false hlt]
    refine fn_y Tryz.func48 Tryz.mixed ?_
    intro w0
    refine V3 ?_
    refine Zij (L) [5] (.q 0 (.q 1 (.q 3 (.q 4 (.r 2 (.r 5 (.q 6 .nil))))))) (by kernel_rfl) (by kernel_rfl) (Imp.arr qV) ?_
    refine W1 ?_
    first|refine Zim rfl (Zl4 (n := 0) rfl rfl) ?_|refine Zim rfl (Zl1 (n := 0) rfl rfl) ?_
    refine W1 ?_
    first|refine Zim rfl (Zl4 (n := 0) rfl rfl) ?_|refine Zim rfl (Zl1 (n := 0) rfl rfl) ?_
    refine Zfh rfl rfl (k1) ?_
    refine Zfh rfl rfl (k2) ?_
    refine Zim rfl (Zjm (x := r.getD 0 0#8) (y := b.getD 0 0#8) rfl rfl) ?_
    refine Zov 11 rfl (hlt) ?_
    refine Zik ?_
    refine V4 ?_
    refine rx1 (Zg9 rfl (Zg7)) ?_
    exact ⟨_, ⟨rfl, rfl⟩, qI⟩
theorem first_con {n : Nat} (hn : 1 ≤ n) {L : List Asrt} : BCon 48 #[] #[] n L (fun a b => yesM (fstB a b)) :=
  ⟨by kernel_rfl, fun a1 a2 c1 c2 A B hA hB => by
    subst hA
    have h1 : Bs (ownB a1 c1 A :: ownB a2 c2 B :: L) (.slice a1 A.length c1) A := Bs.own .here
    have h2 : Bs (ownB a1 c1 A :: ownB a2 c2 B :: L) (.slice a2 A.length c2) B := by rw [← hB]; exact Bs.own (.there .here)
    refine (first_x h1 h2 (by omega) (by omega)).mono ?_
    rintro r M ⟨h3, h4⟩
    subst h4
    exact ⟨_, drop2, h3, rfl⟩⟩
theorem hd_fill {pl : Nat → Option (Nat × Nat)} {live : Byte} {index : BitVec 32} {grp : List Byte} (hg : grp.length = 16) (h0 : pl 0 = some (0, 1)) (h2 : pl 2 = some (2, 1)) (h4 : pl 4 = some (4, 16)) :
    Instr.fill pl ([] ++ ([Value.int .u8 0] ++ ([Value.int .u8 0, .int .u32 0, .int .u32 0] ++ List.replicate 16 (Value.int .u8 0)))).toArray [(0, u8b live), (2, u32b index), (4, .agg (grp.map u8b).toArray)] = some (hdV live 0#8 index 0#32 grp) := by
  refine fill_seg (V := [u8b live]) h0 rfl rfl rfl rfl ?_
  show Instr.fill pl ([u8b live, Value.int .u8 0] ++ ([Value.int .u32 0] ++ (Value.int .u32 0 :: List.replicate 16 (Value.int .u8 0)))).toArray _ = _
  refine fill_seg (V := [u32b index]) h2 rfl rfl rfl rfl ?_
  show Instr.fill pl ([u8b live, Value.int .u8 0, u32b index, Value.int .u32 0] ++ (List.replicate 16 (Value.int .u8 0) ++ [])).toArray _ = _
  refine fill_seg (V := grp.map u8b) h4 rfl (by simp) (by simp [Value.cells]) (by simp [hg]) ?_
  rw [fill_end]
  congr 1
  unfold hdV
  apply Array.ext'
  simp
-- works
namespace SoW
def x0 (b : Nat) : SoWorldV := ⟨26, 60, 2, List.replicate 32 0#8, 0#64, .slice none 0 0, [], .slice (some ⟨b, 0, none⟩) 4 4, List.replicate 4 (.slice none 0 0, []), .slice none 0 0, []⟩
def grp (i : Nat) : Byte := [2#8, 1#8, 0#8, 1#8].getD i 0#8
def lv (i : Nat) : Byte := if (grp i).toNat = 0 then 0#8 else 1#8
def rec (i : Nat) : List Byte := mkR (lv i) 0#8 (BitVec.ofInt 32 (i : Int)) 0#32 (grp i :: List.replicate 15 0#8) []
def rowsW (i : Nat) : List (List Byte) := (List.range 4).map fun k => if k < i then rec k else zb 26
def rows2 : List (List Byte) := (gatesN 4).foldl (pairG fun a b => yesM (byGrp a b)) (rowsW 4)
theorem sz0 (b : Nat) : oSz (x0 b) = 26 := by with_unfolding_all rfl
theorem n0 (b : Nat) : oNn (x0 b) = 4 := by with_unfolding_all rfl
theorem was : orW (fun a b => yesM (byGrp a b)) (rowsW 4) 4 ≠ 0#64 := by decide +kernel
theorem is : orW (fun a b => yesM (byGrp a b)) rows2 4 = 0#64 := by decide +kernel
theorem r0 : (rows2.getD 0 []).length = 26 ∧ (rows2.getD 0 [])[2]? = some 1#8 := by decide +kernel
theorem lens : ∀ k : Fin 4, ((rowsW 4).getD k []).length = 26 ∧ (rows2.getD k []).length = 26 := by decide +kernel
theorem glen : (gatesN 4).length = 6 := by decide +kernel
theorem rset : ∀ i : Fin 4, (rowsW i).set i (rec i) = rowsW (i + 1) := by decide +kernel
theorem rlen : ∀ i : Fin 4, (rec i).length = 26 := by decide +kernel
theorem lvN : ∀ i : Fin 4, min (grp i).toNat 1 = (lv i).toNat := by decide
theorem pw : powN 4 = 4 := by decide +kernel
end SoW
attribute [local irreducible] SoW.rowsW SoW.rows2 SoW.rec hdV mkR
namespace SoW
theorem grpAt : ∀ i : Nat, i < 4 → (#[u8b 2#8, u8b 1#8, u8b 0#8, u8b 1#8])[i]? = some (u8b (grp i))
  | 0, _ => rfl
  | 1, _ => rfl
  | 2, _ => rfl
  | 3, _ => rfl
theorem pv_lv {ρ : Env} {x : Operand} {i : Nat} (hi : i < 4) (hx : ev ρ x = .int .i64 (min ((grp i).toNat : Int) 1)) : PV Tryz.prog (.convert 3 5 x) ρ (u8b (lv i)) := by
  have e := lvN ⟨i, hi⟩
  have e2 : (min ((grp i).toNat : Int) 1) = ((lv i).toNat : Int) := by
    have e : min (grp i).toNat 1 = (lv i).toNat := e
    omega
  rw [e2] at hx
  have := Zjs (P := Tryz.prog) (S := 3) (D := 5) hx
  have e3 : BitVec.ofInt 8 ((lv i).toNat : Int) = lv i := by
    apply BitVec.eq_of_toNat_eq
    rw [BitVec.toNat_ofInt]
    have := (lv i).isLt
    omega
  rwa [e3] at this
end SoW
attribute [local irreducible] SoW.lv SoW.grp
open SoW in
theorem soWorks_x : Con Tryz.prog 41 [] [] (fun r M => r = .bool true ∧ M = []) := by
  have hbg := fun b => begunQ_x (L := []) (x := x0 b) ⟨rfl, ⟨_, _, rfl⟩, by show Big 26; omega, by show Big 60; omega, by show Big 2; omega⟩
  have en := fun b => show (oSl (x0 b)).n = 4 from n0 b
  have es := fun b => show (oSl (x0 b)).size = 26 from sz0 b
  have e0 : ∀ b, List.replicate (oNn (x0 b)) (zb (oSz (x0 b))) = rowsW 0 := fun b => by rw [n0, sz0]; with_unfolding_all rfl
  simp only [e0] at hbg
  obtain ⟨r0a, r0b⟩ := r0
  have hlen := lens
  refine fn_y Tryz.func41 Tryz.mixed ?_
  intro w0
  refine Y4 ?_
  refine Zh6 rfl rfl qS qS qS (by omega) ?_; intro b14
  refine Zhg (Zdm (cs := wso (x0 b14)) (by kernel_rfl)) ?_
  refine Zor (c := hbg b14) (k := ?_)
  rintro _ _ ⟨q, pp, ph, rfl, rfl⟩
  refine V9 ?_
  have en := en b14
  have es := es b14
  clear hbg e0
  generalize oSl (x0 b14) = S0 at *
  generalize oTg (x0 b14) = T0 at *
  refine Y2 ?_
  refine Zhg (Zb0 rfl) ?_
  refine Zhn 21 rfl (rfl) ?_
  refine Y3 ?_
  refine Zhn 24 rfl (rfl) ?_
  refine Y4 ?_
  refine Zh7 (cs := #[u8b 2#8, u8b 1#8, u8b 0#8, u8b 1#8]) (by omega) (by omega) (by kernel_rfl) ?_; intro b26
  refine V5 ?_
  refine Zgo [(0, 0), (5, 5), (27, 50)] (by kernel_rfl) (fun i : Nat => i ≤ 4) (fun i => [qsA q pp ph S0 T0 (rowsW i) (setsL i), cl b26 #[u8b 2#8, u8b 1#8, u8b 0#8, u8b 1#8] 5]) (fun i => [(5, nvv i)]) (fun i => 4 - i) 0 (Nat.zero_le _) qI ⟨rfl, trivial⟩ ?_
  intro i u hi
  refine V4 ?_
  refine Zgg rfl (fun hB => ?_) (fun hB => ?_)
  · have hrl : (rec i).length = 26 := rlen ⟨i, hB⟩
    have hmk := make_x (L := []) (live := lv i) (flag := 0#8) (index := BitVec.ofInt 32 (i : Int)) (rank := 0#32) (grp := grp i :: List.replicate 15 0#8) (vb := .slice none 0 0) (body := []) (by simp) Bs.nil (by simp)
    have hre : mkR (lv i) 0#8 (BitVec.ofInt 32 (i : Int)) 0#32 (grp i :: List.replicate 15 0#8) [] = rec i := by with_unfolding_all rfl
    rw [hre] at hmk
    have hst := fun a c => qset_x (q := q) (pp := pp) (ph := ph) (s0 := S0) (tg := T0) (rows := rowsW i) (log := setsL i) (L := [ownB a c (rec i)]) (by rw [setsL_len]; omega) (m := i) (by omega) (v := rec i) (by omega) (Bs.own .here)
    have ers : (rowsW i).set i (rec i) = rowsW (i + 1) := rset ⟨i, hB⟩
    rw [ers, ← setsL_succ] at hst
    rw [hrl] at hmk hst
    refine Ct.o ?_
    refine Zij ([cl b26 #[u8b 2#8, u8b 1#8, u8b 0#8, u8b 1#8] 5]) [14, 15] (.q 0 (.q 1 (.q 2 (.q 3 (.q 4 (.q 9 (.q 10 (.q 11 (.q 12 (.q 13 (.r 5 (.q 6 (.q 7 (.q 8 (.r 14 (.r 15 (.q 16 (.e 17 false (.e 18 false (.q 19 .nil)))))))))))))))))))) (by kernel_rfl) (by kernel_rfl) (Imp.arr qV) ?_
    refine W6 ?_
    refine Zim rfl (Zk6 rfl) ?_
    refine W3 ?_
    refine Ziv rfl rfl qH (grpAt i hB) ?_
    refine Zim rfl (Zjt rfl) ?_
    refine W1 ?_
    refine Zim rfl (pv_lv hB rfl) ?_
    refine Ziv rfl rfl qH (grpAt i hB) ?_
    refine Ziz rfl (Zdn (cs := ((grp i :: List.replicate 15 0#8).map u8b).toArray) rfl) ?_
    refine Zim rfl (Zdm (cs := hdV (lv i) 0#8 (BitVec.ofInt 32 (i : Int)) 0#32 (grp i :: List.replicate 15 0#8)) (hd_fill (by simp) rfl rfl rfl)) ?_
    refine Ziq rfl ?_
    refine Zor (c := hmk) (k := ?_)
    rintro _ _ ⟨ma, mc, rfl, rfl⟩
    refine Y1 ?_
    refine Zg3 ⟨(fun hh => Bool.noConfusion hh), ?_⟩
    refine Ziq rfl ?_
    refine Zor (c := hst ma mc) (k := ?_)
    rintro _ _ ⟨rfl, rfl⟩
    refine Y1 ?_
    refine Zg3 ⟨(fun hh => Bool.noConfusion hh), ?_⟩
    refine W1 ?_
    refine Zov 50 rfl ((fun hh => hh rfl)) ?_
    refine Zik ?_
    refine Ct.o ?_
    all_goals
      refine V6 ?_
      exact Zgl (i + 1) qO (by omega) qI ⟨rfl, trivial⟩
  · obtain rfl : i = 4 := by omega
    have hz : S0.size ≤ 4096 := by omega
    have hrl1 : ∀ k, k < S0.n → ((rowsW 4).getD k []).length = S0.size := fun k hk => by rw [es]; exact (hlen ⟨k, by omega⟩).1
    have hrl2 : ∀ k, k < S0.n → (rows2.getD k []).length = S0.size := fun k hk => by rw [es]; exact (hlen ⟨k, by omega⟩).2
    have hs1 := soSorted_x (q := q) (pp := pp) (ph := ph) (s0 := S0) (tg := T0) (rows := rowsW 4) (log := setsL 4) (n := 4) (by omega) (by omega) (by rw [setsL_len]; omega) hz hrl1 (byGrp_con (L := []))
    rw [decide_eq_false was] at hs1
    have hgs := fun b => gatesN_g (n := 4) (by omega) b
    rw [pw] at hgs
    have hs2 := soSort_x (m := 0) (q := q) (pp := pp) (ph := ph) (s0 := S0) (tg := T0) (rows := rowsW 4) (log := setsL 4 ++ getsL 4) (n := 4) (gs := gatesN 4) (by omega) (by omega) (by decide) hgs (gatesN_ok (by omega)) (by rw [glen, List.length_append, setsL_len, getsL_len]; omega) hz (byGrp_con (L := []))
    have er : (gatesN 4).foldl (pairG fun a b => yesM (byGrp a b)) (rowsW 4) = rows2 := by with_unfolding_all rfl
    rw [er] at hs2
    have hs3 := soSorted_x (q := q) (pp := pp) (ph := ph) (s0 := S0) (tg := T0) (rows := rows2) (log := setsL 4 ++ getsL 4 ++ (gatesN 4).map accG) (n := 4) (by omega) (by omega) (by rw [List.length_append, List.length_append, List.length_map, glen, setsL_len, getsL_len]; omega) hz hrl2 (byGrp_con (L := []))
    rw [decide_eq_true is] at hs3
    have hgt := qget_x (q := q) (pp := pp) (ph := ph) (s0 := S0) (tg := T0) (rows := rows2) (log := setsL 4 ++ getsL 4 ++ (gatesN 4).map accG ++ getsL 4) (by rw [List.length_append, List.length_append, List.length_append, List.length_map, glen, setsL_len, getsL_len]; omega) (m := 0) (by omega)
    have hll : (setsL 4 ++ getsL 4 ++ (gatesN 4).map accG ++ getsL 4 ++ [(0, ((0 : Nat) : Int), 0)]).length = 19 := by rw [List.length_append, List.length_append, List.length_append, List.length_append, List.length_map, glen, setsL_len, getsL_len]; rfl
    have hlg := qlog_x (q := q) (pp := pp) (ph := ph) (s0 := S0) (tg := T0) (rows := rows2) (log := setsL 4 ++ getsL 4 ++ (gatesN 4).map accG ++ getsL 4 ++ [(0, ((0 : Nat) : Int), 0)]) (by rw [hll]; omega)
    rw [hll] at hlg
    generalize setsL 4 ++ getsL 4 ++ (gatesN 4).map accG ++ getsL 4 ++ [(0, ((0 : Nat) : Int), 0)] = l5 at *
    generalize setsL 4 ++ getsL 4 ++ (gatesN 4).map accG ++ getsL 4 = l4 at *
    generalize setsL 4 ++ getsL 4 ++ (gatesN 4).map accG = l3 at *
    generalize setsL 4 ++ getsL 4 = l2 at *
    have hb2 : (rows2.getD 0 []).map u8b = (rows2.getD 0 []).map u8b := rfl
    have h2at : ((rows2.getD 0 []).map u8b)[2]? = some (u8b 1#8) := by rw [List.getElem?_map, r0b]; rfl
    generalize rows2.getD 0 [] = rr at *
    refine Y2 ?_
    refine Zor (c := hs1) (k := ?_)
    rintro _ _ ⟨rfl, rfl⟩
    refine Y9 ?_
    refine Zor (c := hs2) (k := ?_)
    rintro _ _ ⟨rfl, rfl⟩
    refine Y5 ?_
    refine Zor (c := hs3) (k := ?_)
    rintro _ _ ⟨rfl, rfl⟩
    refine Y9 ?_
    refine Zor (c := hgt) (k := ?_)
    rintro _ _ ⟨ga, gc, rfl, rfl⟩
    refine V7 ?_
    refine Zgt (fun F w H => own_some (a := ga) qH (by omega) H) ?_
    rintro ⟨g, rfl⟩
    refine Y2 ?_
    refine Zhg (Zb0 rfl) ?_
    refine Y6 ?_
    refine Zos 75 rfl (rfl) ?_
    refine Y4 ?_
    refine Zos 79 rfl (rfl) ?_
    refine Y4 ?_
    refine Zos 83 rfl (rfl) ?_
    refine Y4 ?_
    refine Zos 87 rfl (rfl) ?_
    refine Y4 ?_
    first|refine Y0 ?_|(refine Zhh rfl ?_; (refine Zhg (Zmj (a := rr.length) (b := 26) rfl rfl) ?_))
    refine Zos 92 rfl (r0a) ?_
    refine Y3 ?_
    first|refine Y0 ?_|(refine Zhh rfl ?_; (first|refine Zhg (Zl4 (n := 2) rfl rfl) ?_|refine Zhg (Zl1 (n := 2) rfl rfl) ?_))
    first|refine Y0 ?_|(refine Zhh rfl ?_; (refine Zff rfl (((Rd.own (n := rr.length) qH).at0 (by omega) h2at)) ?_))
    first|refine Y0 ?_|(refine Zhh rfl ?_; (refine Zhg (Zjk (x := 1#8) (y := 1#8) rfl rfl) ?_))
    refine Zos 98 rfl (rfl) ?_
    refine Y3 ?_
    first|refine Y0 ?_|(refine Zhh rfl ?_; (refine Zor (c := hlg) (k := ?_)); (rintro _ _ ⟨la, lc, rfl, rfl⟩); (refine Zg2 qA ?_))
    refine Y2 ?_
    refine Zos 104 rfl (rfl) ?_
    refine V3 ?_
    refine rx1 (Zha rfl (Zg7)) ?_
    exact ⟨_, ⟨rfl, rfl⟩, qI⟩
end Go.Sl
namespace Go.Sl
open Go
namespace NetS
end NetS
end Go.Sl
namespace Go.Sl
open Go Go.Proofs
attribute [local irreducible] pt own old pur ex all den denOps denS xOps xC cX CX xthen xblk xcut xloop xng retX resX Calls PV Rd Con
attribute [local irreducible] hostA pgA qsA withinN wso sizedB
open SlotS (SL Acc Fit QI slv zb)
section
variable {L : List Asrt} {x : SoWorldV}
end
end Go.Sl
namespace Go.Sl
open Go Go.Proofs
attribute [local irreducible] pt own old pur ex all den denOps denS xOps xC cX CX xthen xblk xcut xloop xng retX resX Calls PV Rd Con
attribute [local irreducible] hostA pgA qsA withinN wso sizedB NetS.gates
open SlotS (SL Acc Fit QI slv zb)
open PagerS (PS Over)
open NetS (pairG)
section
variable {L : List Asrt} {x : SoWorldV}
end
end Go.Sl
namespace Go.Sl
open Go Go.Proofs Go.ChangeShapes Go.WideShapes Go.ChangeAt Go.RowKit
theorem soIn_of {W : World} {x : SoWorldV} (ok : SoWorldVOk W x) : SoIn x := by
  obtain ⟨a, c, hv, _, _⟩ := ok.rows_.sh
  exact ⟨ok.key_, ⟨a, c, hv⟩, ok.size_, ok.text_, ok.window_⟩
end Go.Sl
namespace Go.Sl
open Go Go.Proofs
attribute [local irreducible] pt own old pur ex all den denOps denS xOps xC cX CX xthen xblk xcut xloop xng retX resX Calls PV Rd Con
attribute [local irreducible] hostA pgA PagerS.loadP PagerS.saveP
open SlotS (SL Acc Fit)
open PagerS (PS Over)
structure AOk (x : Acc) : Prop where
  k : -9223372036854775808 ≤ x.1 ∧ x.1 ≤ 9223372036854775807
  i : -9223372036854775808 ≤ x.2.1 ∧ x.2.1 ≤ 9223372036854775807
  j : -9223372036854775808 ≤ x.2.2 ∧ x.2.2 ≤ 9223372036854775807
theorem alits_is (x : Acc) (h : AOk x) : Tryz.prog.keyLits 4 151 (accs x) = some [.int .i64 x.1, .int .i64 x.2.1, .int .i64 x.2.2] := by
  have c3 : Tryz.prog.cellsOf 3 = 1 := by kernel_rfl
  have c63 : Tryz.prog.cellsOf 151 = 3 := by kernel_rfl
  have i1 := lits_int (d := 2) Tryz.underlying3 (wf_i64 h.k)
  have i2 := lits_int (d := 2) Tryz.underlying3 (wf_i64 h.i)
  have i3 := lits_int (d := 2) Tryz.underlying3 (wf_i64 h.j)
  unfold Program.keyLits
  rw [Tryz.underlying151]
  simp only [accs_len, c63, true_and]
  rw [if_pos (by simp)]
  simp only [List.mapM_cons, List.mapM_nil, accs, c3, List.drop_zero, List.cons_append, List.nil_append, List.drop_succ_cons, List.take_succ_cons, List.take_zero]
  simp only [i1, i2, i3]
  simp
theorem aform (x : Acc) : (Value.agg (accs x).toArray).formed Tryz.prog 151 = true := by
  have c63 : Tryz.prog.cellsOf 151 = 3 := by kernel_rfl
  simp [Value.formed, Tryz.underlying151, c63, accs_len]
theorem pv_neq_acc {ρ : Env} {x y : Operand} {T' : Nat} (a : Acc) (h : AOk a) (hx : ev ρ x = .agg (accs a).toArray) (hy : ev ρ y = .agg (accs a).toArray) : PV Tryz.prog (.binOp .neq 151 x y T') ρ (.bool (decide (¬ a = a))) :=
  Zf7 (m := 4) hx hy (by kernel_rfl) (by omega) (by kernel_rfl) (aform a) (aform a) (alits_is a h) (alits_is a h) ⟨fun _ => rfl, fun _ => rfl⟩
theorem heads_tok {r : BitVec 64} {pages : Int} {size : Nat} {l : List HostS.Touch} (h : PagerS.Heads r pages size l) (hp : pages ≤ 65536) (hz : size ≤ 4124) : ∀ t ∈ l, TOk t := by
  intro t ht
  obtain ⟨i, hi, rfl⟩ := List.mem_iff_getElem.1 ht
  obtain ⟨h1, h2, h3, h4⟩ := h i hi
  rcases h4 with ⟨e, hh, _⟩|⟨e, hh⟩
  · exact ⟨by omega, by omega, by omega, by rw [hh]; simp⟩
  · exact ⟨by omega, by omega, by omega, by rw [hh]; simp [leB_len]⟩
theorem hi_tok {s : PS} {h : HostS.HS} (hi : PagerS.HI s h) (hk : PagerS.Ok s) : ∀ t ∈ h.log, TOk t := by
  have := hk.p1; have := hk.t1; have := hi.over.size
  exact heads_tok hi.heads hk.p1 (by omega)
end Go.Sl
namespace Go.Sl
open Go Go.Proofs
attribute [local irreducible] pt own old pur ex all den denOps denS xOps xC cX CX xthen xblk xcut xloop xng retX resX Calls PV Rd Con
attribute [local irreducible] hostA pgA qsA withinN wso sizedB NetS.gates ocells accs PagerS.loadP PagerS.saveP SlotS.ghost
open SlotS (SL Acc Fit QI slv zb)
open PagerS (PS Over)
open NetS (pairG)
theorem sameSeen17_x {L : List Asrt} {va vb : Value} {a : List OTouch} (ha : Rd L 15 va a.length (a.flatMap ocells)) (hb : Rd L 15 vb a.length (a.flatMap ocells)) (hal : a.length ≤ 9223372036854775807) :
    Con Tryz.prog 64 [va, vb] L (fun r M => r = .bool true ∧ L = M) := by
  refine Con.get (fun w0 w F H => ha.len H) ?_
  rintro ⟨aa, ac, rfl⟩
  refine Con.get (fun w0 w F H => hb.len H) ?_
  rintro ⟨ba, bc, rfl⟩
  refine fn_y Tryz.func64 Tryz.mixed ?_
  intro w0
  refine Y9 ?_
  refine Zot 10 rfl ((fun hh => hh rfl)) ?_
  refine V5 ?_
  refine Zgo [(4, 5), (11, 25)] (by kernel_rfl) (fun i : Nat => i ≤ a.length) (fun _ => L) (fun i => [(5, nvv i)]) (fun i => a.length - i) 0 (Nat.zero_le _) qI ⟨rfl, trivial⟩ ?_
  intro i u hi
  refine V6 ?_
  refine Zgg rfl (fun hB => ?_) (fun hB => ?_)
  · refine Zgt (fun F w H => ha.someAt (by omega) H) ?_
    rintro ⟨a1, a2, rfl⟩
    refine Zgt (fun F w H => hb.someAt (by omega) H) ?_
    rintro ⟨b1, b2, rfl⟩
    refine Ct.o ?_
    refine Zij (L) [7] (.q 0 (.q 1 (.q 2 (.q 4 (.q 5 (.q 6 (.r 3 (.r 7 (.q 8 .nil))))))))) (by kernel_rfl) (by kernel_rfl) (Imp.arr qV) ?_
    refine W6 ?_
    refine Zfj rfl rfl (ha.agN ocells_len (by omega) hB) ?_
    refine Zfj rfl rfl (hb.agN ocells_len (by omega) hB) ?_
    refine Zim rfl (pv_neq_touch a[i] a[i] rfl rfl) ?_
    refine Zov 25 rfl ((fun h => h rfl)) ?_
    refine Zik ?_
    refine V6 ?_
    exact Zgl (i + 1) qO (by omega) qI ⟨rfl, trivial⟩
  · refine V3 ?_
    refine rx1 (Zha rfl (Zg7)) ?_
    exact ⟨_, ⟨rfl, rfl⟩, qI⟩
theorem sameLog17_x {L : List Asrt} {va vb : Value} {a : List Acc} (hok : ∀ x ∈ a, AOk x) (ha : Rd L 3 va a.length (a.flatMap accs)) (hb : Rd L 3 vb a.length (a.flatMap accs)) (hal : a.length ≤ 9223372036854775807) :
    Con Tryz.prog 63 [va, vb] L (fun r M => r = .bool true ∧ L = M) := by
  refine Con.get (fun w0 w F H => ha.len H) ?_
  rintro ⟨aa, ac, rfl⟩
  refine Con.get (fun w0 w F H => hb.len H) ?_
  rintro ⟨ba, bc, rfl⟩
  refine fn_y Tryz.func63 Tryz.mixed ?_
  intro w0
  refine Y9 ?_
  refine Zot 10 rfl ((fun hh => hh rfl)) ?_
  refine V5 ?_
  refine Zgo [(4, 5), (11, 25)] (by kernel_rfl) (fun i : Nat => i ≤ a.length) (fun _ => L) (fun i => [(5, nvv i)]) (fun i => a.length - i) 0 (Nat.zero_le _) qI ⟨rfl, trivial⟩ ?_
  intro i u hi
  refine V6 ?_
  refine Zgg rfl (fun hB => ?_) (fun hB => ?_)
  · refine Zgt (fun F w H => ha.someAt (by omega) H) ?_
    rintro ⟨a1, a2, rfl⟩
    refine Zgt (fun F w H => hb.someAt (by omega) H) ?_
    rintro ⟨b1, b2, rfl⟩
    have hoi := hok _ (List.getElem_mem hB)
    refine Ct.o ?_
    refine Zij (L) [7] (.q 0 (.q 1 (.q 2 (.q 4 (.q 5 (.q 6 (.r 3 (.r 7 (.q 8 .nil))))))))) (by kernel_rfl) (by kernel_rfl) (Imp.arr qV) ?_
    refine W6 ?_
    refine Zfj rfl rfl (ha.agN accs_len (by omega) hB) ?_
    refine Zfj rfl rfl (hb.agN accs_len (by omega) hB) ?_
    refine Zim rfl (pv_neq_acc a[i] hoi rfl rfl) ?_
    refine Zov 25 rfl ((fun h => h rfl)) ?_
    refine Zik ?_
    refine V6 ?_
    exact Zgl (i + 1) qO (by omega) qI ⟨rfl, trivial⟩
  · refine V3 ?_
    refine rx1 (Zha rfl (Zg7)) ?_
    exact ⟨_, ⟨rfl, rfl⟩, qI⟩
theorem qi_log {s0 : SL} {tg : PS × HostS.HS} {rows : List (List Byte)} {log : List Acc} {p : PS} {h : HostS.HS} {b : Bk} (k : QI s0 tg rows log p h b) : h.log = (SlotS.ghost s0 tg log).2.log := k.two.hr.log
theorem aokL (n : Nat) {gs : List (Nat × Nat)} (hn : n ≤ 1000) (hg : ∀ g ∈ gs, NetS.okG n g) : ∀ a ∈ setsL n ++ gs.map accG ++ getsL n ++ gs.map accG, AOk a := by
  have c1 : ∀ g ∈ gs, AOk (accG g) := fun g hh => by
    obtain ⟨h1, h2, _⟩ := hg g hh
    exact ⟨by show _ ≤ (2 : Int) ∧ (2 : Int) ≤ _; omega, by show _ ≤ (g.1 : Int) ∧ (g.1 : Int) ≤ _; omega, by show _ ≤ (g.2 : Int) ∧ (g.2 : Int) ≤ _; omega⟩
  intro a ha
  simp only [List.mem_append] at ha
  rcases ha with ((ha|ha)|ha)|ha
  · unfold setsL at ha
    obtain ⟨k, hk, rfl⟩ := List.mem_map.1 ha
    have := List.mem_range.1 hk
    exact ⟨by dsimp only; omega, by dsimp only; omega, by dsimp only; omega⟩
  · obtain ⟨g, hg, rfl⟩ := List.mem_map.1 ha; exact c1 g hg
  · unfold getsL at ha
    obtain ⟨k, hk, rfl⟩ := List.mem_map.1 ha
    have := List.mem_range.1 hk
    exact ⟨by dsimp only; omega, by dsimp only; omega, by dsimp only; omega⟩
  · obtain ⟨g, hg, rfl⟩ := List.mem_map.1 ha; exact c1 g hg
section
variable {L : List Asrt} {x : SoWorldV}
theorem soTblind_x (hi : SoIn x) (hr : Rs L x.rows_V x.rows_) {vo : Value} {other : List Byte} (ho : Bs L vo other) : Con Tryz.prog 11 [.agg (wso x), vo] L (fun r M => r = .bool true ∧ L = M) := by
  obtain ⟨ra, rc, hrv⟩ := hi.rows
  refine Con.get (fun w0 w F H => ho.sh _ _ _ H) ?_
  rintro ⟨oa, oc, rfl, hoc, hocm⟩
  have hk := hi.key
  have hlen := wso_len hk
  have hrows := wso_rows_ hk
  have h := onum x
  have h1 := h.sz; have h5 := h.n
  have hnl : oNn x ≤ x.rows_.length := by unfold oNn; omega
  have hsh := shape_x hi
  have hpl := powN_le (oNn x)
  have hpw := power_x (oNn x) h.n
  have es : (oSl x).size = oSz x := rfl
  have en : (oSl x).n = oNn x := rfl
  have hgl := gatesN_len (n := oNn x) (by omega)
  have hgo := gatesN_ok (n := oNn x) (N := oNn x) (Nat.le_refl _)
  have hfl := filled_x (L := L) hi hr hnl
  have hfl2 := fun a c ps (hps : ps.length = oNn x) => filled_x (L := [rowS a c ps, star ownP ps]) (x := x) (v := .slice a ps.length c) (ps := prt ps) hi (prt_rs .here (.there .here)) (by rw [List.length_map]; omega)
  rw [hrv] at hrows hr hfl
  have hso := fun q pp ph rows => soSort_x (L := []) (m := 0) (q := q) (pp := pp) (ph := ph) (s0 := oSl x) (tg := oTg x) (rows := rows) (log := setsL (oNn x)) (n := powN (oNn x)) (gs := gatesN (oNn x)) (by omega) (by rw [en]; omega) (powN_pad (by omega)) (gatesN_g (by omega)) (by rw [en]; exact hgo) (by rw [setsL_len]; omega) (by rw [es]; omega) byGrp_con
  have hsd := fun q pp ph rows (hrl : ∀ k, k < (oSl x).n → (rows.getD k []).length = (oSl x).size) => soSorted_x (L := []) (q := q) (pp := pp) (ph := ph) (s0 := oSl x) (tg := oTg x) (rows := rows) (log := setsL (oNn x) ++ (gatesN (oNn x)).map accG) (n := oNn x) (by rw [en]; omega) (by omega) (by rw [List.length_append, List.length_map, setsL_len]; omega) (by rw [es]; omega) hrl (first_con (by rw [es]; omega))
  have hbk := fun q pp ph rows => soBack_x (L := []) (q := q) (pp := pp) (ph := ph) (s0 := oSl x) (tg := oTg x) (rows := rows) (log := setsL (oNn x) ++ (gatesN (oNn x)).map accG ++ getsL (oNn x)) (n := powN (oNn x)) (gs := gatesN (oNn x)) (by omega) (by rw [en]; omega) (powN_pad (by omega)) (gatesN_g (by omega)) (by rw [en]; exact hgo) (by rw [List.length_append, List.length_append, List.length_map, setsL_len, getsL_len]; omega) (by rw [es]; omega)
  have hao := aokL (oNn x) (gs := gatesN (oNn x)) (by omega) hgo
  have hl4 : (setsL (oNn x) ++ (gatesN (oNn x)).map accG ++ getsL (oNn x) ++ (gatesN (oNn x)).map accG).length ≤ 2000000 := by simp only [List.length_append, List.length_map, setsL_len, getsL_len]; omega
  generalize setsL (oNn x) ++ (gatesN (oNn x)).map accG ++ getsL (oNn x) ++ (gatesN (oNn x)).map accG = l4 at *
  generalize setsL (oNn x) ++ (gatesN (oNn x)).map accG ++ getsL (oNn x) = l3 at *
  generalize setsL (oNn x) ++ (gatesN (oNn x)).map accG = l2 at *
  generalize setsL (oNn x) = l1 at *
  generalize gatesN (oNn x) = gs at *
  generalize rowsF (bsOf x.rows_) (oSz x) (oNn x) = R1 at *
  clear hgl hgo
  generalize oSl x = S0 at *
  generalize oTg x = T0 at *
  refine fn_y Tryz.func11 Tryz.mixed ?_
  intro w0
  refine Y1 ?_
  refine Zh5 rfl ?_; intro b2
  refine Y3 ?_
  refine Zor (c := soWorks_x) (k := ?_)
  rintro _ _ ⟨rfl, rfl⟩
  refine Y1 ?_
  refine Zhg (Zb0 rfl) ?_
  refine Zhn 27 rfl (rfl) ?_
  refine Y4 ?_
  refine Zor (c := hsh) (k := ?_)
  rintro _ _ ⟨rfl, rfl⟩
  refine Y1 ?_
  refine Zhz (cs := #[.int .i64 0, .int .i64 0, .int .i64 0, .int .i64 0, .int .i64 0]) rfl ?_; intro b5
  first|refine Zhy rfl rfl qR qZ (by first|rfl|exact oneM_u8 _|exact oneL_u8 _|exact acc_one _|exact acc_ones _|assumption|(simp [oneC]; done)) qZ ?_|refine Zhx rfl rfl qR qZ (by first|rfl|exact oneM_u8 _|exact oneL_u8 _|exact acc_one _|exact acc_ones _|assumption|(simp [oneC]; done)) qZ rfl ?_
  refine V7 ?_
  refine Zgo [(6, 9), (30, 75)] (by kernel_rfl) (fun s : Nat × Option Addr × Nat × List Part => s.1 ≤ oNn x ∧ s.2.2.2.length = s.1) (fun s => rowS s.2.1 s.2.2.1 s.2.2.2 :: star ownP s.2.2.2 :: cl b5 (shV x) 86 :: cl b2 (wso x) 84 :: L) (fun s => [(6, .slice s.2.1 s.2.2.2.length s.2.2.1), (7, nvv s.1)]) (fun s => oNn x - s.1) (0, none, 0, []) ⟨Nat.zero_le _, rfl⟩ (by show Imp _ (own 66 1 (.slice none 0 0) 0 [] :: star ownP [] :: cl b5 (shV x) 86 :: cl b2 (wso x) 84 :: L); exact star_nil.trans (Imp.own_nil)) ⟨rfl, rfl, trivial⟩ ?_
  rintro ⟨i, a, c, ps⟩ u ⟨hi9, hps⟩
  dsimp only at hi9 hps ⊢
  refine V6 ?_
  refine Zgg rfl (fun hB => ?_) (fun hB => ?_)
  · have hib : i < x.rows_.length := by omega
    refine Zgt (fun F w H => (hr.rd.imp qI).someAt (by omega) H) ?_
    rintro ⟨g, o, rfl⟩
    have hbi := hr.el _ (List.getElem_mem hib)
    have hsz := sized_x hbi (oSz x) (by omega)
    have hbl := sizedB_len x.rows_[i].2 (oSz x)
    generalize sizedB x.rows_[i].2 (oSz x) = bb at *
    refine Ct.o ?_
    refine Zij ((cl b5 (shV x) 86 :: cl b2 (wso x) 84 :: L)) [6] (.q 0 (.q 2 (.q 5 (.r 1 (.q 3 (.r 4 (.r 6 (.e 7 false (.q 8 .nil))))))))) (by kernel_rfl) (by kernel_rfl) (Imp.arr qV) ?_
    refine W3 ?_
    refine Ziv rfl rfl qH (hrows) ?_
    refine W1 ?_
    refine Zfh rfl rfl (((hr.imp qI).rd.at hib (getM (f := Prod.fst) hib))) ?_
    refine W1 ?_
    refine Ziq rfl ?_
    refine Zor (c := hsz) (k := ?_)
    rintro _ _ ⟨gb, rfl, rfl⟩
    refine Y1 ?_
    refine Zg3 ⟨(fun hh => Bool.noConfusion hh), ?_⟩
    refine W2 ?_
    refine V3 ?_
    refine Zgo [(9, 9), (44, 71)] (by kernel_rfl) (fun s : Nat × List Byte => s.1 ≤ oSz x ∧ s.2.length = oSz x) (fun s => blk gb s.2 :: rowS a c ps :: star ownP ps :: cl b5 (shV x) 86 :: cl b2 (wso x) 84 :: L) (fun s => [(9, nvv s.1)]) (fun s => oSz x - s.1) (0, bb) ⟨Nat.zero_le _, hbl⟩ qI ⟨rfl, trivial⟩ ?_
    rintro ⟨k, B⟩ u2 ⟨hk9, hBl⟩
    dsimp only at hk9 hBl ⊢
    by_cases hk2 : k < oSz x
    case' pos =>
      by_cases ho0 : 0 < other.length
      case' pos =>
        refine Zgt (fun F w H => (ho.imp (Imp.arr (M := _) qV)).some (by omega) H) ?_
        rintro ⟨o1, o2, rfl⟩
        have hmod : (i + k) % other.length < other.length := Nat.mod_lt _ ho0
        refine Y4 ?_
        refine Zhg (Zmf (a := k) (b := oSz x) rfl rfl) ?_
        refine Zos 47 rfl (hk2) ?_
        refine Y3 ?_
        first|refine Y0 ?_|(refine Zhh rfl ?_; (refine Zhg (Zmh (a := other.length) (b := 0) rfl rfl) ?_))
        refine Zos 51 rfl (ho0) ?_
        refine V3 ?_
        refine Zij ((blk gb B :: L)) [14] (.q 0 (.q 1 (.q 2 (.q 3 (.q 4 (.q 6 (.q 7 (.q 8 (.q 9 (.q 10 (.q 11 (.q 12 (.q 13 (.r 5 (.r 14 (.q 15 (.q 16 (.e 17 false .nil)))))))))))))))))) (by kernel_rfl) (by kernel_rfl) (Imp.arr qV) ?_
        refine W12 ?_
        refine Zim rfl (Zl1 (n := (i + k) % other.length) rfl rfl hmod) ?_
        refine Ziv rfl rfl qH ((getL (f := u8b) (l := B) (by omega))) ?_
        refine Zfh rfl rfl (((ho.rd.imp qI).at hmod (getM hmod))) ?_
        refine Zim rfl (Zje (x := B[k]) (y := other[(i + k) % other.length]) rfl rfl) ?_
        refine W1 ?_
        refine Ziq rfl ?_
        refine Zht rfl rfl qR qZ (setL (f := u8b) (l := B)) ?_
        refine Zg3 ⟨(fun hh => Bool.noConfusion hh), ?_⟩
        refine Zik ?_
        refine V5 ?_
        exact Zgl (k + 1, B.set k (B[k] ^^^ other[(i + k) % other.length])) qO ⟨by dsimp only; omega, by dsimp only; rw [List.length_set]; exact hBl⟩ qI ⟨rfl, trivial⟩
      refine Y4 ?_
      refine Zhg (Zmf (a := k) (b := oSz x) rfl rfl) ?_
      refine Zos 47 rfl (hk2) ?_
      refine Y3 ?_
      first|refine Y0 ?_|(refine Zhh rfl ?_; (refine Zhg (Zmh (a := other.length) (b := 0) rfl rfl) ?_))
      refine Zot 51 rfl (ho0) ?_
      refine V2 ?_
    case' neg =>
      refine Y4 ?_
      refine Zhg (Zmf (a := k) (b := oSz x) rfl rfl) ?_
      refine Zot 47 rfl (hk2) ?_
      refine V6 ?_
    all_goals
      refine V1 ?_
      refine Zgp (own_part (n := oSz x) (by omega) (by omega)) ?_
      refine Y3 ?_
      refine Zh7 (cs := #[.slice _ _ _]) (by omega) (by omega) rfl ?_; intro b74
      refine Zia rfl rfl qH (Rd.cl (xs := [vP (some ⟨gb, 0, none⟩, oSz x, B)]) qH rfl qZ (by unfold vP; rw [show B.length = oSz x by omega]; rfl)) (by first|rfl|exact oneM_u8 _|exact oneL_u8 _|exact acc_one _|exact acc_ones _|assumption|(simp [oneC]; done)) (by omega) qS ?_; intro a3 c3
      refine V7 ?_
      refine Zgl (i + 1, a3, c3, ps ++ [(some ⟨gb, 0, none⟩, oSz x, B)]) qO ⟨by dsimp only; omega, by dsimp only; rw [List.length_append, hps]; rfl⟩ ?_ ⟨by dsimp only; rw [List.length_append]; rfl, rfl, trivial⟩
      exact (Imp.arr (N := own 66 1 (.slice a3 (ps.length + 1) c3) (ps.length + 1) (ps.map vP ++ [vP (some ⟨gb, 0, none⟩, oSz x, B)]) :: ownP (some ⟨gb, 0, none⟩, oSz x, B) :: star ownP ps :: cl b5 (shV x) 86 :: cl b2 (wso x) 84 :: L) qV).trans rowS_snoc
  · obtain rfl : i = oNn x := by omega
    have hq2 := hfl2 a c ps hps
    generalize rowsF (bsOf (prt ps)) (oSz x) (oNn x) = R2 at *
    clear hfl2
    refine Y3 ?_
    refine Zhp rfl qH (hrows) ?_
    refine Zor (c := hfl) (k := ?_)
    rintro _ _ ⟨q, pp, ph, rfl, rfl⟩
    refine Y12 ?_
    refine Zor (c := hq2) (k := ?_)
    rintro _ _ ⟨q', pp', ph', rfl, rfl⟩
    refine Y11 ?_
    refine Zhg (Zb0 rfl) ?_
    refine Zhn 92 rfl (rfl) ?_
    refine Y2 ?_
    first|refine Y0 ?_|(refine Zhh rfl ?_; (refine Zhg (Zb0 rfl) ?_))
    refine Zhn 95 rfl (rfl) ?_
    refine Y6 ?_
    refine Zor (c := hpw) (k := ?_)
    rintro _ _ ⟨rfl, rfl⟩
    refine Y6 ?_
    refine Zor (c := hso q pp ph R1) (k := ?_)
    rintro _ _ ⟨rfl, rfl⟩
    refine Y3 ?_
    refine Zor (c := hso q' pp' ph' R2) (k := ?_)
    rintro _ _ ⟨rfl, rfl⟩
    refine V4 ?_
    generalize gs.foldl (pairG fun a b => yesM (byGrp a b)) R1 = Q1 at *
    generalize gs.foldl (pairG fun a b => yesM (byGrp a b)) R2 = Q2 at *
    refine Zgt (fun F w H => qs_get (q := q) (pp := pp) (ph := ph) (s0 := S0) (tg := T0) (rows := Q1) (log := l2) qH H) ?_
    rintro ⟨p1, h1', b1', k1⟩
    have r1 := fun k hk => k1.rlen (m := k) hk
    refine Zgt (fun F w H => qs_get (q := q') (pp := pp') (ph := ph') (s0 := S0) (tg := T0) (rows := Q2) (log := l2) qH H) ?_
    rintro ⟨p2, h2', b2', k2⟩
    have r2 := fun k hk => k2.rlen (m := k) hk
    clear k1 k2 p1 h1' b1' p2 h2' b2'
    refine Y4 ?_
    refine Zor (c := hsd q pp ph Q1 r1) (k := ?_)
    rintro _ _ ⟨rfl, rfl⟩
    refine Y11 ?_
    refine Zor (c := hsd q' pp' ph' Q2 r2) (k := ?_)
    rintro _ _ ⟨rfl, rfl⟩
    refine Y10 ?_
    refine Zor (c := hbk q pp ph Q1) (k := ?_)
    rintro _ _ ⟨rfl, rfl⟩
    refine Y3 ?_
    refine Zor (c := hbk q' pp' ph' Q2) (k := ?_)
    rintro _ _ ⟨rfl, rfl⟩
    refine V4 ?_
    generalize gs.foldl (pairG fun a b => yesM (byIdx a b)) Q1 = V1 at *
    generalize gs.foldl (pairG fun a b => yesM (byIdx a b)) Q2 = V2 at *
    refine Y3 ?_
    refine Zos 127 rfl (rfl) ?_
    refine Y3 ?_
    refine Zos 130 rfl (rfl) ?_
    refine Y4 ?_
    refine Zos 134 rfl (rfl) ?_
    refine Y4 ?_
    refine Zos 138 rfl (rfl) ?_
    refine Y4 ?_
    refine Zos 142 rfl (rfl) ?_
    refine Y4 ?_
    refine Zos 146 rfl (rfl) ?_
    refine V3 ?_
    refine Zgp (Imp.has (A := qsA q pp ph S0 T0 V1 l4) qH) ?_
    refine x_qsA ?_
    intro p1 h1' b1' k1
    refine Zgp (Imp.has (A := qsA q' pp' ph' S0 T0 V2 l4) qH) ?_
    refine x_qsA ?_
    intro p2 h2' b2' k2
    have hlog : h1'.log = h2'.log := (qi_log k1).trans (qi_log k2).symm
    have hok := k1.quiet.sound.ok
    obtain ⟨ol, hol2⟩ := sub_of (hi_tok k1.two.i hok)
    have hoc2 : h1'.log.flatMap tcells = ol.flatMap ocells := by rw [hol2, List.flatMap_map]; with_unfolding_all rfl
    have holl : h1'.log.length = ol.length := by rw [hol2, List.length_map]
    have ho1 := k1.ops
    have ho2 := k2.ops
    refine Zgt (fun F w H => host_ok (p := ph) (s := h1') qH H) ?_
    intro hho
    have hll := hho.log
    have hsl : (slv S0 l4).log = l4 := rfl
    have hg1 := fun a1 c1 a2 c2 => sameLog17_x (L := [ownAcc a1 c1 l4, ownAcc a2 c2 l4]) (a := l4) hao (Rd.own .here) (Rd.own (.there .here)) (by omega)
    have hg3 := fun a1 c1 a2 c2 => sameSeen17_x (L := [ownLog a1 c1 h1'.log, ownLog a2 c2 h2'.log]) (a := ol) (by rw [← holl, ← hoc2]; exact Rd.own .here) (by rw [← holl, ← hoc2, hlog]; exact Rd.own (.there .here)) (by omega)
    have hlx := log_x (p := ph) (s := h1') (by omega)
    have hlx2 := log_x (p := ph') (s := h2') (by omega)
    have hsx := slog_x (q := q) (pp := pp) (s := slv S0 l4) (by rw [hsl]; omega)
    have hsx2 := slog_x (q := q') (pp := pp') (s := slv S0 l4) (by rw [hsl]; omega)
    rw [hsl] at hsx hsx2
    refine Y4 ?_
    first|refine Y0 ?_|(refine Zhh rfl ?_; (refine Zor (c := hsx) (k := ?_)); (rintro _ _ ⟨a1, c1, rfl, rfl⟩); (refine Zg2 qA ?_))
    refine Y1 ?_
    first|refine Y0 ?_|(refine Zhh rfl ?_; (refine Zor (c := hsx2) (k := ?_)); (rintro _ _ ⟨a2, c2, rfl, rfl⟩); (refine Zg2 qA ?_))
    first|refine Y0 ?_|(refine Zhh rfl ?_; (refine Zor (c := hg1 a1 c1 a2 c2) (k := ?_)); (rintro _ _ ⟨rfl, rfl⟩); (refine Zg2 qA ?_))
    refine Y3 ?_
    first|refine Y0 ?_|(refine Zhh rfl ?_; (refine Zor (c := hlx) (k := ?_)); (rintro _ _ ⟨a3, c3, rfl, rfl⟩); (refine Zg2 qA ?_))
    refine Y1 ?_
    first|refine Y0 ?_|(refine Zhh rfl ?_; (refine Zor (c := hlx2) (k := ?_)); (rintro _ _ ⟨a4, c4, rfl, rfl⟩); (refine Zg2 qA ?_))
    first|refine Y0 ?_|(refine Zhh rfl ?_; (refine Zor (c := hg3 a3 c3 a4 c4) (k := ?_)); (rintro _ _ ⟨rfl, rfl⟩); (refine Zg2 qA ?_))
    refine V3 ?_
    refine rx1 (Zha rfl (Zg7)) ?_
    exact ⟨_, ⟨rfl, rfl⟩, qI⟩
end
theorem soTblind_w (W : World) (x : SoWorldV) (ok : SoWorldVOk W x) (v : Value) (l : List Byte) (hl : InB W v l) : Con Tryz.prog 11 [.agg x.cells.toArray, v] [old W] (fun r M => r = .bool true ∧ [old W] = M) := by
  have := soTblind_x (soIn_of ok) (ok.rows_.rs (M := [old W]) .here) (hl.bs (M := [old W]) .here)
  with_unfolding_all unfold wso at this
  exact this
end Go.Sl
