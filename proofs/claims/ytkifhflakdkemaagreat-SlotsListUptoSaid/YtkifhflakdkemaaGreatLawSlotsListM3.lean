/- Parts of the proof. -/
import Derived.Test.YtkifhflakdkemaaGreatLawSlotsListM0
import Derived.Test.YtkifhflakdkemaaGreatLawSlotsListM1
import Derived.Test.YtkifhflakdkemaaGreatLawSlotsListM2
set_option maxHeartbeats 4000000
set_option maxRecDepth 10000
set_option linter.unusedVariables false
set_option linter.unusedSimpArgs false
namespace Go.Sl.PagerS
open Go Go.Sl Go.Sl.HostS
attribute [local irreducible] pgSealB pgOpenR
def Mild (h : HS) : Prop := ∀ k, ∀ f ∈ h.coming k, 3 ≤ f.kind
theorem spoil1_mild (h : HS) (n : Int) (b : Bytes) (f : Fault) (hk : 3 ≤ f.kind) : spoil1 h n b f = b := by
 unfold spoil1
 rw [if_neg (by omega), if_neg (by omega), if_neg (by omega)]
theorem spoilt_mild {h : HS} (hm : Mild h) (n : Int) : spoilt h n (h.coming h.ops) = back h n 0 := by
 unfold spoilt
 have : ∀ (l : List Fault) (b : Bytes), (∀ f ∈ l, 3 ≤ f.kind) → l.foldl (spoil1 h n) b = b := by
  intro l
  induction l with
  | nil => intro b _; rfl
  | cons f r ih =>
   intro b hl
   rw [List.foldl_cons, spoil1_mild _ _ _ _ (hl f (List.mem_cons_self ..))]
   exact ih b fun g hg => hl g (List.mem_cons_of_mem _ hg)
 exact this _ _ (hm h.ops)
theorem mild_taken {h : HS} (hm : Mild h) (c : Int → List Fault) (hc : c = setF h.coming h.ops []) (g : HS) (hg : g.coming = c) : Mild g := by
 intro k f hf
 rw [hg, hc] at hf
 unfold setF at hf
 split at hf
 ·cases hf
 ·exact hm k f hf
theorem does_coming (h : HS) (op n : Int) (b : Bytes) (act : HS → HS) (ha : ∀ g, (act g).coming = g.coming) : (does h op n b act).1.coming = h.coming ∨ (does h op n b act).1.coming = setF h.coming h.ops [] := by
 unfold does
 split
 ·exact .inl rfl
 ·dsimp only
  split
  ·exact .inr rfl
  ·split
   ·exact .inr (ha _)
   ·exact .inr (ha _)
theorem does_mild {h : HS} (hm : Mild h) (op n : Int) (b : Bytes) (act : HS → HS) (ha : ∀ g, (act g).coming = g.coming) : Mild (does h op n b act).1 := by
 rcases does_coming h op n b act ha with e|e
 ·intro k f hf; rw [e] at hf; exact hm k f hf
 ·exact mild_taken hm _ rfl _ e
theorem writeR_mild {h : HS} (hm : Mild h) (n : Int) (b : Bytes) : Mild (writeR h n b).2 := by
 unfold writeR
 split
 ·split
  ·exact does_mild hm _ _ _ _ fun _ => rfl
  ·exact hm
 ·exact hm
theorem readR_mild {h : HS} (hm : Mild h) (n : Int) : Mild (readR h n).2.2 := by
 have := does_mild hm 0 n [] id fun _ => rfl
 unfold readR
 split
 ·dsimp only
  split
  ·exact this
  ·exact this
 ·exact hm
theorem does_zero {h : HS} {op n : Int} {b : Bytes} {act : HS → HS} (he : (does h op n b act).2 = 0) : (does h op n b act).1 = act (logged h op n b) := by
 unfold does at he ⊢
 split at he
 ·cases he
 ·rename_i hd
  rw [if_neg hd]
  dsimp only at he ⊢
  split at he
  ·cases he
  ·rename_i hb
   rw [if_neg hb]
   split at he
   ·cases he
   ·rename_i hb2
    rw [if_neg hb2]
theorem does_back {h : HS} {op n : Int} {b : Bytes} (m : Int) : back (does h op n b id).1 m 0 = back h m 0 := by
 unfold does
 split
 ·rfl
 ·dsimp only
  split
  ·rfl
  ·split <;> rfl
theorem readR_back (h : HS) (n m : Int) : back (readR h n).2.2 m 0 = back h m 0 := by
 unfold readR
 split
 ·dsimp only
  split
  ·exact does_back m
  ·exact does_back m
 ·rfl
theorem writeR_zero {h : HS} {n : Int} {b : Bytes} (he : (writeR h n b).1 = 0) : (writeR h n b).2 = wrote n b (logged h 1 n b) := by
 unfold writeR at he ⊢
 split at he
 ·rename_i ht
  rw [if_pos ht]
  split at he
  ·rename_i hl
   rw [if_pos hl]
   exact does_zero he
  ·cases he
 ·cases he
theorem wrote_back (h : HS) (n : Int) (b : Bytes) (m : Int) : back (wrote n b (logged h 1 n b)) m 0 = if m = n then b else back h m 0 := by
 have e0 : (wrote n b (logged h 1 n b)).lay m = setF h.lay n (h.lay n ++ [b]) m := rfl
 have ez : (wrote n b (logged h 1 n b)).size = h.size := rfl
 unfold back
 rw [e0, ez]
 by_cases e : m = n
 ·subst e
  rw [if_pos rfl]
  have e1 : setF h.lay m (h.lay m ++ [b]) m = h.lay m ++ [b] := by unfold setF; rw [if_pos rfl]
  simp only [e1, List.length_append, List.length_singleton]
  rw [if_pos (by omega), show (((h.lay m).length + 1 : Nat) : Int) - 1 - max 0 0 = ((h.lay m).length : Int) from by omega, Int.toNat_natCast, List.getD_eq_getElem?_getD, List.getElem?_append_right (Nat.le_refl _)]
  simp
 ·rw [if_neg e]
  have e1 : setF h.lay n (h.lay n ++ [b]) m = h.lay m := by unfold setF; rw [if_neg e]
  simp only [e1]
theorem readR_zero {h : HS} (hm : Mild h) {n : Int} (he : (readR h n).2.1 = 0) : (readR h n).1 = back h n 0 := by
 unfold readR at he ⊢
 split at he
 ·rename_i ht
  rw [if_pos ht]
  dsimp only at he ⊢
  split at he
  ·rename_i h0
   rw [if_pos h0]
   exact spoilt_mild hm n
  ·rename_i h0; exact absurd he h0
 ·cases he
theorem readR_err (h : HS) (n : Int) : (readR h n).2.1 ≤ 1000 := by
 unfold readR
 split
 ·dsimp only
  split
  ·dsimp only; omega
  ·dsimp only
   unfold does
   split
   ·(dsimp only; omega)
   ·dsimp only
    split
    ·(dsimp only; omega)
    ·split <;> (dsimp only; omega)
 ·dsimp only; omega
def Lain (s : PS) (h : HS) (n : Int) (t : Bytes) : Prop := (s.last n = none → t = List.replicate s.text 0#8) ∧ ∀ pl, s.last n = some pl → back h n 0 = pgSealB s.key pl t
def Right (s : PS) (h : HS) (n : Int) (t : Bytes) : Prop := (∀ f, frOf s n = some f → f.text = t) ∧ (changedAt s n = false → Lain s h n t)
structure Sound (s : PS) (h : HS) (b : Int → Bytes) : Prop where
 ok : Ok s
 over : Over s h
 mild : Mild h
 len : ∀ n, (b n).length = s.text
 right : s.err = 0 → ∀ n, Right s h n (b n)
theorem frOf_cleaned (s : PS) (n m : Int) : (cleaned s.held n).find? (fun f => f.page == m) = (frOf s m).map fun f => if f.page = n then { f with is := 1 } else f := by
 unfold cleaned frOf
 rw [List.find?_map]
 congr 1
 congr 1
 funext f
 simp only [Function.comp]
 split <;> rfl
theorem frOf_wrote (s : PS) (n m : Int) : frOf (wroteP s n) m = (frOf s m).map fun f => if f.page = n then { f with is := 1 } else f := frOf_cleaned s n m
theorem changed_wrote (s : PS) (n m : Int) : changedAt (wroteP s n) m = if m = n then false else changedAt s m := by
 unfold changedAt
 rw [frOf_wrote]
 cases hf : frOf s m with
 | none => simp
 | some f =>
  have hp := (frOf_mem hf).2
  simp only [Option.map_some, Option.getD_some]
  rw [hp]
  split
  ·rfl
  ·rfl
theorem frOf_use (s : PS) (f : Fr) (m : Int) : frOf (useP s f) m = if m = f.page then some f else frOf s m := by
 unfold frOf useP
 dsimp only
 rw [List.find?_append]
 by_cases e : m = f.page
 ·rw [if_pos e, List.find?_eq_none.2 (by
   intro x hx
   have := (List.mem_filter.1 hx).2
   simp only [Bool.not_eq_true', beq_eq_false_iff_ne, ne_eq] at this
   simp [e, this])]
  simp [e]
 ·rw [if_neg e]
  have e1 : (s.held.filter fun g => !(g.page == f.page)).find? (fun g => g.page == m) = s.held.find? fun g => g.page == m := by
   rw [List.find?_filter]
   congr 1
   funext x
   by_cases hx : x.page = m
   ·simp [hx, e]
   ·simp [hx]
  rw [e1]
  cases s.held.find? (fun g => g.page == m) with
  | some x => rfl
  | none =>
   have : ¬ f.page = m := fun hh => e hh.symm
   simp [this]
theorem changed_use (s : PS) (f : Fr) (m : Int) : changedAt (useP s f) m = if m = f.page then f.is == 2 else changedAt s m := by
 unfold changedAt
 rw [frOf_use]
 split <;> rfl
theorem frOf_tail {s : PS} (hk : Ok s) {x : Fr} {r : List Fr} (hh : s.held = x :: r) (m : Int) : frOf { s with held := s.held.tail } m = if m = x.page then none else frOf s m := by
 unfold frOf
 dsimp only
 rw [hh, List.tail_cons]
 have hn := hk.once
 unfold numbers at hn
 rw [hh, List.map_cons, List.nodup_cons] at hn
 by_cases e : m = x.page
 ·rw [if_pos e, List.find?_eq_none]
  intro f hf
  simp only [beq_iff_eq]
  intro e2
  exact hn.1 (by rw [← e, ← e2]; exact List.mem_map.2 ⟨f, hf, rfl⟩)
 ·rw [if_neg e, List.find?_cons_of_neg (by simp only [beq_iff_eq]; exact fun hh => e hh.symm)]
theorem changed_tail {s : PS} (hk : Ok s) {x : Fr} {r : List Fr} (hh : s.held = x :: r) (m : Int) : changedAt { s with held := s.held.tail } m = if m = x.page then false else changedAt s m := by
 unfold changedAt
 rw [frOf_tail hk hh]
 split <;> rfl
section
variable {s : PS} {h : HS} {b : Int → Bytes}
theorem writeP_errs (s : PS) (h : HS) (n : Int) : (writeP s h n).1 ≠ 0 → (writeP s h n).1 ≤ 1000 ∧ (writeP s h n).2.1 = die s (writeP s h n).1 := by
 unfold writeP
 split
 ·intro _; exact ⟨by dsimp only; omega, rfl⟩
 ·dsimp only
  split
  ·intro hh; exact absurd rfl hh
  ·intro _
   refine ⟨?_, rfl⟩
   dsimp only
   unfold writeR
   split
   ·split
    ·unfold does
     split
     ·(dsimp only; omega)
     ·dsimp only
      split
      ·(dsimp only; omega)
      ·split <;> (dsimp only; omega)
    ·(dsimp only; omega)
   ·(dsimp only; omega)
theorem writeP_zero {n : Int} (he : (writeP s h n).1 = 0) : s.writes ≠ 4294967295 ∧ (writeR h n (boxOf s n)).1 = 0 ∧ writeP s h n = (0, wroteP s n, (writeR h n (boxOf s n)).2) := by
 unfold writeP at he ⊢
 split at he
 ·cases he
 ·rename_i hw
  rw [if_neg hw]
  dsimp only at he ⊢
  split at he
  ·rename_i h0; rw [if_pos h0]; exact ⟨hw, h0, rfl⟩
  ·rename_i h0; exact absurd he h0
theorem writeP_host (n : Int) : (writeP s h n).2.2 = h ∨ (writeP s h n).2.2 = (writeR h n (boxOf s n)).2 := by
 unfold writeP
 split
 ·exact .inl rfl
 ·dsimp only
  split
  ·exact .inr rfl
  ·exact .inr rfl
theorem does_same (h : HS) (op page : Int) (b : Bytes) (act : HS → HS) (ha : ∀ s, (act s).pages = s.pages ∧ (act s).size = s.size) : (does h op page b act).1.pages = h.pages ∧ (does h op page b act).1.size = h.size := by
 have h2 := ha (logged h op page b)
 unfold does
 split
 ·exact ⟨rfl, rfl⟩
 ·dsimp only
  split
  ·exact ⟨rfl, rfl⟩
  ·split
   ·exact h2
   ·exact h2
theorem writeR_same (h : HS) (page : Int) (b : Bytes) : (writeR h page b).2.pages = h.pages ∧ (writeR h page b).2.size = h.size := by
 unfold writeR
 split
 ·split
  ·exact does_same h 1 page b _ (fun _ => ⟨rfl, rfl⟩)
  ·exact ⟨rfl, rfl⟩
 ·exact ⟨rfl, rfl⟩
theorem readR_same (h : HS) (page : Int) : (readR h page).2.2.pages = h.pages ∧ (readR h page).2.2.size = h.size := by
 have d := does_same h 0 page [] id (fun _ => ⟨rfl, rfl⟩)
 unfold readR
 split
 ·dsimp only
  split
  ·exact d
  ·exact d
 ·exact ⟨rfl, rfl⟩
theorem Sound.dead (hs : Sound s h b) (e : Nat) (h0 : e ≠ 0) (he : e ≤ 1000) {h' : HS} (hm : Mild h') (hp : h'.pages = h.pages ∧ h'.size = h.size) : Sound (die s e) h' b :=
 ⟨ok_die hs.ok e he, ⟨hp.1.trans hs.over.pages, hp.2.trans hs.over.size⟩, hm, hs.len, fun hh => absurd hh h0⟩
theorem Sound.write (hs : Sound s h b) (h0 : s.err = 0) {n : Int} (hn : n ∈ numbers s) : Sound (writeP s h n).2.1 (writeP s h n).2.2 b := by
 by_cases he : (writeP s h n).1 = 0
 ·obtain ⟨hw, hz, e⟩ := writeP_zero he
  rw [e, writeR_zero hz]
  have hwl := hs.ok.writes
  refine ⟨ok_wrote hs.ok n (by omega), ⟨hs.over.pages, hs.over.size⟩, mild_taken hs.mild _ rfl _ rfl, hs.len, fun _ m => ?_⟩
  obtain ⟨r1, r2⟩ := hs.right h0 m
  refine ⟨?_, ?_⟩
  ·intro f hf
   rw [frOf_wrote] at hf
   obtain ⟨g, hg, rfl⟩ := Option.map_eq_some_iff.1 hf
   have := r1 g hg
   split
   ·exact this
   ·exact this
  ·intro hc
   rw [changed_wrote] at hc
   by_cases e1 : m = n
   ·subst e1
    obtain ⟨f, hf⟩ := frOf_of hn
    refine ⟨fun hh => ?_, fun pl hh => ?_⟩
    ·have : (wroteP s m).last m = some (nextPl s m) := by unfold wroteP setF; simp
     rw [this] at hh; cases hh
    ·have : (wroteP s m).last m = some (nextPl s m) := by unfold wroteP setF; simp
     rw [this] at hh
     obtain rfl := Option.some.inj hh
     dsimp only
     rw [wrote_back, if_pos rfl]
     show boxOf s m = _
     unfold boxOf
     have : textOf s m = b m := by unfold textOf; rw [hf]; exact r1 f hf
     rw [this]; rfl
   ·rw [if_neg e1] at hc
    obtain ⟨l1, l2⟩ := r2 hc
    have hl : (wroteP s n).last m = s.last m := by unfold wroteP setF; simp [e1]
    refine ⟨fun hh => l1 (hl ▸ hh), fun pl hh => ?_⟩
    dsimp only
    rw [wrote_back, if_neg e1]
    exact l2 pl (hl ▸ hh)
 ·obtain ⟨e1, e2⟩ := writeP_errs s h n he
  rw [e2]
  rcases writeP_host (s := s) (h := h) n with e|e
  ·rw [e]; exact hs.dead _ he e1 hs.mild ⟨rfl, rfl⟩
  ·rw [e]; exact hs.dead _ he e1 (writeR_mild hs.mild _ _) (writeR_same _ _ _)
theorem writeP_numbers (s : PS) (h : HS) (n : Int) : numbers (writeP s h n).2.1 = numbers s ∧ (writeP s h n).2.1.window = s.window ∧ (writeP s h n).2.1.pages = s.pages ∧ (writeP s h n).2.1.text = s.text ∧ (writeP s h n).2.1.key = s.key ∧ (writeP s h n).2.1.round = s.round := by
 by_cases he : (writeP s h n).1 = 0
 ·obtain ⟨_, _, e⟩ := writeP_zero he
  rw [e]
  exact ⟨cleaned_pages _ _, rfl, rfl, rfl, rfl, rfl⟩
 ·obtain ⟨_, e⟩ := writeP_errs s h n he
  rw [e]
  exact ⟨rfl, rfl, rfl, rfl, rfl, rfl⟩
theorem Sound.tail (hs : Sound s h b) (hc : ∀ x r, s.held = x :: r → changedAt s x.page = false) : Sound { s with held := s.held.tail } h b := by
 cases hh : s.held with
 | nil =>
  have : ({ s with held := ([] : List Fr).tail } : PS) = s := by rw [List.tail_nil, ← hh]
  rw [this]; exact hs
 | cons x r =>
  rw [← hh]
  refine ⟨ok_tail hs.ok, ⟨hs.over.pages, hs.over.size⟩, hs.mild, hs.len, fun h0 m => ?_⟩
  obtain ⟨r1, r2⟩ := hs.right h0 m
  refine ⟨fun f hf => ?_, fun hcm => ?_⟩
  ·rw [frOf_tail hs.ok hh] at hf
   split at hf
   ·cases hf
   ·exact r1 f hf
  ·rw [changed_tail hs.ok hh] at hcm
   by_cases e : m = x.page
   ·subst e
    exact r2 (hc x r hh)
   ·rw [if_neg e] at hcm
    exact r2 hcm
theorem Sound.room (hs : Sound s h b) (h0 : s.err = 0) : Sound (roomP s h).2.1 (roomP s h).2.2 b ∧ ((roomP s h).1 = 0 → (roomP s h).2.1.err = 0) ∧ ((roomP s h).1 ≠ 0 → (roomP s h).2.1.err = (roomP s h).1) := by
 unfold roomP
 split
 ·exact ⟨hs, fun _ => h0, fun hh => absurd rfl hh⟩
 ·rename_i hl
  dsimp only
  have hw0 := hs.ok.w0
  obtain ⟨x, r, hh⟩ : ∃ x r, s.held = x :: r := by
   cases hh : s.held with
   | nil => rw [hh] at hl; simp at hl; omega
   | cons x r => exact ⟨x, r, rfl⟩
  have hd : (s.held.head?.map Fr.page).getD 0 = x.page := by rw [hh]; rfl
  rw [hd]
  have hx : x.page ∈ numbers s := by unfold numbers; rw [hh]; simp
  by_cases hc : changedAt s x.page = true
  ·rw [if_pos hc]
   have hw := hs.write h0 hx
   split
   ·rename_i hz
    obtain ⟨_, hz2, e⟩ := writeP_zero hz
    refine ⟨hw.tail ?_, fun _ => ?_, fun hh => absurd rfl hh⟩
    ·intro y t ht
     have e2 : numbers (writeP s h x.page).2.1 = numbers s := (writeP_numbers s h x.page).1
     unfold numbers at e2
     rw [ht, hh, List.map_cons, List.map_cons] at e2
     obtain ⟨e3, _⟩ := List.cons.inj e2
     rw [e3, e]
     dsimp only
     rw [changed_wrote, if_pos rfl]
    ·rw [e]; exact h0
   ·rename_i hz
    refine ⟨hw, fun hh => absurd hh hz, fun _ => ?_⟩
    rw [(writeP_errs s h x.page hz).2]; rfl
  ·rw [if_neg hc]
   refine ⟨?_, fun _ => h0, fun hh => absurd rfl hh⟩
   refine hs.tail ?_
   intro y t ht
   rw [hh] at ht
   obtain ⟨e3, _⟩ := List.cons.inj ht
   rw [← e3]
   simpa using hc
theorem Sound.use (hs : Sound s h b) (f : Fr) (b' : Int → Bytes) (hf : f.text = b' f.page) (hb : ∀ m, m ≠ f.page → b' m = b m) (hlen : f.text.length = s.text) (hr : (frOf s f.page).isSome = true ∨ s.held.length < s.window) (hp : 0 ≤ f.page ∧ f.page < s.pages) (hi : f.is ≤ 2)
  (hl : s.err = 0 → f.is ≠ 2 → Lain s h f.page f.text) : Sound (useP s f) h b' := by
 refine ⟨ok_use hs.ok hr hp hlen hi, ⟨hs.over.pages, hs.over.size⟩, hs.mild, fun n => ?_, fun h0 m => ?_⟩
 ·by_cases e : n = f.page
  ·rw [e, ← hf]; exact hlen
  ·rw [hb n e]; exact hs.len n
 ·obtain ⟨r1, r2⟩ := hs.right h0 m
  refine ⟨fun g hg => ?_, fun hc => ?_⟩
  ·rw [frOf_use] at hg
   split at hg
   ·rename_i e
    obtain rfl := Option.some.inj hg
    rw [e]; exact hf
   ·rename_i e
    rw [hb m e]; exact r1 g hg
  ·rw [changed_use] at hc
   split at hc
   ·rename_i e
    rw [e, ← hf]
    exact hl h0 (by simpa using hc)
   ·rename_i e
    rw [hb m e]; exact r2 hc
theorem Sound.read (hs : Sound s h b) (n : Int) : Sound s (readR h n).2.2 b := by
 obtain ⟨p1, p2⟩ := readR_same h n
 refine ⟨hs.ok, ⟨p1.trans hs.over.pages, p2.trans hs.over.size⟩, readR_mild hs.mild n, hs.len, fun h0 m => ?_⟩
 obtain ⟨r1, r2⟩ := hs.right h0 m
 refine ⟨r1, fun hc => ?_⟩
 obtain ⟨l1, l2⟩ := r2 hc
 exact ⟨l1, fun pl hh => by rw [readR_back]; exact l2 pl hh⟩
theorem changed_no {s : PS} {n : Int} (hn : n ∉ numbers s) : changedAt s n = false := by
 unfold changedAt
 cases hf : frOf s n with
 | none => rfl
 | some f => exact absurd (by obtain ⟨h1, h2⟩ := frOf_mem hf; rw [← h2]; exact List.mem_map.2 ⟨f, h1, rfl⟩) hn
theorem Sound.fetch (hs : Sound s h b) (h0 : s.err = 0) {n : Int} (hn : n ∉ numbers s) (hw : s.held.length < s.window) (hp : 0 ≤ n ∧ n < s.pages) :
  ∃ e, (fetchP s h n).1 = (if e = 0 then b n else [], e) ∧ Sound (fetchP s h n).2.1 (fetchP s h n).2.2 b ∧ (fetchP s h n).2.1.err = e := by
 obtain ⟨l1, l2⟩ := (hs.right h0 n).2 (changed_no hn)
 have hbl := hs.len n
 have ht1 := hs.ok.t1
 unfold fetchP
 cases hl : s.last n with
 | none =>
  dsimp only
  have e := l1 hl
  refine ⟨0, by rw [if_pos rfl, e], ?_, h0⟩
  exact hs.use _ b (by dsimp only; exact e.symm) (fun _ _ => rfl) (by simp) (.inr hw) hp (by dsimp only; omega) (fun _ _ => ⟨fun _ => rfl, fun pl hh => (by dsimp only at hh; rw [hl] at hh; cases hh)⟩)
 | some pl =>
  dsimp only
  have hs' := hs.read n
  by_cases hz : (readR h n).2.1 = 0
  ·rw [if_pos hz, readR_zero hs.mild hz, l2 pl hl, pg_back _ _ _ (by omega)]
   refine ⟨0, rfl, ?_, h0⟩
   refine hs'.use _ b (by dsimp only) (fun _ _ => rfl) hbl (.inr hw) hp (by dsimp only; omega) (fun _ _ => ⟨fun hh => (by dsimp only at hh; rw [hl] at hh; cases hh), fun pl' hh => ?_⟩)
   dsimp only at hh ⊢
   rw [hl] at hh
   obtain rfl := Option.some.inj hh
   rw [readR_back]; exact l2 pl hl
  ·rw [if_neg hz]
   have he := readR_err h n
   refine ⟨(readR h n).2.1, by rw [if_neg hz], hs.dead _ hz he (readR_mild hs.mild n) (readR_same h n), rfl⟩
theorem roomP_leaves (hk : Ok s) : (∀ n, n ∉ numbers s → n ∉ numbers (roomP s h).2.1) ∧ (roomP s h).2.1.window = s.window ∧ (roomP s h).2.1.pages = s.pages ∧ (roomP s h).2.1.text = s.text ∧ ((roomP s h).1 = 0 → (roomP s h).2.1.held.length < s.window) := by
 have tl : ∀ (x : PS) n, n ∉ numbers x → n ∉ numbers { x with held := x.held.tail } := fun x n hn hh => hn (by
  unfold numbers at hh ⊢
  obtain ⟨f, hf, e⟩ := List.mem_map.1 hh
  exact List.mem_map.2 ⟨f, List.mem_of_mem_tail hf, e⟩)
 have hw0 := hk.w0
 have hm := hk.many
 unfold roomP
 split
 ·rename_i hl; exact ⟨fun _ h => h, rfl, rfl, rfl, fun _ => hl⟩
 ·rename_i hl
  dsimp only
  obtain ⟨w1, w2, w3, w4, w5⟩ := writeP_numbers s h ((s.held.head?.map Fr.page).getD 0)
  have hlen : (writeP s h ((s.held.head?.map Fr.page).getD 0)).2.1.held.length = s.held.length := by
   have := congrArg List.length w1
   unfold numbers at this
   rwa [List.length_map, List.length_map] at this
  split
  ·split
   ·refine ⟨fun n hn => tl _ n (by rw [w1]; exact hn), w2, w3, w4, fun _ => ?_⟩
    show (writeP s h _).2.1.held.tail.length < _
    rw [List.length_tail, hlen]; omega
   ·rename_i h0
    exact ⟨fun n hn => by rw [w1]; exact hn, w2, w3, w4, fun hh => absurd hh h0⟩
  ·refine ⟨fun n hn => tl s n hn, rfl, rfl, rfl, fun _ => ?_⟩
   show s.held.tail.length < _
   rw [List.length_tail]; omega
theorem right_zero {n : Int} (h : rightP s n = 0) : s.err = 0 ∧ 0 ≤ n ∧ n < s.pages := by
 unfold rightP at h
 split at h
 ·rename_i he; exact absurd h he
 ·rename_i he
  split at h
  ·cases h
  ·rename_i hp; exact ⟨by omega, by omega, by omega⟩
theorem Sound.load (hs : Sound s h b) (n : Int) : ∃ e, (loadP s h n).1 = (if e = 0 then b n else [], e) ∧ Sound (loadP s h n).2.1 (loadP s h n).2.2 b ∧ (e = 0 → (loadP s h n).2.1.err = 0) ∧ (rightP s n = 0 → (loadP s h n).2.1.err = e) ∧ (rightP s n ≠ 0 → e = rightP s n) := by
 unfold loadP
 by_cases hr : rightP s n = 0
 ·rw [if_pos hr]
  obtain ⟨h0, hp⟩ := right_zero hr
  cases hf : frOf s n with
  | some f =>
   dsimp only
   obtain ⟨f1, f2⟩ := frOf_mem hf
   obtain ⟨r1, r2⟩ := hs.right h0 n
   have htx := r1 f hf
   refine ⟨0, by rw [if_pos rfl, htx], ?_, fun _ => h0, fun _ => h0, fun hh => absurd hr hh⟩
   subst f2
   refine hs.use f b htx (fun _ _ => rfl) (hs.ok.len f f1) (.inl (by rw [hf]; rfl)) hp (hs.ok.is f f1) (fun _ hi => ?_)
   rw [htx]
   refine r2 ?_
   unfold changedAt
   rw [hf]
   simpa using hi
  | none =>
   dsimp only
   have hn := frOf_none hf
   obtain ⟨q1, q2, q3⟩ := hs.room h0
   obtain ⟨v1, v2, v3, v4, v5⟩ := roomP_leaves (h := h) hs.ok
   by_cases hz : (roomP s h).1 = 0
   ·rw [if_pos hz]
    obtain ⟨e, e1, e2, e3⟩ := q1.fetch (q2 hz) (v1 n hn) (by rw [v2]; exact v5 hz) (by rw [v3]; exact hp)
    exact ⟨e, e1, e2, fun hh => e3.trans hh, fun _ => e3, fun hh => absurd hr hh⟩
   ·rw [if_neg hz]
    exact ⟨(roomP s h).1, by rw [if_neg hz], q1, fun hh => absurd hh hz, fun _ => q3 hz, fun hh => absurd hr hh⟩
 ·rw [if_neg hr]
  exact ⟨rightP s n, by rw [if_neg hr], hs, fun hh => absurd hh hr, fun hh => absurd hh hr, fun _ => rfl⟩
theorem Sound.save (hs : Sound s h b) (n : Int) (t : Bytes) : Sound (saveP s h n t).2.1 (saveP s h n t).2.2 (if (saveP s h n t).1 = 0 then setF b n t else b) ∧ ((saveP s h n t).1 = 0 → t.length = s.text ∧ rightP s n = 0 ∧ (saveP s h n t).2.1.err = 0) ∧ (rightP s n = 0 → t.length = s.text → (saveP s h n t).2.1.err = (saveP s h n t).1) ∧ (rightP s n ≠ 0 → (saveP s h n t).1 = rightP s n) ∧ (rightP s n = 0 → t.length ≠ s.text → (saveP s h n t).1 = 4) := by
 unfold saveP
 by_cases hr : rightP s n = 0
 ·rw [if_pos hr]
  obtain ⟨h0, hp⟩ := right_zero hr
  by_cases ht : t.length = s.text
  ·rw [if_pos ht]
   have put : ∀ (s1 : PS) (h1 : HS), Sound s1 h1 b → s1.text = s.text → s1.pages = s.pages → ((frOf s1 n).isSome = true ∨ s1.held.length < s1.window) → Sound (useP s1 ⟨n, t, 2⟩) h1 (setF b n t) := by
    intro s1 h1 hs1 e1 e2 e3
    refine hs1.use ⟨n, t, 2⟩ _ (by unfold setF; simp) (fun m hm => by unfold setF; rw [if_neg hm]) (by rw [e1]; exact ht) e3 (by rw [e2]; exact hp) (Nat.le_refl _) (fun _ hh => absurd rfl hh)
   cases hf : frOf s n with
   | some f =>
    dsimp only
    rw [if_pos rfl]
    exact ⟨put s h hs rfl rfl (.inl (by rw [hf]; rfl)), fun _ => ⟨ht, hr, h0⟩, fun _ _ => h0, fun hh => absurd hr hh, fun _ hh => absurd ht hh⟩
   | none =>
    dsimp only
    have hn := frOf_none hf
    obtain ⟨q1, q2, q3⟩ := hs.room h0
    obtain ⟨v1, v2, v3, v4, v5⟩ := roomP_leaves (h := h) hs.ok
    by_cases hz : (roomP s h).1 = 0
    ·simp only [if_pos hz, if_true]
     exact ⟨put _ _ q1 v4 v3 (.inr (by rw [v2]; exact v5 hz)), fun _ => ⟨ht, hr, q2 hz⟩, fun _ _ => q2 hz, fun hh => absurd hr hh, fun _ hh => absurd ht hh⟩
    ·simp only [if_neg hz]
     exact ⟨q1, fun hh => absurd hh hz, fun _ _ => q3 hz, fun hh => absurd hr hh, fun _ hh => absurd ht hh⟩
  ·rw [if_neg ht]
   dsimp only
   rw [if_neg (by omega)]
   exact ⟨hs, fun hh => by omega, fun _ hh => absurd hh ht, fun hh => absurd hr hh, fun _ _ => rfl⟩
 ·rw [if_neg hr]
  dsimp only
  rw [if_neg hr]
  exact ⟨hs, fun hh => absurd hh hr, fun hh => absurd hh hr, fun _ => rfl, fun hh => absurd hh hr⟩
theorem sound_fresh {key : Bytes} {round : BitVec 64} {window : Nat} {pages : Int} {text : Nat} (hk : Ok (freshP key round window pages text)) {h : HS} (hp : h.pages = pages) (hz : h.size = text + 28) (hm : Mild h) : Sound (freshP key round window pages text) h (fun _ => List.replicate text 0#8) :=
 ⟨hk, ⟨hp, hz⟩, hm, fun _ => by simp [freshP], fun _ n => ⟨fun f hf => (by unfold frOf freshP at hf; cases hf), fun _ => ⟨fun _ => rfl, fun pl hh => by cases hh⟩⟩⟩
end
end Go.Sl.PagerS
namespace Go.Sl.PagerS
open Go Go.Sl Go.Sl.HostS
attribute [local irreducible] pgSealB pgOpenR
theorem does_ops (h : HS) (op page : Int) (b : Bytes) (act : HS → HS) (ha : ∀ s, (act s).ops = s.ops) : (does h op page b act).1.ops ≤ h.ops + 1 := by
 have h2 := ha (logged h op page b)
 unfold does
 split
 ·exact Nat.le_succ _
 ·dsimp only
  split
  ·exact Nat.le_refl _
  ·split
   ·exact Nat.le_of_eq h2
   ·exact Nat.le_of_eq h2
theorem writeR_ops (h : HS) (page : Int) (b : Bytes) : (writeR h page b).2.ops ≤ h.ops + 1 := by
 unfold writeR
 split
 ·split
  ·exact does_ops h 1 page b _ fun _ => rfl
  ·exact Nat.le_succ _
 ·exact Nat.le_succ _
theorem readR_ops (h : HS) (page : Int) : (readR h page).2.2.ops ≤ h.ops + 1 := by
 have d := does_ops h 0 page [] id fun _ => rfl
 unfold readR
 split
 ·dsimp only
  split <;> exact d
 ·exact Nat.le_succ _
structure Near (k m : Nat) (s : PS) (h : HS) (s' : PS) (h' : HS) : Prop where
 ops : h'.ops ≤ h.ops + k
 writes : s'.writes ≤ s.writes + m
 pages : h'.pages = h.pages
 size : h'.size = h.size
 spages : s'.pages = s.pages
 text : s'.text = s.text
 key : s'.key = s.key
 round : s'.round = s.round
 window : s'.window = s.window
theorem Near.refl (k m : Nat) (s : PS) (h : HS) : Near k m s h s h := ⟨Nat.le_add_right _ _, Nat.le_add_right _ _, rfl, rfl, rfl, rfl, rfl, rfl, rfl⟩
theorem Near.trans {k m k' m' k2 m2 : Nat} {s s' s2 : PS} {h h' h2 : HS} (a : Near k m s h s' h') (b : Near k' m' s' h' s2 h2) (hk : k + k' ≤ k2) (hm : m + m' ≤ m2) : Near k2 m2 s h s2 h2 :=
 ⟨by have := a.ops; have := b.ops; omega, by have := a.writes; have := b.writes; omega, b.pages.trans a.pages, b.size.trans a.size, b.spages.trans a.spages, b.text.trans a.text, b.key.trans a.key, b.round.trans a.round, b.window.trans a.window⟩
theorem Near.over {k m : Nat} {s s' : PS} {h h' : HS} (a : Near k m s h s' h') (ho : Over s h) : Over s' h' := ⟨a.pages.trans (ho.pages.trans a.spages.symm), by rw [a.size, ho.size, a.text]⟩
theorem near_write (s : PS) (h : HS) (n : Int) : Near 1 1 s h (writeP s h n).2.1 (writeP s h n).2.2 := by
 have w1 := writeR_same h n (boxOf s n)
 have w2 := writeR_ops h n (boxOf s n)
 unfold writeP
 split
 ·exact ⟨Nat.le_add_right _ _, Nat.le_add_right _ _, rfl, rfl, rfl, rfl, rfl, rfl, rfl⟩
 ·dsimp only
  split
  ·exact ⟨w2, Nat.le_refl _, w1.1, w1.2, rfl, rfl, rfl, rfl, rfl⟩
  ·exact ⟨w2, Nat.le_add_right _ _, w1.1, w1.2, rfl, rfl, rfl, rfl, rfl⟩
theorem near_held {k m : Nat} {s : PS} {h : HS} {s' : PS} {h' : HS} (a : Near k m s h s' h') (l : List Fr) (n : Nat) : Near k m s h { s' with held := l, most := n } h' := ⟨a.ops, a.writes, a.pages, a.size, a.spages, a.text, a.key, a.round, a.window⟩
theorem near_room (s : PS) (h : HS) : Near 1 1 s h (roomP s h).2.1 (roomP s h).2.2 := by
 unfold roomP
 split
 ·exact Near.refl ..
 ·dsimp only
  have w := near_write s h ((s.held.head?.map Fr.page).getD 0)
  split
  ·split
   ·exact near_held w _ _
   ·exact w
  ·exact near_held (Near.refl 1 1 s h) _ _
theorem near_use {k m : Nat} {s : PS} {h : HS} {s' : PS} {h' : HS} (a : Near k m s h s' h') (f : Fr) : Near k m s h (useP s' f) h' := near_held a _ _
theorem near_fetch (s : PS) (h : HS) (n : Int) : Near 1 0 s h (fetchP s h n).2.1 (fetchP s h n).2.2 := by
 have r1 := readR_same h n
 have r2 := readR_ops h n
 have r : Near 1 0 s h s (readR h n).2.2 := ⟨r2, Nat.le_refl _, r1.1, r1.2, rfl, rfl, rfl, rfl, rfl⟩
 unfold fetchP
 split
 ·dsimp only
  split
  ·split
   ·exact near_use r _
   ·exact ⟨r.ops, r.writes, r.pages, r.size, rfl, rfl, rfl, rfl, rfl⟩
  ·exact ⟨r.ops, r.writes, r.pages, r.size, rfl, rfl, rfl, rfl, rfl⟩
 ·exact near_use (Near.refl 1 0 s h) _
theorem near_load (s : PS) (h : HS) (n : Int) : Near 2 1 s h (loadP s h n).2.1 (loadP s h n).2.2 := by
 unfold loadP
 split
 ·split
  ·exact near_use (Near.refl 2 1 s h) _
  ·have a := near_room s h
   have b := near_fetch (roomP s h).2.1 (roomP s h).2.2 n
   dsimp only
   split
   ·exact a.trans b (by omega) (by omega)
   ·exact a.trans (Near.refl 0 0 _ _) (by omega) (by omega)
 ·exact Near.refl ..
theorem near_save (s : PS) (h : HS) (n : Int) (t : Bytes) : Near 1 1 s h (saveP s h n t).2.1 (saveP s h n t).2.2 := by
 unfold saveP
 split
 ·split
  ·split
   ·exact near_use (Near.refl 1 1 s h) _
   ·have a := near_room s h
    dsimp only
    split
    ·exact near_use a _
    ·exact a
  ·exact Near.refl ..
 ·exact Near.refl ..
structure Calm (h : HS) : Prop where
 up : h.down = false
 calm : ∀ k, h.coming k = []
theorem does_calm {h : HS} (hc : Calm h) (op n : Int) (b : Bytes) (act : HS → HS) : does h op n b act = (act (logged h op n b), 0) := by
 unfold does
 rw [if_neg (by rw [hc.up]; simp), hc.calm h.ops]
 rfl
theorem calm_logged {h : HS} (hc : Calm h) (op n : Int) (b : Bytes) : Calm (logged h op n b) := ⟨hc.up, fun k => by
 show setF h.coming h.ops [] k = []
 unfold setF
 split
 ·rfl
 ·exact hc.calm k⟩
theorem writeR_calm {h : HS} (hc : Calm h) {n : Int} {b : Bytes} (ht : there h n) (hl : b.length = h.size) : writeR h n b = (0, wrote n b (logged h 1 n b)) := by
 unfold writeR
 rw [if_pos ht, if_pos hl, does_calm hc]
theorem readR_calm {h : HS} (hc : Calm h) {n : Int} (ht : there h n) : readR h n = (back h n 0, 0, logged h 0 n []) := by
 unfold readR
 rw [if_pos ht, does_calm hc]
 dsimp only
 rw [if_pos rfl, hc.calm]; rfl
structure Quiet (s : PS) (h : HS) (b : Int → Bytes) : Prop where
 sound : Sound s h b
 calm : Calm h
 err : s.err = 0
section
variable {s : PS} {h : HS} {b : Int → Bytes}
theorem Quiet.write (hq : Quiet s h b) (hw : s.writes < 4294967295) {n : Int} (hn : n ∈ numbers s) : (writeP s h n).1 = 0 ∧ Quiet (writeP s h n).2.1 (writeP s h n).2.2 b := by
 obtain ⟨f, hf⟩ := frOf_of hn
 obtain ⟨f1, f2⟩ := frOf_mem hf
 obtain ⟨p1, p2⟩ := hq.sound.ok.there f f1
 have ht : there h n := ⟨by omega, by rw [hq.sound.over.pages]; omega⟩
 have hl : (boxOf s n).length = h.size := by
  unfold boxOf textOf
  rw [pgSealB_len, hf, hq.sound.over.size]
  have := hq.sound.ok.len f f1
  simp [this]
 have hr := writeR_calm hq.calm ht hl
 have h0 : (writeP s h n).1 = 0 := by
  unfold writeP
  rw [if_neg (by omega), hr]
  rfl
 obtain ⟨_, hz, e⟩ := writeP_zero h0
 refine ⟨h0, hq.sound.write hq.err hn, ?_, ?_⟩
 ·rw [e, hr]
  have := calm_logged hq.calm 1 n (boxOf s n)
  exact ⟨this.up, this.calm⟩
 ·rw [e]; exact hq.err
theorem Quiet.room (hq : Quiet s h b) (hw : s.writes < 4294967295) : (roomP s h).1 = 0 ∧ Quiet (roomP s h).2.1 (roomP s h).2.2 b := by
 have key : (roomP s h).1 = 0 ∧ Calm (roomP s h).2.2 := by
  unfold roomP
  split
  ·exact ⟨rfl, hq.calm⟩
  ·rename_i hl
   dsimp only
   split
   ·rename_i hc
    have hn : (s.held.head?.map Fr.page).getD 0 ∈ numbers s := by
     by_cases hh : (s.held.head?.map Fr.page).getD 0 ∈ numbers s
     ·exact hh
     ·rw [changed_no hh] at hc; cases hc
    obtain ⟨w1, w2⟩ := hq.write hw hn
    rw [if_pos w1]
    exact ⟨rfl, w2.calm⟩
   ·exact ⟨rfl, hq.calm⟩
 obtain ⟨q1, q2, q3⟩ := hq.sound.room hq.err
 exact ⟨key.1, q1, key.2, q2 key.1⟩
theorem Quiet.load (hq : Quiet s h b) (hw : s.writes < 4294967295) {n : Int} (h0 : 0 ≤ n) (h1 : n < s.pages) : (loadP s h n).1 = (b n, 0) ∧ Quiet (loadP s h n).2.1 (loadP s h n).2.2 b := by
 have hr : rightP s n = 0 := by
  unfold rightP
  rw [if_neg (by rw [hq.err]; simp), if_neg (by omega)]
 have key : (loadP s h n).1.2 = 0 ∧ Calm (loadP s h n).2.2 := by
  unfold loadP
  rw [if_pos hr]
  cases hf : frOf s n with
  | some f => exact ⟨rfl, hq.calm⟩
  | none =>
   dsimp only
   obtain ⟨r1, r2⟩ := hq.room hw
   obtain ⟨v1, v2, v3, v4, v5⟩ := roomP_leaves (h := h) hq.sound.ok
   rw [if_pos r1]
   have hn1 := v1 n (frOf_none hf)
   have hl1 := v5 r1
   rw [← v2] at hl1
   have hp1 : n < (roomP s h).2.1.pages := by rw [v3]; exact h1
   generalize (roomP s h).2.1 = s1 at *
   generalize (roomP s h).2.2 = h1 at *
   obtain ⟨e, e1, e2, e3⟩ := r2.sound.fetch r2.err hn1 hl1 ⟨h0, hp1⟩
   have ht : there h1 n := ⟨h0, by rw [r2.sound.over.pages]; exact hp1⟩
   have hrd := readR_calm r2.calm ht
   obtain ⟨_, l2⟩ := (r2.sound.right r2.err n).2 (changed_no hn1)
   have hbl := r2.sound.len n
   have ht1 := r2.sound.ok.t1
   unfold fetchP
   cases hl : s1.last n with
   | none => exact ⟨rfl, r2.calm⟩
   | some pl =>
    dsimp only
    rw [hrd]
    dsimp only
    rw [if_pos rfl, l2 pl hl, pg_back _ _ _ (by omega)]
    exact ⟨rfl, calm_logged r2.calm _ _ _⟩
 obtain ⟨e, e1, e2, e3, e4, e5⟩ := hq.sound.load n
 have h2 : (loadP s h n).1.2 = e := by rw [e1]
 rw [key.1] at h2
 subst h2
 exact ⟨by rw [e1, if_pos rfl], e2, key.2, e3 rfl⟩
theorem Quiet.save (hq : Quiet s h b) (hw : s.writes < 4294967295) {n : Int} (h0 : 0 ≤ n) (h1 : n < s.pages) {t : Bytes} (ht : t.length = s.text) : (saveP s h n t).1 = 0 ∧ Quiet (saveP s h n t).2.1 (saveP s h n t).2.2 (setF b n t) := by
 have hr : rightP s n = 0 := by
  unfold rightP
  rw [if_neg (by rw [hq.err]; simp), if_neg (by omega)]
 have key : (saveP s h n t).1 = 0 ∧ Calm (saveP s h n t).2.2 := by
  unfold saveP
  rw [if_pos hr, if_pos ht]
  cases hf : frOf s n with
  | some f => exact ⟨rfl, hq.calm⟩
  | none =>
   dsimp only
   obtain ⟨r1, r2⟩ := hq.room hw
   rw [if_pos r1]
   exact ⟨rfl, r2.calm⟩
 obtain ⟨q1, q2, q3, q4, q5⟩ := hq.sound.save n t
 rw [if_pos key.1] at q1
 exact ⟨key.1, q1, key.2, (q2 key.1).2.2⟩
theorem quiet_fresh {key : Bytes} {round : BitVec 64} {window : Nat} {pages : Int} {text : Nat} (hk : Ok (freshP key round window pages text)) {h : HS} (hp : h.pages = pages) (hz : h.size = text + 28) (hc : Calm h) : Quiet (freshP key round window pages text) h (fun _ => List.replicate text 0#8) :=
 ⟨sound_fresh hk hp hz (fun k f hf => by rw [hc.calm k] at hf; cases hf), hc, rfl⟩
end
theorem calm_fresh (pages : Int) (size : Nat) : Calm (fresh pages size []) := ⟨rfl, fun _ => rfl⟩
end Go.Sl.PagerS
namespace Go.Sl.PagerS
open Go Go.Sl Go.Sl.HostS
attribute [local irreducible] pgSealB pgOpenR
section
variable {s : PS} {h : HS}
end
end Go.Sl.PagerS
namespace Go.Sl.PagerS
open Go Go.Sl Go.Sl.HostS
attribute [local irreducible] pgSealB pgOpenR
section
variable {s : PS} {h : HS}
end
end Go.Sl.PagerS
namespace Go.Sl.PagerS
open Go Go.Sl Go.Sl.HostS
attribute [local irreducible] pgSealB pgOpenR
section
variable {s t : PS} {h g : HS}
end
section
variable {s t : PS} {h g : HS} {b : Int → Bytes}
end
end Go.Sl.PagerS
namespace Go.Sl.SlotS
open Go Go.Sl Go.Sl.HostS Go.Sl.PagerS
attribute [local irreducible] pgSealB pgOpenR
abbrev Acc := Int × Int × Int
structure SL where
 first : Nat
 n : Nat
 size : Nat
 per : Nat
 log : List Acc
def takeN (n per : Nat) : Nat := n / per + if n % per = 0 then 0 else 1
structure Fit (s : SL) (p : PS) : Prop where
 size : 1 ≤ s.size
 le : s.size ≤ p.text
 per : s.per = p.text / s.size
 room : ((s.first + takeN s.n s.per : Nat) : Int) ≤ p.pages
def pg (s : SL) (i : Nat) : Nat := s.first + i / s.per
def fr (s : SL) (i : Nat) : Nat := i % s.per * s.size
def part (t : Bytes) (a n : Nat) : Bytes := (t.drop a).take n
def lay (t : Bytes) (a : Nat) (b : Bytes) : Bytes := t.take a ++ (b ++ t.drop (a + b.length))
def touch (s : SL) (k i j : Int) : SL := { s with log := s.log ++ [(k, i, j)] }
section
variable {s : SL} {p : PS} {i j : Nat}
theorem Fit.per1 (f : Fit s p) : 1 ≤ s.per := by rw [f.per]; exact Nat.div_pos f.le f.size
theorem Fit.page (f : Fit s p) (hi : i < s.n) : ((pg s i : Nat) : Int) < p.pages := by
 have h1 := f.per1
 have hr := f.room
 have h2 : i / s.per < takeN s.n s.per := by
  unfold takeN
  have e1 := Nat.div_add_mod s.n s.per
  have e2 := Nat.mod_lt s.n h1
  by_cases h0 : s.n % s.per = 0
  ·rw [if_pos h0, Nat.add_zero]
   exact Nat.div_lt_of_lt_mul (by omega)
  ·rw [if_neg h0]
   have : i / s.per ≤ s.n / s.per := Nat.div_le_div_right (by omega)
   omega
 unfold pg
 omega
theorem Fit.from (f : Fit s p) (i : Nat) : fr s i + s.size ≤ p.text := by
 have h1 := f.per1
 have h2 := Nat.mod_lt i h1
 have h3 : (i % s.per + 1) * s.size ≤ s.per * s.size := Nat.mul_le_mul_right _ h2
 have h4 : s.per * s.size ≤ p.text := by rw [f.per]; exact Nat.div_mul_le_self _ _
 unfold fr
 rw [Nat.succ_mul] at h3
 omega
theorem Fit.small (f : Fit s p) (hi : i < s.n) (hp : p.pages ≤ 65536) (ht : p.text ≤ 4096) : i ≤ 268435456 := by
 have h1 := f.per1
 have hp2 := f.page hi
 have h2 : i / s.per ≤ 65535 := by unfold pg at hp2; omega
 have h3 : s.per ≤ 4096 := by rw [f.per]; exact Nat.le_trans (Nat.div_le_self _ _) ht
 have e1 := Nat.div_add_mod i s.per
 have e2 := Nat.mod_lt i h1
 have h4 : s.per * (i / s.per) ≤ 4096 * 65535 := Nat.mul_le_mul h3 h2
 omega
theorem Fit.touch (f : Fit s p) (k i j : Int) : Fit (touch s k i j) p := ⟨f.size, f.le, f.per, f.room⟩
theorem Fit.same {q : PS} (f : Fit s p) (h1 : q.text = p.text) (h2 : q.pages = p.pages) : Fit s q := ⟨f.size, by rw [h1]; exact f.le, by rw [h1]; exact f.per, by rw [h2]; exact f.room⟩
theorem part_len {t : Bytes} {a n : Nat} (h : a + n ≤ t.length) : (part t a n).length = n := by unfold part; rw [List.length_take, List.length_drop]; omega
theorem lay_len {t b : Bytes} {a : Nat} (h : a + b.length ≤ t.length) : (lay t a b).length = t.length := by
 unfold lay; rw [List.length_append, List.length_append, List.length_take, List.length_drop]; omega
theorem part_lay {t b : Bytes} {a : Nat} (h : a + b.length ≤ t.length) : part (lay t a b) a b.length = b := by
 unfold part lay
 rw [List.drop_append_of_le_length (by rw [List.length_take]; omega), List.drop_of_length_le (by rw [List.length_take]; omega), List.nil_append, List.take_left]
theorem lay_get {t b : Bytes} {a k : Nat} (h : a + b.length ≤ t.length) (hk : k < a ∨ a + b.length ≤ k) : (lay t a b)[k]? = t[k]? := by
 unfold lay
 have hl : (t.take a).length = a := by rw [List.length_take]; omega
 by_cases hka : k < a
 ·rw [List.getElem?_append_left (by omega), List.getElem?_take_of_lt hka]
 ·rw [List.getElem?_append_right (by omega), List.getElem?_append_right (by omega), List.getElem?_drop]
  congr 1; omega
theorem part_other {t b : Bytes} {a c n : Nat} (h : a + b.length ≤ t.length) (hd : c + n ≤ a ∨ a + b.length ≤ c) : part (lay t a b) c n = part t c n := by
 apply List.ext_getElem?
 intro k
 unfold part
 by_cases hk : k < n
 ·rw [List.getElem?_take_of_lt hk, List.getElem?_take_of_lt hk, List.getElem?_drop, List.getElem?_drop]
  exact lay_get h (by omega)
 ·rw [List.getElem?_eq_none (by rw [List.length_take]; omega), List.getElem?_eq_none (by rw [List.length_take]; omega)]
theorem fr_apart (hij : i ≠ j) (hp : pg s i = pg s j) : fr s i + s.size ≤ fr s j ∨ fr s j + s.size ≤ fr s i := by
 have e1 := Nat.div_add_mod i s.per
 have e2 := Nat.div_add_mod j s.per
 have hd : i / s.per = j / s.per := by unfold pg at hp; omega
 have hne : i % s.per ≠ j % s.per := by
  intro h
  rw [hd, h] at e1
  omega
 unfold fr
 rcases Nat.lt_or_gt_of_ne hne with h|h
 ·left
  have := Nat.mul_le_mul_right s.size (show i % s.per + 1 ≤ j % s.per from h)
  rw [Nat.succ_mul] at this
  omega
 ·right
  have := Nat.mul_le_mul_right s.size (show j % s.per + 1 ≤ i % s.per from h)
  rw [Nat.succ_mul] at this
  omega
end
def has (s : SL) (i : Int) : Prop := 0 ≤ i ∧ i < s.n
instance (s : SL) (i : Int) : Decidable (has s i) := by unfold has; infer_instance
abbrev St3 := SL × PS × HS
def getS (s : SL) (p : PS) (h : HS) (i : Int) : (Bytes × Nat) × St3 :=
 if has s i then
  let r := loadP p h (pg s i.toNat)
  (if r.1.2 = 0 then (part r.1.1 (fr s i.toNat) s.size, 0) else ([], r.1.2), touch s 0 i 0, r.2)
 else (([], 2), s, p, h)
def setS (s : SL) (p : PS) (h : HS) (i : Int) (b : Bytes) : Nat × St3 :=
 if has s i then
  if b.length = s.size then
   let r := loadP p h (pg s i.toNat)
   if r.1.2 = 0 then
    let q := saveP r.2.1 r.2.2 (pg s i.toNat) (lay r.1.1 (fr s i.toNat) b)
    (q.1, touch s 1 i 0, q.2)
   else (r.1.2, touch s 1 i 0, r.2)
  else (4, s, p, h)
 else (2, s, p, h)
def pairL (s : SL) (p : PS) (h : HS) (i j : Nat) : (Nat × Bytes × Bytes) × PH :=
 let r := loadP p h (pg s i)
 if r.1.2 = 0 then
  if pg s j = pg s i then ((0, r.1.1, r.1.1), r.2)
  else
   let q := loadP r.2.1 r.2.2 (pg s j)
   if q.1.2 = 0 then ((0, r.1.1, q.1.1), q.2) else ((q.1.2, [], []), q.2)
 else ((r.1.2, [], []), r.2)
def pairE (s : SL) (p : PS) (h : HS) (i j : Nat) (tI tJ a b : Bytes) : Nat × PH :=
 if pg s j = pg s i then saveP p h (pg s i) (lay (lay tI (fr s i) a) (fr s j) b)
 else
  let q := saveP p h (pg s i) (lay tI (fr s i) a)
  if q.1 = 0 then saveP q.2.1 q.2.2 (pg s j) (lay tJ (fr s j) b) else q
def newS (first n size : Int) (p : PS) : Nat :=
 if first < 0 ∨ n < 0 ∨ size < 1 then 2
 else if (p.text : Int) < size then 4
 else if p.pages < first ∨ p.pages - first < takeN n.toNat (p.text / size.toNat) then 5
 else 0
def freshS (first n size : Int) (p : PS) : SL := ⟨first.toNat, n.toNat, size.toNat, p.text / size.toNat, []⟩
theorem fit_fresh {first n size : Int} {p : PS} (h : newS first n size p = 0) : Fit (freshS first n size p) p := by
 unfold newS at h
 split at h
 ·cases h
 ·split at h
  ·cases h
  ·split at h
   ·cases h
   ·refine ⟨?_, ?_, rfl, ?_⟩
    ·show 1 ≤ size.toNat; omega
    ·show size.toNat ≤ p.text; omega
    ·show ((first.toNat + takeN n.toNat (p.text / size.toNat) : Nat) : Int) ≤ p.pages
     omega
theorem mem_use (s : PS) (f : PagerS.Fr) : f ∈ (useP s f).held := List.mem_append.2 (.inr (List.mem_singleton.2 rfl))
theorem load_held {p : PS} {h : HS} {n : Int} (he : (loadP p h n).1.2 = 0) : ∃ f ∈ (loadP p h n).2.1.held, f.text = (loadP p h n).1.1 := by
 unfold loadP at he ⊢
 split
 ·rename_i hr
  rw [if_pos hr] at he
  split
  ·rename_i f hf
   exact ⟨f, mem_use _ _, rfl⟩
  ·rename_i hf
   rw [hf] at he
   dsimp only at he ⊢
   split
   ·rename_i hz
    rw [if_pos hz] at he
    generalize (roomP p h).2.1 = p1 at *
    generalize (roomP p h).2.2 = h1 at *
    unfold fetchP at he ⊢
    split
    ·rename_i pl hl
     rw [hl] at he
     try dsimp only at he
     try dsimp only
     split
     ·rename_i h0
      rw [if_pos h0] at he
      try dsimp only at he
      try dsimp only
      split
      ·exact ⟨_, mem_use _ _, rfl⟩
      ·rename_i ho
       rw [if_neg ho] at he
       exact absurd he ho
     ·rename_i h0
      rw [if_neg h0] at he
      exact absurd he h0
    ·exact ⟨_, mem_use _ _, rfl⟩
   ·rename_i hz
    rw [if_neg hz] at he
    exact absurd he hz
 ·rename_i hr
  rw [if_neg hr] at he
  exact absurd he hr
theorem load_text {p : PS} {h : HS} {n : Int} (he : (loadP p h n).1.2 = 0) (hk : Ok (loadP p h n).2.1) : (loadP p h n).1.1.length = p.text := by
 obtain ⟨f, hf, e⟩ := load_held he
 rw [← e, hk.len f hf]
 exact (near_load p h n).text
end Go.Sl.SlotS
namespace Go.Sl.SlotS
open Go Go.Sl Go.Sl.HostS Go.Sl.PagerS
attribute [local irreducible] pgSealB pgOpenR PagerS.loadP PagerS.saveP
section
variable {s : SL} {p : PS} {h : HS} {b : Int → Bytes} {i j : Nat}
theorem has_nat (hi : i < s.n) : has s (i : Int) := ⟨by omega, by omega⟩
def slotB (s : SL) (b : Int → Bytes) (i : Nat) : Bytes := part (b (pg s i)) (fr s i) s.size
theorem slotB_len (f : Fit s p) (hb : ∀ n : Int, (b n).length = p.text) (i : Nat) : (slotB s b i).length = s.size := part_len (by rw [hb]; exact f.from i)
def putB (s : SL) (b : Int → Bytes) (i : Nat) (x : Bytes) : Int → Bytes := setF b (pg s i) (lay (b (pg s i)) (fr s i) x)
theorem putB_at (f : Fit s p) (hb : ∀ n : Int, (b n).length = p.text) {x : Bytes} (hx : x.length = s.size) (i j : Nat) : slotB s (putB s b i x) j = if j = i then x else slotB s b j := by
 have h1 := f.from i
 have h2 := f.from j
 unfold slotB putB setF
 by_cases e : j = i
 ·subst e
  rw [if_pos rfl, if_pos rfl, ← hx]
  exact part_lay (by rw [hb, hx]; exact h1)
 ·rw [if_neg e]
  by_cases hp : ((pg s j : Nat) : Int) = (pg s i : Nat)
  ·rw [if_pos hp]
   have hpn : pg s i = pg s j := by omega
   have := fr_apart (s := s) (i := i) (j := j) (fun hh => e hh.symm) hpn
   rw [hpn]
   exact part_other (by rw [hb, hx]; exact h1) (by rw [hx]; omega)
  ·rw [if_neg hp]
theorem putB_len (f : Fit s p) (hb : ∀ n : Int, (b n).length = p.text) {x : Bytes} (hx : x.length = s.size) (i : Nat) (n : Int) : (putB s b i x n).length = p.text := by
 have h1 := f.from i
 unfold putB setF
 split
 ·rw [lay_len (by rw [hb, hx]; exact h1), hb]
 ·exact hb n
theorem get_q (q : Quiet p h b) (f : Fit s p) (hi : i < s.n) (hw : p.writes < 4294967295) : (getS s p h i).1 = (slotB s b i, 0) ∧ (getS s p h i).2.1 = touch s 0 i 0 ∧ Quiet (getS s p h i).2.2.1 (getS s p h i).2.2.2 b := by
 obtain ⟨a1, a2⟩ := q.load hw (n := ((pg s i : Nat) : Int)) (by omega) (f.page hi)
 unfold getS
 rw [if_pos (has_nat hi), Int.toNat_natCast]
 dsimp only
 rw [a1, if_pos rfl]
 exact ⟨rfl, rfl, a2⟩
theorem set_q (q : Quiet p h b) (f : Fit s p) (hi : i < s.n) (hw : p.writes + 1 < 4294967295) {x : Bytes} (hx : x.length = s.size) : (setS s p h i x).1 = 0 ∧ (setS s p h i x).2.1 = touch s 1 i 0 ∧ Quiet (setS s p h i x).2.2.1 (setS s p h i x).2.2.2 (putB s b i x) := by
 obtain ⟨a1, a2⟩ := q.load (by omega) (n := ((pg s i : Nat) : Int)) (by omega) (f.page hi)
 have n1 := near_load p h ((pg s i : Nat) : Int)
 have h1 := f.from i
 have hb := q.sound.len
 unfold setS
 rw [if_pos (has_nat hi), if_pos hx, Int.toNat_natCast]
 dsimp only
 rw [a1, if_pos rfl]
 have hw2 := n1.writes
 have hpg : (loadP p h (pg s i)).2.1.pages = p.pages := n1.spages
 have htx : (loadP p h (pg s i)).2.1.text = p.text := n1.text
 have hll : (lay (b (pg s i)) (fr s i) x).length = (loadP p h (pg s i)).2.1.text := by rw [lay_len (by rw [hb, hx]; exact h1), hb, htx]
 obtain ⟨c1, c2⟩ := a2.save (by omega) (n := ((pg s i : Nat) : Int)) (by omega) (by rw [hpg]; exact f.page hi) hll
 exact ⟨c1, rfl, c2⟩
theorem pairL_q (q : Quiet p h b) (f : Fit s p) (hi : i < s.n) (hj : j < s.n) (hw : p.writes + 1 < 4294967295) : (pairL s p h i j).1 = (0, b (pg s i), b (pg s j)) ∧ Quiet (pairL s p h i j).2.1 (pairL s p h i j).2.2 b ∧ Near 4 2 p h (pairL s p h i j).2.1 (pairL s p h i j).2.2 := by
 obtain ⟨a1, a2⟩ := q.load (by omega) (n := ((pg s i : Nat) : Int)) (by omega) (f.page hi)
 have n1 := near_load p h ((pg s i : Nat) : Int)
 have hw2 := n1.writes
 unfold pairL
 dsimp only
 rw [a1, if_pos rfl]
 by_cases e : pg s j = pg s i
 ·rw [if_pos e, e]
  exact ⟨rfl, a2, n1.trans (Near.refl 2 1 _ _) (by omega) (by omega)⟩
 ·rw [if_neg e]
  obtain ⟨c1, c2⟩ := a2.load (by omega) (n := ((pg s j : Nat) : Int)) (by omega) (by rw [n1.spages]; exact f.page hj)
  have n2 := near_load (loadP p h (pg s i)).2.1 (loadP p h (pg s i)).2.2 ((pg s j : Nat) : Int)
  rw [c1, if_pos rfl]
  exact ⟨rfl, c2, n1.trans n2 (by omega) (by omega)⟩
theorem pairE_q (q : Quiet p h b) (f : Fit s p) (hi : i < s.n) (hj : j < s.n) (hw : p.writes + 1 < 4294967295) {x y : Bytes} (hx : x.length = s.size) (hy : y.length = s.size) : (pairE s p h i j (b (pg s i)) (b (pg s j)) x y).1 = 0 ∧ Quiet (pairE s p h i j (b (pg s i)) (b (pg s j)) x y).2.1 (pairE s p h i j (b (pg s i)) (b (pg s j)) x y).2.2 (putB s (putB s b i x) j y) := by
 have h1 := f.from i
 have h2 := f.from j
 have hb := q.sound.len
 have hl1 : (lay (b (pg s i)) (fr s i) x).length = p.text := by rw [lay_len (by rw [hb, hx]; exact h1), hb]
 unfold pairE
 by_cases e : pg s j = pg s i
 ·rw [if_pos e]
  have hll : (lay (lay (b (pg s i)) (fr s i) x) (fr s j) y).length = p.text := by rw [lay_len (by rw [hl1, hy]; exact h2), hl1]
  obtain ⟨c1, c2⟩ := q.save (by omega) (n := ((pg s i : Nat) : Int)) (by omega) (f.page hi) hll
  refine ⟨c1, ?_⟩
  have : putB s (putB s b i x) j y = setF b ((pg s i : Nat) : Int) (lay (lay (b (pg s i)) (fr s i) x) (fr s j) y) := by
   funext n
   unfold putB setF
   rw [e, if_pos rfl]
   split <;> rfl
  rw [this]; exact c2
 ·rw [if_neg e]
  obtain ⟨c1, c2⟩ := q.save (by omega) (n := ((pg s i : Nat) : Int)) (by omega) (f.page hi) hl1
  have n1 := near_save p h ((pg s i : Nat) : Int) (lay (b (pg s i)) (fr s i) x)
  have hw2 := n1.writes
  dsimp only
  rw [c1, if_pos rfl]
  have hl2 : (lay (b (pg s j)) (fr s j) y).length = (saveP p h (pg s i) (lay (b (pg s i)) (fr s i) x)).2.1.text := by rw [lay_len (by rw [hb, hy]; exact h2), hb, n1.text]
  obtain ⟨d1, d2⟩ := c2.save (by omega) (n := ((pg s j : Nat) : Int)) (by omega) (by rw [n1.spages]; exact f.page hj) hl2
  refine ⟨d1, ?_⟩
  have : putB s (putB s b i x) j y = setF (setF b ((pg s i : Nat) : Int) (lay (b (pg s i)) (fr s i) x)) ((pg s j : Nat) : Int) (lay (b (pg s j)) (fr s j) y) := by
   have e2 : putB s b i x ((pg s j : Nat) : Int) = b (pg s j) := by
    unfold putB setF
    rw [if_neg (by omega)]
   unfold putB at e2 ⊢
   rw [e2]
  rw [this]; exact d2
theorem get_near (s : SL) (p : PS) (h : HS) (i : Int) : Near 2 1 p h (getS s p h i).2.2.1 (getS s p h i).2.2.2 := by
 unfold getS
 split
 ·exact near_load p h _
 ·exact Near.refl 2 1 p h
theorem set_near (s : SL) (p : PS) (h : HS) (i : Int) (b : Bytes) : Near 3 2 p h (setS s p h i b).2.2.1 (setS s p h i b).2.2.2 := by
 unfold setS
 split
 ·split
  ·have n1 := near_load p h ((pg s i.toNat : Nat) : Int)
   dsimp only
   split
   ·exact n1.trans (near_save _ _ _ _) (by omega) (by omega)
   ·exact n1.trans (Near.refl 1 1 _ _) (by omega) (by omega)
  ·exact Near.refl 3 2 p h
 ·exact Near.refl 3 2 p h
theorem pairE_near (s : SL) (p : PS) (h : HS) (i j : Nat) (tI tJ a b : Bytes) : Near 2 2 p h (pairE s p h i j tI tJ a b).2.1 (pairE s p h i j tI tJ a b).2.2 := by
 unfold pairE
 split
 ·exact (near_save p h _ _).trans (Near.refl 0 0 _ _) (by omega) (by omega)
 ·dsimp only
  split
  ·exact (near_save p h _ _).trans (near_save _ _ _ _) (by omega) (by omega)
  ·exact (near_save p h _ _).trans (Near.refl 0 0 _ _) (by omega) (by omega)
end
end Go.Sl.SlotS
namespace Go.Sl
open Go Go.Proofs
attribute [local irreducible] pt old pur ex all den denOps denS xOps xC cX CX xthen xblk xcut xloop xng retX resX Calls PV Rd Con
attribute [local irreducible] hostA pgA
open SlotS (SL Acc Fit)
def accs (x : Acc) : List Value := [.int .i64 x.1, .int .i64 x.2.1, .int .i64 x.2.2]
theorem acc_one (x : Acc) : (accs x).all oneC = true := rfl
theorem acc_ones (l : List Acc) : (l.flatMap accs).all oneC = true := by
 rw [List.all_eq_true]
 intro v hv
 obtain ⟨f, _, hv⟩ := List.mem_flatMap.1 hv
 exact List.all_eq_true.1 (acc_one f) v hv
abbrev slc (pp : Nat) (s : SL) (a : Option Addr) (c : Nat) : Array Value := #[hp pp, nvv s.first, nvv s.n, nvv s.size, nvv s.per, .slice a s.log.length c]
abbrev ownAcc (a : Option Addr) (c : Nat) (l : List Acc) : Asrt := own 151 3 (.slice a l.length c) l.length (l.flatMap accs)
abbrev slL (q pp : Nat) (s : SL) (a : Option Addr) (c : Nat) : List Asrt := [cl q (slc pp s a c) 137, ownAcc a c s.log]
def slB (q pp : Nat) (s : SL) (t : Option Addr × Nat) : Asrt := all (slL q pp s t.1 t.2)
def slA (q pp : Nat) (s : SL) : Asrt := ex (slB q pp s)
section
variable {q pp : Nat} {s : SL} {L : List Asrt}
theorem slA_mk {a : Option Addr} {c : Nat} : Imp (slL q pp s a c ++ L) (slA q pp s :: L) :=
 (Imp.app (L := slL q pp s a c)).trans (Imp.head fun f h => by unfold slA Sl.ex; exact Exists.intro (p := fun x => (slB q pp s x).on f) (a, c) h)
theorem Con.slA {F : FuncId} {args : List Value} {Φ : Value → List Asrt → Prop} (h : ∀ (a : Option Addr) (c : Nat), Con Tryz.prog F args (slL q pp s a c ++ L) Φ) : Con Tryz.prog F args (Sl.slA q pp s :: L) Φ :=
 Con.ex fun t => Con.pre (h t.1 t.2) (Imp.unapp (L := slL q pp s t.1 t.2))
end
section
variable {q pp : Nat} {s : SL} {a : Option Addr} {c : Nat}
theorem shas_x (i : Int) : Con Tryz.prog 78 [hp q, .int .i64 i] [cl q (slc pp s a c) 137] (fun r M => r = .bool (decide (SlotS.has s i)) ∧ M = [cl q (slc pp s a c) 137]) := by
 by_cases h0 : 0 ≤ i
 ·by_cases h1 : i < (s.n : Int)
  ·rw [decide_eq_true (show SlotS.has s i from ⟨h0, h1⟩)]
   refine fn_y Tryz.func78 Tryz.mixed ?_
   intro w0
   refine Y5 ?_
   refine Zhg (Zbq (b := 0) rfl rfl) ?_
   refine Zos 6 rfl (h0) ?_
   refine Y6 ?_
   first|refine Y0 ?_|(refine Zhh rfl ?_; (refine Zhg (Zbn (a := i) (b := (s.n : Int)) rfl rfl) ?_))
   refine Zos 13 rfl (h1) ?_
   refine V3 ?_
   refine rx1 (Zha rfl (Zg7)) ?_
   exact ⟨_, ⟨rfl, rfl⟩, qI⟩
  ·rw [decide_eq_false (show ¬ SlotS.has s i from fun hh => h1 hh.2)]
   refine fn_y Tryz.func78 Tryz.mixed ?_
   intro w0
   refine Y5 ?_
   refine Zhg (Zbq (b := 0) rfl rfl) ?_
   refine Zos 6 rfl (h0) ?_
   refine Y6 ?_
   first|refine Y0 ?_|(refine Zhh rfl ?_; (refine Zhg (Zbn (a := i) (b := (s.n : Int)) rfl rfl) ?_))
   refine Zot 13 rfl (h1) ?_
   refine V3 ?_
   refine rx1 (Zha rfl (Zg7)) ?_
   exact ⟨_, ⟨rfl, rfl⟩, qI⟩
 ·rw [decide_eq_false (show ¬ SlotS.has s i from fun hh => h0 hh.1)]
  refine fn_y Tryz.func78 Tryz.mixed ?_
  intro w0
  refine Y5 ?_
  refine Zhg (Zbq (b := 0) rfl rfl) ?_
  refine Zot 6 rfl (h0) ?_
  refine V10 ?_
  refine rx1 (Zha rfl (Zg7)) ?_
  exact ⟨_, ⟨rfl, rfl⟩, qI⟩
theorem stouch_x (k i j : Int) (hl : s.log.length ≤ 4000000000000) : Con Tryz.prog 79 [hp q, .int .i64 k, .int .i64 i, .int .i64 j] (slL q pp s a c) (fun r M => ∃ a' c', M = slL q pp (SlotS.touch s k i j) a' c') := by
 refine fn_y Tryz.func79 Tryz.mixed ?_
 intro w0
 refine Y9 ?_
 refine Zhg (Zdm (cs := (accs (k, i, j)).toArray) rfl) ?_
 refine Zh7 (cs := (accs (k, i, j)).toArray) (by omega) (by omega) (by exact fill_one rfl rfl) ?_; intro b17
 refine Zia rfl rfl qH (Rd.cl (xs := accs (k, i, j)) qH rfl qZ rfl) (by first|rfl|exact oneM_u8 _|exact oneL_u8 _|exact acc_one _|assumption|(simp [oneC]; done)) (by omega) qS ?_; intro a3 c3
 refine V4 ?_
 first|refine rx0 ?_|refine rx0n ?_
 refine ⟨_, ⟨a3, c3, rfl⟩, ?_⟩
 have e2 : (s.log ++ [(k, i, j)]).length = s.log.length + 1 := by simp
 have e3 : (s.log ++ [(k, i, j)]).flatMap accs = s.log.flatMap accs ++ accs (k, i, j) := by simp
 show Imp _ [cl q (slc pp { s with log := s.log ++ [(k, i, j)] } a3 c3) 137, ownAcc a3 c3 (s.log ++ [(k, i, j)])]
 unfold ownAcc slc
 dsimp only
 rw [e2, e3]
 exact qI
abbrev placeF (bf bs : Nat) : Value := .func (.func 115) #[] #[.pointer (some ⟨bf, 0, none⟩), .pointer (some ⟨bs, 0, none⟩)]
theorem splace_x (i : Nat) (h1 : 1 ≤ s.per) (hi : i ≤ 268435456) (hf : SlotS.fr s i ≤ 4096) (hp1 : SlotS.pg s i ≤ 65536) : Con Tryz.prog 80 [hp q, nvv i] [cl q (slc pp s a c) 137] (fun r M => ∃ bf bs, r = .tuple #[nvv (SlotS.pg s i), placeF bf bs] ∧ M = [cl bf #[nvv (SlotS.fr s i)] 3, cl bs #[hp q] 28, cl q (slc pp s a c) 137]) := by
 unfold SlotS.fr at hf
 unfold SlotS.pg at hp1
 refine fn_y Tryz.func80 Tryz.mixed ?_
 intro w0
 refine Y1 ?_
 refine Zh3 rfl ?_; intro b2
 refine V3 ?_
 refine Zij ([cl b2 #[hp q] 28, cl q (slc pp s a c) 137]) [6, 7, 8, 9, 11] (.q 0 (.r 1 (.q 2 (.q 3 (.r 4 (.q 5 (.r 6 (.r 7 (.r 8 (.r 9 (.q 10 (.a 11 (.e 12 false .nil))))))))))))) (by kernel_rfl) (by kernel_rfl) (Imp.arr qV) ?_
 refine W11 ?_
 refine Zir rfl (cs := #[.int .i64 0]) rfl ?_; intro b6
 refine Ziq rfl ?_
 refine Y1 ?_
 refine Zg3 ⟨(fun hh => Bool.noConfusion hh), ?_⟩
 refine Zik ?_
 refine Ct.o ?_
 refine Zij ([cl b6 #[nvv (i % s.per * s.size)] 3, cl b2 #[hp q] 28, cl q (slc pp s a c) 137]) [5, 6, 7, 8, 9] (.q 4 (.q 11 (.r 0 (.q 1 (.q 2 (.r 3 (.r 5 (.r 6 (.r 7 (.r 8 (.r 9 (.q 10 (.q 12 (.q 13 .nil)))))))))))))) (by kernel_rfl) (by kernel_rfl) (Imp.arr qV) ?_
 refine W15 ?_
 refine Ct.o ?_
 refine rx2 (Zg9 rfl (Zg8 rfl (Zg7))) ?_
 exact ⟨_, ⟨b6, b2, rfl, rfl⟩, qI⟩
theorem splaced_x {g n cp bf bs f : Nat} (hs : 1 ≤ s.size) (hfc : f + s.size ≤ n) (hnc : n ≤ cp) (hn : n ≤ 4096) : Con Tryz.prog 115 [.slice (some ⟨g, 0, none⟩) n cp, .pointer (some ⟨bf, 0, none⟩), .pointer (some ⟨bs, 0, none⟩)] [cl bf #[nvv f] 3, cl bs #[hp q] 28, cl q (slc pp s a c) 137] (fun r M => r = .slice (some ⟨g, f, none⟩) s.size (cp - f) ∧ M = [cl bf #[nvv f] 3, cl bs #[hp q] 28, cl q (slc pp s a c) 137]) := by
 have hsz : f + s.size - f = s.size := by omega
 refine fn_y Tryz.func115 Tryz.mixed ?_
 intro w0
 refine V3 ?_
 refine Zij ([cl bf #[nvv f] 3, cl bs #[hp q] 28, cl q (slc pp s a c) 137]) [2, 3, 4, 5, 6, 7] (.q 0 (.r 1 (.r 2 (.r 3 (.r 4 (.r 5 (.r 6 (.r 7 (.q 8 (.q 9 .nil)))))))))) (by kernel_rfl) (by kernel_rfl) (Imp.arr qV) ?_
 refine W8 ?_
 refine Zim rfl (Zna (l := f) (h := f + s.size) rfl rfl rfl (by omega) (by omega) (by omega)) ?_
 refine W2 ?_
 refine Ct.o ?_
 rw [hsz]
 refine rx1 (Zhc rfl (Zg7)) ?_
 exact ⟨_, ⟨rfl, rfl⟩, qI⟩
end
end Go.Sl
namespace Go.Sl
open Go
theorem or_add (a b i : Nat) (h : b < 2 ^ i) : a <<< i ||| b = a * 2 ^ i + b := by rw [← Nat.shiftLeft_add_eq_or_of_lt h, Nat.shiftLeft_eq]
abbrev W128.val (x : W128) : Nat := x.1.toNat + 18446744073709551616 * x.2.toNat
theorem quarter (f : W128) (hf : f.1.toNat % 4 = 0) : W128.val (f.1 >>> 2 ||| f.2 <<< 62, f.2 >>> 2) = f.val / 4 := by
 have h1 := f.1.isLt; have h2 := f.2.isLt
 have e : (f.1 >>> 2 ||| f.2 <<< 62).toNat = f.2.toNat % 4 * 4611686018427387904 + f.1.toNat / 4 := by
  rw [BitVec.toNat_or, BitVec.toNat_ushiftRight, BitVec.toNat_shiftLeft, Nat.shiftRight_eq_div_pow, Nat.or_comm]
  have e2 : f.2.toNat <<< 62 % 2 ^ 64 = (f.2.toNat % 4) <<< 62 := by
   rw [Nat.shiftLeft_eq, Nat.shiftLeft_eq]; omega
  rw [e2, or_add _ _ _ (by omega)]
 simp only [W128.val, e, BitVec.toNat_ushiftRight, Nat.shiftRight_eq_div_pow]
 omega
end Go.Sl
namespace Go.Sl
open Go
end Go.Sl
namespace Go.Sl
open Go Go.Proofs
attribute [local irreducible] pt old pur ex all den denOps denS xOps xC cX CX xthen xblk xcut xloop xng retX resX Calls PV Rd Con
attribute [local irreducible] rotW
end Go.Sl
namespace Go.Sl
open Go Go.Proofs
attribute [local irreducible] pt old pur ex all den denOps denS xOps xC cX CX xthen xblk xcut xloop xng retX resX Calls PV Rd Con
end Go.Sl
namespace Go.Sl
open Go Go.Proofs
attribute [local irreducible] pt old pur ex all den denOps denS xOps xC cX CX xthen xblk xcut xloop xng retX resX Calls PV Rd Con
end Go.Sl
namespace Go.Sl
open Go Go.Proofs
attribute [local irreducible] pt old pur ex all den denOps denS xOps xC cX CX xthen xblk xcut xloop xng retX resX Calls PV Rd Con
theorem x_own {P : Program} {w0 : World} {c : Code} {ρ : Env} {Q : XQ} {E n cp : Nat} {a : Option Addr} {xs : List Value} {M M' : List Asrt} (hm : Has M (own E 1 (.slice a n cp) n xs) M') (hn : 0 < n)
  (k : ∀ g rest, a = some ⟨g, 0, none⟩ → n ≤ cp → cp ≤ 9223372036854775807 → rest.length + n = cp → xC P w0 c ρ (cl g (xs ++ rest).toArray E :: M') Q) : xC P w0 c ρ M Q := by
 refine Zgu (α := { p : Nat × List Value // a = some ⟨p.1, 0, none⟩ ∧ n ≤ cp ∧ cp ≤ 9223372036854775807 ∧ p.2.length + n = cp }) (A := fun p => cl p.val.1 (xs ++ p.val.2).toArray E :: M') ?_ (fun p => k p.val.1 p.val.2 p.property.1 p.property.2.1 p.property.2.2.1 p.property.2.2.2)
 intro F w H
 rcases (H.pick (.there hm)).own_get with ⟨hv, rfl, _⟩|⟨g, cap, cur, hv, h2, h3, h4, h5, h6, H'⟩
 ·omega
 ·simp only [Value.slice.injEq] at hv
  obtain ⟨rfl, _, rfl⟩ := hv
  have e : cur = (xs ++ cur.toList.drop n).toArray := by
   rw [← h5, Nat.mul_one, List.take_append_drop]
  refine ⟨⟨(g, cur.toList.drop n), rfl, h2, h3, by rw [List.length_drop, Array.length_toList, h4]; omega⟩, ?_⟩
  dsimp only
  rw [← e]
  exact H'.swap
attribute [local irreducible] lowB
end Go.Sl
namespace Go.Sl
open Go Go.Proofs
attribute [local irreducible] pt old pur ex all den denOps denS xOps xC cX CX xthen xblk xcut xloop xng retX resX Calls PV Rd Con
attribute [local irreducible] hostA pgA PagerS.loadP PagerS.saveP
open SlotS (SL Acc Fit)
open PagerS (PS Over)
theorem rd_part {M M' : List Asrt} {g f n k E : Nat} {B : List Byte} {rest : List Value} (hm : Has M (cl g (B.map u8b ++ rest).toArray E) M') (h : f + n ≤ B.length) : Rd M 1 (.slice (some ⟨g, f, none⟩) n k) n ((SlotS.part B f n).map u8b) := by
 have hl := SlotS.part_len (t := B) h
 refine Rd.cl (o := f) hm (by rw [List.length_map, hl, Nat.mul_one]) (by simp; omega) ?_
 rw [Nat.mul_one, Array.toList_extract, List.extract_eq_take_drop]
 show ((B.map u8b ++ rest).drop f).take (f + n - f) = _
 rw [show f + n - f = n by omega, List.drop_append_of_le_length (by simp; omega), List.take_append_of_le_length (by simp; omega)]
 unfold SlotS.part
 rw [List.map_take, List.map_drop]
theorem copy_all {l : List Byte} {n : Nat} (hl : l.length = n) : wr ((List.replicate n 0#8).map u8b).toArray 0 ((l.map u8b).take (min n n * 1)) = (l.map u8b).toArray := by
 rw [Nat.min_self, Nat.mul_one, List.take_of_length_le (by simp [hl])]
 have := wr_mid [] ((List.replicate n 0#8).map u8b) [] (l.map u8b) 0 rfl (by simp [hl])
 simpa using this
theorem copy_lay {B b : List Byte} {f n : Nat} {rest : List Value} (hb : b.length = n) (h : f + n ≤ B.length) : wr (B.map u8b ++ rest).toArray f ((b.map u8b).take (min b.length n * 1)) = ((SlotS.lay B f b).map u8b ++ rest).toArray := by
 rw [hb, Nat.min_self, Nat.mul_one, List.take_of_length_le (by simp [hb])]
 have e : B.map u8b ++ rest = (B.take f).map u8b ++ (((B.drop f).take n).map u8b ++ ((B.drop (f + n)).map u8b ++ rest)) := by
  have e1 : B = B.take f ++ ((B.drop f).take n ++ B.drop (f + n)) := by
   have h2 : B.drop (f + n) = (B.drop f).drop n := by rw [List.drop_drop]
   rw [h2, List.take_append_drop, List.take_append_drop]
  conv => lhs; rw [e1]
  simp
 rw [e]
 have := wr_mid ((B.take f).map u8b) (((B.drop f).take n).map u8b) ((B.drop (f + n)).map u8b ++ rest) (b.map u8b) f (by simp; omega) (by simp [hb]; omega)
 rw [this]
 unfold SlotS.lay
 simp [hb]
theorem lay_bs {M M' : List Asrt} {g n c E : Nat} {l : List Byte} {rest : List Value} (hm : Has M (cl g (l.map u8b ++ rest).toArray E) M') (hl : l.length = n) (hnc : n ≤ c) (hcm : c ≤ 9223372036854775807) : Bs M (.slice (some ⟨g, 0, none⟩) n c) l := by
 subst hl
 refine Bs.cl (o := 0) hm (by simp) ?_ hnc hcm
 rw [Nat.zero_add, Array.toList_extract, List.extract_eq_take_drop]
 show ((l.map u8b ++ rest).drop 0).take (l.length - 0) = _
 rw [List.drop_zero, Nat.sub_zero, List.take_append_of_le_length (by simp)]
 exact List.take_of_length_le (by simp)
theorem own_block {g n : Nat} {l : List Byte} (hl : l.length = n) (hn : n ≤ 9223372036854775807) {M : List Asrt} : Imp (cl g (l.map u8b).toArray 5 :: M) (ownB (some ⟨g, 0, none⟩) n l :: M) := by
 subst hl
 exact Imp.own_mk (n := l.length) (cap := l.length) (size := 1) (xs := l.map u8b) (Nat.le_refl _) hn (by simp) (by simp; exact List.take_of_length_le (by simp))
section
variable {q pp ph : Nat} {s : SL} {p : PS} {h : HostS.HS}
theorem pgs_ok {M M' : List Asrt} {F : Asrt} {w0 w : World} (hm : Has M (pgA pp ph p) M') (H : St w0 w (F :: M)) : PagerS.Ok p := by
 have H := H.pick (.there hm)
 unfold pgA at H
 obtain ⟨t, H⟩ := H.ex_get
 exact (St.pur_get (St.all_get H)).ok
theorem sget_x (f : Fit s p) (hk : PagerS.Ok p) (hov : Over p h) (hops : h.ops + 1 < 3518437208880) (hl : s.log.length ≤ 4000000000000) (i : Int) : Con Tryz.prog 35 [hp q, .int .i64 i] [slA q pp s, pgA pp ph p, hostA ph h] (fun r M => ∃ a c, r = .tuple #[.slice a (SlotS.getS s p h i).1.1.length c, nvv (SlotS.getS s p h i).1.2] ∧ M = [ownB a c (SlotS.getS s p h i).1.1, slA q pp (SlotS.getS s p h i).2.1, pgA pp ph (SlotS.getS s p h i).2.2.1, hostA ph (SlotS.getS s p h i).2.2.2]) := by
 refine Con.slA fun la lc => ?_
 simp only [List.cons_append, List.nil_append]
 by_cases hh : SlotS.has s i
 ·obtain ⟨i, rfl⟩ : ∃ n : Nat, i = n := ⟨i.toNat, by have := hh.1; omega⟩
  have hin : i < s.n := by have := hh.2; omega
  have ht1 := hk.t1
  have hp1 := hk.p1
  have hpage := f.page hin
  have hfrom := f.from i
  have hsz1 := f.size
  have hll := fun he hk1 => SlotS.load_text (p := p) (h := h) (n := ((SlotS.pg s i : Nat) : Int)) he hk1
  have hld := load_x (p := pp) (ph := ph) hov (by omega) ((SlotS.pg s i : Nat) : Int)
  have e : SlotS.getS s p h (i : Int) = (if (PagerS.loadP p h (SlotS.pg s i : Nat)).1.2 = 0 then (SlotS.part (PagerS.loadP p h (SlotS.pg s i : Nat)).1.1 (SlotS.fr s i) s.size, 0) else ([], (PagerS.loadP p h (SlotS.pg s i : Nat)).1.2), SlotS.touch s 0 i 0, (PagerS.loadP p h (SlotS.pg s i : Nat)).2) := by
   unfold SlotS.getS
   rw [if_pos hh, Int.toNat_natCast]
  rw [e]
  have htc := fun a c => stouch_x (q := q) (pp := pp) (s := s) (a := a) (c := c) 0 i 0 hl
  have hpl := fun a c => splace_x (q := q) (pp := pp) (s := SlotS.touch s 0 i 0) (a := a) (c := c) i (f.touch 0 i 0).per1 (f.small hin hp1 ht1) (by show SlotS.fr s i ≤ 4096; omega) (by show SlotS.pg s i ≤ 65536; omega)
  have hpd := fun a c g n cp bf bs h1 h2 h3 => splaced_x (q := q) (pp := pp) (s := SlotS.touch s 0 i 0) (a := a) (c := c) (g := g) (n := n) (cp := cp) (bf := bf) (bs := bs) (f := SlotS.fr s i) f.size h1 h2 h3
  have e1 : SlotS.pg (SlotS.touch s 0 i 0) i = SlotS.pg s i := rfl
  have e2 : SlotS.fr (SlotS.touch s 0 i 0) i = SlotS.fr s i := rfl
  have e3 : (SlotS.touch s 0 i 0).size = s.size := rfl
  rw [e1, e2] at hpl
  rw [e3] at hpd
  generalize hs2 : SlotS.touch s 0 i 0 = s2 at *
  generalize (PagerS.loadP p h (SlotS.pg s i : Nat)).2.1 = p1 at *
  generalize (PagerS.loadP p h (SlotS.pg s i : Nat)).2.2 = h1 at *
  generalize (PagerS.loadP p h (SlotS.pg s i : Nat)).1.2 = er at *
  generalize (PagerS.loadP p h (SlotS.pg s i : Nat)).1.1 = B at *
  generalize SlotS.pg s i = pn at *
  generalize SlotS.fr s i = fn at *
  refine fn_y Tryz.func35 Tryz.mixed ?_
  intro w0
  refine Y7 ?_
  refine Zhn 12 rfl (rfl) ?_
  refine Y5 ?_
  refine Zor (c := shas_x (q := q) (pp := pp) (s := s) (a := la) (c := lc) i) (k := ?_)
  rintro _ _ ⟨rfl, rfl⟩
  refine Y1 ?_
  refine Zos 15 rfl (hh) ?_
  refine Zhg (Zb0 rfl) ?_
  refine Zhn 16 rfl (rfl) ?_
  refine Y5 ?_
  refine Zor (c := htc la lc) (k := ?_)
  rintro _ _ ⟨la2, lc2, rfl⟩
  refine Y5 ?_
  refine Zor (c := hpl la2 lc2) (k := ?_)
  rintro _ _ ⟨bf, bs, rfl, rfl⟩
  refine Y13 ?_
  refine Zor (c := hld) (k := ?_)
  rintro _ _ ⟨ta, tc, rfl, rfl⟩
  refine V7 ?_
  refine Zgt (fun F w H => pgs_ok (pp := pp) (ph := ph) (p := p1) qH H) ?_
  intro hk1
  by_cases he : er = 0
  ·rw [if_pos he]
   have hB := hll he hk1
   have hpl2 : (SlotS.part B fn s.size).length = s.size := SlotS.part_len (by omega)
   refine Y3 ?_
   refine Zot 36 rfl ((fun hh => hh he)) ?_
   refine Y7 ?_
   refine Zm3 (f := u8b) (a := 0#8) rfl rfl rfl qS qS qS ?_; intro b42
   refine V2 ?_
   rw [e3]
   refine x_own (E := 5) (n := B.length) (a := ta) (cp := tc) qH (by omega) ?_
   intro g rest hg hc1 hc2 hr
   subst hg
   refine Y4 ?_
   refine Zor (c := hpd la2 lc2 g B.length tc bf bs (by omega) hc1 (by omega)) (k := ?_)
   rintro _ _ ⟨rfl, rfl⟩
   refine Y1 ?_
   refine Zib rfl rfl ((rd_part qH (by omega))) qR qZ (by first|rfl|exact oneM_u8 _|exact oneL_u8 _|exact acc_one _|assumption|(simp [oneC]; done)) (copy_all hpl2) ?_
   refine V6 ?_
   refine rx2 (Zhc rfl (Zg9 rfl (Zg7))) ?_
   refine ⟨_, ⟨some ⟨b42, 0, none⟩, s.size, by dsimp only; rw [hpl2]; rfl, rfl⟩, ?_⟩
   exact (Imp.arr (N := cl b42 ((SlotS.part B fn s.size).map u8b).toArray 5 :: slL q pp s2 la2 lc2 ++ [pgA pp ph p1, hostA ph h1]) qV).trans ((own_block hpl2 (by omega)).trans (Imp.cons (slA_mk (L := [pgA pp ph p1, hostA ph h1]))))
  ·rw [if_neg he]
   refine Y3 ?_
   refine Zos 36 rfl (he) ?_
   refine V7 ?_
   refine rx2 (Zhc rfl (Zg9 rfl (Zg7))) ?_
   exact ⟨_, ⟨none, 0, rfl, rfl⟩, ((Imp.arr qV).trans (slA_mk (q := q) (pp := pp) (s := s2) (a := la2) (c := lc2) (L := [pgA pp ph p1, hostA ph h1]))).trans Imp.own_nil⟩
 ·have e : SlotS.getS s p h i = (([], 2), s, p, h) := by unfold SlotS.getS; rw [if_neg hh]
  rw [e]
  refine fn_y Tryz.func35 Tryz.mixed ?_
  intro w0
  refine Y7 ?_
  refine Zhn 12 rfl (rfl) ?_
  refine Y5 ?_
  refine Zor (c := shas_x (q := q) (pp := pp) (s := s) (a := la) (c := lc) i) (k := ?_)
  rintro _ _ ⟨rfl, rfl⟩
  refine Y1 ?_
  refine Zot 15 rfl (hh) ?_
  refine Zhg (Zb0 rfl) ?_
  refine Zhm 16 rfl (rfl) ?_
  refine V6 ?_
  refine rx2 (Zhc rfl (Zg9 rfl (Zg7))) ?_
  exact ⟨_, ⟨none, 0, rfl, rfl⟩, ((Imp.arr qV).trans (slA_mk (q := q) (pp := pp) (s := s) (a := la) (c := lc) (L := [pgA pp ph p, hostA ph h]))).trans Imp.own_nil⟩
end
end Go.Sl
namespace Go.Sl
open Go Go.Proofs
attribute [local irreducible] pt old pur ex all den denOps denS xOps xC cX CX xthen xblk xcut xloop xng retX resX Calls PV Rd Con
attribute [local irreducible] hostA pgA PagerS.loadP PagerS.saveP
open SlotS (SL Acc Fit)
open PagerS (PS Over)
section
variable {q pp ph : Nat} {s : SL} {p : PS} {h : HostS.HS}
theorem sl_small {F : FuncId} {args : List Value} {v : Value} (hc : ∀ a c, Con Tryz.prog F args [cl q (slc pp s a c) 137] (fun r M => r = v ∧ M = [cl q (slc pp s a c) 137])) : Con Tryz.prog F args [slA q pp s] (fun r M => r = v ∧ M = [slA q pp s]) :=
 Con.slA (L := []) fun a c => ((hc a c).frame (L := [ownAcc a c s.log])).mono fun r M ⟨M', h1, h2⟩ => by
  obtain ⟨h1, h3⟩ := h1
  subst h3 h2
  exact ⟨_, by simpa using slA_mk (q := q) (pp := pp) (s := s) (a := a) (c := c) (L := []), h1, rfl⟩
theorem slen_x : Con Tryz.prog 26 [hp q] [slA q pp s] (fun r M => r = nvv s.n ∧ M = [slA q pp s]) := sl_small fun a c => by
 refine fn_y Tryz.func26 Tryz.mixed ?_
 intro w0
 refine Y6 ?_
 refine Zhn 4 rfl (rfl) ?_
 refine V9 ?_
 refine rx1 (Zg9 rfl (Zg7)) ?_
 exact ⟨_, ⟨rfl, rfl⟩, qI⟩
theorem ssize_x : Con Tryz.prog 27 [hp q] [slA q pp s] (fun r M => r = nvv s.size ∧ M = [slA q pp s]) := sl_small fun a c => by
 refine fn_y Tryz.func27 Tryz.mixed ?_
 intro w0
 refine Y6 ?_
 refine Zhn 4 rfl (rfl) ?_
 refine V9 ?_
 refine rx1 (Zg9 rfl (Zg7)) ?_
 exact ⟨_, ⟨rfl, rfl⟩, qI⟩
theorem cloneA_x {L : List Asrt} {a : Option Addr} {c : Nat} {b : List Acc} (h : Rd L 3 (.slice a b.length c) b.length (b.flatMap accs)) (hl : b.length ≤ 4000000000001) : Con Tryz.prog 77 [.slice a b.length c] L (fun v M => ∃ a' c', v = .slice a' b.length c' ∧ M = ownAcc a' c' b :: L) := by
 cases ha : a.isNone with
 | true =>
  obtain rfl : a = none := by simpa using ha
  by_cases h0 : b.length = 0
  ·obtain rfl : b = [] := List.eq_nil_of_length_eq_zero h0
   refine fn_y Tryz.func77 Tryz.mixed ?_
   intro w0
   refine Y6 ?_
   refine Zhm 4 rfl (rfl) ?_
   refine V5 ?_
   refine rx1 (Zhc rfl (Zg7)) ?_
   exact ⟨_, ⟨none, 0, rfl, rfl⟩, (Imp.arr (N := L) qV).trans Imp.own_nil⟩
  ·refine Con.get (fun w0 w F H => h.someAt (by omega) H) ?_
   rintro ⟨s1, s2, hh⟩
   cases hh
 | false =>
  refine fn_y Tryz.func77 Tryz.mixed ?_
  intro w0
  refine Y6 ?_
  refine Zhn 4 rfl (ha) ?_
  refine Y3 ?_
  refine Zh7 (cs := #[]) (by omega) (by omega) rfl ?_; intro b5; refine Zgw ((Imp.arr (N := cl b5 #[] 151 :: L) qV).trans (Imp.own_mk (E := 151) (size := 3) (n := 0) (cap := 0) (xs := []) (by omega) (by omega) rfl rfl)) ?_
  refine Y1 ?_
  refine Zia rfl rfl qH (h.imp (Imp.arr qV)) (by first|rfl|exact oneM_u8 _|exact oneL_u8 _|exact acc_one _|exact acc_ones _|assumption|(simp [oneC]; done)) (by omega) qS ?_; intro a3 c3
  refine V2 ?_
  rw [Nat.zero_add, List.nil_append]
  refine rx1 (Zhc rfl (Zg7)) ?_
  exact ⟨_, ⟨a3, c3, rfl, rfl⟩, qI⟩
theorem slog_x (hl : s.log.length ≤ 4000000000001) : Con Tryz.prog 28 [hp q] [slA q pp s] (fun r M => ∃ a c, r = .slice a s.log.length c ∧ M = [ownAcc a c s.log, slA q pp s]) := by
 refine Con.slA fun la lc => ?_
 simp only [List.cons_append, List.nil_append]
 have hc := cloneA_x (L := [ownAcc la lc s.log]) (a := la) (c := lc) (b := s.log) (Rd.own .here) hl
 refine fn_y Tryz.func28 Tryz.mixed ?_
 intro w0
 refine Y6 ?_
 refine Zhn 4 rfl (rfl) ?_
 refine Y7 ?_
 refine Zor (c := hc) (k := ?_)
 rintro _ _ ⟨a, c, rfl, rfl⟩
 refine V3 ?_
 refine rx1 (Zhc rfl (Zg7)) ?_
 refine ⟨_, ⟨a, c, rfl, rfl⟩, ?_⟩
 exact (Imp.arr (N := ownAcc a c s.log :: (slL q pp s la lc ++ [])) qV).trans (Imp.cons (slA_mk (L := [])))
theorem sset_x {L : List Asrt} (f : Fit s p) (hk : PagerS.Ok p) (hov : Over p h) (hops : h.ops + 3 < 3518437208880) (hl : s.log.length ≤ 4000000000000) (i : Int) {vb : Value} {b : List Byte} (hb : Bs L vb b) : Con Tryz.prog 31 [hp q, .int .i64 i, vb] (slA q pp s :: pgA pp ph p :: hostA ph h :: L) (fun r M => r = nvv (SlotS.setS s p h i b).1 ∧ M = slA q pp (SlotS.setS s p h i b).2.1 :: pgA pp ph (SlotS.setS s p h i b).2.2.1 :: hostA ph (SlotS.setS s p h i b).2.2.2 :: L) := by
 refine Con.get (fun w0 w F H => hb.sh _ _ _ (H.enx (Imp.tail.trans (Imp.tail.trans Imp.tail)))) ?_
 rintro ⟨ba, bc, rfl, hbc, hbcm⟩
 refine Con.slA fun la lc => ?_
 simp only [List.cons_append, List.nil_append]
 have hback : ∀ (s : SL) (p : PS) (h : HostS.HS) (la : Option Addr) (lc : Nat), Imp (slL q pp s la lc ++ (pgA pp ph p :: hostA ph h :: L)) (slA q pp s :: pgA pp ph p :: hostA ph h :: L) := fun s p h la lc => slA_mk
 simp only [List.cons_append, List.nil_append] at hback
 by_cases hh : SlotS.has s i
 ·by_cases hbl : b.length = s.size
  ·obtain ⟨i, rfl⟩ : ∃ n : Nat, i = n := ⟨i.toNat, by have := hh.1; omega⟩
   have hin : i < s.n := by have := hh.2; omega
   have ht1 := hk.t1
   have hp1 := hk.p1
   have hpage := f.page hin
   have hfrom := f.from i
   have hsz1 := f.size
   have hll := fun he hk1 => SlotS.load_text (p := p) (h := h) (n := ((SlotS.pg s i : Nat) : Int)) he hk1
   have hld := load_x (p := pp) (ph := ph) hov (by omega) ((SlotS.pg s i : Nat) : Int)
   have hov1 := (PagerS.near_load p h ((SlotS.pg s i : Nat) : Int)).over hov
   have hop1 := (PagerS.near_load p h ((SlotS.pg s i : Nat) : Int)).ops
   have e : SlotS.setS s p h (i : Int) b = (if (PagerS.loadP p h (SlotS.pg s i : Nat)).1.2 = 0 then ((PagerS.saveP (PagerS.loadP p h (SlotS.pg s i : Nat)).2.1 (PagerS.loadP p h (SlotS.pg s i : Nat)).2.2 (SlotS.pg s i : Nat) (SlotS.lay (PagerS.loadP p h (SlotS.pg s i : Nat)).1.1 (SlotS.fr s i) b)).1, SlotS.touch s 1 i 0, (PagerS.saveP (PagerS.loadP p h (SlotS.pg s i : Nat)).2.1 (PagerS.loadP p h (SlotS.pg s i : Nat)).2.2 (SlotS.pg s i : Nat) (SlotS.lay (PagerS.loadP p h (SlotS.pg s i : Nat)).1.1 (SlotS.fr s i) b)).2) else ((PagerS.loadP p h (SlotS.pg s i : Nat)).1.2, SlotS.touch s 1 i 0, ((PagerS.loadP p h (SlotS.pg s i : Nat)).2.1, (PagerS.loadP p h (SlotS.pg s i : Nat)).2.2))) := by
    unfold SlotS.setS
    rw [if_pos hh, if_pos hbl, Int.toNat_natCast]
   rw [e]
   have htc := fun a c => stouch_x (q := q) (pp := pp) (s := s) (a := a) (c := c) 1 i 0 hl
   have hpl := fun a c => splace_x (q := q) (pp := pp) (s := SlotS.touch s 1 i 0) (a := a) (c := c) i (f.touch 1 i 0).per1 (f.small hin hp1 ht1) (by show SlotS.fr s i ≤ 4096; omega) (by show SlotS.pg s i ≤ 65536; omega)
   have hpd := fun a c g n cp bf bs h1 h2 h3 => splaced_x (q := q) (pp := pp) (s := SlotS.touch s 1 i 0) (a := a) (c := c) (g := g) (n := n) (cp := cp) (bf := bf) (bs := bs) (f := SlotS.fr s i) f.size h1 h2 h3
   have e1 : SlotS.pg (SlotS.touch s 1 i 0) i = SlotS.pg s i := rfl
   have e2 : SlotS.fr (SlotS.touch s 1 i 0) i = SlotS.fr s i := rfl
   have e3 : (SlotS.touch s 1 i 0).size = s.size := rfl
   rw [e1, e2] at hpl
   rw [e3] at hpd
   generalize hs2 : SlotS.touch s 1 i 0 = s2 at *
   generalize (PagerS.loadP p h (SlotS.pg s i : Nat)).2.1 = p1 at *
   generalize (PagerS.loadP p h (SlotS.pg s i : Nat)).2.2 = h1 at *
   generalize (PagerS.loadP p h (SlotS.pg s i : Nat)).1.2 = er at *
   generalize (PagerS.loadP p h (SlotS.pg s i : Nat)).1.1 = B at *
   generalize SlotS.pg s i = pn at *
   generalize SlotS.fr s i = fn at *
   refine fn_y Tryz.func31 Tryz.mixed ?_
   intro w0
   refine Y6 ?_
   refine Zhn 12 rfl (rfl) ?_
   refine Y5 ?_
   refine Zor (c := shas_x (q := q) (pp := pp) (s := s) (a := la) (c := lc) i) (k := ?_)
   rintro _ _ ⟨rfl, rfl⟩
   refine Y1 ?_
   refine Zos 15 rfl (hh) ?_
   refine Zhg (Zb0 rfl) ?_
   refine Zhn 16 rfl (rfl) ?_
   refine Y9 ?_
   refine Zhg (Zmk (a := b.length) (b := s.size) rfl rfl) ?_
   refine Zot 23 rfl ((fun hh => hh hbl)) ?_
   refine Y5 ?_
   refine Zor (c := htc la lc) (k := ?_)
   rintro _ _ ⟨la2, lc2, rfl⟩
   refine Y5 ?_
   refine Zor (c := hpl la2 lc2) (k := ?_)
   rintro _ _ ⟨bf, bs, rfl, rfl⟩
   refine Y13 ?_
   refine Zor (c := hld) (k := ?_)
   rintro _ _ ⟨ta, tc, rfl, rfl⟩
   refine V7 ?_
   refine Zgt (fun F w H => pgs_ok (pp := pp) (ph := ph) (p := p1) qH H) ?_
   intro hk1
   by_cases he : er = 0
   ·rw [if_pos he]
    have hB := hll he hk1
    have hlayl := SlotS.lay_len (t := B) (b := b) (a := fn) (by omega)
    refine Y3 ?_
    refine Zot 43 rfl ((fun hh => hh he)) ?_
    refine V2 ?_
    refine x_own (E := 5) (n := B.length) (a := ta) (cp := tc) qH (by omega) ?_
    intro g rest hg hc1 hc2 hr
    subst hg
    have hsv := save_x (p := pp) (ph := ph) (s := p1) (h := h1) (L := [cl g ((SlotS.lay B fn b).map u8b ++ rest).toArray 5]) hov1 (by omega) (pn : Int) (lay_bs (n := B.length) (c := tc) .here hlayl hc1 hc2)
    refine Y3 ?_
    refine Zor (c := hpd la2 lc2 g B.length tc bf bs (by omega) hc1 (by omega)) (k := ?_)
    rintro _ _ ⟨rfl, rfl⟩
    refine Y2 ?_
    refine Zib rfl rfl ((hb.rd.imp (Imp.arr qV))) qR qZ (by first|rfl|exact oneM_u8 _|exact oneL_u8 _|exact acc_one _|exact acc_ones _|assumption|(simp [oneC]; done)) (copy_lay (B := B) (f := fn) (rest := rest) hbl (by omega)) ?_
    refine Y8 ?_
    refine Zor (c := hsv) (k := ?_)
    rintro _ _ ⟨rfl, rfl⟩
    refine V3 ?_
    refine rx1 (Zg9 rfl (Zg7)) ?_
    refine ⟨_, ⟨rfl, rfl⟩, ?_⟩
    exact (Imp.arr qV).trans (hback s2 _ _ la2 lc2)
   ·rw [if_neg he]
    refine Y3 ?_
    refine Zos 43 rfl (he) ?_
    refine V6 ?_
    refine rx1 (Zg9 rfl (Zg7)) ?_
    exact ⟨_, ⟨rfl, rfl⟩, (Imp.arr qV).trans (hback s2 _ _ la2 lc2)⟩
  ·have e : SlotS.setS s p h i b = (4, s, p, h) := by unfold SlotS.setS; rw [if_pos hh, if_neg hbl]
   rw [e]
   refine fn_y Tryz.func31 Tryz.mixed ?_
   intro w0
   refine Y6 ?_
   refine Zhn 12 rfl (rfl) ?_
   refine Y5 ?_
   refine Zor (c := shas_x (q := q) (pp := pp) (s := s) (a := la) (c := lc) i) (k := ?_)
   rintro _ _ ⟨rfl, rfl⟩
   refine Y1 ?_
   refine Zos 15 rfl (hh) ?_
   refine Zhg (Zb0 rfl) ?_
   refine Zhn 16 rfl (rfl) ?_
   refine Y9 ?_
   refine Zhg (Zmk (a := b.length) (b := s.size) rfl rfl) ?_
   refine Zos 23 rfl (hbl) ?_
   refine V5 ?_
   refine rx1 (Zg9 rfl (Zg7)) ?_
   exact ⟨_, ⟨rfl, rfl⟩, (Imp.arr qV).trans (hback s p h la lc)⟩
 ·have e : SlotS.setS s p h i b = (2, s, p, h) := by unfold SlotS.setS; rw [if_neg hh]
  rw [e]
  refine fn_y Tryz.func31 Tryz.mixed ?_
  intro w0
  refine Y6 ?_
  refine Zhn 12 rfl (rfl) ?_
  refine Y5 ?_
  refine Zor (c := shas_x (q := q) (pp := pp) (s := s) (a := la) (c := lc) i) (k := ?_)
  rintro _ _ ⟨rfl, rfl⟩
  refine Y1 ?_
  refine Zot 15 rfl (hh) ?_
  refine Zhg (Zb0 rfl) ?_
  refine Zhm 16 rfl (rfl) ?_
  refine V5 ?_
  refine rx1 (Zg9 rfl (Zg7)) ?_
  exact ⟨_, ⟨rfl, rfl⟩, (Imp.arr qV).trans (hback s p h la lc)⟩
end
end Go.Sl
namespace Go.Sl
open Go Go.Proofs
attribute [local irreducible] pt old pur ex all den denOps denS xOps xC cX CX xthen xblk xcut xloop xng retX resX Calls PV Rd Con
attribute [local irreducible] hostA pgA PagerS.loadP PagerS.saveP
open SlotS (SL Acc Fit)
open PagerS (PS Over)
abbrev fsl (g n : Nat) : Value := .slice (some ⟨g, 0, none⟩) n n
abbrev blk (g : Nat) (l : List Byte) : Asrt := cl g (l.map u8b).toArray 5
structure FCon (F : FuncId) (fi ca : Array Value) (n : Nat) (X : List Asrt) (φ : List Byte → List Byte → List Byte × List Byte) (Y : List Byte → List Byte → Nat → Nat → List Asrt → Prop) : Prop where
 callable : callable Tryz.prog F = true
 len : ∀ A B, A.length = n → B.length = n → (φ A B).1.length = n ∧ (φ A B).2.length = n
 con : ∀ a b A B, A.length = n → B.length = n → Con Tryz.prog F (fi.toList ++ [fsl a n, fsl b n] ++ ca.toList) (blk a A :: blk b B :: X) (fun r M => ∃ Z, Y A B a b Z ∧ M = blk a (φ A B).1 :: blk b (φ A B).2 :: Z)
section
variable {q pp ph : Nat} {s : SL} {p : PS} {h : HostS.HS} {F : FuncId} {fi ca : Array Value} {X : List Asrt} {φ : List Byte → List Byte → List Byte × List Byte} {Y : List Byte → List Byte → Nat → Nat → List Asrt → Prop}
theorem pair_same (f : Fit s p) (hk : PagerS.Ok p) (hov : Over p h) (hops : h.ops + 6 < 3518437208880) (hl : s.log.length ≤ 4000000000000) {i j : Nat} (hi : i < s.n) (hj : j < s.n) (hij : i ≠ j) (hc : FCon F fi ca s.size X φ Y) (hpg : SlotS.pg s j = SlotS.pg s i) (he : (PagerS.loadP p h (SlotS.pg s i : Nat)).1.2 = 0) :
  Con Tryz.prog 32 [hp q, nvv i, nvv j, .func (.func F) fi ca] (slA q pp s :: pgA pp ph p :: hostA ph h :: X) (fun r M => ∃ A B E, A = SlotS.part (PagerS.loadP p h (SlotS.pg s i : Nat)).1.1 (SlotS.fr s i) s.size ∧ B = SlotS.part (PagerS.loadP p h (SlotS.pg s i : Nat)).1.1 (SlotS.fr s j) s.size ∧ E = PagerS.saveP (PagerS.loadP p h (SlotS.pg s i : Nat)).2.1 (PagerS.loadP p h (SlotS.pg s i : Nat)).2.2 (SlotS.pg s i : Nat) (SlotS.lay (SlotS.lay (PagerS.loadP p h (SlotS.pg s i : Nat)).1.1 (SlotS.fr s i) (φ A B).1) (SlotS.fr s j) (φ A B).2) ∧ r = nvv E.1 ∧ ∃ a b Z, Y A B a b Z ∧ M = slA q pp (SlotS.touch s 2 i j) :: pgA pp ph E.2.1 :: hostA ph E.2.2 :: blk a (φ A B).1 :: blk b (φ A B).2 :: Z) := by
 refine Con.slA fun la lc => ?_
 simp only [List.cons_append, List.nil_append]
 have ht1 := hk.t1
 have hp1 := hk.p1
 have hpage := f.page hi
 have hfi := f.from i
 have hfj := f.from j
 have hsz1 := f.size
 have hiz := f.small hi hp1 ht1
 have hjz := f.small hj hp1 ht1
 have hll := fun hk1 => SlotS.load_text (p := p) (h := h) (n := ((SlotS.pg s i : Nat) : Int)) he hk1
 have hld := load_x (p := pp) (ph := ph) hov (by omega) ((SlotS.pg s i : Nat) : Int)
 have hov1 := (PagerS.near_load p h ((SlotS.pg s i : Nat) : Int)).over hov
 have hop1 := (PagerS.near_load p h ((SlotS.pg s i : Nat) : Int)).ops
 have htc := fun a c => stouch_x (q := q) (pp := pp) (s := s) (a := a) (c := c) 2 i j hl
 have hpl1 := fun a c => splace_x (q := q) (pp := pp) (s := SlotS.touch s 2 i j) (a := a) (c := c) i (f.touch 2 i j).per1 hiz (by show SlotS.fr s i ≤ 4096; omega) (by show SlotS.pg s i ≤ 65536; omega)
 have hpl2 := fun a c => splace_x (q := q) (pp := pp) (s := SlotS.touch s 2 i j) (a := a) (c := c) j (f.touch 2 i j).per1 hjz (by show SlotS.fr s j ≤ 4096; omega) (by show SlotS.pg s j ≤ 65536; rw [hpg]; omega)
 have hpd := fun a c g n cp bf bs fn h1 h2 h3 => splaced_x (q := q) (pp := pp) (s := SlotS.touch s 2 i j) (a := a) (c := c) (g := g) (n := n) (cp := cp) (bf := bf) (bs := bs) (f := fn) f.size h1 h2 h3
 have e1 : SlotS.pg (SlotS.touch s 2 i j) i = SlotS.pg s i := rfl
 have e2 : SlotS.fr (SlotS.touch s 2 i j) i = SlotS.fr s i := rfl
 have e1' : SlotS.pg (SlotS.touch s 2 i j) j = SlotS.pg s j := rfl
 have e2' : SlotS.fr (SlotS.touch s 2 i j) j = SlotS.fr s j := rfl
 have e3 : (SlotS.touch s 2 i j).size = s.size := rfl
 rw [e1, e2] at hpl1
 rw [e1', e2', hpg] at hpl2
 rw [e3] at hpd
 have hh1 : SlotS.has s (i : Int) := SlotS.has_nat hi
 have hh2 : SlotS.has s (j : Int) := SlotS.has_nat hj
 have hijz : ¬ ((i : Int) = (j : Int)) := by omega
 clear e1 e1' e2 e2' hiz hjz
 generalize hs2 : SlotS.touch s 2 i j = s2 at *
 generalize (PagerS.loadP p h (SlotS.pg s i : Nat)).2.1 = p1 at *
 generalize (PagerS.loadP p h (SlotS.pg s i : Nat)).2.2 = h1 at *
 generalize (PagerS.loadP p h (SlotS.pg s i : Nat)).1.2 = er at *
 generalize (PagerS.loadP p h (SlotS.pg s i : Nat)).1.1 = B at *
 generalize SlotS.pg s i = pn at *
 generalize SlotS.fr s i = f1 at *
 generalize SlotS.fr s j = f2 at *
 subst he
 refine fn_y Tryz.func32 Tryz.mixed ?_
 intro w0
 refine Y6 ?_
 refine Zhn 20 rfl (rfl) ?_
 refine Y5 ?_
 refine Zor (c := shas_x (q := q) (pp := pp) (s := s) (a := la) (c := lc) i) (k := ?_)
 rintro _ _ ⟨rfl, rfl⟩
 refine Y1 ?_
 refine Zos 23 rfl (hh1) ?_
 refine Zhg (Zb0 rfl) ?_
 refine Zhn 24 rfl (rfl) ?_
 refine Y3 ?_
 first|refine Y0 ?_|(refine Zhh rfl ?_; (refine Zor (c := shas_x (q := q) (pp := pp) (s := s) (a := la) (c := lc) j) (k := ?_)); (rintro _ _ ⟨rfl, rfl⟩); (refine Zg2 qA ?_))
 refine Zos 28 rfl (hh2) ?_
 first|refine Y0 ?_|(refine Zhh rfl ?_; (refine Zhg (Zb0 rfl) ?_))
 refine Zhn 29 rfl (rfl) ?_
 refine Y4 ?_
 first|refine Y0 ?_|(refine Zhh rfl ?_; (refine Zhg (Zbr (a := (i : Int)) (b := (j : Int)) rfl rfl) ?_))
 refine Zot 34 rfl (hijz) ?_
 refine Y7 ?_
 refine Zor (c := htc la lc) (k := ?_)
 rintro _ _ ⟨la2, lc2, rfl⟩
 refine Y5 ?_
 refine Zor (c := hpl1 la2 lc2) (k := ?_)
 rintro _ _ ⟨bf, bs, rfl, rfl⟩
 refine Y10 ?_
 refine Zor (c := hpl2 la2 lc2) (k := ?_)
 rintro _ _ ⟨bg, bt, rfl, rfl⟩
 refine Y13 ?_
 refine Zor (c := hld) (k := ?_)
 rintro _ _ ⟨ta, tc, rfl, rfl⟩
 refine V7 ?_
 refine Zgt (fun F w H => pgs_ok (pp := pp) (ph := ph) (p := p1) qH H) ?_
 intro hk1
 have hB := hll hk1
 refine Y3 ?_
 refine Zot 62 rfl ((fun hh => hh rfl)) ?_
 refine Y9 ?_
 refine Zhg (Zmk (a := pn) (b := pn) rfl rfl) ?_
 refine Zot 67 rfl ((fun hh => hh rfl)) ?_
 refine V2 ?_
 refine Zij ([cl q (slc pp s2 la2 lc2) 137]) [4, 8, 9, 10] (.q 0 (.q 1 (.q 2 (.q 5 (.q 6 (.q 7 (.r 3 (.r 8 (.alt (.e 4 true (.r 10 (.e 9 true (.q 11 .nil)))) (.e 9 true (.e 4 true (.r 10 (.q 11 .nil))))))))))))) (by kernel_rfl) (by kernel_rfl) (Imp.arr qV) ?_
 refine W8 ?_
 refine Zis ?altA1 ?altB1
 case' altA1 =>
  refine Ziq rfl ?_
  refine Zm3 (f := u8b) (a := 0#8) rfl rfl rfl qS qS qS ?_; intro b84
  refine Zg3 ⟨fun _ => Imp.arr qV, ?_⟩
  refine W1 ?_
  refine Ziq rfl ?_
  refine Zm3 (f := u8b) (a := 0#8) rfl rfl rfl qS qS qS ?_; intro b89
  refine Zg3 ⟨fun _ => Imp.arr qV, ?_⟩
  refine W2 ?_
 case' altB1 =>
  refine Ziq rfl ?_
  refine Zm3 (f := u8b) (a := 0#8) rfl rfl rfl qS qS qS ?_; intro b89
  refine Zg3 ⟨fun _ => Imp.arr qV, ?_⟩
  refine Ziq rfl ?_
  refine Zm3 (f := u8b) (a := 0#8) rfl rfl rfl qS qS qS ?_; intro b84
  refine Zg3 ⟨fun _ => Imp.arr qV, ?_⟩
  refine W3 ?_
 all_goals (refine Ct.o ?_)
 all_goals
  rw [e3]
  refine x_own (E := 5) (n := B.length) (a := ta) (cp := tc) qH (by omega) ?_
  intro g rest hg hc1 hc2 hr
  subst hg
  have hA : (SlotS.part B f1 s.size).length = s.size := SlotS.part_len (by omega)
  have hA2 : (SlotS.part B f2 s.size).length = s.size := SlotS.part_len (by omega)
  obtain ⟨hx, hy⟩ := hc.len _ _ hA hA2
  have hcf := hc.con b84 b89 _ _ hA hA2
  refine Y4 ?_
  refine Zor (c := hpd la2 lc2 g B.length tc bf bs f1 (by omega) hc1 (by omega)) (k := ?_)
  rintro _ _ ⟨rfl, rfl⟩
  refine Y1 ?_
  refine Zib rfl rfl ((rd_part qH (by omega))) qR qZ (by first|rfl|exact oneM_u8 _|exact oneL_u8 _|exact acc_one _|exact acc_ones _|assumption|(simp [oneC]; done)) (copy_all hA) ?_
  refine Y5 ?_
  refine Zor (c := hpd la2 lc2 g B.length tc bg bt f2 (by omega) hc1 (by omega)) (k := ?_)
  rintro _ _ ⟨rfl, rfl⟩
  refine Y1 ?_
  refine Zib rfl rfl ((rd_part qH (by omega))) qR qZ (by first|rfl|exact oneM_u8 _|exact oneL_u8 _|exact acc_one _|exact acc_ones _|assumption|(simp [oneC]; done)) (copy_all hA2) ?_
  refine Y5 ?_
  refine Zh8 rfl hc.callable hcf rfl qT ?_; rintro _ _ ⟨Z, hZ, rfl⟩; refine Zg2 qA ?_
  refine V1 ?_
  generalize hφ1 : (φ (SlotS.part B f1 s.size) (SlotS.part B f2 s.size)).1 = x1 at *
  generalize hφ2 : (φ (SlotS.part B f1 s.size) (SlotS.part B f2 s.size)).2 = x2 at *
  have hl1 : (SlotS.lay B f1 x1).length = B.length := SlotS.lay_len (by omega)
  have hl2 : (SlotS.lay (SlotS.lay B f1 x1) f2 x2).length = B.length := by rw [SlotS.lay_len (by omega), hl1]
  have hsv := save_x (p := pp) (ph := ph) (s := p1) (h := h1) (L := [cl g ((SlotS.lay (SlotS.lay B f1 x1) f2 x2).map u8b ++ rest).toArray 5]) hov1 (by omega) (pn : Int) (lay_bs (n := B.length) (c := tc) .here hl2 hc1 hc2)
  refine Y3 ?_
  refine Zor (c := hpd la2 lc2 g B.length tc bf bs f1 (by omega) hc1 (by omega)) (k := ?_)
  rintro _ _ ⟨rfl, rfl⟩
  refine Y2 ?_
  refine Zib rfl rfl ((Bs.rd (bs_full (l := x1) (n := s.size) qH hx (by omega)))) qR qZ (by first|rfl|exact oneM_u8 _|exact oneL_u8 _|exact acc_one _|exact acc_ones _|assumption|(simp [oneC]; done)) (copy_lay (B := B) (f := f1) (rest := rest) hx (by omega)) ?_
  refine Y4 ?_
  refine Zor (c := hpd la2 lc2 g B.length tc bg bt f2 (by omega) hc1 (by omega)) (k := ?_)
  rintro _ _ ⟨rfl, rfl⟩
  refine Y2 ?_
  refine Zib rfl rfl ((Bs.rd (bs_full (l := x2) (n := s.size) qH hy (by omega)))) qR qZ (by first|rfl|exact oneM_u8 _|exact oneL_u8 _|exact acc_one _|exact acc_ones _|assumption|(simp [oneC]; done)) (copy_lay (B := SlotS.lay B f1 x1) (f := f2) (rest := rest) hy (by omega)) ?_
  refine Y8 ?_
  refine Zor (c := hsv) (k := ?_)
  rintro _ _ ⟨rfl, rfl⟩
  refine V3 ?_
  have hfin : Imp (slL q pp s2 la2 lc2 ++ (pgA pp ph (PagerS.saveP p1 h1 (pn : Int) (SlotS.lay (SlotS.lay B f1 x1) f2 x2)).2.1 :: hostA ph (PagerS.saveP p1 h1 (pn : Int) (SlotS.lay (SlotS.lay B f1 x1) f2 x2)).2.2 :: blk b84 x1 :: blk b89 x2 :: Z)) (slA q pp s2 :: pgA pp ph (PagerS.saveP p1 h1 (pn : Int) (SlotS.lay (SlotS.lay B f1 x1) f2 x2)).2.1 :: hostA ph (PagerS.saveP p1 h1 (pn : Int) (SlotS.lay (SlotS.lay B f1 x1) f2 x2)).2.2 :: blk b84 x1 :: blk b89 x2 :: Z) := slA_mk
  simp only [List.cons_append, List.nil_append] at hfin
  by_cases hz : (PagerS.saveP p1 h1 (pn : Int) (SlotS.lay (SlotS.lay B f1 x1) f2 x2)).1 = 0
  ·refine Y3 ?_
   refine Zot 122 rfl ((fun hh => hh hz)) ?_
   refine Y3 ?_
   first|refine Y0 ?_|(refine Zhh rfl ?_; (refine Zhg (Zmj (a := pn) (b := pn) rfl rfl) ?_))
   refine Zos 126 rfl (rfl) ?_
   refine V7 ?_
   refine rx1 (Zg9 rfl (Zg7)) ?_
   refine ⟨_, ⟨_, _, _, rfl, rfl, rfl, by rw [hφ1, hφ2], b84, b89, Z, hZ, rfl⟩, ?_⟩
   rw [hφ1, hφ2]
   exact (Imp.arr qV).trans hfin
  ·refine Y3 ?_
   refine Zos 122 rfl (hz) ?_
   refine V11 ?_
   refine rx1 (Zg9 rfl (Zg7)) ?_
   refine ⟨_, ⟨_, _, _, rfl, rfl, rfl, by rw [hφ1, hφ2], b84, b89, Z, hZ, rfl⟩, ?_⟩
   rw [hφ1, hφ2]
   exact (Imp.arr qV).trans hfin
end
end Go.Sl
namespace Go.Sl
open Go Go.Proofs
attribute [local irreducible] pt old pur ex all den denOps denS xOps xC cX CX xthen xblk xcut xloop xng retX resX Calls PV Rd Con
attribute [local irreducible] hostA pgA PagerS.loadP PagerS.saveP
open SlotS (SL Acc Fit)
open PagerS (PS Over)
section
variable {q pp ph : Nat} {s : SL} {p : PS} {h : HostS.HS} {F : FuncId} {fi ca : Array Value} {X : List Asrt} {φ : List Byte → List Byte → List Byte × List Byte} {Y : List Byte → List Byte → Nat → Nat → List Asrt → Prop}
theorem pair_diff (f : Fit s p) (hk : PagerS.Ok p) (hov : Over p h) (hops : h.ops + 6 < 3518437208880) (hl : s.log.length ≤ 4000000000000) {i j : Nat} (hi : i < s.n) (hj : j < s.n) (hc : FCon F fi ca s.size X φ Y) (hpg : ¬ SlotS.pg s j = SlotS.pg s i) (he : (PagerS.loadP p h (SlotS.pg s i : Nat)).1.2 = 0) (he2 : (PagerS.loadP (PagerS.loadP p h (SlotS.pg s i : Nat)).2.1 (PagerS.loadP p h (SlotS.pg s i : Nat)).2.2 (SlotS.pg s j : Nat)).1.2 = 0) :
  Con Tryz.prog 32 [hp q, nvv i, nvv j, .func (.func F) fi ca] (slA q pp s :: pgA pp ph p :: hostA ph h :: X) (fun r M => ∃ A B E, A = SlotS.part (PagerS.loadP p h (SlotS.pg s i : Nat)).1.1 (SlotS.fr s i) s.size ∧ B = SlotS.part (PagerS.loadP (PagerS.loadP p h (SlotS.pg s i : Nat)).2.1 (PagerS.loadP p h (SlotS.pg s i : Nat)).2.2 (SlotS.pg s j : Nat)).1.1 (SlotS.fr s j) s.size ∧ E = SlotS.pairE s (PagerS.loadP (PagerS.loadP p h (SlotS.pg s i : Nat)).2.1 (PagerS.loadP p h (SlotS.pg s i : Nat)).2.2 (SlotS.pg s j : Nat)).2.1 (PagerS.loadP (PagerS.loadP p h (SlotS.pg s i : Nat)).2.1 (PagerS.loadP p h (SlotS.pg s i : Nat)).2.2 (SlotS.pg s j : Nat)).2.2 i j (PagerS.loadP p h (SlotS.pg s i : Nat)).1.1 (PagerS.loadP (PagerS.loadP p h (SlotS.pg s i : Nat)).2.1 (PagerS.loadP p h (SlotS.pg s i : Nat)).2.2 (SlotS.pg s j : Nat)).1.1 (φ A B).1 (φ A B).2 ∧ r = nvv E.1 ∧ ∃ a b Z, Y A B a b Z ∧ M = slA q pp (SlotS.touch s 2 i j) :: pgA pp ph E.2.1 :: hostA ph E.2.2 :: blk a (φ A B).1 :: blk b (φ A B).2 :: Z) := by
 have hij : i ≠ j := fun hh => hpg (by rw [hh])
 refine Con.slA fun la lc => ?_
 simp only [List.cons_append, List.nil_append]
 have ht1 := hk.t1
 have hp1 := hk.p1
 have hpage := f.page hi
 have hfi := f.from i
 have hfj := f.from j
 have hsz1 := f.size
 have hiz := f.small hi hp1 ht1
 have hjz := f.small hj hp1 ht1
 have hll := fun hk1 => SlotS.load_text (p := p) (h := h) (n := ((SlotS.pg s i : Nat) : Int)) he hk1
 have hld := load_x (p := pp) (ph := ph) hov (by omega) ((SlotS.pg s i : Nat) : Int)
 have hov1 := (PagerS.near_load p h ((SlotS.pg s i : Nat) : Int)).over hov
 have hop1 := (PagerS.near_load p h ((SlotS.pg s i : Nat) : Int)).ops
 have htx1 := (PagerS.near_load p h ((SlotS.pg s i : Nat) : Int)).text
 have hpageJ := f.page hj
 have hE : ∀ (p1 : PS) (h1 : HostS.HS) (tI tJ x y : List Byte), SlotS.pairE s p1 h1 i j tI tJ x y = if (PagerS.saveP p1 h1 ((SlotS.pg s i : Nat) : Int) (SlotS.lay tI (SlotS.fr s i) x)).1 = 0 then PagerS.saveP (PagerS.saveP p1 h1 ((SlotS.pg s i : Nat) : Int) (SlotS.lay tI (SlotS.fr s i) x)).2.1 (PagerS.saveP p1 h1 ((SlotS.pg s i : Nat) : Int) (SlotS.lay tI (SlotS.fr s i) x)).2.2 ((SlotS.pg s j : Nat) : Int) (SlotS.lay tJ (SlotS.fr s j) y) else PagerS.saveP p1 h1 ((SlotS.pg s i : Nat) : Int) (SlotS.lay tI (SlotS.fr s i) x) := fun p1 h1 tI tJ x y => by unfold SlotS.pairE; rw [if_neg hpg]
 simp only [hE]
 have htc := fun a c => stouch_x (q := q) (pp := pp) (s := s) (a := a) (c := c) 2 i j hl
 have hpl1 := fun a c => splace_x (q := q) (pp := pp) (s := SlotS.touch s 2 i j) (a := a) (c := c) i (f.touch 2 i j).per1 hiz (by show SlotS.fr s i ≤ 4096; omega) (by show SlotS.pg s i ≤ 65536; omega)
 have hpl2 := fun a c => splace_x (q := q) (pp := pp) (s := SlotS.touch s 2 i j) (a := a) (c := c) j (f.touch 2 i j).per1 hjz (by show SlotS.fr s j ≤ 4096; omega) (by show SlotS.pg s j ≤ 65536; omega)
 have hpd := fun a c g n cp bf bs fn h1 h2 h3 => splaced_x (q := q) (pp := pp) (s := SlotS.touch s 2 i j) (a := a) (c := c) (g := g) (n := n) (cp := cp) (bf := bf) (bs := bs) (f := fn) f.size h1 h2 h3
 have e1 : SlotS.pg (SlotS.touch s 2 i j) i = SlotS.pg s i := rfl
 have e2 : SlotS.fr (SlotS.touch s 2 i j) i = SlotS.fr s i := rfl
 have e1' : SlotS.pg (SlotS.touch s 2 i j) j = SlotS.pg s j := rfl
 have e2' : SlotS.fr (SlotS.touch s 2 i j) j = SlotS.fr s j := rfl
 have e3 : (SlotS.touch s 2 i j).size = s.size := rfl
 rw [e1, e2] at hpl1
 rw [e1', e2'] at hpl2
 rw [e3] at hpd
 have hh1 : SlotS.has s (i : Int) := SlotS.has_nat hi
 have hh2 : SlotS.has s (j : Int) := SlotS.has_nat hj
 have hijz : ¬ ((i : Int) = (j : Int)) := by omega
 clear e1 e1' e2 e2' hiz hjz
 generalize hs2 : SlotS.touch s 2 i j = s2 at *
 generalize (PagerS.loadP p h (SlotS.pg s i : Nat)).2.1 = p1 at *
 generalize (PagerS.loadP p h (SlotS.pg s i : Nat)).2.2 = h1 at *
 generalize (PagerS.loadP p h (SlotS.pg s i : Nat)).1.2 = er at *
 generalize (PagerS.loadP p h (SlotS.pg s i : Nat)).1.1 = B at *
 have hll2 := fun he hk2 => SlotS.load_text (p := p1) (h := h1) (n := ((SlotS.pg s j : Nat) : Int)) he hk2
 have hld2 := load_x (p := pp) (ph := ph) hov1 (by omega) ((SlotS.pg s j : Nat) : Int)
 have hov2 := (PagerS.near_load p1 h1 ((SlotS.pg s j : Nat) : Int)).over hov1
 have hop2 := (PagerS.near_load p1 h1 ((SlotS.pg s j : Nat) : Int)).ops
 generalize (PagerS.loadP p1 h1 (SlotS.pg s j : Nat)).2.1 = p2 at *
 generalize (PagerS.loadP p1 h1 (SlotS.pg s j : Nat)).2.2 = h2 at *
 generalize (PagerS.loadP p1 h1 (SlotS.pg s j : Nat)).1.2 = er2 at *
 generalize (PagerS.loadP p1 h1 (SlotS.pg s j : Nat)).1.1 = B2 at *
 generalize SlotS.pg s i = pn at *
 generalize SlotS.pg s j = pm at *
 generalize SlotS.fr s i = f1 at *
 generalize SlotS.fr s j = f2 at *
 subst he he2
 refine fn_y Tryz.func32 Tryz.mixed ?_
 intro w0
 refine Y6 ?_
 refine Zhn 20 rfl (rfl) ?_
 refine Y5 ?_
 refine Zor (c := shas_x (q := q) (pp := pp) (s := s) (a := la) (c := lc) i) (k := ?_)
 rintro _ _ ⟨rfl, rfl⟩
 refine Y1 ?_
 refine Zos 23 rfl (hh1) ?_
 refine Zhg (Zb0 rfl) ?_
 refine Zhn 24 rfl (rfl) ?_
 refine Y3 ?_
 first|refine Y0 ?_|(refine Zhh rfl ?_; (refine Zor (c := shas_x (q := q) (pp := pp) (s := s) (a := la) (c := lc) j) (k := ?_)); (rintro _ _ ⟨rfl, rfl⟩); (refine Zg2 qA ?_))
 refine Zos 28 rfl (hh2) ?_
 first|refine Y0 ?_|(refine Zhh rfl ?_; (refine Zhg (Zb0 rfl) ?_))
 refine Zhn 29 rfl (rfl) ?_
 refine Y4 ?_
 first|refine Y0 ?_|(refine Zhh rfl ?_; (refine Zhg (Zbr (a := (i : Int)) (b := (j : Int)) rfl rfl) ?_))
 refine Zot 34 rfl (hijz) ?_
 refine Y7 ?_
 refine Zor (c := htc la lc) (k := ?_)
 rintro _ _ ⟨la2, lc2, rfl⟩
 refine Y5 ?_
 refine Zor (c := hpl1 la2 lc2) (k := ?_)
 rintro _ _ ⟨bf, bs, rfl, rfl⟩
 refine Y10 ?_
 refine Zor (c := hpl2 la2 lc2) (k := ?_)
 rintro _ _ ⟨bg, bt, rfl, rfl⟩
 refine Y13 ?_
 refine Zor (c := hld) (k := ?_)
 rintro _ _ ⟨ta, tc, rfl, rfl⟩
 refine V7 ?_
 refine Zgt (fun F w H => pgs_ok (pp := pp) (ph := ph) (p := p1) qH H) ?_
 intro hk1
 have hB := hll hk1
 refine Y3 ?_
 refine Zot 62 rfl ((fun hh => hh rfl)) ?_
 refine Y9 ?_
 refine Zhg (Zmk (a := pm) (b := pn) rfl rfl) ?_
 refine Zos 67 rfl (hpg) ?_
 refine Y8 ?_
 refine Zor (c := hld2) (k := ?_)
 rintro _ _ ⟨ua, uc, rfl, rfl⟩
 refine V7 ?_
 refine Zgt (fun F w H => pgs_ok (pp := pp) (ph := ph) (p := p2) qH H) ?_
 intro hk2
 have hB2 := hll2 rfl hk2
 refine Y3 ?_
 refine Zot 78 rfl ((fun hh => hh rfl)) ?_
 refine V2 ?_
 refine Zij ([cl q (slc pp s2 la2 lc2) 137]) [4, 8, 9, 10] (.q 0 (.q 1 (.q 2 (.q 5 (.q 6 (.q 7 (.r 3 (.r 8 (.alt (.e 4 true (.r 10 (.e 9 true (.q 11 .nil)))) (.e 9 true (.e 4 true (.r 10 (.q 11 .nil))))))))))))) (by kernel_rfl) (by kernel_rfl) (Imp.arr qV) ?_
 refine W8 ?_
 refine Zis ?altA1 ?altB1
 case' altA1 =>
  refine Ziq rfl ?_
  refine Zm3 (f := u8b) (a := 0#8) rfl rfl rfl qS qS qS ?_; intro b84
  refine Zg3 ⟨fun _ => Imp.arr qV, ?_⟩
  refine W1 ?_
  refine Ziq rfl ?_
  refine Zm3 (f := u8b) (a := 0#8) rfl rfl rfl qS qS qS ?_; intro b89
  refine Zg3 ⟨fun _ => Imp.arr qV, ?_⟩
  refine W2 ?_
 case' altB1 =>
  refine Ziq rfl ?_
  refine Zm3 (f := u8b) (a := 0#8) rfl rfl rfl qS qS qS ?_; intro b89
  refine Zg3 ⟨fun _ => Imp.arr qV, ?_⟩
  refine Ziq rfl ?_
  refine Zm3 (f := u8b) (a := 0#8) rfl rfl rfl qS qS qS ?_; intro b84
  refine Zg3 ⟨fun _ => Imp.arr qV, ?_⟩
  refine W3 ?_
 all_goals (refine Ct.o ?_)
 all_goals
  rw [e3]
  refine x_own (E := 5) (n := B.length) (a := ta) (cp := tc) qH (by omega) ?_
  intro g rest hg hc1 hc2 hr
  subst hg
  refine x_own (E := 5) (n := B2.length) (a := ua) (cp := uc) qH (by omega) ?_
  intro g2 rest2 hg2 hd1 hd2 hr2
  subst hg2
  have hA : (SlotS.part B f1 s.size).length = s.size := SlotS.part_len (by omega)
  have hA2 : (SlotS.part B2 f2 s.size).length = s.size := SlotS.part_len (by omega)
  obtain ⟨hx, hy⟩ := hc.len _ _ hA hA2
  have hcf := hc.con b84 b89 _ _ hA hA2
  refine Y4 ?_
  refine Zor (c := hpd la2 lc2 g B.length tc bf bs f1 (by omega) hc1 (by omega)) (k := ?_)
  rintro _ _ ⟨rfl, rfl⟩
  refine Y1 ?_
  refine Zib rfl rfl ((rd_part qH (by omega))) qR qZ (by first|rfl|exact oneM_u8 _|exact oneL_u8 _|exact acc_one _|exact acc_ones _|assumption|(simp [oneC]; done)) (copy_all hA) ?_
  refine Y5 ?_
  refine Zor (c := hpd la2 lc2 g2 B2.length uc bg bt f2 (by omega) hd1 (by omega)) (k := ?_)
  rintro _ _ ⟨rfl, rfl⟩
  refine Y1 ?_
  refine Zib rfl rfl ((rd_part qH (by omega))) qR qZ (by first|rfl|exact oneM_u8 _|exact oneL_u8 _|exact acc_one _|exact acc_ones _|assumption|(simp [oneC]; done)) (copy_all hA2) ?_
  refine Y5 ?_
  refine Zh8 rfl hc.callable hcf rfl qT ?_; rintro _ _ ⟨Z, hZ, rfl⟩; refine Zg2 qA ?_
  refine V1 ?_
  generalize hφ1 : (φ (SlotS.part B f1 s.size) (SlotS.part B2 f2 s.size)).1 = x1 at *
  generalize hφ2 : (φ (SlotS.part B f1 s.size) (SlotS.part B2 f2 s.size)).2 = x2 at *
  have hl1 : (SlotS.lay B f1 x1).length = B.length := SlotS.lay_len (by omega)
  have hl2 : (SlotS.lay B2 f2 x2).length = B2.length := SlotS.lay_len (by omega)
  have hsv := save_x (p := pp) (ph := ph) (s := p2) (h := h2) (L := [cl g ((SlotS.lay B f1 x1).map u8b ++ rest).toArray 5]) hov2 (by omega) (pn : Int) (lay_bs (n := B.length) (c := tc) .here hl1 hc1 hc2)
  have hov3 := (PagerS.near_save p2 h2 (pn : Int) (SlotS.lay B f1 x1)).over hov2
  have hop3 := (PagerS.near_save p2 h2 (pn : Int) (SlotS.lay B f1 x1)).ops
  refine Y3 ?_
  refine Zor (c := hpd la2 lc2 g B.length tc bf bs f1 (by omega) hc1 (by omega)) (k := ?_)
  rintro _ _ ⟨rfl, rfl⟩
  refine Y2 ?_
  refine Zib rfl rfl ((Bs.rd (bs_full (l := x1) (n := s.size) qH hx (by omega)))) qR qZ (by first|rfl|exact oneM_u8 _|exact oneL_u8 _|exact acc_one _|exact acc_ones _|assumption|(simp [oneC]; done)) (copy_lay (B := B) (f := f1) (rest := rest) hx (by omega)) ?_
  refine Y4 ?_
  refine Zor (c := hpd la2 lc2 g2 B2.length uc bg bt f2 (by omega) hd1 (by omega)) (k := ?_)
  rintro _ _ ⟨rfl, rfl⟩
  refine Y2 ?_
  refine Zib rfl rfl ((Bs.rd (bs_full (l := x2) (n := s.size) qH hy (by omega)))) qR qZ (by first|rfl|exact oneM_u8 _|exact oneL_u8 _|exact acc_one _|exact acc_ones _|assumption|(simp [oneC]; done)) (copy_lay (B := B2) (f := f2) (rest := rest2) hy (by omega)) ?_
  refine Y8 ?_
  refine Zor (c := hsv) (k := ?_)
  rintro _ _ ⟨rfl, rfl⟩
  refine V3 ?_
  have hfin : ∀ (p : PS) (h : HostS.HS), Imp (slL q pp s2 la2 lc2 ++ (pgA pp ph p :: hostA ph h :: blk b84 x1 :: blk b89 x2 :: Z)) (slA q pp s2 :: pgA pp ph p :: hostA ph h :: blk b84 x1 :: blk b89 x2 :: Z) := fun p h => slA_mk
  simp only [List.cons_append, List.nil_append] at hfin
  generalize hq1 : (PagerS.saveP p2 h2 (pn : Int) (SlotS.lay B f1 x1)).2.1 = p3 at *
  generalize hq2 : (PagerS.saveP p2 h2 (pn : Int) (SlotS.lay B f1 x1)).2.2 = h3 at *
  generalize hq3 : (PagerS.saveP p2 h2 (pn : Int) (SlotS.lay B f1 x1)).1 = e9 at *
  have hq : PagerS.saveP p2 h2 (pn : Int) (SlotS.lay B f1 x1) = (e9, p3, h3) := by rw [← hq1, ← hq2, ← hq3]
  by_cases hz : e9 = 0
  ·have hsv2 := save_x (p := pp) (ph := ph) (s := p3) (h := h3) (L := [cl g2 ((SlotS.lay B2 f2 x2).map u8b ++ rest2).toArray 5]) hov3 (by omega) (pm : Int) (lay_bs (n := B2.length) (c := uc) .here hl2 hd1 hd2)
   refine Y3 ?_
   refine Zot 122 rfl ((fun hh => hh hz)) ?_
   refine Y3 ?_
   first|refine Y0 ?_|(refine Zhh rfl ?_; (refine Zhg (Zmj (a := pm) (b := pn) rfl rfl) ?_))
   refine Zot 126 rfl (hpg) ?_
   refine Y10 ?_
   refine Zor (c := hsv2) (k := ?_)
   rintro _ _ ⟨rfl, rfl⟩
   refine V3 ?_
   refine rx1 (Zg9 rfl (Zg7)) ?_
   refine ⟨_, ⟨_, _, _, rfl, rfl, rfl, by rw [hφ1, hφ2, hq]; dsimp only; rw [if_pos hz], b84, b89, Z, hZ, rfl⟩, ?_⟩
   rw [hφ1, hφ2, hq]
   dsimp only
   rw [if_pos hz]
   exact (Imp.arr qV).trans (hfin _ _)
  ·refine Y3 ?_
   refine Zos 122 rfl (hz) ?_
   refine V11 ?_
   refine rx1 (Zg9 rfl (Zg7)) ?_
   refine ⟨_, ⟨_, _, _, rfl, rfl, rfl, by rw [hφ1, hφ2, hq]; dsimp only; rw [if_neg hz], b84, b89, Z, hZ, rfl⟩, ?_⟩
   rw [hφ1, hφ2, hq]
   dsimp only
   rw [if_neg hz]
   exact (Imp.arr qV).trans (hfin _ _)
end
end Go.Sl
namespace Go.Sl
open Go Go.Proofs
attribute [local irreducible] pt old pur ex all den denOps denS xOps xC cX CX xthen xblk xcut xloop xng retX resX Calls PV Rd Con
attribute [local irreducible] hostA pgA PagerS.loadP PagerS.saveP
open SlotS (SL Acc Fit)
open PagerS (PS Over)
section
variable {q pp ph : Nat} {s : SL} {p : PS} {h : HostS.HS} {F : FuncId} {fi ca : Array Value} {X : List Asrt} {φ : List Byte → List Byte → List Byte × List Byte} {Y : List Byte → List Byte → Nat → Nat → List Asrt → Prop}
theorem pair_ok (f : Fit s p) (hk : PagerS.Ok p) (hov : Over p h) (hops : h.ops + 6 < 3518437208880) (hl : s.log.length ≤ 4000000000000) {i j : Nat} (hi : i < s.n) (hj : j < s.n) (hij : i ≠ j) (hc : FCon F fi ca s.size X φ Y) (he : (SlotS.pairL s p h i j).1.1 = 0) :
  Con Tryz.prog 32 [hp q, nvv i, nvv j, .func (.func F) fi ca] (slA q pp s :: pgA pp ph p :: hostA ph h :: X) (fun r M => ∃ A B E, A = SlotS.part (SlotS.pairL s p h i j).1.2.1 (SlotS.fr s i) s.size ∧ B = SlotS.part (SlotS.pairL s p h i j).1.2.2 (SlotS.fr s j) s.size ∧ E = SlotS.pairE s (SlotS.pairL s p h i j).2.1 (SlotS.pairL s p h i j).2.2 i j (SlotS.pairL s p h i j).1.2.1 (SlotS.pairL s p h i j).1.2.2 (φ A B).1 (φ A B).2 ∧ r = nvv E.1 ∧ ∃ a b Z, Y A B a b Z ∧ M = slA q pp (SlotS.touch s 2 i j) :: pgA pp ph E.2.1 :: hostA ph E.2.2 :: blk a (φ A B).1 :: blk b (φ A B).2 :: Z) := by
 have h1 : (PagerS.loadP p h (SlotS.pg s i : Nat)).1.2 = 0 := by
  unfold SlotS.pairL at he
  dsimp only at he
  split at he
  ·assumption
  ·rename_i hn; exact absurd he hn
 by_cases hpg : SlotS.pg s j = SlotS.pg s i
 ·have e : SlotS.pairL s p h i j = ((0, (PagerS.loadP p h (SlotS.pg s i : Nat)).1.1, (PagerS.loadP p h (SlotS.pg s i : Nat)).1.1), (PagerS.loadP p h (SlotS.pg s i : Nat)).2) := by
   unfold SlotS.pairL
   dsimp only
   rw [if_pos h1, if_pos hpg]
  have hE : ∀ (p1 : PS) (h1 : HostS.HS) (tI tJ x y : List Byte), SlotS.pairE s p1 h1 i j tI tJ x y = PagerS.saveP p1 h1 ((SlotS.pg s i : Nat) : Int) (SlotS.lay (SlotS.lay tI (SlotS.fr s i) x) (SlotS.fr s j) y) := fun p1 h1 tI tJ x y => by unfold SlotS.pairE; rw [if_pos hpg]
  refine (pair_same f hk hov hops hl hi hj hij hc hpg h1).mono ?_
  rintro r M ⟨A, B, E, hA, hB, hEE, hr, a, b, Z, hY, hM⟩
  rw [e]
  refine ⟨M, Imp.refl _, A, B, E, hA, hB, ?_, hr, a, b, Z, hY, hM⟩
  rw [hE]; exact hEE
 ·have h2 : (PagerS.loadP (PagerS.loadP p h (SlotS.pg s i : Nat)).2.1 (PagerS.loadP p h (SlotS.pg s i : Nat)).2.2 (SlotS.pg s j : Nat)).1.2 = 0 := by
   unfold SlotS.pairL at he
   dsimp only at he
   rw [if_pos h1, if_neg hpg] at he
   split at he
   ·assumption
   ·rename_i hn; exact absurd he hn
  have e : SlotS.pairL s p h i j = ((0, (PagerS.loadP p h (SlotS.pg s i : Nat)).1.1, (PagerS.loadP (PagerS.loadP p h (SlotS.pg s i : Nat)).2.1 (PagerS.loadP p h (SlotS.pg s i : Nat)).2.2 (SlotS.pg s j : Nat)).1.1), (PagerS.loadP (PagerS.loadP p h (SlotS.pg s i : Nat)).2.1 (PagerS.loadP p h (SlotS.pg s i : Nat)).2.2 (SlotS.pg s j : Nat)).2) := by
   unfold SlotS.pairL
   dsimp only
   rw [if_pos h1, if_neg hpg, if_pos h2]
  refine (pair_diff f hk hov hops hl hi hj hc hpg h1 h2).mono ?_
  rintro r M ⟨A, B, E, hA, hB, hEE, hr, a, b, Z, hY, hM⟩
  rw [e]
  exact ⟨M, Imp.refl _, A, B, E, hA, hB, hEE, hr, a, b, Z, hY, hM⟩
end
def xorTo (l by_ : List Byte) (m : Nat) : List Byte := (List.range l.length).map fun k => if k < m then l.getD k 0#8 ^^^ by_.getD k 0#8 else l.getD k 0#8
theorem xorTo_len (l by_ : List Byte) (m : Nat) : (xorTo l by_ m).length = l.length := by simp [xorTo]
theorem xorTo_zero (l by_ : List Byte) : xorTo l by_ 0 = l := by
 apply List.ext_getElem (by simp [xorTo])
 intro j h1 h2
 simp [xorTo, h2]
theorem xorTo_get {l by_ : List Byte} {m k : Nat} (hk : k < l.length) (hm : m ≤ k) : (xorTo l by_ m)[k]'(by rw [xorTo_len]; exact hk) = l[k] := by
 simp only [xorTo, List.getElem_map, List.getElem_range]
 rw [if_neg (by omega), List.getD_eq_getElem?_getD, List.getElem?_eq_getElem hk]; rfl
theorem xorTo_set {l by_ : List Byte} {m : Nat} (h : m < l.length) (hb : m < by_.length) : (xorTo l by_ m).set m (l[m] ^^^ by_[m]) = xorTo l by_ (m + 1) := by
 apply List.ext_getElem (by simp [xorTo])
 intro j h1 h2
 rw [List.getElem_set]
 simp only [xorTo, List.getElem_map, List.getElem_range]
 by_cases e : m = j
 ·subst e
  rw [if_pos rfl, if_pos (by omega), List.getD_eq_getElem?_getD, List.getD_eq_getElem?_getD, List.getElem?_eq_getElem h, List.getElem?_eq_getElem hb]; rfl
 ·rw [if_neg e]
  by_cases e2 : j < m
  ·rw [if_pos e2, if_pos (by omega)]
  ·rw [if_neg e2, if_neg (by omega)]
def xorH (l by_ : List Byte) : List Byte := xorTo l by_ (min by_.length l.length)
theorem xorH_len (l by_ : List Byte) : (xorH l by_).length = l.length := xorTo_len _ _ _
theorem turned_x {L : List Asrt} {va vb vy : Value} {a b by_ : List Byte} (ha : Bs L va a) (hb : Bs L vb b) (hy : Bs L vy by_) (hal : a.length ≤ 4096) (hbl : b.length ≤ 4096) :
  Con Tryz.prog 34 [va, vb, vy] L (fun r M => ∃ xa xc ya yc, r = .tuple #[.slice xa (xorH b by_).length xc, .slice ya a.length yc] ∧ M = ownB xa xc (xorH b by_) :: ownB ya yc a :: L) := by
 refine Con.get (fun w0 w F H => hy.sh _ _ _ H) ?_
 rintro ⟨za, zc, rfl, hzc, hzcm⟩
 refine fn_y Tryz.func34 Tryz.mixed ?_
 intro w0
 refine Y6 ?_
 refine Zor (c := copyBytes_x (L := L) hb (by omega)) (k := ?_)
 rintro _ _ ⟨xa, xc, rfl, rfl⟩
 refine Y5 ?_
 refine Zor (c := copyBytes_x (L := L) ha (by omega)) (k := ?_)
 rintro _ _ ⟨ya, yc, rfl, rfl⟩
 refine V6 ?_
 refine Zgo [(10, 10), (15, 38)] (by kernel_rfl) (fun i : Nat => i ≤ min by_.length b.length) (fun i => own 5 1 (.slice xa b.length xc) b.length ((xorTo b by_ i).map u8b) :: ownB ya yc a :: L) (fun i => [(10, nvv i)]) (fun i => b.length - i) 0 (Nat.zero_le _) (by rw [xorTo_zero]; exact qI) ⟨rfl, trivial⟩ ?_
 intro i u hi
 have hxl := xorTo_len b by_ i
 by_cases h1 : i < by_.length
 ·by_cases h2 : i < b.length
  ·refine Zgt (fun F w H => (hy.imp (Imp.arr (M := _) qV)).some (by omega) H) ?_
   rintro ⟨b1, o1, rfl⟩
   refine Zgt (fun F w H => own_some (a := xa) qH (by omega) H) ?_
   rintro ⟨g, rfl⟩
   have hg0 : ((xorTo b by_ i).map u8b)[i]? = some (u8b b[i]) := by rw [getM (by omega), xorTo_get h2 (Nat.le_refl _)]
   refine Y5 ?_
   refine Zos 18 rfl (h1) ?_
   refine Y5 ?_
   refine Zos 23 rfl (h2) ?_
   refine V3 ?_
   refine Zij ((own 5 1 (.slice (some ⟨g, 0, none⟩) b.length xc) b.length ((xorTo b by_ i).map u8b) :: ownB ya yc a :: L)) [9] (.q 0 (.q 1 (.q 2 (.q 3 (.q 4 (.q 6 (.q 7 (.q 8 (.r 5 (.r 9 (.q 10 (.q 11 (.e 12 false .nil))))))))))))) (by kernel_rfl) (by kernel_rfl) (Imp.arr qV) ?_
   refine W8 ?_
   refine Zfh rfl rfl (((Rd.own (n := b.length) qH).at0 h2 hg0)) ?_
   refine Zfh rfl rfl (((hy.imp qI).rd.at h1 (getM h1))) ?_
   refine W2 ?_
   refine Ziq rfl ?_; refine Zm7 (u := u8b (b[i] ^^^ by_[i])) (i := i) (xs := (xorTo b by_ i).map u8b) (ys := (xorTo b by_ (i + 1)).map u8b) rfl rfl rfl qR h2 (by rw [← List.map_set, xorTo_set h2 h1]) ?_; refine Zg3 ⟨(fun hh => Bool.noConfusion hh), ?_⟩
   refine Zik ?_
   refine V5 ?_
   exact Zgl (i + 1) qO (by omega) qI ⟨rfl, trivial⟩
  ·have hie : i = min by_.length b.length := by omega
   refine Y5 ?_
   refine Zos 18 rfl (h1) ?_
   refine Y5 ?_
   refine Zot 23 rfl (h2) ?_
   refine V9 ?_
   refine rx2 (Zhc rfl (Zhc rfl (Zg7))) ?_
   refine ⟨_, ⟨xa, xc, ya, yc, by rw [xorH_len], rfl⟩, ?_⟩
   unfold xorH ownB
   rw [xorTo_len, ← hie]
   exact qI
 ·have hie : i = min by_.length b.length := by omega
  refine Y5 ?_
  refine Zot 18 rfl (h1) ?_
  refine V14 ?_
  refine rx2 (Zhc rfl (Zhc rfl (Zg7))) ?_
  refine ⟨_, ⟨xa, xc, ya, yc, by rw [xorH_len], rfl⟩, ?_⟩
  unfold xorH ownB
  rw [xorTo_len, ← hie]
  exact qI
end Go.Sl
namespace Go.Sl
open Go Go.Proofs
attribute [local irreducible] pt old pur ex all den denOps denS xOps xC cX CX xthen xblk xcut xloop xng retX resX Calls PV Rd Con
attribute [local irreducible] hostA pgA
open SlotS (SL Acc Fit)
open PagerS (PS Over)
theorem take_le {n per : Nat} (h1 : 1 ≤ per) (hn : n ≤ 9223372036854775807) (h0 : n % per ≠ 0) : n / per + 1 ≤ 9223372036854775807 := by
 have h2 : 2 ≤ per := by
  by_cases e : per = 1
  ·subst e; omega
  ·omega
 have : n / per ≤ n / 2 := Nat.div_le_div_left h2 (by omega)
 omega
theorem spages_x (n per : Nat) (h1 : 1 ≤ per) (hn : n ≤ 9223372036854775807) : Con Tryz.prog 72 [nvv n, nvv per] [] (fun r M => r = nvv (SlotS.takeN n per) ∧ M = []) := by
 unfold SlotS.takeN
 by_cases h0 : n % per = 0
 ·rw [if_pos h0, Nat.add_zero]
  refine fn_y Tryz.func72 Tryz.mixed ?_
  intro w0
  refine Y14 ?_
  refine Zot 12 rfl ((fun hh => hh h0)) ?_
  refine V6 ?_
  refine rx1 (Zg9 rfl (Zg7)) ?_
  exact ⟨_, ⟨rfl, rfl⟩, qI⟩
 ·rw [if_neg h0]
  have := take_le h1 hn h0
  refine fn_y Tryz.func72 Tryz.mixed ?_
  intro w0
  refine Y14 ?_
  refine Zos 12 rfl (h0) ?_
  refine V11 ?_
  refine rx1 (Zg9 rfl (Zg7)) ?_
  exact ⟨_, ⟨rfl, rfl⟩, qI⟩
section
variable {pp ph : Nat} {p : PS}
theorem slnew_x (hk : PagerS.Ok p) (first n size : Int) (hf : first ≤ 9223372036854775807) (hn : n ≤ 9223372036854775807) (hz : size ≤ 9223372036854775807) : Con Tryz.prog 17 [hp pp, .int .i64 first, .int .i64 n, .int .i64 size] [pgA pp ph p] (fun r M => (SlotS.newS first n size p = 0 ∧ ∃ q, r = .tuple #[hp q, nvv 0] ∧ M = [slA q pp (SlotS.freshS first n size p), pgA pp ph p]) ∨ (SlotS.newS first n size p ≠ 0 ∧ r = .tuple #[.pointer none, nvv (SlotS.newS first n size p)] ∧ M = [pgA pp ph p])) := by
 have ht1 := hk.t1
 have hp0 := hk.p0
 have hp1 := hk.p1
 unfold SlotS.newS
 by_cases h1 : first < 0
 ·rw [if_pos (.inl h1)]
  refine fn_y Tryz.func17 Tryz.mixed ?_
  intro w0
  refine Y7 ?_
  refine Zhn 12 rfl (rfl) ?_
  refine Y4 ?_
  refine Zhg (Zbn (b := 0) rfl rfl) ?_
  refine Zos 14 rfl (h1) ?_
  refine V14 ?_
  refine rx2 (Zhb rfl (Zg9 rfl (Zg7))) ?_
  exact ⟨_, .inr ⟨by omega, rfl, rfl⟩, qI⟩
 by_cases h2 : n < 0
 ·rw [if_pos (.inr (.inl h2))]
  refine fn_y Tryz.func17 Tryz.mixed ?_
  intro w0
  refine Y7 ?_
  refine Zhn 12 rfl (rfl) ?_
  refine Y4 ?_
  refine Zhg (Zbn (b := 0) rfl rfl) ?_
  refine Zot 14 rfl (h1) ?_
  refine Y2 ?_
  first|refine Y0 ?_|(refine Zhh rfl ?_; (refine Zhg (Zbn (b := 0) rfl rfl) ?_))
  refine Zos 17 rfl (h2) ?_
  refine V11 ?_
  refine rx2 (Zhb rfl (Zg9 rfl (Zg7))) ?_
  exact ⟨_, .inr ⟨by omega, rfl, rfl⟩, qI⟩
 by_cases h3 : size < 1
 ·rw [if_pos (.inr (.inr h3))]
  refine fn_y Tryz.func17 Tryz.mixed ?_
  intro w0
  refine Y7 ?_
  refine Zhn 12 rfl (rfl) ?_
  refine Y4 ?_
  refine Zhg (Zbn (b := 0) rfl rfl) ?_
  refine Zot 14 rfl (h1) ?_
  refine Y2 ?_
  first|refine Y0 ?_|(refine Zhh rfl ?_; (refine Zhg (Zbn (b := 0) rfl rfl) ?_))
  refine Zot 17 rfl (h2) ?_
  refine Y3 ?_
  first|refine Y0 ?_|(refine Zhh rfl ?_; (refine Zhg (Zbn (b := 1) rfl rfl) ?_))
  refine Zos 21 rfl (h3) ?_
  refine V7 ?_
  refine rx2 (Zhb rfl (Zg9 rfl (Zg7))) ?_
  exact ⟨_, .inr ⟨by omega, rfl, rfl⟩, qI⟩
 rw [if_neg (show ¬ (first < 0 ∨ n < 0 ∨ size < 1) by omega)]
 by_cases h4 : (p.text : Int) < size
 ·rw [if_pos h4]
  refine fn_y Tryz.func17 Tryz.mixed ?_
  intro w0
  refine Y7 ?_
  refine Zhn 12 rfl (rfl) ?_
  refine Y4 ?_
  refine Zhg (Zbn (b := 0) rfl rfl) ?_
  refine Zot 14 rfl (h1) ?_
  refine Y2 ?_
  first|refine Y0 ?_|(refine Zhh rfl ?_; (refine Zhg (Zbn (b := 0) rfl rfl) ?_))
  refine Zot 17 rfl (h2) ?_
  refine Y3 ?_
  first|refine Y0 ?_|(refine Zhh rfl ?_; (refine Zhg (Zbn (b := 1) rfl rfl) ?_))
  refine Zot 21 rfl (h3) ?_
  refine Y6 ?_
  refine Zor (c := text_p (p := pp) (ph := ph)) (k := ?_)
  rintro _ _ ⟨rfl, rfl⟩
  refine Y1 ?_
  refine Zhg (Zbp (a := size) (b := (p.text : Int)) rfl rfl) ?_
  refine Zos 26 rfl (h4) ?_
  refine V6 ?_
  refine rx2 (Zhb rfl (Zg9 rfl (Zg7))) ?_
  exact ⟨_, .inr ⟨by omega, rfl, rfl⟩, qI⟩
 rw [if_neg h4]
 obtain ⟨f, rfl⟩ : ∃ k : Nat, first = k := ⟨first.toNat, by omega⟩
 obtain ⟨n, rfl⟩ : ∃ k : Nat, n = k := ⟨n.toNat, by omega⟩
 obtain ⟨z, rfl⟩ : ∃ k : Nat, size = k := ⟨size.toNat, by omega⟩
 simp only [Int.toNat_natCast]
 have ef : SlotS.freshS (f : Int) (n : Int) (z : Int) p = ⟨f, n, z, p.text / z, []⟩ := rfl
 rw [ef]
 have hd : 1 ≤ p.text / z := Nat.div_pos (by omega) (by omega)
 have hd2 : p.text / z ≤ 4096 := Nat.le_trans (Nat.div_le_self _ _) ht1
 have hpx := spages_x n (p.text / z) hd (by omega)
 by_cases h5 : p.pages < (f : Int)
 ·rw [if_pos (.inl h5)]
  refine fn_y Tryz.func17 Tryz.mixed ?_
  intro w0
  refine Y7 ?_
  refine Zhn 12 rfl (rfl) ?_
  refine Y4 ?_
  refine Zhg (Zbn (a := (f : Int)) (b := 0) rfl rfl) ?_
  refine Zot 14 rfl (h1) ?_
  refine Y2 ?_
  first|refine Y0 ?_|(refine Zhh rfl ?_; (refine Zhg (Zbn (a := (n : Int)) (b := 0) rfl rfl) ?_))
  refine Zot 17 rfl (h2) ?_
  refine Y3 ?_
  first|refine Y0 ?_|(refine Zhh rfl ?_; (refine Zhg (Zbn (a := (z : Int)) (b := 1) rfl rfl) ?_))
  refine Zot 21 rfl (h3) ?_
  refine Y6 ?_
  refine Zor (c := text_p (p := pp) (ph := ph)) (k := ?_)
  rintro _ _ ⟨rfl, rfl⟩
  refine Y1 ?_
  refine Zhg (Zbp (a := (z : Int)) (b := (p.text : Int)) rfl rfl) ?_
  refine Zot 26 rfl (h4) ?_
  refine Y8 ?_
  refine Zor (c := text_p (p := pp) (ph := ph)) (k := ?_)
  rintro _ _ ⟨rfl, rfl⟩
  refine Y3 ?_
  refine Zhg (Zdm (cs := slc pp ⟨f, n, z, p.text / z, []⟩ none 0) rfl) ?_
  refine Zh5 rfl ?_; intro b36
  refine Y5 ?_
  refine Zor (c := pages_p (p := pp) (ph := ph)) (k := ?_)
  rintro _ _ ⟨rfl, rfl⟩
  refine Y1 ?_
  refine Zhg (Zbp (a := (f : Int)) (b := p.pages) rfl rfl) ?_
  refine Zos 40 rfl (h5) ?_
  refine V19 ?_
  refine rx2 (Zhb rfl (Zg9 rfl (Zg7))) ?_
  exact ⟨_, .inr ⟨by omega, rfl, rfl⟩, qI⟩
 by_cases h6 : p.pages - (f : Int) < SlotS.takeN n (p.text / z)
 ·rw [if_pos (.inr h6)]
  refine fn_y Tryz.func17 Tryz.mixed ?_
  intro w0
  refine Y7 ?_
  refine Zhn 12 rfl (rfl) ?_
  refine Y4 ?_
  refine Zhg (Zbn (a := (f : Int)) (b := 0) rfl rfl) ?_
  refine Zot 14 rfl (h1) ?_
  refine Y2 ?_
  first|refine Y0 ?_|(refine Zhh rfl ?_; (refine Zhg (Zbn (a := (n : Int)) (b := 0) rfl rfl) ?_))
  refine Zot 17 rfl (h2) ?_
  refine Y3 ?_
  first|refine Y0 ?_|(refine Zhh rfl ?_; (refine Zhg (Zbn (a := (z : Int)) (b := 1) rfl rfl) ?_))
  refine Zot 21 rfl (h3) ?_
  refine Y6 ?_
  refine Zor (c := text_p (p := pp) (ph := ph)) (k := ?_)
  rintro _ _ ⟨rfl, rfl⟩
  refine Y1 ?_
  refine Zhg (Zbp (a := (z : Int)) (b := (p.text : Int)) rfl rfl) ?_
  refine Zot 26 rfl (h4) ?_
  refine Y8 ?_
  refine Zor (c := text_p (p := pp) (ph := ph)) (k := ?_)
  rintro _ _ ⟨rfl, rfl⟩
  refine Y3 ?_
  refine Zhg (Zdm (cs := slc pp ⟨f, n, z, p.text / z, []⟩ none 0) rfl) ?_
  refine Zh5 rfl ?_; intro b36
  refine Y5 ?_
  refine Zor (c := pages_p (p := pp) (ph := ph)) (k := ?_)
  rintro _ _ ⟨rfl, rfl⟩
  refine Y1 ?_
  refine Zhg (Zbp (a := (f : Int)) (b := p.pages) rfl rfl) ?_
  refine Zot 40 rfl (h5) ?_
  refine Y6 ?_
  first|refine Y0 ?_|(refine Zhh rfl ?_; (refine Zor (c := hpx) (k := ?_)); (rintro _ _ ⟨rfl, rfl⟩); (refine Zg2 qA ?_))
  refine Y1 ?_
  first|refine Y0 ?_|(refine Zhh rfl ?_; (refine Zor (c := pages_p (p := pp) (ph := ph)) (k := ?_)); (rintro _ _ ⟨rfl, rfl⟩); (refine Zg2 qA ?_))
  refine Y1 ?_
  first|refine Y0 ?_|(refine Zhh rfl ?_; (refine Zhg (Zbh (a := p.pages) (b := (f : Int)) rfl rfl (by omega)) ?_))
  first|refine Y0 ?_|(refine Zhh rfl ?_; (refine Zhg (Zbp (a := ((SlotS.takeN n (p.text / z) : Nat) : Int)) (b := p.pages - (f : Int)) rfl rfl) ?_))
  refine Zos 52 rfl (h6) ?_
  refine V7 ?_
  refine rx2 (Zhb rfl (Zg9 rfl (Zg7))) ?_
  exact ⟨_, .inr ⟨by omega, rfl, rfl⟩, qI⟩
 ·rw [if_neg (show ¬ (p.pages < (f : Int) ∨ p.pages - (f : Int) < SlotS.takeN n (p.text / z)) by omega)]
  refine fn_y Tryz.func17 Tryz.mixed ?_
  intro w0
  refine Y7 ?_
  refine Zhn 12 rfl (rfl) ?_
  refine Y4 ?_
  refine Zhg (Zbn (a := (f : Int)) (b := 0) rfl rfl) ?_
  refine Zot 14 rfl (h1) ?_
  refine Y2 ?_
  first|refine Y0 ?_|(refine Zhh rfl ?_; (refine Zhg (Zbn (a := (n : Int)) (b := 0) rfl rfl) ?_))
  refine Zot 17 rfl (h2) ?_
  refine Y3 ?_
  first|refine Y0 ?_|(refine Zhh rfl ?_; (refine Zhg (Zbn (a := (z : Int)) (b := 1) rfl rfl) ?_))
  refine Zot 21 rfl (h3) ?_
  refine Y6 ?_
  refine Zor (c := text_p (p := pp) (ph := ph)) (k := ?_)
  rintro _ _ ⟨rfl, rfl⟩
  refine Y1 ?_
  refine Zhg (Zbp (a := (z : Int)) (b := (p.text : Int)) rfl rfl) ?_
  refine Zot 26 rfl (h4) ?_
  refine Y8 ?_
  refine Zor (c := text_p (p := pp) (ph := ph)) (k := ?_)
  rintro _ _ ⟨rfl, rfl⟩
  refine Y3 ?_
  refine Zhg (Zdm (cs := slc pp ⟨f, n, z, p.text / z, []⟩ none 0) rfl) ?_
  refine Zh5 rfl ?_; intro b36
  refine Y5 ?_
  refine Zor (c := pages_p (p := pp) (ph := ph)) (k := ?_)
  rintro _ _ ⟨rfl, rfl⟩
  refine Y1 ?_
  refine Zhg (Zbp (a := (f : Int)) (b := p.pages) rfl rfl) ?_
  refine Zot 40 rfl (h5) ?_
  refine Y6 ?_
  first|refine Y0 ?_|(refine Zhh rfl ?_; (refine Zor (c := hpx) (k := ?_)); (rintro _ _ ⟨rfl, rfl⟩); (refine Zg2 qA ?_))
  refine Y1 ?_
  first|refine Y0 ?_|(refine Zhh rfl ?_; (refine Zor (c := pages_p (p := pp) (ph := ph)) (k := ?_)); (rintro _ _ ⟨rfl, rfl⟩); (refine Zg2 qA ?_))
  refine Y1 ?_
  first|refine Y0 ?_|(refine Zhh rfl ?_; (refine Zhg (Zbh (a := p.pages) (b := (f : Int)) rfl rfl (by omega)) ?_))
  first|refine Y0 ?_|(refine Zhh rfl ?_; (refine Zhg (Zbp (a := ((SlotS.takeN n (p.text / z) : Nat) : Int)) (b := p.pages - (f : Int)) rfl rfl) ?_))
  refine Zot 52 rfl (h6) ?_
  refine V8 ?_
  refine rx2 (Zhb rfl (Zg9 rfl (Zg7))) ?_
  refine ⟨_, .inl ⟨rfl, b36, rfl, rfl⟩, ?_⟩
  exact ((Imp.arr (N := cl b36 (slc pp ⟨f, n, z, p.text / z, []⟩ none 0) 137 :: [pgA pp ph p]) qV).trans (Imp.own_nil (E := 151) (size := 3))).trans ((Imp.arr (N := slL b36 pp ⟨f, n, z, p.text / z, []⟩ none 0 ++ [pgA pp ph p]) qV).trans slA_mk)
theorem slnew_ok (hk : PagerS.Ok p) {first n size : Int} (hf : first ≤ 9223372036854775807) (hn : n ≤ 9223372036854775807) (hz : size ≤ 9223372036854775807) (h : SlotS.newS first n size p = 0) : Con Tryz.prog 17 [hp pp, .int .i64 first, .int .i64 n, .int .i64 size] [pgA pp ph p] (fun r M => ∃ q, r = .tuple #[hp q, nvv 0] ∧ M = [slA q pp (SlotS.freshS first n size p), pgA pp ph p]) :=
 (slnew_x hk first n size hf hn hz).mono fun r M hh => by
  rcases hh with ⟨_, q, h1, h2⟩|⟨hne, _⟩
  ·exact ⟨M, Imp.refl _, q, h1, h2⟩
  ·exact absurd h hne
end
end Go.Sl
namespace Go.Sl
open Go HostS
end Go.Sl
namespace Go.Sl
open Go
end Go.Sl
namespace Go.Sl
open Go Go.Proofs
attribute [local irreducible] pt old pur ex all den denOps denS xOps xC cX CX xthen xblk xcut xloop xng retX resX Calls PV Rd Con
abbrev Part := Option Addr × Nat × List Byte
def vP (p : Part) : Value := .slice p.1 p.2.2.length p.2.1
def ownP (p : Part) : Asrt := own 5 1 (vP p) p.2.2.length (p.2.2.map u8b)
theorem ownP_bs {M M' : List Asrt} {p : Part} (hm : Has M (ownP p) M') : Bs M (vP p) p.2.2 := Bs.own (E := 5) hm
theorem star_bs {α : Type} {A : α → Asrt} {l : List α} {x : α} {v : Value} {b : List Byte} (hx : x ∈ l) (h : ∀ R, Bs (A x :: R) v b) {M M' : List Asrt} (hm : Has M (star A l) M') : Bs M v b := by
 obtain ⟨R, hR⟩ := star_has (A := A) hx hm
 exact (h R).imp hR
end Go.Sl
namespace Go.Sl
open Go Go.Proofs
attribute [local irreducible] pt old pur ex all den denOps denS xOps xC cX CX xthen xblk xcut xloop xng retX resX Calls PV Rd Con
attribute [local irreducible] hostA
abbrev WrE := Int × Part
section
variable {q pc : Nat} {pages : Int} {size fc wc ops lc : Nat} {fa wa la : Option Addr} {reg : BitVec 64} {down : Bool} {fl : List HostS.Fault} {wl : List WrE} {log : List HostS.Touch} {nf nw nl : Nat}
end
end Go.Sl
namespace Go.Sl
open Go Go.Proofs
attribute [local irreducible] pt old pur ex all den denOps denS xOps xC cX CX xthen xblk xcut xloop xng retX resX Calls PV Rd Con
attribute [local irreducible] hostA
section
variable {q pc : Nat} {pages : Int} {size fc wc ops lc : Nat} {fa wa la : Option Addr} {reg : BitVec 64} {down : Bool} {fl : List HostS.Fault} {wl : List WrE} {log : List HostS.Touch} {nf nw nl : Nat}
end
end Go.Sl
namespace Go.Sl
open Go Go.Proofs
attribute [local irreducible] pt old pur ex all den denOps denS xOps xC cX CX xthen xblk xcut xloop xng retX resX Calls PV Rd Con
attribute [local irreducible] hostA
section
variable {q pc : Nat} {pages : Int} {size fc wc ops lc : Nat} {fa wa la : Option Addr} {reg : BitVec 64} {down : Bool} {fl : List HostS.Fault} {wl : List WrE} {log : List HostS.Touch} {nf nw nl : Nat}
end
end Go.Sl
namespace Go.Sl
open Go Go.Proofs
attribute [local irreducible] pt old pur ex all den denOps denS xOps xC cX CX xthen xblk xcut xloop xng retX resX Calls PV Rd Con
attribute [local irreducible] hostA HostS.spoilt HostS.back
section
variable {q : Nat} {s : HostS.HS} {fl : List HostS.Fault} {wl : List WrE} {fc wc lc : Nat} {fa wa la : Option Addr}
end
end Go.Sl
namespace Go.Sl
open Go Go.Proofs
attribute [local irreducible] pt old pur ex all den denOps denS xOps xC cX CX xthen xblk xcut xloop xng retX resX Calls PV Rd Con
attribute [local irreducible] hostA HostS.spoilt HostS.back
section
variable {q : Nat} {s : HostS.HS} {fl : List HostS.Fault} {wl : List WrE} {fc wc lc : Nat} {fa wa la : Option Addr}
end
end Go.Sl
namespace Go.Sl
open Go Go.Proofs
attribute [local irreducible] pt old pur ex all den denOps denS xOps xC cX CX xthen xblk xcut xloop xng retX resX Calls PV Rd Con
attribute [local irreducible] hostA HostS.spoilt HostS.back
section
variable {q : Nat} {s : HostS.HS} {fl : List HostS.Fault} {wl : List WrE} {fc wc lc : Nat} {fa wa la : Option Addr}
end
end Go.Sl
namespace Go.Sl
open Go Go.Proofs
attribute [local irreducible] pt old pur ex all den denOps denS xOps xC cX CX xthen xblk xcut xloop xng retX resX Calls PV Rd Con
attribute [local irreducible] hostA HostS.spoilt HostS.back
section
variable {q : Nat} {s : HostS.HS} {fl : List HostS.Fault}
end
end Go.Sl
namespace Go.Sl
open Go Go.Proofs
attribute [local irreducible] pt old pur ex all den denOps denS xOps xC cX CX xthen xblk xcut xloop xng retX resX Calls PV Rd Con
attribute [local irreducible] hostA
open PagerS (PS)
structure RC where
 q : Nat
 ha : Option Addr
 hn : Nat
 hc : Nat
 la : Option Addr
 ln : Nat
 lc : Nat
 took : Bool
section
variable {s s' : PS} {c c' : RC} {k : Nat} {v : Value}
end
abbrev HE := (Option Addr × Nat) × PagerS.Fr
section
variable {p : Nat} {s : PS} {c : RC}
end
end Go.Sl
namespace Go.Sl
open Go Go.Proofs
attribute [local irreducible] pt old pur ex all den denOps denS xOps xC cX CX xthen xblk xcut xloop xng retX resX Calls PV Rd Con
attribute [local irreducible] hostA pcl
open PagerS (PS)
section
variable {p : Nat} {s : PS} {c : RC}
end
end Go.Sl
namespace Go.Sl
open Go Go.Proofs
attribute [local irreducible] pt old pur ex all den denOps denS xOps xC cX CX xthen xblk xcut xloop xng retX resX Calls PV Rd Con
attribute [local irreducible] outW64 stateW twiceW iterW twiceN qAt quarterW blockB leB
end Go.Sl
namespace Go.Sl
open Go Go.Proofs
attribute [local irreducible] pt old pur ex all den denOps denS xOps xC cX CX xthen xblk xcut xloop xng retX resX Calls PV Rd Con
attribute [local irreducible] blockB ksB
attribute [local irreducible] scl xorB
end Go.Sl
namespace Go.Sl
open Go Go.Proofs
attribute [local irreducible] pt old pur ex all den denOps denS xOps xC cX CX xthen xblk xcut xloop xng retX resX Calls PV Rd Con
end Go.Sl
namespace Go.Sl
open Go Go.Proofs
attribute [local irreducible] pt old pur ex all den denOps denS xOps xC cX CX xthen xblk xcut xloop xng retX resX Calls PV Rd Con
end Go.Sl
namespace Go.Sl
open Go Go.Proofs
attribute [local irreducible] pt old pur ex all den denOps denS xOps xC cX CX xthen xblk xcut xloop xng retX resX Calls PV Rd Con
end Go.Sl
namespace Go.Sl
open Go Go.Proofs
attribute [local irreducible] pt old pur ex all den denOps denS xOps xC cX CX xthen xblk xcut xloop xng retX resX Calls PV Rd Con
end Go.Sl
namespace Go.Sl
open Go Go.Proofs
attribute [local irreducible] pt old pur ex all den denOps denS xOps xC cX CX xthen xblk xcut xloop xng retX resX Calls PV Rd Con
end Go.Sl
namespace Go.Sl
open Go Go.Proofs
attribute [local irreducible] pt old pur ex all den denOps denS xOps xC cX CX xthen xblk xcut xloop xng retX resX Calls PV Rd Con
end Go.Sl
namespace Go.Sl
open Go Go.Proofs
attribute [local irreducible] pt old pur ex all den denOps denS xOps xC cX CX xthen xblk xcut xloop xng retX resX Calls PV Rd Con
-- the halves of a key
end Go.Sl
namespace Go.Sl
open Go Go.Proofs
attribute [local irreducible] pt old pur ex all den denOps denS xOps xC cX CX xthen xblk xcut xloop xng retX resX Calls PV Rd Con
end Go.Sl
namespace Go.Sl
open Go Go.Proofs
attribute [local irreducible] pt old pur ex all den denOps denS xOps xC cX CX xthen xblk xcut xloop xng retX resX Calls PV Rd Con
attribute [local irreducible] code
end Go.Sl
namespace Go.Sl
open Go Go.Proofs
attribute [local irreducible] pt old pur ex all den denOps denS xOps xC cX CX xthen xblk xcut xloop xng retX resX Calls PV Rd Con
attribute [local irreducible] code blockB ksB xorB vouchB leB
end Go.Sl
namespace Go.Sl
open Go Go.Proofs
attribute [local irreducible] pt old pur ex all den denOps denS xOps xC cX CX xthen xblk xcut xloop xng retX resX Calls PV Rd Con
attribute [local irreducible] code blockB ksB xorB vouchB leB sealB
end Go.Sl
namespace Go.Sl
open Go Go.Proofs
attribute [local irreducible] pt old pur ex all den denOps denS xOps xC cX CX xthen xblk xcut xloop xng retX resX Calls PV Rd Con
attribute [local irreducible] code blockB ksB xorB vouchB leB sealB
attribute [local irreducible] rightB textB coverB tagB
end Go.Sl
namespace Go.Sl
open Go Go.Proofs
attribute [local irreducible] pt old pur ex all den denOps denS xOps xC cX CX xthen xblk xcut xloop xng retX resX Calls PV Rd Con
attribute [local irreducible] code blockB ksB xorB vouchB leB sealB rightB textB coverB tagB
end Go.Sl
namespace Go.Sl
open Go Go.Proofs
attribute [local irreducible] pt old pur ex all den denOps denS xOps xC cX CX xthen xblk xcut xloop xng retX resX Calls PV Rd Con
attribute [local irreducible] code blockB ksB xorB vouchB leB sealB rightB textB coverB tagB headB moreB
end Go.Sl
namespace Go.Sl
open Go Go.Proofs
attribute [local irreducible] pt old pur ex all den denOps denS xOps xC cX CX xthen xblk xcut xloop xng retX resX Calls PV Rd Con
attribute [local irreducible] hostA pcl pgSealB pgOpenR HostS.writeR HostS.readR
open PagerS (PS Over)
section
variable {s : PS} {c : RC} {hl : List HE} {wl : List Plc} {h : HostS.HS} {n : Int}
end
section
variable {p : Nat} {s : PS} {c : RC} {h : HostS.HS} {fl : List HostS.Fault}
end
end Go.Sl
namespace Go.Sl
open Go Go.Proofs
attribute [local irreducible] pt old pur ex all den denOps denS xOps xC cX CX xthen xblk xcut xloop xng retX resX Calls PV Rd Con
attribute [local irreducible] hostA pcl pgSealB pgOpenR HostS.writeR HostS.readR
open PagerS (PS Over)
section
variable {p q : Nat} {s : PS} {L : List Asrt}
end
section
variable {p q : Nat} {s : PS} {h : HostS.HS} {fl : List HostS.Fault}
end
end Go.Sl
namespace Go.Sl
open Go Go.Proofs
attribute [local irreducible] pt old pur ex all den denOps denS xOps xC cX CX xthen xblk xcut xloop xng retX resX Calls PV Rd Con
attribute [local irreducible] hostA pcl pgSealB pgOpenR HostS.writeR HostS.readR PagerS.roomP PagerS.useP
open PagerS (PS Over)
section
variable {q : Nat} {h : HostS.HS} {fl : List HostS.Fault}
end
end Go.Sl
namespace Go.Sl
open Go Go.Proofs
attribute [local irreducible] pt old pur ex all den denOps denS xOps xC cX CX xthen xblk xcut xloop xng retX resX Calls PV Rd Con
attribute [local irreducible] hostA pgA
open SlotS (SL Acc Fit)
open PagerS (PS Over)
section
variable {q rp : Nat} {s : SL} {L : List Asrt}
end
section
variable {rp q : Nat} {p : PS}
end
end Go.Sl
namespace Go.Sl
open Go Go.Proofs
attribute [local irreducible] pt old pur ex all den denOps denS xOps xC cX CX xthen xblk xcut xloop xng retX resX Calls PV Rd Con
attribute [local irreducible] hostA pgA PagerS.loadP PagerS.saveP
open SlotS (SL Acc Fit)
open PagerS (PS Over)
namespace SlW
def k1 : List Byte := 1#8 :: List.replicate 31 0#8
def h0 : HostS.HS := HostS.fresh 4 38 []
def p0 : PS := PagerS.freshP k1 3#64 2 4 10
def s0 : SL := ⟨1, 7, 3, 3, []⟩
theorem ok0 : PagerS.Ok p0 := PagerS.ok_fresh rfl (by decide) (by decide) (by decide)
theorem q0 : PagerS.Quiet p0 h0 fun _ => List.replicate 10 0#8 := PagerS.quiet_fresh ok0 rfl rfl (PagerS.calm_fresh _ _)
theorem f0 : Fit s0 p0 := ⟨by decide, by decide, by decide, by decide⟩
def b1 : Int → List Byte := SlotS.putB s0 (fun _ => List.replicate 10 0#8) 6 [1#8, 2#8, 3#8]
theorem set1 : (SlotS.setS s0 p0 h0 (6 : Nat) [1#8, 2#8, 3#8]).1 = 0 ∧ (SlotS.setS s0 p0 h0 (6 : Nat) [1#8, 2#8, 3#8]).2.1 = SlotS.touch s0 1 (6 : Nat) 0 ∧ PagerS.Quiet (SlotS.setS s0 p0 h0 (6 : Nat) [1#8, 2#8, 3#8]).2.2.1 (SlotS.setS s0 p0 h0 (6 : Nat) [1#8, 2#8, 3#8]).2.2.2 b1 := SlotS.set_q q0 f0 (by decide) (by decide) rfl
theorem slot1 : SlotS.slotB s0 b1 6 = [1#8, 2#8, 3#8] := by
 have := SlotS.putB_at (s := s0) (p := p0) (b := fun _ => List.replicate 10 0#8) f0 (fun _ => rfl) (x := [1#8, 2#8, 3#8]) rfl 6 6
 rw [if_pos rfl] at this
 exact this
theorem may : HostS.mayBe 4 38 [] := ⟨⟨by decide, by decide, by decide, by decide⟩, rfl⟩
end SlW
attribute [local irreducible] SlotS.setS SlotS.getS SlW.b1
open SlW in
theorem slWorks_x : Con Tryz.prog 15 [] [] (fun r M => r = .bool true ∧ M = []) := by
 obtain ⟨a1, a2, a3⟩ := set1
 have n1 := SlotS.set_near s0 p0 h0 (6 : Nat) [1#8, 2#8, 3#8]
 have f1 : Fit (SlotS.touch s0 1 (6 : Nat) 0) (SlotS.setS s0 p0 h0 (6 : Nat) [1#8, 2#8, 3#8]).2.2.1 := (f0.touch _ _ _).same n1.text n1.spages
 have hw0 : p0.writes = 0 := rfl
 have ho0 : h0.ops = 0 := rfl
 have hw1 := n1.writes
 have ho1 := n1.ops
 obtain ⟨c1, c2, c3⟩ := SlotS.get_q a3 f1 (i := 6) (by decide) (by omega)
 have hst := fun q pp ph b => sset_x (q := q) (pp := pp) (ph := ph) (L := [cl b #[u8b 1#8, u8b 2#8, u8b 3#8] 5]) f0 ok0 q0.sound.over (by omega) (by decide) (6 : Nat) (bs_full (l := [1#8, 2#8, 3#8]) (n := 3) .here rfl (by omega))
 rw [a1, a2] at hst
 have hgt := fun q pp ph => sget_x (q := q) (pp := pp) (ph := ph) f1 a3.sound.ok a3.sound.over (by omega) (by show (SlotS.touch s0 1 (6 : Nat) 0).log.length ≤ 4000000000000; exact Nat.le_of_ble_eq_true rfl) (6 : Nat)
 have hsl : SlotS.slotB (SlotS.touch s0 1 (6 : Nat) 0) b1 6 = [1#8, 2#8, 3#8] := slot1
 rw [c1, c2, hsl] at hgt
 generalize (SlotS.setS s0 p0 h0 (6 : Nat) [1#8, 2#8, 3#8]).2.2.1 = p1 at *
 generalize (SlotS.setS s0 p0 h0 (6 : Nat) [1#8, 2#8, 3#8]).2.2.2 = h1 at *
 have hlen : (SlotS.touch (SlotS.touch s0 1 (6 : Nat) 0) 0 (6 : Nat) 0).log.length = 2 := rfl
 have hlg := fun q pp => slog_x (q := q) (pp := pp) (s := SlotS.touch (SlotS.touch s0 1 (6 : Nat) 0) 0 (6 : Nat) 0) (by rw [hlen]; omega)
 rw [hlen] at hlg
 have hz : newR h0 2 = 0 := by with_unfolding_all rfl
 have hf : PagerS.freshP k1 3#64 (2 : Int).toNat h0.pages (h0.size - 28) = p0 := by with_unfolding_all rfl
 have hn := fun p => pnew_ok (ph := p) (h := h0) (key := k1) rfl 3#64 hz
 rw [hf] at hn
 have hh : HostS.fresh 4 (38 : Int).toNat [] = h0 := by with_unfolding_all rfl
 have hnw := new_ok (L := []) 4 38 (fv := .slice none 0 0) (fl := []) (by simp) (by simp) Rd.nil may
 rw [hh] at hnw
 have hsn := fun pp ph => slnew_ok (pp := pp) (ph := ph) (p := p0) ok0 (first := 1) (n := 7) (size := 3) (by omega) (by omega) (by omega) (by with_unfolding_all rfl)
 have hs0 : SlotS.freshS 1 7 3 p0 = s0 := by with_unfolding_all rfl
 rw [hs0] at hsn
 have hln := fun q pp => slen_x (q := q) (pp := pp) (s := s0)
 have hsi := fun q pp => ssize_x (q := q) (pp := pp) (s := s0)
 have hn7 : s0.n = 7 := rfl
 have hz3 : s0.size = 3 := rfl
 rw [hn7] at hln
 rw [hz3] at hsi
 clear hw0 ho0 hw1 ho1 n1 f1 a1 a2 a3 c1 c2 c3 hsl
 refine fn_y Tryz.func15 Tryz.mixed ?_
 intro w0
 refine Y4 ?_
 refine Zor (c := hnw) (k := ?_)
 rintro _ _ ⟨p, rfl, rfl⟩
 refine Y10 ?_
 refine Zot 14 rfl ((fun hh => hh rfl)) ?_
 refine Y3 ?_
 refine Zhn 17 rfl (rfl) ?_
 refine Y5 ?_
 refine Zhg (Zol rfl) ?_
 refine Zhg (Zdn (cs := (k1.map u8b).toArray) (by kernel_rfl)) ?_
 refine Zor (c := hn p) (k := ?_)
 rintro _ _ ⟨pp, rfl, rfl⟩
 refine Y10 ?_
 refine Zot 27 rfl ((fun hh => hh rfl)) ?_
 refine Y3 ?_
 refine Zhn 30 rfl (rfl) ?_
 refine Y5 ?_
 refine Zor (c := hsn pp p) (k := ?_)
 rintro _ _ ⟨q, rfl, rfl⟩
 refine Y10 ?_
 refine Zot 38 rfl ((fun hh => hh rfl)) ?_
 refine Y3 ?_
 refine Zhn 41 rfl (rfl) ?_
 refine Y3 ?_
 first|refine Y0 ?_|(refine Zhh rfl ?_; (refine Zor (c := hln q pp) (k := ?_)); (rintro _ _ ⟨rfl, rfl⟩); (refine Zg2 qA ?_))
 refine Y1 ?_
 refine Zot 46 rfl ((fun hh => hh rfl)) ?_
 refine Y3 ?_
 first|refine Y0 ?_|(refine Zhh rfl ?_; (refine Zor (c := hsi q pp) (k := ?_)); (rintro _ _ ⟨rfl, rfl⟩); (refine Zg2 qA ?_))
 refine Y1 ?_
 refine Zot 51 rfl ((fun hh => hh rfl)) ?_
 refine Y3 ?_
 first|refine Y0 ?_|(refine Zhh rfl ?_; (refine Zh7 (cs := #[u8b 1#8, u8b 2#8, u8b 3#8]) (by omega) (by omega) (by kernel_rfl) ?_; intro b55))
 first|refine Y0 ?_|(refine Zhh rfl ?_; (refine Zor (c := hst q pp p b55) (k := ?_)); (rintro _ _ ⟨rfl, rfl⟩); (refine Zg2 qA ?_))
 refine Y1 ?_
 refine Zot 57 rfl ((fun hh => hh rfl)) ?_
 refine Y5 ?_
 refine Zor (c := hgt q pp p) (k := ?_)
 rintro _ _ ⟨ga, gc, rfl, rfl⟩
 refine Y10 ?_
 refine Zos 65 rfl (rfl) ?_
 refine Y2 ?_
 first|refine Y0 ?_|(refine Zhh rfl ?_; (refine Zh7 (cs := #[u8b 1#8, u8b 2#8, u8b 3#8]) (by omega) (by omega) (by kernel_rfl) ?_; intro b68))
 first|refine Y0 ?_|(refine Zhh rfl ?_; (refine Zor (c := eqBytes_x (L := [ownB ga gc [1#8, 2#8, 3#8], cl b68 #[u8b 1#8, u8b 2#8, u8b 3#8] 5]) (a := [1#8, 2#8, 3#8]) (b := [1#8, 2#8, 3#8]) (Bs.own qH) (bs_full (l := [1#8, 2#8, 3#8]) (n := 3) qH rfl (by omega))) (k := ?_)); (rintro _ _ ⟨rfl, rfl⟩); (refine Zg2 qA ?_))
 refine Zos 69 rfl (rfl) ?_
 refine Y3 ?_
 first|refine Y0 ?_|(refine Zhh rfl ?_; (refine Zor (c := hlg q pp) (k := ?_)); (rintro _ _ ⟨la, lc, rfl, rfl⟩); (refine Zg2 qA ?_))
 refine Y2 ?_
 refine Zos 75 rfl (rfl) ?_
 refine V3 ?_
 refine rx1 (Zha rfl (Zg7)) ?_
 exact ⟨_, ⟨rfl, rfl⟩, qI⟩
end Go.Sl
namespace Go.Sl
open Go Go.Proofs Go.ChangeShapes Go.WideShapes Go.ChangeAt Go.RowKit
section
variable {H : Type} {enc : TypeId × Value → H} {w : World} {base : Nat} {spare : Nat → Bool} {held : Bool}
end
end Go.Sl
namespace Go.Sl
open Go Go.Proofs
attribute [local irreducible] pt old pur ex all den denOps denS xOps xC cX CX xthen xblk xcut xloop xng retX resX Calls PV Rd Con
attribute [local irreducible] hostA pgA
open SlotS (SL Acc Fit)
open PagerS (PS Over)
def withinN (a : Int) (n : Nat) : Nat := (if a.tmod n < 0 then a.tmod n + n else a.tmod n).toNat
theorem within_is (a : Int) {n : Nat} (hn : 1 ≤ n) : withinN a n < n ∧ (a.tmod n < 0 → a.tmod n + n = withinN a n) ∧ (¬ a.tmod n < 0 → a.tmod n = withinN a n) := by
 have h1 := Int.lt_tmod_of_pos a (b := (n : Int)) (by omega)
 have h2 := Int.tmod_lt_of_pos a (b := (n : Int)) (by omega)
 unfold withinN
 by_cases h : a.tmod n < 0
 ·rw [if_pos h]
  exact ⟨by omega, fun _ => by omega, fun hh => absurd h hh⟩
 ·rw [if_neg h]
  exact ⟨by omega, fun hh => absurd hh h, fun _ => by omega⟩
theorem within_x (a : Int) (n : Nat) (hn : 1 ≤ n) (hn2 : n ≤ 1000000000000) : Con Tryz.prog 18 [.int .i64 a, nvv n] [] (fun r M => r = nvv (withinN a n) ∧ M = []) := by
 obtain ⟨h1, h2, h3⟩ := within_is a hn
 by_cases h : a.tmod n < 0
 ·have e := h2 h
  refine fn_y Tryz.func18 Tryz.mixed ?_
  intro w0
  refine Y6 ?_
  refine Zhg (Zbk (a := a) (b := (n : Int)) rfl rfl (by omega)) ?_
  refine Y4 ?_
  refine Zhg (Zbn (a := a.tmod n) (b := 0) rfl rfl) ?_
  refine Zos 9 rfl (h) ?_
  refine Y5 ?_
  refine Zhg (Zbg (a := a.tmod n) (b := (n : Int)) rfl rfl (by omega)) ?_
  refine V2 ?_
  rw [e]
  refine V4 ?_
  refine rx1 (Zg9 rfl (Zg7)) ?_
  exact ⟨_, ⟨rfl, rfl⟩, qI⟩
 ·have e := h3 h
  refine fn_y Tryz.func18 Tryz.mixed ?_
  intro w0
  refine Y6 ?_
  refine Zhg (Zbk (a := a) (b := (n : Int)) rfl rfl (by omega)) ?_
  refine Y4 ?_
  refine Zhg (Zbn (a := a.tmod n) (b := 0) rfl rfl) ?_
  refine Zot 9 rfl (h) ?_
  refine V2 ?_
  rw [e]
  refine V4 ?_
  refine rx1 (Zg9 rfl (Zg7)) ?_
  exact ⟨_, ⟨rfl, rfl⟩, qI⟩
attribute [local irreducible] withinN
abbrev nilF : Value := .slice none 0 0
theorem hnew_nil {L : List Asrt} (pn tx : Nat) (hm : HostS.mayBe (pn : Int) (tx : Int) []) : Con Tryz.prog 19 [nvv pn, nvv tx, nilF] L (fun r M => ∃ q, r = .tuple #[hp q, nvv 0] ∧ M = hostA q (HostS.fresh (pn : Int) tx []) :: L) := new_ok (L := L) (pn : Int) (tx : Int) (fv := nilF) (fl := []) (by simp) (by simp) Rd.nil hm
abbrev hsN (pn n : Nat) : HostS.HS := HostS.fresh (pn : Int) (n + 28) []
abbrev psN (key : List Byte) (round : BitVec 64) (wn pn n : Nat) : PS := PagerS.freshP key round wn (pn : Int) n
theorem newN {pn n wn : Nat} (hn : 1 ≤ n) (hw : 2 ≤ wn ∧ wn ≤ 16) : newR (hsN pn n) (wn : Int) = 0 := by
 unfold newR
 rw [if_neg (by omega), if_neg (show ¬ (hsN pn n).size ≤ 28 by show ¬ n + 28 ≤ 28; omega)]
theorem freshN {key : List Byte} {round : BitVec 64} {pn n wn : Nat} : PagerS.freshP key round ((wn : Int)).toNat (hsN pn n).pages ((hsN pn n).size - 28) = psN key round wn pn n := by
 show PagerS.freshP key round wn (pn : Int) (n + 28 - 28) = _
 rw [Nat.add_sub_cancel]
theorem pnewN {ph : Nat} {key : List Byte} (hk : key.length = 32) (round : BitVec 64) {pn n wn : Nat} (hn : 1 ≤ n) (hw : 2 ≤ wn ∧ wn ≤ 16) : Con Tryz.prog 21 [stV ph, .agg (key.map u8b).toArray, u64b round, nvv wn] [hostA ph (hsN pn n)] (fun r M => ∃ p, r = .tuple #[hp p, nvv 0] ∧ M = [pgA p ph (psN key round wn pn n), hostA ph (hsN pn n)]) := by
 have := pnew_ok (ph := ph) (h := hsN pn n) hk round (newN (pn := pn) hn hw)
 rwa [freshN] at this
theorem mayN {pn n : Nat} (hp : pn ≤ 65536) (hn : 1 ≤ n ∧ n ≤ 4096) : HostS.mayBe (pn : Int) ((n + 28 : Nat) : Int) [] := ⟨⟨by omega, by omega, by omega, by omega⟩, rfl⟩
abbrev Big (n : Int) : Prop := -9223372036854775808 ≤ n ∧ n ≤ 9223372036854775807
end Go.Sl
namespace Go.Sl
open Go Go.ChangeShapes Go.WideShapes Go.ChangeAt Go.RowKit
section
variable {P : Program} {H : Type} {enc : TypeId × Value → H} {w : World} {base : Nat} {spare : Nat → Bool} {held : Bool}
theorem open_i2 {T E fuel : Nat} {cs : List Value} {x : DataW H × List MemPlace} (ht : P.underlying T = some (.array 2 E)) (he : P.underlying E = some (.int .i64)) (hc : P.cellsOf E = 1) (hT : P.cellsOf T = 2) (h : DataW.trod enc P w base spare held fuel T cs = some x) : ∃ a b : Int, cs = [.int .i64 a, .int .i64 b] ∧ (Lit.int .i64 a).wf = true ∧ (Lit.int .i64 b).wf = true := by
 obtain ⟨xs, m, _, _, hl, hxl, hel⟩ := DataW.trod_array ht h
 rw [hT] at hl
 have get : ∀ i, ∀ hi : i < cs.length, ∃ a : Int, cs[i] = .int .i64 a ∧ (Lit.int .i64 a).wf = true := by
  intro i hi
  have h4 := hel i (by omega)
  rw [hc, Nat.mul_one] at h4
  rw [List.getElem?_eq_getElem (show i < xs.length by omega)] at h4
  have e : (cs.drop i).take 1 = [cs[i]] := by rw [List.drop_eq_getElem_cons hi]; rfl
  rw [e] at h4
  obtain ⟨k, hk, _, hw⟩ := DataW.trod_int he h4
  simp only [List.cons.injEq, and_true] at hk
  exact ⟨k, hk, hw⟩
 obtain ⟨a, ha, wa⟩ := get 0 (by omega)
 obtain ⟨b, hb, wb⟩ := get 1 (by omega)
 refine ⟨a, b, ?_, wa, wb⟩
 rw [← ha, ← hb]
 match cs, hl with
 | [x, y], _ => rfl
end
end Go.Sl
namespace Go.Sl
open Go Go.Proofs Go.ChangeShapes Go.WideShapes Go.ChangeAt Go.RowKit
structure FaultV where
 at_ : Int
 kind_ : Int
 page_ : Int
 byte_ : Int
 by_ : BitVec 8
 back_ : Int
def FaultV.cells (x : FaultV) : List Value := [.int .i64 x.at_] ++ ([.int .i64 x.kind_] ++ ([.int .i64 x.page_] ++ ([.int .i64 x.byte_] ++ ([u8b x.by_] ++ ([.int .i64 x.back_])))))
structure FaultVOk (w : World) (x : FaultV) : Prop where
 triv : True
 at_ : -9223372036854775808 ≤ x.at_ ∧ x.at_ ≤ 9223372036854775807
 kind_ : -9223372036854775808 ≤ x.kind_ ∧ x.kind_ ≤ 9223372036854775807
 page_ : -9223372036854775808 ≤ x.page_ ∧ x.page_ ≤ 9223372036854775807
 byte_ : -9223372036854775808 ≤ x.byte_ ∧ x.byte_ ≤ 9223372036854775807
 back_ : -9223372036854775808 ≤ x.back_ ∧ x.back_ ≤ 9223372036854775807
theorem FaultV.len {w : World} {x : FaultV} (h : FaultVOk w x) : x.cells.length = 6 := by
 simp [FaultV.cells]
section
variable {H : Type} {enc : TypeId × Value → H} {w : World} {base : Nat} {spare : Nat → Bool} {held : Bool}
theorem open_FaultV {n : Nat} {cs : List Value} {y : DataW H × List MemPlace} (h : DataW.trod enc Tryz.prog w base spare held n 119 cs = some y) (hs : Small Tryz.prog 119 y.1) : ∃ x : FaultV, cs = x.cells ∧ FaultVOk w x := by
 obtain ⟨xs, m, _, hx, hl, hn, hf⟩ := DataW.trod_struct Tryz.underlying119 h
 rw [show Tryz.prog.cellsOf 119 = 6 by kernel_rfl] at hl
 have hn : xs.length = 6 := hn
 have g : ∀ i (hi : i < xs.length), xs[i]? = some xs[i] := fun i hi => List.getElem?_eq_getElem hi
 rw [hx] at hs
 have e0 : DataW.trod enc Tryz.prog w base spare held m 3 ((cs.drop 0).take (Tryz.prog.cellsOf 3)) = some (xs[0]'(by omega)) := (hf 0 _ rfl).trans (g 0 (by omega))
 rw [show Tryz.prog.cellsOf 3 = 1 by kernel_rfl] at e0
 obtain ⟨n0, c0, _, wf0⟩ := DataW.trod_int Tryz.underlying3 e0
 have e1 : DataW.trod enc Tryz.prog w base spare held m 3 ((cs.drop 1).take (Tryz.prog.cellsOf 3)) = some (xs[1]'(by omega)) := (hf 1 _ rfl).trans (g 1 (by omega))
 rw [show Tryz.prog.cellsOf 3 = 1 by kernel_rfl] at e1
 obtain ⟨n1, c1, _, wf1⟩ := DataW.trod_int Tryz.underlying3 e1
 have e2 : DataW.trod enc Tryz.prog w base spare held m 3 ((cs.drop 2).take (Tryz.prog.cellsOf 3)) = some (xs[2]'(by omega)) := (hf 2 _ rfl).trans (g 2 (by omega))
 rw [show Tryz.prog.cellsOf 3 = 1 by kernel_rfl] at e2
 obtain ⟨n2, c2, _, wf2⟩ := DataW.trod_int Tryz.underlying3 e2
 have e3 : DataW.trod enc Tryz.prog w base spare held m 3 ((cs.drop 3).take (Tryz.prog.cellsOf 3)) = some (xs[3]'(by omega)) := (hf 3 _ rfl).trans (g 3 (by omega))
 rw [show Tryz.prog.cellsOf 3 = 1 by kernel_rfl] at e3
 obtain ⟨n3, c3, _, wf3⟩ := DataW.trod_int Tryz.underlying3 e3
 have e4 : DataW.trod enc Tryz.prog w base spare held m 5 ((cs.drop 4).take (Tryz.prog.cellsOf 5)) = some (xs[4]'(by omega)) := (hf 4 _ rfl).trans (g 4 (by omega))
 rw [show Tryz.prog.cellsOf 5 = 1 by kernel_rfl] at e4
 obtain ⟨n4, c4, _, wf4⟩ := DataW.trod_int Tryz.underlying5 e4
 obtain ⟨b4, hb4⟩ := u8_of wf4
 rw [hb4] at c4
 have e5 : DataW.trod enc Tryz.prog w base spare held m 3 ((cs.drop 5).take (Tryz.prog.cellsOf 3)) = some (xs[5]'(by omega)) := (hf 5 _ rfl).trans (g 5 (by omega))
 rw [show Tryz.prog.cellsOf 3 = 1 by kernel_rfl] at e5
 obtain ⟨n5, c5, _, wf5⟩ := DataW.trod_int Tryz.underlying3 e5
 refine ⟨⟨n0, n1, n2, n3, b4, n5⟩, ?_, ⟨trivial, i64_of wf0, i64_of wf1, i64_of wf2, i64_of wf3, i64_of wf5⟩⟩
 have d0 : cs.drop 0 = (cs.drop 0).take 1 ++ cs.drop 1 := by
  have := (List.take_append_drop 1 (cs.drop 0)).symm
  rwa [List.drop_drop] at this
 have d1 : cs.drop 1 = (cs.drop 1).take 1 ++ cs.drop 2 := by
  have := (List.take_append_drop 1 (cs.drop 1)).symm
  rwa [List.drop_drop] at this
 have d2 : cs.drop 2 = (cs.drop 2).take 1 ++ cs.drop 3 := by
  have := (List.take_append_drop 1 (cs.drop 2)).symm
  rwa [List.drop_drop] at this
 have d3 : cs.drop 3 = (cs.drop 3).take 1 ++ cs.drop 4 := by
  have := (List.take_append_drop 1 (cs.drop 3)).symm
  rwa [List.drop_drop] at this
 have d4 : cs.drop 4 = (cs.drop 4).take 1 ++ cs.drop 5 := by
  have := (List.take_append_drop 1 (cs.drop 4)).symm
  rwa [List.drop_drop] at this
 have d5 : cs.drop 5 = (cs.drop 5).take 1 := by rw [List.take_of_length_le (by simp; omega)]
 show cs = _ ++ (_ ++ (_ ++ (_ ++ (_ ++ (_)))))
 have dz : cs = cs.drop 0 := rfl
 rw [dz, d0, d1, d2, d3, d4, d5, c0, c1, c2, c3, c4, c5] <;> rfl
end
structure InFaultV (W : World) (v : Value) (l : List FaultV) : Prop where
 sl : SlW W 6 v l.length (l.flatMap FaultV.cells)
 sh : ∃ a c, v = .slice a l.length c ∧ l.length ≤ c ∧ c ≤ 9223372036854775807
 el : ∀ x ∈ l, FaultVOk W x
 len : l.length * 48 ≤ 140737488351232
abbrev FaultVS (w : World) := {x : FaultV // FaultVOk w x}
section
variable {H : Type} {enc : TypeId × Value → H} {w : World} {base : Nat} {spare : Nat → Bool} {held : Bool}
theorem opens_FaultV {n : Nat} {cs : List Value} {y : DataW H × List MemPlace} (h : DataW.trod enc Tryz.prog w base spare held n 58 cs = some y) (hs : Small Tryz.prog 58 y.1) : ∃ (v : Value) (l : List FaultV), cs = [v] ∧ InFaultV w v l := by
 obtain ⟨v, l, h1, h2, h3, h4⟩ := open_sls (encd := fun x : FaultVS w => x.1.cells) (good := fun _ => True) Tryz.underlying58 (by kernel_rfl) (by decide) (by kernel_rfl : Tryz.prog.bytesOf 119 = 48) (fun x => FaultV.len x.2) (fun n cs y hy hsm => by
  obtain ⟨x, hx, ok⟩ := open_FaultV hy hsm
  exact ⟨⟨x, ok⟩, hx, trivial⟩) h hs
 obtain ⟨a, len, cap, h5, h6, h7⟩ := slice_shape Tryz.underlying58 h
 rw [h1] at h5
 simp only [List.cons.injEq, and_true] at h5
 obtain ⟨a', k', hv⟩ := h2.len
 rw [h5] at hv
 simp only [Value.slice.injEq] at hv
 obtain ⟨rfl, rfl, rfl⟩ := hv
 have e : (l.map (·.1)).flatMap FaultV.cells = l.flatMap fun x => x.1.cells := by rw [List.flatMap_map]
 refine ⟨v, l.map (·.1), h1, ⟨?_, ?_, ?_, ?_⟩⟩
 ·rw [e, List.length_map]; exact h2
 ·rw [List.length_map]; exact ⟨_, _, h5, h6, h7⟩
 ·intro x hx
  obtain ⟨z, _, rfl⟩ := List.mem_map.1 hx
  exact z.2
 ·rw [List.length_map]; exact h4
end
structure SOpV where
 kind_ : Int
 which_ : Int
 i_ : Int
 j_ : Int
 b_V : Value
 b_ : List Byte
def SOpV.cells (x : SOpV) : List Value := [.int .i64 x.kind_] ++ ([.int .i64 x.which_] ++ ([.int .i64 x.i_] ++ ([.int .i64 x.j_] ++ ([x.b_V]))))
structure SOpVOk (w : World) (x : SOpV) : Prop where
 triv : True
 kind_ : -9223372036854775808 ≤ x.kind_ ∧ x.kind_ ≤ 9223372036854775807
 which_ : -9223372036854775808 ≤ x.which_ ∧ x.which_ ≤ 9223372036854775807
 i_ : -9223372036854775808 ≤ x.i_ ∧ x.i_ ≤ 9223372036854775807
 j_ : -9223372036854775808 ≤ x.j_ ∧ x.j_ ≤ 9223372036854775807
 b_ : InB w x.b_V x.b_
theorem SOpV.len {w : World} {x : SOpV} (h : SOpVOk w x) : x.cells.length = 5 := by
 simp [SOpV.cells]
section
variable {H : Type} {enc : TypeId × Value → H} {w : World} {base : Nat} {spare : Nat → Bool} {held : Bool}
theorem open_SOpV {n : Nat} {cs : List Value} {y : DataW H × List MemPlace} (h : DataW.trod enc Tryz.prog w base spare held n 68 cs = some y) (hs : Small Tryz.prog 68 y.1) : ∃ x : SOpV, cs = x.cells ∧ SOpVOk w x := by
 obtain ⟨xs, m, _, hx, hl, hn, hf⟩ := DataW.trod_struct Tryz.underlying68 h
 rw [show Tryz.prog.cellsOf 68 = 5 by kernel_rfl] at hl
 have hn : xs.length = 5 := hn
 have g : ∀ i (hi : i < xs.length), xs[i]? = some xs[i] := fun i hi => List.getElem?_eq_getElem hi
 rw [hx] at hs
 have e0 : DataW.trod enc Tryz.prog w base spare held m 3 ((cs.drop 0).take (Tryz.prog.cellsOf 3)) = some (xs[0]'(by omega)) := (hf 0 _ rfl).trans (g 0 (by omega))
 rw [show Tryz.prog.cellsOf 3 = 1 by kernel_rfl] at e0
 obtain ⟨n0, c0, _, wf0⟩ := DataW.trod_int Tryz.underlying3 e0
 have e1 : DataW.trod enc Tryz.prog w base spare held m 3 ((cs.drop 1).take (Tryz.prog.cellsOf 3)) = some (xs[1]'(by omega)) := (hf 1 _ rfl).trans (g 1 (by omega))
 rw [show Tryz.prog.cellsOf 3 = 1 by kernel_rfl] at e1
 obtain ⟨n1, c1, _, wf1⟩ := DataW.trod_int Tryz.underlying3 e1
 have e2 : DataW.trod enc Tryz.prog w base spare held m 3 ((cs.drop 2).take (Tryz.prog.cellsOf 3)) = some (xs[2]'(by omega)) := (hf 2 _ rfl).trans (g 2 (by omega))
 rw [show Tryz.prog.cellsOf 3 = 1 by kernel_rfl] at e2
 obtain ⟨n2, c2, _, wf2⟩ := DataW.trod_int Tryz.underlying3 e2
 have e3 : DataW.trod enc Tryz.prog w base spare held m 3 ((cs.drop 3).take (Tryz.prog.cellsOf 3)) = some (xs[3]'(by omega)) := (hf 3 _ rfl).trans (g 3 (by omega))
 rw [show Tryz.prog.cellsOf 3 = 1 by kernel_rfl] at e3
 obtain ⟨n3, c3, _, wf3⟩ := DataW.trod_int Tryz.underlying3 e3
 have e4 : DataW.trod enc Tryz.prog w base spare held m 66 ((cs.drop 4).take (Tryz.prog.cellsOf 66)) = some (xs[4]'(by omega)) := (hf 4 _ rfl).trans (g 4 (by omega))
 rw [show Tryz.prog.cellsOf 66 = 1 by kernel_rfl] at e4
 have hs4 := Small.part (j := 4) Tryz.underlying68 hs rfl (by rw [List.getElem?_map, g 4 (by omega)]; rfl)
 obtain ⟨v4, l4, c4, ok4⟩ := open_bs Tryz.underlying66 Tryz.underlying5 (by kernel_rfl) (by kernel_rfl) e4 hs4
 refine ⟨⟨n0, n1, n2, n3, v4, l4⟩, ?_, ⟨trivial, i64_of wf0, i64_of wf1, i64_of wf2, i64_of wf3, ok4⟩⟩
 have d0 : cs.drop 0 = (cs.drop 0).take 1 ++ cs.drop 1 := by
  have := (List.take_append_drop 1 (cs.drop 0)).symm
  rwa [List.drop_drop] at this
 have d1 : cs.drop 1 = (cs.drop 1).take 1 ++ cs.drop 2 := by
  have := (List.take_append_drop 1 (cs.drop 1)).symm
  rwa [List.drop_drop] at this
 have d2 : cs.drop 2 = (cs.drop 2).take 1 ++ cs.drop 3 := by
  have := (List.take_append_drop 1 (cs.drop 2)).symm
  rwa [List.drop_drop] at this
 have d3 : cs.drop 3 = (cs.drop 3).take 1 ++ cs.drop 4 := by
  have := (List.take_append_drop 1 (cs.drop 3)).symm
  rwa [List.drop_drop] at this
 have d4 : cs.drop 4 = (cs.drop 4).take 1 := by rw [List.take_of_length_le (by simp; omega)]
 show cs = _ ++ (_ ++ (_ ++ (_ ++ (_))))
 have dz : cs = cs.drop 0 := rfl
 rw [dz, d0, d1, d2, d3, d4, c0, c1, c2, c3, c4] <;> rfl
end
structure InSOpV (W : World) (v : Value) (l : List SOpV) : Prop where
 sl : SlW W 5 v l.length (l.flatMap SOpV.cells)
 sh : ∃ a c, v = .slice a l.length c ∧ l.length ≤ c ∧ c ≤ 9223372036854775807
 el : ∀ x ∈ l, SOpVOk W x
 len : l.length * 56 ≤ 140737488351232
abbrev SOpVS (w : World) := {x : SOpV // SOpVOk w x}
section
variable {H : Type} {enc : TypeId × Value → H} {w : World} {base : Nat} {spare : Nat → Bool} {held : Bool}
theorem opens_SOpV {n : Nat} {cs : List Value} {y : DataW H × List MemPlace} (h : DataW.trod enc Tryz.prog w base spare held n 60 cs = some y) (hs : Small Tryz.prog 60 y.1) : ∃ (v : Value) (l : List SOpV), cs = [v] ∧ InSOpV w v l := by
 obtain ⟨v, l, h1, h2, h3, h4⟩ := open_sls (encd := fun x : SOpVS w => x.1.cells) (good := fun _ => True) Tryz.underlying60 (by kernel_rfl) (by decide) (by kernel_rfl : Tryz.prog.bytesOf 68 = 56) (fun x => SOpV.len x.2) (fun n cs y hy hsm => by
  obtain ⟨x, hx, ok⟩ := open_SOpV hy hsm
  exact ⟨⟨x, ok⟩, hx, trivial⟩) h hs
 obtain ⟨a, len, cap, h5, h6, h7⟩ := slice_shape Tryz.underlying60 h
 rw [h1] at h5
 simp only [List.cons.injEq, and_true] at h5
 obtain ⟨a', k', hv⟩ := h2.len
 rw [h5] at hv
 simp only [Value.slice.injEq] at hv
 obtain ⟨rfl, rfl, rfl⟩ := hv
 have e : (l.map (·.1)).flatMap SOpV.cells = l.flatMap fun x => x.1.cells := by rw [List.flatMap_map]
 refine ⟨v, l.map (·.1), h1, ⟨?_, ?_, ?_, ?_⟩⟩
 ·rw [e, List.length_map]; exact h2
 ·rw [List.length_map]; exact ⟨_, _, h5, h6, h7⟩
 ·intro x hx
  obtain ⟨z, _, rfl⟩ := List.mem_map.1 hx
  exact z.2
 ·rw [List.length_map]; exact h4
end
structure WorldV where
 pages_ : Int
 text_ : Int
 window_ : Int
 key_ : List Byte
 round_ : BitVec 64
 faults_V : Value
 faults_ : List FaultV
 first_A : Int
 first_B : Int
 n_A : Int
 n_B : Int
 size_A : Int
 size_B : Int
 script_V : Value
 script_ : List SOpV
def WorldV.cells (x : WorldV) : List Value := [.int .i64 x.pages_] ++ ([.int .i64 x.text_] ++ ([.int .i64 x.window_] ++ (x.key_.map u8b ++ ([u64b x.round_] ++ ([x.faults_V] ++ ([.int .i64 x.first_A, .int .i64 x.first_B] ++ ([.int .i64 x.n_A, .int .i64 x.n_B] ++ ([.int .i64 x.size_A, .int .i64 x.size_B] ++ ([x.script_V])))))))))
structure WorldVOk (w : World) (x : WorldV) : Prop where
 triv : True
 pages_ : -9223372036854775808 ≤ x.pages_ ∧ x.pages_ ≤ 9223372036854775807
 text_ : -9223372036854775808 ≤ x.text_ ∧ x.text_ ≤ 9223372036854775807
 window_ : -9223372036854775808 ≤ x.window_ ∧ x.window_ ≤ 9223372036854775807
 key_ : x.key_.length = 32
 faults_ : InFaultV w x.faults_V x.faults_
 first_A : -9223372036854775808 ≤ x.first_A ∧ x.first_A ≤ 9223372036854775807
 first_B : -9223372036854775808 ≤ x.first_B ∧ x.first_B ≤ 9223372036854775807
 n_A : -9223372036854775808 ≤ x.n_A ∧ x.n_A ≤ 9223372036854775807
 n_B : -9223372036854775808 ≤ x.n_B ∧ x.n_B ≤ 9223372036854775807
 size_A : -9223372036854775808 ≤ x.size_A ∧ x.size_A ≤ 9223372036854775807
 size_B : -9223372036854775808 ≤ x.size_B ∧ x.size_B ≤ 9223372036854775807
 script_ : InSOpV w x.script_V x.script_
section
variable {H : Type} {enc : TypeId × Value → H} {w : World} {base : Nat} {spare : Nat → Bool} {held : Bool}
theorem open_WorldV {n : Nat} {cs : List Value} {y : DataW H × List MemPlace} (h : DataW.trod enc Tryz.prog w base spare held n 62 cs = some y) (hs : Small Tryz.prog 62 y.1) : ∃ x : WorldV, cs = x.cells ∧ WorldVOk w x := by
 obtain ⟨xs, m, _, hx, hl, hn, hf⟩ := DataW.trod_struct Tryz.underlying62 h
 rw [show Tryz.prog.cellsOf 62 = 44 by kernel_rfl] at hl
 have hn : xs.length = 10 := hn
 have g : ∀ i (hi : i < xs.length), xs[i]? = some xs[i] := fun i hi => List.getElem?_eq_getElem hi
 rw [hx] at hs
 have e0 : DataW.trod enc Tryz.prog w base spare held m 3 ((cs.drop 0).take (Tryz.prog.cellsOf 3)) = some (xs[0]'(by omega)) := (hf 0 _ rfl).trans (g 0 (by omega))
 rw [show Tryz.prog.cellsOf 3 = 1 by kernel_rfl] at e0
 obtain ⟨n0, c0, _, wf0⟩ := DataW.trod_int Tryz.underlying3 e0
 have e1 : DataW.trod enc Tryz.prog w base spare held m 3 ((cs.drop 1).take (Tryz.prog.cellsOf 3)) = some (xs[1]'(by omega)) := (hf 1 _ rfl).trans (g 1 (by omega))
 rw [show Tryz.prog.cellsOf 3 = 1 by kernel_rfl] at e1
 obtain ⟨n1, c1, _, wf1⟩ := DataW.trod_int Tryz.underlying3 e1
 have e2 : DataW.trod enc Tryz.prog w base spare held m 3 ((cs.drop 2).take (Tryz.prog.cellsOf 3)) = some (xs[2]'(by omega)) := (hf 2 _ rfl).trans (g 2 (by omega))
 rw [show Tryz.prog.cellsOf 3 = 1 by kernel_rfl] at e2
 obtain ⟨n2, c2, _, wf2⟩ := DataW.trod_int Tryz.underlying3 e2
 have e3 : DataW.trod enc Tryz.prog w base spare held m 42 ((cs.drop 3).take (Tryz.prog.cellsOf 42)) = some (xs[3]'(by omega)) := (hf 3 _ rfl).trans (g 3 (by omega))
 rw [show Tryz.prog.cellsOf 42 = 32 by kernel_rfl] at e3
 obtain ⟨l3, c3, ok3⟩ := open_ba e3
 have e4 : DataW.trod enc Tryz.prog w base spare held m 43 ((cs.drop 35).take (Tryz.prog.cellsOf 43)) = some (xs[4]'(by omega)) := (hf 4 _ rfl).trans (g 4 (by omega))
 rw [show Tryz.prog.cellsOf 43 = 1 by kernel_rfl] at e4
 obtain ⟨n4, c4, _, wf4⟩ := DataW.trod_int Tryz.underlying43 e4
 obtain ⟨b4, hb4⟩ := u64_of wf4
 rw [hb4] at c4
 have e5 : DataW.trod enc Tryz.prog w base spare held m 58 ((cs.drop 36).take (Tryz.prog.cellsOf 58)) = some (xs[5]'(by omega)) := (hf 5 _ rfl).trans (g 5 (by omega))
 rw [show Tryz.prog.cellsOf 58 = 1 by kernel_rfl] at e5
 have hs5 := Small.part (j := 5) Tryz.underlying62 hs rfl (by rw [List.getElem?_map, g 5 (by omega)]; rfl)
 obtain ⟨v5, l5, c5, ok5⟩ := opens_FaultV e5 hs5
 have e6 : DataW.trod enc Tryz.prog w base spare held m 59 ((cs.drop 37).take (Tryz.prog.cellsOf 59)) = some (xs[6]'(by omega)) := (hf 6 _ rfl).trans (g 6 (by omega))
 rw [show Tryz.prog.cellsOf 59 = 2 by kernel_rfl] at e6
 obtain ⟨n6, m6, c6, wf6, wg6⟩ := open_i2 Tryz.underlying59 Tryz.underlying3 (by kernel_rfl) (by kernel_rfl) e6
 have e7 : DataW.trod enc Tryz.prog w base spare held m 59 ((cs.drop 39).take (Tryz.prog.cellsOf 59)) = some (xs[7]'(by omega)) := (hf 7 _ rfl).trans (g 7 (by omega))
 rw [show Tryz.prog.cellsOf 59 = 2 by kernel_rfl] at e7
 obtain ⟨n7, m7, c7, wf7, wg7⟩ := open_i2 Tryz.underlying59 Tryz.underlying3 (by kernel_rfl) (by kernel_rfl) e7
 have e8 : DataW.trod enc Tryz.prog w base spare held m 59 ((cs.drop 41).take (Tryz.prog.cellsOf 59)) = some (xs[8]'(by omega)) := (hf 8 _ rfl).trans (g 8 (by omega))
 rw [show Tryz.prog.cellsOf 59 = 2 by kernel_rfl] at e8
 obtain ⟨n8, m8, c8, wf8, wg8⟩ := open_i2 Tryz.underlying59 Tryz.underlying3 (by kernel_rfl) (by kernel_rfl) e8
 have e9 : DataW.trod enc Tryz.prog w base spare held m 60 ((cs.drop 43).take (Tryz.prog.cellsOf 60)) = some (xs[9]'(by omega)) := (hf 9 _ rfl).trans (g 9 (by omega))
 rw [show Tryz.prog.cellsOf 60 = 1 by kernel_rfl] at e9
 have hs9 := Small.part (j := 9) Tryz.underlying62 hs rfl (by rw [List.getElem?_map, g 9 (by omega)]; rfl)
 obtain ⟨v9, l9, c9, ok9⟩ := opens_SOpV e9 hs9
 refine ⟨⟨n0, n1, n2, l3, b4, v5, l5, n6, m6, n7, m7, n8, m8, v9, l9⟩, ?_, ⟨trivial, i64_of wf0, i64_of wf1, i64_of wf2, ok3, ok5, i64_of wf6, i64_of wg6, i64_of wf7, i64_of wg7, i64_of wf8, i64_of wg8, ok9⟩⟩
 have d0 : cs.drop 0 = (cs.drop 0).take 1 ++ cs.drop 1 := by
  have := (List.take_append_drop 1 (cs.drop 0)).symm
  rwa [List.drop_drop] at this
 have d1 : cs.drop 1 = (cs.drop 1).take 1 ++ cs.drop 2 := by
  have := (List.take_append_drop 1 (cs.drop 1)).symm
  rwa [List.drop_drop] at this
 have d2 : cs.drop 2 = (cs.drop 2).take 1 ++ cs.drop 3 := by
  have := (List.take_append_drop 1 (cs.drop 2)).symm
  rwa [List.drop_drop] at this
 have d3 : cs.drop 3 = (cs.drop 3).take 32 ++ cs.drop 35 := by
  have := (List.take_append_drop 32 (cs.drop 3)).symm
  rwa [List.drop_drop] at this
 have d4 : cs.drop 35 = (cs.drop 35).take 1 ++ cs.drop 36 := by
  have := (List.take_append_drop 1 (cs.drop 35)).symm
  rwa [List.drop_drop] at this
 have d5 : cs.drop 36 = (cs.drop 36).take 1 ++ cs.drop 37 := by
  have := (List.take_append_drop 1 (cs.drop 36)).symm
  rwa [List.drop_drop] at this
 have d6 : cs.drop 37 = (cs.drop 37).take 2 ++ cs.drop 39 := by
  have := (List.take_append_drop 2 (cs.drop 37)).symm
  rwa [List.drop_drop] at this
 have d7 : cs.drop 39 = (cs.drop 39).take 2 ++ cs.drop 41 := by
  have := (List.take_append_drop 2 (cs.drop 39)).symm
  rwa [List.drop_drop] at this
 have d8 : cs.drop 41 = (cs.drop 41).take 2 ++ cs.drop 43 := by
  have := (List.take_append_drop 2 (cs.drop 41)).symm
  rwa [List.drop_drop] at this
 have d9 : cs.drop 43 = (cs.drop 43).take 1 := by rw [List.take_of_length_le (by simp; omega)]
 show cs = _ ++ (_ ++ (_ ++ (_ ++ (_ ++ (_ ++ (_ ++ (_ ++ (_ ++ (_)))))))))
 have dz : cs = cs.drop 0 := rfl
 rw [dz, d0, d1, d2, d3, d4, d5, d6, d7, d8, d9, c0, c1, c2, c3, c4, c5, c6, c7, c8, c9] <;> rfl
end
end Go.Sl
namespace Go.Sl
open Go Go.Proofs
attribute [local irreducible] pt old pur ex all den denOps denS xOps xC cX CX xthen xblk xcut xloop xng retX resX Calls PV Rd Con
attribute [local irreducible] hostA pgA PagerS.loadP PagerS.saveP
open SlotS (SL Acc Fit)
open PagerS (PS Over)
def sizedTo (b : List Byte) (n m : Nat) : List Byte := (List.range n).map fun k => if k < m then b.getD k 0#8 else 0#8
theorem sizedTo_len (b : List Byte) (n m : Nat) : (sizedTo b n m).length = n := by simp [sizedTo]
theorem sizedTo_zero (b : List Byte) (n : Nat) : sizedTo b n 0 = List.replicate n 0#8 := by
 apply List.ext_getElem (by simp [sizedTo]); intro j h1 h2; simp [sizedTo]
theorem sizedTo_set {b : List Byte} {n m : Nat} (hb : m < b.length) (h : m < n) : (sizedTo b n m).set m b[m] = sizedTo b n (m + 1) := by
 apply List.ext_getElem (by simp [sizedTo])
 intro j h1 h2
 rw [List.getElem_set]
 simp only [sizedTo, List.getElem_map, List.getElem_range]
 by_cases e : m = j
 ·subst e
  rw [if_pos rfl, if_pos (by omega), List.getD_eq_getElem?_getD, List.getElem?_eq_getElem hb]; rfl
 ·rw [if_neg e]
  by_cases e2 : j < m
  ·rw [if_pos e2, if_pos (by omega)]
  ·rw [if_neg e2, if_neg (by omega)]
def sizedB (b : List Byte) (n : Nat) : List Byte := sizedTo b n (min n b.length)
theorem sizedB_len (b : List Byte) (n : Nat) : (sizedB b n).length = n := sizedTo_len _ _ _
theorem sized_x {L : List Asrt} {vb : Value} {b : List Byte} (hb : Bs L vb b) (n : Nat) (hn : n ≤ 4096) : Con Tryz.prog 30 [vb, nvv n] L (fun r M => ∃ g, r = fsl g n ∧ M = blk g (sizedB b n) :: L) := by
 refine Con.get (fun w0 w F H => hb.sh _ _ _ H) ?_
 rintro ⟨ba, bc, rfl, hbc, hbcm⟩
 refine fn_y Tryz.func30 Tryz.mixed ?_
 intro w0
 refine Y5 ?_
 refine Zm3 (f := u8b) (a := 0#8) rfl rfl rfl qS qS qS ?_; intro b8
 refine V5 ?_
 refine Zgo [(6, 6), (9, 26)] (by kernel_rfl) (fun i : Nat => i ≤ min n b.length) (fun i => blk b8 (sizedTo b n i) :: L) (fun i => [(6, nvv i)]) (fun i => n - i) 0 (Nat.zero_le _) (by rw [sizedTo_zero]; exact qI) ⟨rfl, trivial⟩ ?_
 intro i u hi
 have hl := sizedTo_len b n i
 by_cases h1 : i < n
 ·by_cases h2 : i < b.length
  ·refine Zgt (fun F w H => (hb.imp (Imp.arr (M := _) qV)).some (by omega) H) ?_
   rintro ⟨b1, o1, rfl⟩
   refine Y4 ?_
   refine Zos 11 rfl (h1) ?_
   refine Y5 ?_
   refine Zos 16 rfl (h2) ?_
   refine Y9 ?_
   refine Zff rfl (((hb.imp qI).rd.at h2 (getM h2))) ?_
   refine Y1 ?_
   refine Zht rfl rfl qR qZ (setL (f := u8b) (l := sizedTo b n i)) ?_
   refine V1 ?_
   rw [sizedTo_set h2 h1]
   refine V5 ?_
   exact Zgl (i + 1) qO (by omega) qI ⟨rfl, trivial⟩
  ·have hie : i = min n b.length := by omega
   refine Y4 ?_
   refine Zos 11 rfl (h1) ?_
   refine Y5 ?_
   refine Zot 16 rfl (h2) ?_
   refine V7 ?_
   refine rx1 (Zhc rfl (Zg7)) ?_
   refine ⟨_, ⟨b8, rfl, rfl⟩, ?_⟩
   unfold sizedB
   rw [← hie]
   exact qI
 ·have hie : i = min n b.length := by omega
  refine Y4 ?_
  refine Zot 11 rfl (h1) ?_
  refine V12 ?_
  refine rx1 (Zhc rfl (Zg7)) ?_
  refine ⟨_, ⟨b8, rfl, rfl⟩, ?_⟩
  unfold sizedB
  rw [← hie]
  exact qI
def cpTo (y p : List Byte) (m : Nat) : List Byte := y.take m ++ p.drop m
theorem cpTo_len {y p : List Byte} (h : y.length = p.length) (m : Nat) : (cpTo y p m).length = p.length := by unfold cpTo; rw [List.length_append, List.length_take, List.length_drop]; omega
theorem cpTo_set {y p : List Byte} {m : Nat} (h : y.length = p.length) (hm : m < y.length) : (cpTo y p m).set m y[m] = cpTo y p (m + 1) := by
 unfold cpTo
 have hl : (y.take m).length = m := by rw [List.length_take]; omega
 rw [List.take_succ_eq_append_getElem hm, List.append_assoc]
 rw [List.set_append_right _ _ (by omega), hl, Nat.sub_self, List.drop_eq_getElem_cons (show m < p.length by omega)]
 rfl
theorem cpTo_all {y p : List Byte} (h : y.length = p.length) : cpTo y p p.length = y := by
 unfold cpTo
 rw [List.take_of_length_le (by omega), List.drop_of_length_le (Nat.le_refl _), List.append_nil]
theorem sop_B {o : SOpV} : (o.cells.toArray)[4]? = some o.b_V := rfl
theorem listF_x {L : List Asrt} {bo a b n : Nat} {o : SOpV} {A B : List Byte} (ho : Bs L o.b_V o.b_) (hA : A.length = n) (hB : B.length = n) (hn : n ≤ 4096) :
  Con Tryz.prog 33 [fsl a n, fsl b n, .pointer (some ⟨bo, 0, none⟩)] (blk a A :: blk b B :: cl bo o.cells.toArray 68 :: L) (fun r M => M = blk a (xorH B o.b_) :: blk b A :: cl bo o.cells.toArray 68 :: L) := by
 have hxl : (xorH B o.b_).length = A.length := by rw [xorH_len]; omega
 have hyl : A.length = B.length := by omega
 have htn := turned_x (L := blk a A :: blk b B :: L) (bs_full (l := A) (n := n) .here hA (by omega)) (bs_full (l := B) (n := n) (.there .here) hB (by omega)) (ho.imp (Imp.tail.trans Imp.tail)) (by omega) (by omega)
 refine fn_y Tryz.func33 Tryz.mixed ?_
 intro w0
 refine Y4 ?_
 refine Zhp rfl qH (sop_B) ?_
 refine Zor (c := htn) (k := ?_)
 rintro _ _ ⟨xa, xc, ya, yc, rfl, rfl⟩
 refine V7 ?_
 generalize xorH B o.b_ = Xs at *
 refine V3 ?_
 refine Zgo [(7, 7), (17, 35)] (by kernel_rfl) (fun i : Nat => i ≤ A.length) (fun i => blk a (cpTo Xs A i) :: ownB xa xc Xs :: ownB ya yc A :: blk b B :: cl bo o.cells.toArray 68 :: L) (fun i => [(7, nvv i)]) (fun i => A.length - i) 0 (Nat.zero_le _) qI ⟨rfl, trivial⟩ ?_
 intro i u hi
 have hcl := cpTo_len hxl i
 by_cases h1 : i < n
 ·have h2 : i < Xs.length := by omega
  refine Zgt (fun F w H => own_some (a := xa) qH (by omega) H) ?_
  rintro ⟨g, rfl⟩
  refine Y5 ?_
  refine Zos 20 rfl (h1) ?_
  refine Y5 ?_
  refine Zos 25 rfl (h2) ?_
  refine Y9 ?_
  refine Zff rfl (((Rd.own (n := Xs.length) qH).at0 h2 (getM h2))) ?_
  refine Y1 ?_
  refine Zht rfl rfl qR qZ (setL (f := u8b) (l := cpTo Xs A i)) ?_
  refine V1 ?_
  rw [cpTo_set hxl h2]
  refine V5 ?_
  exact Zgl (i + 1) qO (by omega) qI ⟨rfl, trivial⟩
 ·have hie : i = A.length := by omega
  subst hie
  refine Y5 ?_
  refine Zot 20 rfl (h1) ?_
  refine V8 ?_
  rw [cpTo_all hxl]
  refine V3 ?_
  refine Zgo [(8, 8), (36, 54)] (by kernel_rfl) (fun i : Nat => i ≤ B.length) (fun i => blk b (cpTo A B i) :: ownB ya yc A :: blk a Xs :: cl bo o.cells.toArray 68 :: L) (fun i => [(8, nvv i)]) (fun i => B.length - i) 0 (Nat.zero_le _) qI ⟨rfl, trivial⟩ ?_
  intro i u2 hi2
  have hcl2 := cpTo_len hyl i
  by_cases h3 : i < n
  ·have h4 : i < A.length := by omega
   refine Zgt (fun F w H => own_some (a := ya) qH (by omega) H) ?_
   rintro ⟨g, rfl⟩
   refine Y5 ?_
   refine Zos 39 rfl (h3) ?_
   refine Y5 ?_
   refine Zos 44 rfl (h4) ?_
   refine Y9 ?_
   refine Zff rfl (((Rd.own (n := A.length) qH).at0 h4 (getM h4))) ?_
   refine Y1 ?_
   refine Zht rfl rfl qR qZ (setL (f := u8b) (l := cpTo A B i)) ?_
   refine V1 ?_
   rw [cpTo_set hyl h4]
   refine V5 ?_
   exact Zgl (i + 1) qO (by omega) qI ⟨rfl, trivial⟩
  ·have hie2 : i = B.length := by omega
   subst hie2
   refine Y5 ?_
   refine Zot 39 rfl (h3) ?_
   refine V8 ?_
   rw [cpTo_all hyl]
   first|refine rx0 ?_|refine rx0n ?_
   exact ⟨_, rfl, qI⟩
theorem listF_con {L : List Asrt} {bo n : Nat} {o : SOpV} (ho : Bs L o.b_V o.b_) (hn : n ≤ 4096) : FCon 33 #[] #[.pointer (some ⟨bo, 0, none⟩)] n (cl bo o.cells.toArray 68 :: L) (fun A B => (xorH B o.b_, A)) (fun _ _ _ _ Z => Z = cl bo o.cells.toArray 68 :: L) :=
 ⟨by kernel_rfl, fun A B hA hB => ⟨by rw [xorH_len]; exact hB, hA⟩, fun a b A B hA hB => (listF_x ho hA hB hn).mono fun r M hM => ⟨M, Imp.refl _, _, rfl, hM⟩⟩
end Go.Sl
namespace Go.Sl
open Go Go.Proofs
attribute [local irreducible] pt old pur ex all den denOps denS xOps xC cX CX xthen xblk xcut xloop xng retX resX Calls PV Rd Con
attribute [local irreducible] hostA pgA PagerS.loadP PagerS.saveP
open SlotS (SL Acc Fit)
open PagerS (PS Over)
def wds (x : WorldV) : Array Value := x.cells.toArray
section
variable {x : WorldV}
theorem wds_len (hk : x.key_.length = 32) : (wds x).size = 44 := by unfold wds; simp [WorldV.cells, hk]
theorem wds_pages : (wds x)[0]? = some (.int .i64 x.pages_) := by unfold wds; simp [WorldV.cells]
theorem wds_text : (wds x)[1]? = some (.int .i64 x.text_) := by unfold wds; simp [WorldV.cells]
theorem wds_window : (wds x)[2]? = some (.int .i64 x.window_) := by unfold wds; simp [WorldV.cells]
theorem wds_key (hk : x.key_.length = 32) : (wds x).extract 3 (3 + 32) = (x.key_.map u8b).toArray := by
 unfold wds
 apply Array.ext'
 simp [WorldV.cells, List.extract_eq_take_drop, List.drop_append, List.take_append, List.take_of_length_le, hk]
theorem wds_round (hk : x.key_.length = 32) : (wds x)[35]? = some (u64b x.round_) := by unfold wds; simp [WorldV.cells, List.getElem?_append, List.getElem?_cons, hk]
theorem wds_nA (hk : x.key_.length = 32) : (wds x)[39]? = some (.int .i64 x.n_A) := by unfold wds; simp [WorldV.cells, List.getElem?_append, List.getElem?_cons, hk]
theorem wds_sizeA (hk : x.key_.length = 32) : (wds x)[41]? = some (.int .i64 x.size_A) := by unfold wds; simp [WorldV.cells, List.getElem?_append, List.getElem?_cons, hk]
theorem wds_script (hk : x.key_.length = 32) : (wds x)[43]? = some x.script_V := by unfold wds; simp [WorldV.cells, List.getElem?_append, List.getElem?_cons, hk]
theorem wds_one {fa sa : Option Addr} {fn fc sn sc : Nat} (hf : x.faults_V = .slice fa fn fc) (hs : x.script_V = .slice sa sn sc) : (wds x).toList.all oneC = true := by
 unfold wds
 simp [WorldV.cells, hf, hs, oneC]
end
def nPg (x : WorldV) : Nat := 1 + withinN x.pages_ 24
def nTx (x : WorldV) : Nat := 1 + withinN (IntKind.i64.wrap (x.text_ - 1)) 400
def nSz (x : WorldV) : Nat := 1 + withinN (IntKind.i64.wrap (x.size_A - 1)) (nTx x)
def nN (x : WorldV) : Nat := withinN x.n_A (nPg x * (nTx x / nSz x) + 1)
def nWn (x : WorldV) : Nat := 2 + withinN (IntKind.i64.wrap (x.window_ - 2)) 15
def sl0 (x : WorldV) : SL := ⟨0, nN x, nSz x, nTx x / nSz x, []⟩
theorem take_fit {n per a : Nat} (h1 : 1 ≤ per) (h : n ≤ a * per) : SlotS.takeN n per ≤ a := by
 unfold SlotS.takeN
 have e1 := Nat.div_add_mod n per
 have h2 : n / per ≤ a := by
  have := Nat.div_le_div_right (c := per) h
  rwa [Nat.mul_div_cancel _ h1] at this
 by_cases h0 : n % per = 0
 ·rw [if_pos h0]; omega
 ·rw [if_neg h0]
  have h3 : n / per ≠ a := by
   intro hh
   rw [hh, Nat.mul_comm] at e1
   omega
  omega
structure Nums (x : WorldV) : Prop where
 pg : 1 ≤ nPg x ∧ nPg x ≤ 24
 tx : 1 ≤ nTx x ∧ nTx x ≤ 400
 sz : 1 ≤ nSz x ∧ nSz x ≤ nTx x
 n : nN x ≤ nPg x * (nTx x / nSz x)
 wn : 2 ≤ nWn x ∧ nWn x ≤ 16
theorem nums (x : WorldV) : Nums x := by
 have h1 := (within_is x.pages_ (n := 24) (by omega)).1
 have h2 := (within_is (IntKind.i64.wrap (x.text_ - 1)) (n := 400) (by omega)).1
 have ht : 1 ≤ nTx x ∧ nTx x ≤ 400 := by unfold nTx; omega
 have h3 := (within_is (IntKind.i64.wrap (x.size_A - 1)) (n := nTx x) ht.1).1
 have h4 := (within_is x.n_A (n := nPg x * (nTx x / nSz x) + 1) (by omega)).1
 have h5 := (within_is (IntKind.i64.wrap (x.window_ - 2)) (n := 15) (by omega)).1
 exact ⟨by unfold nPg; omega, ht, by unfold nSz; omega, by unfold nN; omega, by unfold nWn; omega⟩
abbrev psW (x : WorldV) (key : List Byte) : PS := psN key x.round_ (nWn x) (nPg x) (nTx x)
abbrev hsW (x : WorldV) : HostS.HS := hsN (nPg x) (nTx x)
theorem newW (x : WorldV) (key : List Byte) : SlotS.newS 0 (nN x) (nSz x) (psW x key) = 0 := by
 have h := nums x
 have h2 := h.tx; have h3 := h.sz
 have hd : 1 ≤ nTx x / nSz x := Nat.div_pos h3.2 h3.1
 have ht := take_fit hd h.n
 unfold SlotS.newS
 have e1 : (psW x key).text = nTx x := rfl
 have e2 : (psW x key).pages = (nPg x : Int) := rfl
 rw [e1, e2]
 simp only [Int.toNat_natCast]
 rw [if_neg (by omega), if_neg (by omega), if_neg (by omega)]
theorem okW (x : WorldV) {key : List Byte} (hk : key.length = 32) : PagerS.Ok (psW x key) := by
 have h := nums x
 have h1 := h.pg; have h2 := h.tx; have h3 := h.wn
 exact PagerS.ok_fresh hk h3 (by omega) (by omega)
theorem quietW (x : WorldV) {key : List Byte} (hk : key.length = 32) : PagerS.Quiet (psW x key) (hsW x) fun _ => List.replicate (nTx x) 0#8 := PagerS.quiet_fresh (okW x hk) rfl rfl (PagerS.calm_fresh _ _)
theorem fitW (x : WorldV) (key : List Byte) : Fit (sl0 x) (psW x key) := SlotS.fit_fresh (newW x key)
attribute [local irreducible] wds withinN
theorem quiet_x {L : List Asrt} {x : WorldV} (hk : x.key_.length = 32) {key : List Byte} (hk2 : key.length = 32) (hw : Big x.pages_ ∧ Big x.text_ ∧ Big x.window_ ∧ Big x.n_A ∧ Big x.size_A) : Con Tryz.prog 29 [.agg (wds x), .agg (key.map u8b).toArray] L (fun r M => ∃ q pp ph, r = .tuple #[hp q, hp ph, nvv (nSz x), .bool true] ∧ M = slA q pp (sl0 x) :: pgA pp ph (psW x key) :: hostA ph (hsW x) :: L) := by
 have hlen := wds_len hk
 have h := nums x
 have b1 := h.pg; have b2 := h.tx; have b3 := h.sz; have b4 := h.wn; have b5 := h.n
 have hd : 1 ≤ nTx x / nSz x := Nat.div_pos b3.2 b3.1
 have hd2 : nTx x / nSz x ≤ 400 := Nat.le_trans (Nat.div_le_self _ _) b2.2
 have hm : nPg x * (nTx x / nSz x) ≤ 24 * 400 := Nat.mul_le_mul b1.2 hd2
 have x1 := within_x x.pages_ 24 (by omega) (by omega)
 have x2 := within_x (IntKind.i64.wrap (x.text_ - 1)) 400 (by omega) (by omega)
 have x3 := within_x (IntKind.i64.wrap (x.size_A - 1)) (nTx x) (by omega) (by omega)
 have x4 := within_x x.n_A (nPg x * (nTx x / nSz x) + 1) (by omega) (by omega)
 have x5 := within_x (IntKind.i64.wrap (x.window_ - 2)) 15 (by omega) (by omega)
 have w1 := (within_is x.pages_ (n := 24) (by omega)).1
 have w2 := (within_is (IntKind.i64.wrap (x.text_ - 1)) (n := 400) (by omega)).1
 have w3 := (within_is (IntKind.i64.wrap (x.size_A - 1)) (n := nTx x) b2.1).1
 have w5 := (within_is (IntKind.i64.wrap (x.window_ - 2)) (n := 15) (by omega)).1
 have e1 : 1 + withinN x.pages_ 24 = nPg x := rfl
 have e2 : 1 + withinN (IntKind.i64.wrap (x.text_ - 1)) 400 = nTx x := rfl
 have e3 : 1 + withinN (IntKind.i64.wrap (x.size_A - 1)) (nTx x) = nSz x := rfl
 have e5 : 2 + withinN (IntKind.i64.wrap (x.window_ - 2)) 15 = nWn x := rfl
 have hnw := fun (L : List Asrt) => hnew_nil (L := L) (nPg x) (nTx x + 28) (mayN (by omega) ⟨by omega, by omega⟩)
 have hpn := fun ph => pnewN (ph := ph) (key := key) hk2 x.round_ (pn := nPg x) (n := nTx x) (wn := nWn x) (by omega) ⟨by omega, by omega⟩
 have hsn := fun pp ph => slnew_ok (pp := pp) (ph := ph) (okW x hk2) (first := 0) (n := (nN x : Int)) (size := (nSz x : Int)) (by omega) (by omega) (by omega) (newW x key)
 have hs0 : SlotS.freshS 0 (nN x : Int) (nSz x : Int) (psW x key) = sl0 x := rfl
 rw [hs0] at hsn
 have hln := fun q pp => slen_x (q := q) (pp := pp) (s := sl0 x)
 have hsz := fun q pp => ssize_x (q := q) (pp := pp) (s := sl0 x)
 have en : (sl0 x).n = nN x := rfl
 have es : (sl0 x).size = nSz x := rfl
 rw [en] at hln
 rw [es] at hsz
 refine fn_y Tryz.func29 Tryz.mixed ?_
 intro w0
 refine Y1 ?_
 refine Zh5 rfl ?_; intro b2
 refine Zh5 rfl ?_; intro b3
 refine Y7 ?_
 refine Zhp rfl qH (wds_pages) ?_
 refine Zor (c := x1) (k := ?_)
 rintro _ _ ⟨rfl, rfl⟩
 refine Y1 ?_
 refine Zhg (Zma (a := 1) (b := withinN x.pages_ 24) rfl rfl) ?_
 refine V2 ?_
 rw [e1]
 refine Y2 ?_
 refine Zhp rfl qH (wds_text) ?_
 refine Zhg (Zbe (a := x.text_) (b := 1) rfl rfl) ?_
 refine Zor (c := x2) (k := ?_)
 rintro _ _ ⟨rfl, rfl⟩
 refine Y1 ?_
 refine Zhg (Zma (a := 1) (b := withinN (IntKind.i64.wrap (x.text_ - 1)) 400) rfl rfl) ?_
 refine V2 ?_
 rw [e2]
 refine Y2 ?_
 first|refine Zhg (Zl5 (n := 0) rfl rfl) ?_|refine Zhg (Zl3 (n := 0) rfl rfl) ?_
 refine Zhp rfl qH (wds_sizeA hk) ?_
 refine Zhg (Zbe (a := x.size_A) (b := 1) rfl rfl) ?_
 refine Y1 ?_
 refine Zor (c := x3) (k := ?_)
 rintro _ _ ⟨rfl, rfl⟩
 refine Y1 ?_
 refine Zhg (Zma (a := 1) (b := withinN (IntKind.i64.wrap (x.size_A - 1)) (nTx x)) rfl rfl) ?_
 refine V2 ?_
 rw [e3]
 refine Y8 ?_
 first|refine Zhg (Zl5 (n := 0) rfl rfl) ?_|refine Zhg (Zl3 (n := 0) rfl rfl) ?_
 refine Zhp rfl qH (wds_nA hk) ?_
 refine Y4 ?_
 refine Zor (c := x4) (k := ?_)
 rintro _ _ ⟨rfl, rfl⟩
 refine Y7 ?_
 refine Zor (c := hnw []) (k := ?_)
 rintro _ _ ⟨ph, rfl, rfl⟩
 refine Y10 ?_
 refine Zot 54 rfl ((fun hh => hh rfl)) ?_
 refine Y3 ?_
 refine Zhn 57 rfl (rfl) ?_
 refine V3 ?_
 refine Zgp (Imp.arr (N := hostA ph (hsW x) :: cl b2 (wds x) 62 :: cl b3 (key.map u8b).toArray 42 :: L) qV) ?_
 refine Ct.o ?_
 refine Zij ([cl b2 (wds x) 62, cl b3 (key.map u8b).toArray 42]) [4, 6, 7, 8, 9] (.q 0 (.q 1 (.q 3 (.q 5 (.r 2 (.r 4 (.r 6 (.r 7 (.e 8 true (.r 9 (.e 10 false (.q 11 (.q 12 (.q 13 (.q 14 (.q 15 .nil)))))))))))))))) (by kernel_rfl) (by kernel_rfl) (Imp.arr qV) ?_
 refine W1 ?_
 refine Zim rfl (Zol rfl) ?_
 refine W3 ?_
 refine Ziv rfl rfl qH (wds_round hk) ?_
 refine Ziv rfl rfl qH (wds_window) ?_
 refine Ziz rfl (Zbe (a := x.window_) (b := 2) rfl rfl) ?_
 refine Ziq rfl ?_
 refine Zor (c := x5) (k := ?_)
 rintro _ _ ⟨rfl, rfl⟩
 refine Y1 ?_
 refine Zg3 ⟨fun _ => Imp.arr qV, ?_⟩
 refine Ziz rfl (Zma (a := 2) (b := withinN (IntKind.i64.wrap (x.window_ - 2)) 15) rfl rfl) ?_
 refine Ziq rfl ?_
 refine Zor (c := hpn ph) (k := ?_)
 rintro _ _ ⟨pp, rfl, rfl⟩
 refine Y1 ?_
 refine Zg3 ⟨(fun hh => Bool.noConfusion hh), ?_⟩
 refine W6 ?_
 refine Y3 ?_
 refine Zot 74 rfl ((fun hh => hh rfl)) ?_
 refine Y3 ?_
 refine Zhn 77 rfl (rfl) ?_
 refine Y7 ?_
 refine Zor (c := hsn pp ph) (k := ?_)
 rintro _ _ ⟨q, rfl, rfl⟩
 refine Y13 ?_
 refine Zos 90 rfl (rfl) ?_
 refine Y3 ?_
 refine Zhm 93 rfl (rfl) ?_
 refine Y3 ?_
 first|refine Y0 ?_|(refine Zhh rfl ?_; (refine Zor (c := hln q pp) (k := ?_)); (rintro _ _ ⟨rfl, rfl⟩); (refine Zg2 qA ?_))
 refine Y1 ?_
 first|refine Y0 ?_|(refine Zhh rfl ?_; (refine Zhg (Zmj (a := nN x) (b := nN x) rfl rfl) ?_))
 refine Zos 99 rfl (rfl) ?_
 refine Y3 ?_
 first|refine Y0 ?_|(refine Zhh rfl ?_; (refine Zor (c := hsz q pp) (k := ?_)); (rintro _ _ ⟨rfl, rfl⟩); (refine Zg2 qA ?_))
 refine Y1 ?_
 first|refine Y0 ?_|(refine Zhh rfl ?_; (refine Zhg (Zmj (a := nSz x) (b := nSz x) rfl rfl) ?_))
 refine Zos 105 rfl (rfl) ?_
 refine V6 ?_
 refine rx4 (Zhb rfl (Zhb rfl (Zg9 rfl (Zha rfl (Zg7))))) ?_
 exact ⟨_, ⟨q, pp, ph, rfl, rfl⟩, qI⟩
end Go.Sl
namespace Go.Sl
open Go Go.Proofs
attribute [local irreducible] pt old pur ex all den denOps denS xOps xC cX CX xthen xblk xcut xloop xng retX resX Calls PV Rd Con
attribute [local irreducible] hostA pgA PagerS.loadP PagerS.saveP wds withinN SlotS.getS SlotS.setS SlotS.pairL SlotS.pairE
open SlotS (SL Acc Fit)
open PagerS (PS Over)
abbrev rowS (a : Option Addr) (c : Nat) (ps : List Part) : Asrt := own 66 1 (.slice a ps.length c) ps.length (ps.map vP)
theorem rowS_snoc {a : Option Addr} {c : Nat} {ps : List Part} {p : Part} {M : List Asrt} : Imp (own 66 1 (.slice a (ps.length + 1) c) (ps.length + 1) (ps.map vP ++ [vP p]) :: ownP p :: star ownP ps :: M) (rowS a c (ps ++ [p]) :: star ownP (ps ++ [p]) :: M) := by
 unfold rowS
 rw [List.map_append, List.length_append]
 exact Imp.cons star_snoc
theorem own_part {g n : Nat} {l : List Byte} (hl : l.length = n) (hn : n ≤ 4096) {M : List Asrt} : Imp (blk g l :: M) (ownP (some ⟨g, 0, none⟩, n, l) :: M) := by
 have e : ownP (some ⟨g, 0, none⟩, n, l) = ownB (some ⟨g, 0, none⟩) n l := by unfold ownP vP; rfl
 rw [e]
 exact own_block hl (by omega)
structure LS (x : WorldV) (i : Nat) (ps : List Part) (s : SL) (p : PS) (h : HostS.HS) (b : Int → List Byte) : Prop where
 quiet : PagerS.Quiet p h b
 fit : Fit s p
 n : s.n = nN x
 size : s.size = nSz x
 log : s.log.length ≤ i
 wr : p.writes ≤ 4 * i
 ops : h.ops ≤ 6 * i
 len : ps.length = s.n
 row : ∀ k (hk : k < ps.length), ps[k].2.2 = SlotS.slotB s b k
section
variable {x : WorldV} {i : Nat} {ps : List Part} {s : SL} {p : PS} {h : HostS.HS} {b : Int → List Byte}
theorem LS.mono (k : LS x i ps s p h b) {j : Nat} (hij : i ≤ j) : LS x j ps s p h b := ⟨k.quiet, k.fit, k.n, k.size, Nat.le_trans k.log hij, by have := k.wr; omega, by have := k.ops; omega, k.len, k.row⟩
theorem LS.get (k : LS x i ps s p h b) (hi : i ≤ 2000000) {m : Nat} (hm : m < s.n) : (SlotS.getS s p h m).1 = (SlotS.slotB s b m, 0) ∧ LS x (i + 1) ps (SlotS.getS s p h m).2.1 (SlotS.getS s p h m).2.2.1 (SlotS.getS s p h m).2.2.2 b := by
 have hw := k.wr
 obtain ⟨a1, a2, a3⟩ := SlotS.get_q k.quiet k.fit hm (by omega)
 have nr := SlotS.get_near s p h (m : Int)
 have h1 := nr.writes; have h2 := nr.ops; have h3 := k.ops; have h4 := k.log
 refine ⟨a1, a3, ?_, ?_, ?_, ?_, by omega, by omega, ?_, ?_⟩
 ·rw [a2]; exact (k.fit.touch _ _ _).same nr.text nr.spages
 ·rw [a2]; exact k.n
 ·rw [a2]; exact k.size
 ·rw [a2]; show (s.log ++ [_]).length ≤ _; simp; omega
 ·rw [a2]; exact k.len
 ·intro j hj; rw [a2]; exact k.row j hj
theorem LS.set (k : LS x i ps s p h b) (hi : i ≤ 2000000) {m : Nat} (hm : m < s.n) {v : List Byte} (hv : v.length = s.size) (a : Option Addr) (c : Nat) : (SlotS.setS s p h m v).1 = 0 ∧ LS x (i + 1) (ps.set m (a, c, v)) (SlotS.setS s p h m v).2.1 (SlotS.setS s p h m v).2.2.1 (SlotS.setS s p h m v).2.2.2 (SlotS.putB s b m v) := by
 have hw := k.wr
 obtain ⟨a1, a2, a3⟩ := SlotS.set_q k.quiet k.fit hm (by omega) hv
 have nr := SlotS.set_near s p h (m : Int) v
 have h1 := nr.writes; have h2 := nr.ops; have h3 := k.ops; have h4 := k.log
 refine ⟨a1, a3, ?_, ?_, ?_, ?_, by omega, by omega, ?_, ?_⟩
 ·rw [a2]; exact (k.fit.touch _ _ _).same nr.text nr.spages
 ·rw [a2]; exact k.n
 ·rw [a2]; exact k.size
 ·rw [a2]; show (s.log ++ [_]).length ≤ _; simp; omega
 ·rw [a2, List.length_set]; exact k.len
 ·intro j hj
  rw [List.length_set] at hj
  rw [a2, List.getElem_set]
  show _ = SlotS.slotB s (SlotS.putB s b m v) j
  rw [SlotS.putB_at k.fit k.quiet.sound.len hv]
  by_cases e : m = j
  ·subst e; rw [if_pos rfl, if_pos rfl]
  ·rw [if_neg e, if_neg (fun hh => e hh.symm)]; exact k.row j hj
theorem LS.pair (k : LS x i ps s p h b) (hi : i ≤ 2000000) {m j : Nat} (hm : m < s.n) (hj : j < s.n) {v w : List Byte} (hv : v.length = s.size) (hw' : w.length = s.size) (a a' : Option Addr) (c c' : Nat) : (SlotS.pairL s p h m j).1 = (0, b (SlotS.pg s m), b (SlotS.pg s j)) ∧ (SlotS.pairE s (SlotS.pairL s p h m j).2.1 (SlotS.pairL s p h m j).2.2 m j (b (SlotS.pg s m)) (b (SlotS.pg s j)) v w).1 = 0 ∧ LS x (i + 1) ((ps.set m (a, c, v)).set j (a', c', w)) (SlotS.touch s 2 m j) (SlotS.pairE s (SlotS.pairL s p h m j).2.1 (SlotS.pairL s p h m j).2.2 m j (b (SlotS.pg s m)) (b (SlotS.pg s j)) v w).2.1 (SlotS.pairE s (SlotS.pairL s p h m j).2.1 (SlotS.pairL s p h m j).2.2 m j (b (SlotS.pg s m)) (b (SlotS.pg s j)) v w).2.2 (SlotS.putB s (SlotS.putB s b m v) j w) := by
 have hw := k.wr
 obtain ⟨a1, a2, n1⟩ := SlotS.pairL_q k.quiet k.fit hm hj (by omega)
 have f1 : Fit s (SlotS.pairL s p h m j).2.1 := k.fit.same n1.text n1.spages
 have w1 := n1.writes
 obtain ⟨c1, c2⟩ := SlotS.pairE_q a2 f1 hm hj (by omega) hv hw'
 have n2 := SlotS.pairE_near s (SlotS.pairL s p h m j).2.1 (SlotS.pairL s p h m j).2.2 m j (b (SlotS.pg s m)) (b (SlotS.pg s j)) v w
 have w2 := n2.writes; have o1 := n1.ops; have o2 := n2.ops; have h3 := k.ops; have h4 := k.log
 refine ⟨a1, c1, c2, (f1.touch _ _ _).same n2.text n2.spages, k.n, k.size, ?_, by omega, by omega, ?_, ?_⟩
 ·show (s.log ++ [_]).length ≤ _; simp; omega
 ·rw [List.length_set, List.length_set]; exact k.len
 ·intro y hy
  rw [List.length_set, List.length_set] at hy
  rw [List.getElem_set, List.getElem_set]
  show _ = SlotS.slotB s (SlotS.putB s (SlotS.putB s b m v) j w) y
  rw [SlotS.putB_at k.fit (SlotS.putB_len k.fit k.quiet.sound.len hv m) hw', SlotS.putB_at k.fit k.quiet.sound.len hv]
  by_cases e : j = y
  ·subst e; rw [if_pos rfl, if_pos rfl]
  ·rw [if_neg e, if_neg (show ¬ y = j from fun hh => e hh.symm)]
   by_cases e2 : m = y
   ·rw [if_pos e2, if_pos e2.symm]
   ·rw [if_neg e2, if_neg (show ¬ y = m from fun hh => e2 hh.symm)]; exact k.row y hy
end
structure SOpsIn (L : List Asrt) (sv : Value) (st : List SOpV) : Prop where
 rd : Rd L 5 sv st.length (st.flatMap SOpV.cells)
 el : ∀ o ∈ st, Bs L o.b_V o.b_ ∧ o.b_.length ≤ 140737488351232
theorem sop_len (o : SOpV) : o.cells.length = 5 := rfl
structure WIn (L : List Asrt) (x : WorldV) : Prop where
 key : x.key_.length = 32
 flt : ∃ a n c, x.faults_V = .slice a n c
 ops : SOpsIn L x.script_V x.script_
 big : Big x.pages_ ∧ Big x.text_ ∧ Big x.window_ ∧ Big x.n_A ∧ Big x.size_A
abbrev LT := Nat × (List Part × Option Addr × Nat) × SL × PS × HostS.HS × (Int → List Byte)
section
variable {L : List Asrt} {x : WorldV}
theorem list_x (hi : WIn L x) (hup : x.script_.length ≤ 1048576) : Con Tryz.prog 5 [.agg (wds x)] L (fun r M => r = .bool true ∧ L = M) := by
 obtain ⟨fa, fn', fc, hfv⟩ := hi.flt
 refine Con.get (fun w0 w F H => hi.ops.rd.len H) ?_
 rintro ⟨sa, sc, hsv⟩
 have hk := hi.key
 have hlen := wds_len hk
 have hone := wds_one hfv hsv
 have hscr := wds_script hk
 rw [hsv] at hscr
 have hops := hi.ops
 rw [hsv] at hops
 have hnm := nums x
 have b1 := hnm.pg; have b2 := hnm.tx; have b3 := hnm.sz; have b5 := hnm.n
 have hd2 : nTx x / nSz x ≤ 400 := Nat.le_trans (Nat.div_le_self _ _) b2.2
 have hm24 : nPg x * (nTx x / nSz x) ≤ 24 * 400 := Nat.mul_le_mul b1.2 hd2
 have hq := fun (L : List Asrt) => quiet_x (L := L) hk hk hi.big
 have hn0 : (sl0 x).n = nN x := rfl
 have hz0 : (sl0 x).size = nSz x := rfl
 have hln := fun q pp => slen_x (q := q) (pp := pp) (s := sl0 x)
 rw [hn0] at hln
 have hls0 : ∀ ps : List Part, ps.length = nN x → (∀ y ∈ ps, y.2.2 = List.replicate (nSz x) 0#8) → LS x 0 ps (sl0 x) (psW x x.key_) (hsW x) (fun _ => List.replicate (nTx x) 0#8) := fun ps h1 h2 =>
  ⟨quietW x hk, fitW x x.key_, rfl, rfl, Nat.le_refl _, Nat.le_refl _, Nat.le_refl _, h1, fun k hk => by
   rw [h2 _ (List.getElem_mem hk)]
   have := (fitW x x.key_).from k
   rw [hz0] at this
   have e9 : (psW x x.key_).text = nTx x := rfl
   rw [e9] at this
   unfold SlotS.slotB SlotS.part
   rw [hz0, List.drop_replicate, List.take_replicate]
   congr 1
   omega⟩
 refine fn_y Tryz.func5 Tryz.mixed ?_
 intro w0
 refine Y1 ?_
 refine Zh5 rfl ?_; intro b1
 refine Y5 ?_
 refine Zhq (n := 32) rfl qH qZ (wds_key hk) ?_
 refine Zor (c := hq []) (k := ?_)
 rintro _ _ ⟨q, pp, ph, rfl, rfl⟩
 refine Y13 ?_
 refine Zhg (Zb0 rfl) ?_
 refine Zhn 32 rfl (rfl) ?_
 refine Y1 ?_
 first|refine Y0 ?_|(refine Zhh rfl ?_; (refine Zor (c := slWorks_x) (k := ?_)); (rintro _ _ ⟨rfl, rfl⟩); (refine Zg2 qA ?_))
 first|refine Y0 ?_|(refine Zhh rfl ?_; (refine Zhg (Zb0 rfl) ?_))
 refine Zhn 35 rfl (rfl) ?_
 refine Y5 ?_
 refine Zor (c := hln q pp) (k := ?_)
 rintro _ _ ⟨rfl, rfl⟩
 refine V9 ?_
 generalize sl0 x = s0 at *
 generalize psW x x.key_ = p0 at *
 generalize hsW x = h0 at *
 refine Zgo [(8, 9), (39, 48)] (by kernel_rfl) (fun z : Nat × List Part × Option Addr × Nat => z.1 ≤ nN x ∧ z.2.1.length = z.1 ∧ ∀ y ∈ z.2.1, y.2.2 = List.replicate (nSz x) 0#8)
  (fun z => rowS z.2.2.1 z.2.2.2 z.2.1 :: star ownP z.2.1 :: slA q pp s0 :: pgA pp ph p0 :: hostA ph h0 :: cl b1 (wds x) 62 :: L) (fun z => [(9, nvv z.1), (8, .slice z.2.2.1 z.2.1.length z.2.2.2)]) (fun z => nN x - z.1) (0, [], none, 0) ⟨Nat.zero_le _, rfl, fun y hy => (by cases hy)⟩ ((star_nil (A := ownP)).trans ((Imp.own_nil (E := 66) (size := 1)).trans (Imp.arr qV))) ⟨rfl, rfl, trivial⟩ ?_
 rintro ⟨i, ps, ka, kc⟩ u ⟨hin, hpl, hpz⟩
 dsimp only at hin hpl hpz ⊢
 refine V5 ?_
 refine Zgg rfl (fun hB => ?_) (fun hB => ?_)
 ·refine Y3 ?_
  refine Zm3 (f := u8b) (a := 0#8) rfl rfl rfl qS qS qS ?_; intro b46
  refine Zh7 (cs := #[.slice _ _ _]) (by omega) (by omega) rfl ?_; intro b47
  refine Zia rfl rfl qH (Rd.cl (xs := [.slice (some ⟨b46, 0, none⟩) (nSz x) (nSz x)]) qH rfl qZ rfl) (by first|rfl|exact oneM_u8 _|exact oneL_u8 _|exact acc_one _|exact acc_ones _|assumption|(simp [oneC]; done)) (by omega) qS ?_; intro a3 c3
  refine V7 ?_
  refine Zgl (i + 1, ps ++ [(some ⟨b46, 0, none⟩, nSz x, List.replicate (nSz x) 0#8)], a3, c3) qO ⟨by dsimp only; omega, by simp [hpl], ?_⟩ ?_ ⟨rfl, by dsimp only; rw [List.length_append]; rfl, trivial⟩
  ·intro y hy
   rcases List.mem_append.1 hy with hy|hy
   ·exact hpz y hy
   ·obtain rfl := List.mem_singleton.1 hy; rfl
  ·dsimp only
   have hv : vP ((some ⟨b46, 0, none⟩, nSz x, List.replicate (nSz x) 0#8) : Part) = .slice (some ⟨b46, 0, none⟩) (nSz x) (nSz x) := by unfold vP; simp
   have j1 := rowS_snoc (a := a3) (c := c3) (ps := ps) (p := (some ⟨b46, 0, none⟩, nSz x, List.replicate (nSz x) 0#8)) (M := slA q pp s0 :: pgA pp ph p0 :: hostA ph h0 :: cl b1 (wds x) 62 :: L)
   rw [hv] at j1
   exact ((Imp.arr (N := blk b46 (List.replicate (nSz x) 0#8) :: own 66 1 (.slice a3 (ps.length + 1) c3) (ps.length + 1) (ps.map vP ++ [.slice (some ⟨b46, 0, none⟩) (nSz x) (nSz x)]) :: star ownP ps :: slA q pp s0 :: pgA pp ph p0 :: hostA ph h0 :: cl b1 (wds x) 62 :: L) qV).trans (own_part (g := b46) (n := nSz x) (l := List.replicate (nSz x) 0#8) (by simp) (by omega))).trans ((Imp.arr qV).trans j1)
 have hie : i = nN x := by omega
 have hls := hls0 ps (by omega) hpz
 clear hls0 hpz hln hq
 refine V3 ?_
 refine Zgo [(2, 2), (10, 18), (49, 146)] (by kernel_rfl) (fun z : LT => z.1 ≤ x.script_.length ∧ LS x z.1 z.2.1.1 z.2.2.1 z.2.2.2.1 z.2.2.2.2.1 z.2.2.2.2.2)
  (fun z => rowS z.2.1.2.1 z.2.1.2.2 z.2.1.1 :: star ownP z.2.1.1 :: slA q pp z.2.2.1 :: pgA pp ph z.2.2.2.1 :: hostA ph z.2.2.2.2.1 :: cl b1 (wds x) 62 :: L) (fun z => [(10, nvv z.1), (8, .slice z.2.1.2.1 z.2.1.1.length z.2.1.2.2)]) (fun z => x.script_.length - z.1) (0, (ps, ka, kc), s0, p0, h0, fun _ => List.replicate (nTx x) 0#8) ⟨Nat.zero_le _, hls⟩ qI ⟨rfl, rfl, trivial⟩ ?_
 clear hls hpl hn0 hz0
 rintro ⟨j, ⟨ps, ka, kc⟩, s, p, h, b⟩ u1 ⟨hj, hls⟩
 dsimp only at hj hls ⊢
 have hn := hls.n
 have hz := hls.size
 have hpl := hls.len
 have hop := hls.ops
 have hlg := hls.log
 have hok := hls.quiet.sound.ok
 have hov := hls.quiet.sound.over
 have hfit := hls.fit
 have hbl := hls.quiet.sound.len
 by_cases hc : j < x.script_.length ∧ 0 < nN x
 ·obtain ⟨hB, hn1⟩ := hc
  refine Zgt (fun F w H => (hops.rd.imp (Imp.arr (M := _) qV)).someAt (by omega) H) ?_
  rintro ⟨bb, o, rfl⟩
  obtain ⟨hel, hell⟩ := hops.el _ (List.getElem_mem hB)
  refine Zgt (fun F w H => (hel.imp (Imp.arr (M := _) qV)).sh _ _ _ H) ?_
  rintro ⟨ta, tc, htv, htc, htcm⟩
  have hone2 : x.script_[j].cells.toArray.toList.all oneC = true := by simp [SOpV.cells, oneC, htv]
  have x1 := within_x x.script_[j].i_ (nN x) (by omega) (by omega)
  have x2 := within_x x.script_[j].j_ (nN x) (by omega) (by omega)
  have l1 := (within_is x.script_[j].i_ (n := nN x) (by omega)).1
  have l2 := (within_is x.script_[j].j_ (n := nN x) (by omega)).1
  have hsB : (x.script_[j].cells.toArray)[4]? = some x.script_[j].b_V := rfl
  generalize withinN x.script_[j].i_ (nN x) = m at *
  generalize withinN x.script_[j].j_ (nN x) = k at *
  refine Zgt (fun F w H => own_some (n := ps.length) (a := ka) qH (by omega) H) ?_
  rintro ⟨gk, rfl⟩
  have hmp : m < ps.length := by omega
  have hkp : k < ps.length := by omega
  refine Y3 ?_
  refine Zhp rfl qH (hscr) ?_
  refine Y2 ?_
  refine Zos 53 rfl (hB) ?_
  refine Y3 ?_
  refine Zos 56 rfl (hn1) ?_
  refine Y5 ?_
  refine Zhp rfl qH (hscr) ?_
  refine Y2 ?_
  refine Zfg rfl ((hops.rd.imp qI).agN sop_len (by omega) hB) ?_
  refine Zhz (cs := #[.int .i64 0, .int .i64 0, .int .i64 0, .int .i64 0, .slice none 0 0]) rfl ?_; intro b11
  first|refine Zhy rfl rfl qR qZ (by first|rfl|exact oneM_u8 _|exact oneL_u8 _|exact acc_one _|exact acc_ones _|assumption|(simp [oneC]; done)) qZ ?_|refine Zhx rfl rfl qR qZ (by first|rfl|exact oneM_u8 _|exact oneL_u8 _|exact acc_one _|exact acc_ones _|assumption|(simp [oneC]; done)) qZ rfl ?_
  refine Y5 ?_
  refine Zor (c := x1) (k := ?_)
  rintro _ _ ⟨rfl, rfl⟩
  refine Y7 ?_
  refine Zor (c := x2) (k := ?_)
  rintro _ _ ⟨rfl, rfl⟩
  refine V3 ?_
  by_cases k2 : x.script_[j].kind_ = 2
  ·have hsl := sizedB_len x.script_[j].b_ (nSz x)
   have hsd := sized_x (L := L) hel (nSz x) (by omega)
   have hsl2 : (sizedB x.script_[j].b_ (nSz x)).length = s.size := by rw [hz]; exact hsl
   have hst := fun g2 => sset_x (q := q) (pp := pp) (ph := ph) (L := [blk g2 (sizedB x.script_[j].b_ (nSz x))]) hfit hok hov (by omega) (by omega) (m : Int) (bs_full (l := sizedB x.script_[j].b_ (nSz x)) (n := nSz x) .here hsl (by omega))
   obtain ⟨a1, -⟩ := hls.set (by omega) (m := m) (by omega) hsl2 none 0
   have a2 := fun g1 => (hls.set (by omega) (m := m) (by omega) hsl2 (some ⟨g1, 0, none⟩) (nSz x)).2
   rw [a1] at hst
   rw [htv] at hsd hsB
   generalize (SlotS.setS s p h m (sizedB x.script_[j].b_ (nSz x))).2.1 = s1 at *
   generalize (SlotS.setS s p h m (sizedB x.script_[j].b_ (nSz x))).2.2.1 = p1 at *
   generalize (SlotS.setS s p h m (sizedB x.script_[j].b_ (nSz x))).2.2.2 = h1 at *
   generalize sizedB x.script_[j].b_ (nSz x) = S at *
   have hset : ∀ g1 : Nat, (ps.set m ((some ⟨g1, 0, none⟩, nSz x, S) : Part)).map vP = (ps.map vP).set m (fsl g1 (nSz x)) := fun g1 => by
    rw [List.map_set]
    show (ps.map vP).set m (.slice (some ⟨g1, 0, none⟩) S.length (nSz x)) = _
    rw [hsl]
   refine Y3 ?_
   refine Zhg (Zbr (a := x.script_[j].kind_) (b := 2) rfl rfl) ?_
   refine Zos 93 rfl (k2) ?_
   refine Y7 ?_
   refine Zhp rfl qH (hsB) ?_
   refine Y1 ?_
   refine Zor (c := hsd) (k := ?_)
   rintro _ _ ⟨g1, rfl, rfl⟩
   refine Y2 ?_
   refine Zm7 (u := fsl g1 (nSz x)) (i := m) (xs := ps.map vP) (ys := (ps.set m ((some ⟨g1, 0, none⟩, nSz x, S) : Part)).map vP) rfl rfl rfl qR hmp (hset g1).symm ?_
   refine Y5 ?_
   refine Zhp rfl qH (hsB) ?_
   refine Y1 ?_
   refine Zor (c := hsd) (k := ?_)
   rintro _ _ ⟨g2, rfl, rfl⟩
   refine Y1 ?_
   refine Zor (c := hst g2) (k := ?_)
   rintro _ _ ⟨rfl, rfl⟩
   refine Y1 ?_
   refine Zhg (Zbs (a := (0 : Int)) (b := 0) rfl rfl) ?_
   refine Zot 108 rfl ((fun hh => hh rfl)) ?_
   refine V7 ?_
   have hl9 : (ps.set m ((some ⟨g1, 0, none⟩, nSz x, S) : Part)).length = ps.length := List.length_set ..
   refine Zgl (j + 1, (ps.set m (some ⟨g1, 0, none⟩, nSz x, S), some ⟨gk, 0, none⟩, kc), s1, p1, h1, SlotS.putB s b m S) qO ⟨by dsimp only; omega, a2 g1⟩ ?_ ⟨rfl, by dsimp only; rw [hl9]; rfl, trivial⟩
   dsimp only
   unfold rowS
   rw [hl9]
   exact ((Imp.arr (N := blk g1 S :: star ownP ps :: own 66 1 (.slice (some ⟨gk, 0, none⟩) ps.length kc) ps.length ((ps.set m ((some ⟨g1, 0, none⟩, nSz x, S) : Part)).map vP) :: slA q pp s1 :: pgA pp ph p1 :: hostA ph h1 :: cl b1 (wds x) 62 :: L) qV).trans (((Imp.cons ((star_at hmp).trans Imp.tail)).trans (own_part hsl (by omega))).trans (star_back (A := ownP) hmp (some ⟨g1, 0, none⟩, nSz x, S)))).trans (Imp.arr qV)
  by_cases k3 : x.script_[j].kind_ = 3 ∧ m ≠ k
  ·obtain ⟨k3, hmk⟩ := k3
   have hrm := hls.row m hmp
   have hrk := hls.row k hkp
   have hlm : (SlotS.slotB s b m).length = s.size := SlotS.slotB_len hfit hbl m
   have hlk : (SlotS.slotB s b k).length = s.size := SlotS.slotB_len hfit hbl k
   have hlx : (xorH (SlotS.slotB s b k) x.script_[j].b_).length = s.size := by rw [xorH_len]; exact hlk
   have a3 := fun xa xc ya yc => hls.pair (by omega) (m := m) (j := k) (by omega) (by omega) hlx hlm xa ya xc yc
   obtain ⟨a1, c1, -⟩ := a3 none 0 none 0
   have a3 := fun xa xc ya yc => (a3 xa xc ya yc).2.2
   have hpr : ∀ bo, Con Tryz.prog 32 [hp q, nvv m, nvv k, .func (.func 33) #[] #[.pointer (some ⟨bo, 0, none⟩)]] (slA q pp s :: pgA pp ph p :: hostA ph h :: cl bo x.script_[j].cells.toArray 68 :: L) (fun r M => r = nvv 0 ∧ ∃ a' b', M = slA q pp (SlotS.touch s 2 m k) :: pgA pp ph (SlotS.pairE s (SlotS.pairL s p h m k).2.1 (SlotS.pairL s p h m k).2.2 m k (b (SlotS.pg s m)) (b (SlotS.pg s k)) (xorH (SlotS.slotB s b k) x.script_[j].b_) (SlotS.slotB s b m)).2.1 :: hostA ph (SlotS.pairE s (SlotS.pairL s p h m k).2.1 (SlotS.pairL s p h m k).2.2 m k (b (SlotS.pg s m)) (b (SlotS.pg s k)) (xorH (SlotS.slotB s b k) x.script_[j].b_) (SlotS.slotB s b m)).2.2 :: blk a' (xorH (SlotS.slotB s b k) x.script_[j].b_) :: blk b' (SlotS.slotB s b m) :: cl bo x.script_[j].cells.toArray 68 :: L) := fun bo => by
    have := pair_ok (q := q) (pp := pp) (ph := ph) hfit hok hov (by omega) (by omega) (i := m) (j := k) (by omega) (by omega) hmk (listF_con (L := L) (bo := bo) (n := s.size) hel (by omega)) (by rw [a1])
    rw [a1] at this
    refine this.mono ?_
    rintro r M ⟨A, B, E, rfl, rfl, rfl, hr, a', b', Z, rfl, rfl⟩
    exact ⟨_, Imp.refl _, hr.trans (congrArg nvv c1), a', b', rfl⟩
   have htn := turned_x (L := star ownP ps :: L) (va := vP ps[m]) (vb := vP ps[k]) (vy := x.script_[j].b_V) (a := ps[m].2.2) (b := ps[k].2.2) (by_ := x.script_[j].b_) (star_bs (A := ownP) (List.getElem_mem hmp) (fun R => ownP_bs .here) .here) (star_bs (A := ownP) (List.getElem_mem hkp) (fun R => ownP_bs .here) .here) (hel.imp Imp.tail) (by rw [hrm]; omega) (by rw [hrk]; omega)
   rw [hrm, hrk] at htn
   generalize (SlotS.pairE s (SlotS.pairL s p h m k).2.1 (SlotS.pairL s p h m k).2.2 m k (b (SlotS.pg s m)) (b (SlotS.pg s k)) (xorH (SlotS.slotB s b k) x.script_[j].b_) (SlotS.slotB s b m)).2.1 = p1 at *
   generalize (SlotS.pairE s (SlotS.pairL s p h m k).2.1 (SlotS.pairL s p h m k).2.2 m k (b (SlotS.pg s m)) (b (SlotS.pg s k)) (xorH (SlotS.slotB s b k) x.script_[j].b_) (SlotS.slotB s b m)).2.2 = h1 at *
   clear c1 a1
   generalize xorH (SlotS.slotB s b k) x.script_[j].b_ = X1 at *
   generalize hX2 : SlotS.slotB s b m = X2 at *
   rw [htv] at htn hsB
   refine Y3 ?_
   refine Zhg (Zbr (a := x.script_[j].kind_) (b := 2) rfl rfl) ?_
   refine Zot 93 rfl (k2) ?_
   refine Y6 ?_
   refine Zhg (Zbr (a := x.script_[j].kind_) (b := 3) rfl rfl) ?_
   refine Zos 112 rfl (k3) ?_
   refine Y3 ?_
   first|refine Y0 ?_|(refine Zhh rfl ?_; (refine Zhg (Zmk (a := m) (b := k) rfl rfl) ?_))
   refine Zos 116 rfl (hmk) ?_
   refine Y9 ?_
   refine Zor (c := hpr b11) (k := ?_)
   rintro _ _ ⟨rfl, a', b', rfl⟩
   refine V3 ?_
   refine Zij ([rowS (some ⟨gk, 0, none⟩) kc ps, cl b11 x.script_[j].cells.toArray 68]) [7, 9] (.q 0 (.q 1 (.q 2 (.q 4 (.q 5 (.q 6 (.q 8 (.r 3 (.r 7 (.r 9 (.e 10 false (.q 11 (.q 12 (.q 13 (.q 14 (.q 15 .nil)))))))))))))))) (by kernel_rfl) (by kernel_rfl) (Imp.arr qV) ?_
   refine W7 ?_
   refine Zfh rfl rfl (((Rd.own (n := ps.length) qH).at0 hmp (getM hmp))) ?_
   refine Zfh rfl rfl (((Rd.own (n := ps.length) qH).at0 hkp (getM hkp))) ?_
   refine Ziv rfl rfl qH (hsB) ?_
   refine Ziq rfl ?_
   refine Zor (c := htn) (k := ?_)
   rintro _ _ ⟨xa, xc, ya, yc, rfl, rfl⟩
   refine Y1 ?_
   refine Zg3 ⟨(fun hh => Bool.noConfusion hh), ?_⟩
   refine W6 ?_
   refine Y5 ?_
   refine Zm7 (u := .slice xa X1.length xc) (i := m) (xs := ps.map vP) (ys := (ps.set m ((xa, xc, X1) : Part)).map vP) rfl rfl rfl qR hmp (by rw [List.map_set]; rfl) ?_
   refine Y6 ?_
   refine Zm7 (u := .slice ya X2.length yc) (i := k) (xs := (ps.set m ((xa, xc, X1) : Part)).map vP) (ys := ((ps.set m ((xa, xc, X1) : Part)).set k ((ya, yc, X2) : Part)).map vP) rfl rfl rfl qR hkp (by rw [List.map_set (l := ps.set m _)]; rfl) ?_
   refine Y3 ?_
   refine Zhg (Zbs (a := (0 : Int)) (b := 0) rfl rfl) ?_
   refine Zot 146 rfl ((fun hh => hh rfl)) ?_
   refine V7 ?_
   have hl9 : ((ps.set m ((xa, xc, X1) : Part)).set k ((ya, yc, X2) : Part)).length = ps.length := by rw [List.length_set, List.length_set]
   have hkp2 : k < (ps.set m ((xa, xc, X1) : Part)).length := by rw [List.length_set]; exact hkp
   refine Zgl (j + 1, ((ps.set m (xa, xc, X1)).set k (ya, yc, X2), some ⟨gk, 0, none⟩, kc), SlotS.touch s 2 m k, p1, h1, SlotS.putB s (SlotS.putB s b m X1) k X2) qO ⟨by dsimp only; omega, a3 xa xc ya yc⟩ ?_ ⟨rfl, by dsimp only; rw [hl9]; rfl, trivial⟩
   dsimp only
   unfold rowS
   rw [hl9]
   have s1 : ∀ {M : List Asrt}, Imp (ownP (xa, xc, X1) :: star ownP ps :: M) (star ownP (ps.set m (xa, xc, X1)) :: M) := fun {M} => (Imp.cons ((star_at hmp).trans Imp.tail)).trans (star_back (A := ownP) hmp (xa, xc, X1))
   have s2 : ∀ {M : List Asrt}, Imp (ownP (ya, yc, X2) :: star ownP (ps.set m (xa, xc, X1)) :: M) (star ownP ((ps.set m (xa, xc, X1)).set k (ya, yc, X2)) :: M) := fun {M} => (Imp.cons ((star_at hkp2).trans Imp.tail)).trans (star_back (A := ownP) hkp2 (ya, yc, X2))
   exact (((Imp.arr (N := ownP (ya, yc, X2) :: ownP (xa, xc, X1) :: star ownP ps :: own 66 1 (.slice (some ⟨gk, 0, none⟩) ps.length kc) ps.length (((ps.set m ((xa, xc, X1) : Part)).set k ((ya, yc, X2) : Part)).map vP) :: slA q pp (SlotS.touch s 2 m k) :: pgA pp ph p1 :: hostA ph h1 :: cl b1 (wds x) 62 :: L) qV).trans (Imp.cons s1)).trans s2).trans (Imp.arr qV)
  ·obtain ⟨a1, a2⟩ := hls.get (by omega) (m := m) (by omega)
   have hgt := sget_x (q := q) (pp := pp) (ph := ph) hfit hok hov (by omega) (by omega) (m : Int)
   rw [a1] at hgt
   have hrw := hls.row m hmp
   have hbx : Bs [star ownP ps] (vP ps[m]) ps[m].2.2 := star_bs (A := ownP) (List.getElem_mem hmp) (fun R => ownP_bs .here) .here
   have heq := fun ga gc => eqBytes_x (L := [ownB ga gc (SlotS.slotB s b m), star ownP ps]) (a := SlotS.slotB s b m) (b := ps[m].2.2) (Bs.own .here) (hbx.imp Imp.tail)
   dsimp only at hgt
   generalize (SlotS.getS s p h m).2.1 = s1 at *
   generalize (SlotS.getS s p h m).2.2.1 = p1 at *
   generalize (SlotS.getS s p h m).2.2.2 = h1 at *
   refine Y3 ?_
   refine Zhg (Zbr (a := x.script_[j].kind_) (b := 2) rfl rfl) ?_
   refine Zot 93 rfl (k2) ?_
   refine V3 ?_
   by_cases h3 : x.script_[j].kind_ = 3
   ·have hmk : m = k := Decidable.byContradiction fun hh => k3 ⟨h3, hh⟩
    refine Y3 ?_
    refine Zhg (Zbr (a := x.script_[j].kind_) (b := 3) rfl rfl) ?_
    refine Zos 112 rfl (h3) ?_
    refine Y3 ?_
    first|refine Y0 ?_|(refine Zhh rfl ?_; (refine Zhg (Zmk (a := m) (b := k) rfl rfl) ?_))
    refine Zot 116 rfl ((fun hh => hh hmk)) ?_
    refine Y7 ?_
    refine Zor (c := hgt) (k := ?_)
    rintro _ _ ⟨ga, gc, rfl, rfl⟩
    refine Y9 ?_
    refine Zhg (Zbs (a := (0 : Int)) (b := 0) rfl rfl) ?_
    refine Zot 80 rfl ((fun hh => hh rfl)) ?_
    refine Y5 ?_
    first|refine Y0 ?_|(refine Zhh rfl ?_; (refine Zff rfl (((Rd.own (n := ps.length) qH).at0 hmp (getM hmp))) ?_))
    first|refine Y0 ?_|(refine Zhh rfl ?_; (refine Zor (c := heq ga gc) (k := ?_)); (rintro _ _ ⟨rfl, rfl⟩); (refine Zg2 qA ?_))
    refine Zos 87 rfl (hrw.symm) ?_
    first|refine Y0 ?_|(refine Zhh rfl ?_; (refine Zhg (Zb0 rfl) ?_))
    refine Zhn 88 rfl (rfl) ?_
    refine V8 ?_
    exact Zgl (j + 1, (ps, some ⟨gk, 0, none⟩, kc), s1, p1, h1, b) qO ⟨by dsimp only; omega, a2⟩ qI ⟨rfl, rfl, trivial⟩
   ·refine Y3 ?_
    refine Zhg (Zbr (a := x.script_[j].kind_) (b := 3) rfl rfl) ?_
    refine Zot 112 rfl (h3) ?_
    refine Y11 ?_
    refine Zor (c := hgt) (k := ?_)
    rintro _ _ ⟨ga, gc, rfl, rfl⟩
    refine Y9 ?_
    refine Zhg (Zbs (a := (0 : Int)) (b := 0) rfl rfl) ?_
    refine Zot 80 rfl ((fun hh => hh rfl)) ?_
    refine Y5 ?_
    first|refine Y0 ?_|(refine Zhh rfl ?_; (refine Zff rfl (((Rd.own (n := ps.length) qH).at0 hmp (getM hmp))) ?_))
    first|refine Y0 ?_|(refine Zhh rfl ?_; (refine Zor (c := heq ga gc) (k := ?_)); (rintro _ _ ⟨rfl, rfl⟩); (refine Zg2 qA ?_))
    refine Zos 87 rfl (hrw.symm) ?_
    first|refine Y0 ?_|(refine Zhh rfl ?_; (refine Zhg (Zb0 rfl) ?_))
    refine Zhn 88 rfl (rfl) ?_
    refine V8 ?_
    exact Zgl (j + 1, (ps, some ⟨gk, 0, none⟩, kc), s1, p1, h1, b) qO ⟨by dsimp only; omega, a2⟩ qI ⟨rfl, rfl, trivial⟩
 by_cases hB : j < x.script_.length
 ·have h0 : ¬ 0 < nN x := fun hh => hc ⟨hB, hh⟩
  refine Y3 ?_
  refine Zhp rfl qH (hscr) ?_
  refine Y2 ?_
  refine Zos 53 rfl (hB) ?_
  refine Y3 ?_
  refine Zot 56 rfl (h0) ?_
  refine V6 ?_
  have hls9 := hls.mono (j := x.script_.length) hj
  refine Zgo [(2, 2), (19, 21), (147, 168)] (by kernel_rfl) (fun z : Nat × SL × PS × HostS.HS × (Int → List Byte) => z.1 ≤ nN x ∧ LS x (x.script_.length + z.1) ps z.2.1 z.2.2.1 z.2.2.2.1 z.2.2.2.2)
   (fun z => rowS ka kc ps :: star ownP ps :: slA q pp z.2.1 :: pgA pp ph z.2.2.1 :: hostA ph z.2.2.2.1 :: cl b1 (wds x) 62 :: L) (fun z => [(19, nvv z.1)]) (fun z => nN x - z.1) (0, s, p, h, b) ⟨Nat.zero_le _, hls9⟩ qI ⟨rfl, trivial⟩ ?_
  clear hls hls9 hn hz hpl hop hlg hok hov hfit hbl
  rintro ⟨m, s, p, h, b⟩ u9 ⟨hm9, hls⟩
  dsimp only at hm9 hls ⊢
  have hn := hls.n
  have hpl := hls.len
  have hop := hls.ops
  have hlg := hls.log
  have hok := hls.quiet.sound.ok
  have hov := hls.quiet.sound.over
  have hfit := hls.fit
  refine V5 ?_
  refine Zgg rfl (fun hB9 => ?_) (fun hB9 => ?_)
  ·have hmp : m < ps.length := by omega
   refine Zgt (fun F w H => own_some (n := ps.length) (a := ka) qH (by omega) H) ?_
   rintro ⟨gk, rfl⟩
   obtain ⟨a1, a2⟩ := hls.get (by omega) (m := m) (by omega)
   have hgt := sget_x (q := q) (pp := pp) (ph := ph) hfit hok hov (by omega) (by omega) (m : Int)
   rw [a1] at hgt
   have hrw := hls.row m hmp
   have hbx : Bs [star ownP ps] (vP ps[m]) ps[m].2.2 := star_bs (A := ownP) (List.getElem_mem hmp) (fun R => ownP_bs .here) .here
   have heq := fun ga gc => eqBytes_x (L := [ownB ga gc (SlotS.slotB s b m), star ownP ps]) (a := SlotS.slotB s b m) (b := ps[m].2.2) (Bs.own .here) (hbx.imp Imp.tail)
   dsimp only at hgt
   generalize (SlotS.getS s p h m).2.1 = s1 at *
   generalize (SlotS.getS s p h m).2.2.1 = p1 at *
   generalize (SlotS.getS s p h m).2.2.2 = h1 at *
   refine Y3 ?_
   refine Zor (c := hgt) (k := ?_)
   rintro _ _ ⟨ga, gc, rfl, rfl⟩
   refine Y9 ?_
   refine Zhg (Zbs (a := (0 : Int)) (b := 0) rfl rfl) ?_
   refine Zot 159 rfl ((fun hh => hh rfl)) ?_
   refine Y5 ?_
   first|refine Y0 ?_|(refine Zhh rfl ?_; (refine Zff rfl (((Rd.own (n := ps.length) qH).at0 hmp (getM hmp))) ?_))
   first|refine Y0 ?_|(refine Zhh rfl ?_; (refine Zor (c := heq ga gc) (k := ?_)); (rintro _ _ ⟨rfl, rfl⟩); (refine Zg2 qA ?_))
   refine Zos 166 rfl (hrw.symm) ?_
   first|refine Y0 ?_|(refine Zhh rfl ?_; (refine Zhg (Zb0 rfl) ?_))
   refine Zhn 167 rfl (rfl) ?_
   refine V8 ?_
   exact Zgl (m + 1, s1, p1, h1, b) qO ⟨by dsimp only; omega, by rw [Nat.add_assoc] at a2; exact a2⟩ qI ⟨rfl, trivial⟩
  ·refine V3 ?_
   refine rx1 (Zha rfl (Zg7)) ?_
   exact ⟨_, ⟨rfl, rfl⟩, qI⟩
 ·refine Y3 ?_
  refine Zhp rfl qH (hscr) ?_
  refine Y2 ?_
  refine Zot 53 rfl (hB) ?_
  refine V9 ?_
  have hls9 := hls.mono (j := x.script_.length) hj
  refine Zgo [(2, 2), (19, 21), (147, 168)] (by kernel_rfl) (fun z : Nat × SL × PS × HostS.HS × (Int → List Byte) => z.1 ≤ nN x ∧ LS x (x.script_.length + z.1) ps z.2.1 z.2.2.1 z.2.2.2.1 z.2.2.2.2)
   (fun z => rowS ka kc ps :: star ownP ps :: slA q pp z.2.1 :: pgA pp ph z.2.2.1 :: hostA ph z.2.2.2.1 :: cl b1 (wds x) 62 :: L) (fun z => [(19, nvv z.1)]) (fun z => nN x - z.1) (0, s, p, h, b) ⟨Nat.zero_le _, hls9⟩ qI ⟨rfl, trivial⟩ ?_
  clear hls hls9 hn hz hpl hop hlg hok hov hfit hbl
  rintro ⟨m, s, p, h, b⟩ u9 ⟨hm9, hls⟩
  dsimp only at hm9 hls ⊢
  have hn := hls.n
  have hpl := hls.len
  have hop := hls.ops
  have hlg := hls.log
  have hok := hls.quiet.sound.ok
  have hov := hls.quiet.sound.over
  have hfit := hls.fit
  refine V5 ?_
  refine Zgg rfl (fun hB9 => ?_) (fun hB9 => ?_)
  ·have hmp : m < ps.length := by omega
   refine Zgt (fun F w H => own_some (n := ps.length) (a := ka) qH (by omega) H) ?_
   rintro ⟨gk, rfl⟩
   obtain ⟨a1, a2⟩ := hls.get (by omega) (m := m) (by omega)
   have hgt := sget_x (q := q) (pp := pp) (ph := ph) hfit hok hov (by omega) (by omega) (m : Int)
   rw [a1] at hgt
   have hrw := hls.row m hmp
   have hbx : Bs [star ownP ps] (vP ps[m]) ps[m].2.2 := star_bs (A := ownP) (List.getElem_mem hmp) (fun R => ownP_bs .here) .here
   have heq := fun ga gc => eqBytes_x (L := [ownB ga gc (SlotS.slotB s b m), star ownP ps]) (a := SlotS.slotB s b m) (b := ps[m].2.2) (Bs.own .here) (hbx.imp Imp.tail)
   dsimp only at hgt
   generalize (SlotS.getS s p h m).2.1 = s1 at *
   generalize (SlotS.getS s p h m).2.2.1 = p1 at *
   generalize (SlotS.getS s p h m).2.2.2 = h1 at *
   refine Y3 ?_
   refine Zor (c := hgt) (k := ?_)
   rintro _ _ ⟨ga, gc, rfl, rfl⟩
   refine Y9 ?_
   refine Zhg (Zbs (a := (0 : Int)) (b := 0) rfl rfl) ?_
   refine Zot 159 rfl ((fun hh => hh rfl)) ?_
   refine Y5 ?_
   first|refine Y0 ?_|(refine Zhh rfl ?_; (refine Zff rfl (((Rd.own (n := ps.length) qH).at0 hmp (getM hmp))) ?_))
   first|refine Y0 ?_|(refine Zhh rfl ?_; (refine Zor (c := heq ga gc) (k := ?_)); (rintro _ _ ⟨rfl, rfl⟩); (refine Zg2 qA ?_))
   refine Zos 166 rfl (hrw.symm) ?_
   first|refine Y0 ?_|(refine Zhh rfl ?_; (refine Zhg (Zb0 rfl) ?_))
   refine Zhn 167 rfl (rfl) ?_
   refine V8 ?_
   exact Zgl (m + 1, s1, p1, h1, b) qO ⟨by dsimp only; omega, by rw [Nat.add_assoc] at a2; exact a2⟩ qI ⟨rfl, trivial⟩
  ·refine V3 ?_
   refine rx1 (Zha rfl (Zg7)) ?_
   exact ⟨_, ⟨rfl, rfl⟩, qI⟩
end
end Go.Sl
namespace Go.Sl
open Go Go.Proofs Go.ChangeShapes Go.WideShapes Go.ChangeAt Go.RowKit
section
variable {H : Type} {enc : TypeId × Value → H} {P : Program} {w : World} {base : Nat} {spare : Nat → Bool} {held : Bool}
theorem bulk_slice {t e fuel len cap : Nat} {a : Option Addr} {x : DataW H × List MemPlace} (ht : P.underlying t = some (.slice e)) (h : DataW.trod enc P w base spare held fuel t [.slice a len cap] = some x) : len ≤ YtkifhflakdkemaaGreat.Rows.uptoBulk x.1 := by
 rcases DataW.trod_slice ht h with ⟨hv, hx⟩|⟨a', len', cap', elems, rest, n, _, hv, hx, _, _, _, hlen, _⟩
 ·simp only [List.cons.injEq, Value.slice.injEq, and_true] at hv
  omega
 ·simp only [List.cons.injEq, Value.slice.injEq, and_true] at hv
  obtain ⟨_, hl, _⟩ := hv
  rw [hx]
  have := bulk_len (elems.map (·.1))
  simp only [YtkifhflakdkemaaGreat.Rows.uptoBulk]
  simp at this
  omega
theorem bulk_mem : ∀ (l : List (DataW H)) (j : Nat) (h : j < l.length), YtkifhflakdkemaaGreat.Rows.uptoBulk l[j] ≤ YtkifhflakdkemaaGreat.Rows.uptoBulkAll l
 | [], _, h => by simp at h
 | d :: r, 0, _ => by simp only [YtkifhflakdkemaaGreat.Rows.uptoBulkAll, List.getElem_cons_zero]; omega
 | d :: r, j + 1, h => by
  have := bulk_mem r j (by simpa using h)
  simp only [YtkifhflakdkemaaGreat.Rows.uptoBulkAll, List.getElem_cons_succ]; omega
theorem bulk_part {d : DataW H} {xs : List (DataW H × List MemPlace)} (hd : d = .agg (xs.map (·.1))) (j : Nat) (h : j < xs.length) : YtkifhflakdkemaaGreat.Rows.uptoBulk xs[j].1 ≤ YtkifhflakdkemaaGreat.Rows.uptoBulk d := by
 rw [hd]
 have := bulk_mem (xs.map (·.1)) j (by simpa using h)
 rw [List.getElem_map] at this
 simp only [YtkifhflakdkemaaGreat.Rows.uptoBulk]
 omega
end
end Go.Sl
namespace Go.Sl
open Go Go.Proofs Go.ChangeShapes Go.WideShapes Go.ChangeAt Go.RowKit
section
variable {H : Type} {enc : TypeId × Value → H} {w : World} {base : Nat} {spare : Nat → Bool} {held : Bool}
theorem bulk_world {n : Nat} {cs : List Value} {y : DataW H × List MemPlace} {x : WorldV} (h : DataW.trod enc Tryz.prog w base spare held n 62 cs = some y) (hx : cs = x.cells) (ok : WorldVOk w x) : x.script_.length ≤ YtkifhflakdkemaaGreat.Rows.uptoBulk y.1 := by
 obtain ⟨xs, m, _, hx', hl, hn, hf⟩ := DataW.trod_struct Tryz.underlying62 h
 have hn : xs.length = 10 := hn
 have e6 : DataW.trod enc Tryz.prog w base spare held m 60 ((cs.drop 43).take (Tryz.prog.cellsOf 60)) = some (xs[9]'(by omega)) := (hf 9 _ rfl).trans (List.getElem?_eq_getElem (by omega))
 rw [show Tryz.prog.cellsOf 60 = 1 by kernel_rfl] at e6
 obtain ⟨a, c, hv, _⟩ := ok.script_.sh
 have hk := ok.key_
 have hc : (cs.drop 43).take 1 = [.slice a x.script_.length c] := by
  rw [hx, ← hv]
  simp [WorldV.cells, List.drop_append, hk, List.drop_of_length_le]
 rw [hc] at e6
 exact Nat.le_trans (bulk_slice Tryz.underlying60 e6) (bulk_part (d := y.1) (xs := xs) (by rw [hx']) 9 (by omega))
end
theorem win_of {W : World} {x : WorldV} (ok : WorldVOk W x) : WIn [old W] x := by
 have hf := ok.faults_
 have ho := ok.script_
 obtain ⟨a, c, hv, _⟩ := hf.sh
 exact ⟨ok.key_, ⟨a, _, c, hv⟩, ⟨Rd.old .here ho.sl, fun o h => ⟨(ho.el o h).b_.bs .here, (ho.el o h).b_.len⟩⟩, ok.pages_, ok.text_, ok.window_, ok.n_A, ok.size_A⟩
theorem list_w (W : World) (x : WorldV) (ok : WorldVOk W x) (hup : x.script_.length ≤ 1048576) : Con Tryz.prog 5 [.agg x.cells.toArray] [old W] (fun r M => r = .bool true ∧ [old W] = M) := by
 have := list_x (win_of ok) hup
 with_unfolding_all unfold wds at this
 exact this
end Go.Sl
