/- Parts of the proof, joined: PgrV, PgrU, PgrX, OpenPg, PlA, PlB, RefA, PlW, PlC, PlD, RefD, RefB, RefPa, PlE. -/
import Derived.Test.YthodgeekgpkieaaGreatLawPagerHeadsM0
import Derived.Test.YthodgeekgpkieaaGreatLawPagerHeadsM1
import Derived.Test.YthodgeekgpkieaaGreatLawPagerHeadsM2
import Derived.Test.YthodgeekgpkieaaGreatLawPagerHeadsM3
import Derived.Test.YthodgeekgpkieaaGreatLawPagerHeadsM4
/- pager: how often a host is asked; what a host saw of a pager. No program in sight. -/
set_option linter.unusedVariables false
set_option linter.unusedSimpArgs false
namespace Go.Sl.PagerS
open Go Go.Sl Go.Sl.HostS
attribute [local irreducible] pgSealB pgOpenR
/-- How many held pages are changed. -/
def chg (s : PS) : Nat := s.held.countP fun f => f.is == 2
def pot (s : PS) (h : HS) : Nat := h.ops + chg s + (if s.err = 0 then 1 else 0)
section
variable {s : PS} {h : HS}
theorem chg_cleaned {l : List Fr} (hn : (l.map Fr.page).Nodup) {f : Fr} (hf : f ∈ l) (hc : f.is = 2) : (cleaned l f.page).countP (fun g => g.is == 2) + 1 ≤ l.countP fun g => g.is == 2 := by
  induction l with
  | nil => cases hf
  | cons x r ih =>
    rw [List.map_cons, List.nodup_cons] at hn
    unfold cleaned at ih ⊢
    rw [List.map_cons, List.countP_cons, List.countP_cons]
    rcases List.mem_cons.1 hf with e|hf
    · subst e
      rw [if_pos rfl]
      have : (r.map fun g => if g.page = f.page then { g with is := 1 } else g) = r := by
        conv => rhs; rw [← List.map_id r]
        apply List.map_congr_left
        intro g hg
        rw [if_neg (fun hh => hn.1 (by rw [← hh]; exact List.mem_map.2 ⟨g, hg, rfl⟩))]; rfl
      rw [this]
      simp [hc]
    · have := ih hn.2 hf
      have hne : ¬ x.page = f.page := fun hh => hn.1 (by rw [hh]; exact List.mem_map.2 ⟨f, hf, rfl⟩)
      rw [if_neg hne]
      omega
theorem chg_filter {l : List Fr} {f : Fr} (hf : f ∈ l) : (l.filter fun g => !(g.page == f.page)).countP (fun g => g.is == 2) + (if f.is = 2 then 1 else 0) ≤ l.countP fun g => g.is == 2 := by
  induction l with
  | nil => cases hf
  | cons x r ih =>
    have mono : (r.filter fun g => !(g.page == f.page)).countP (fun g => g.is == 2) ≤ r.countP fun g => g.is == 2 := List.Sublist.countP_le (List.filter_sublist)
    rcases List.mem_cons.1 hf with e|hf
    · subst e
      rw [List.filter_cons_of_neg (by simp), List.countP_cons]
      have : (if (f.is == 2) = true then 1 else 0) = (if f.is = 2 then 1 else 0) := by by_cases h2 : f.is = 2 <;> simp [h2]
      omega
    · have := ih hf
      by_cases e : x.page = f.page
      · rw [List.filter_cons_of_neg (by simp [e]), List.countP_cons]; omega
      · rw [List.filter_cons_of_pos (by simp [e]), List.countP_cons, List.countP_cons]; omega
theorem chg_filter_le (l : List Fr) (n : Int) : (l.filter fun g => !(g.page == n)).countP (fun g => g.is == 2) ≤ l.countP fun g => g.is == 2 := List.Sublist.countP_le (List.filter_sublist)
theorem pot_use (f : Fr) : pot (useP s f) h ≤ pot s h + 1 := by
  have := chg_filter_le s.held f.page
  unfold pot chg useP
  dsimp only
  rw [List.countP_append, List.countP_cons, List.countP_nil]
  split <;> split <;> omega
theorem pot_use0 {f : Fr} (hf : f ∈ s.held ∨ f.is ≠ 2) : pot (useP s f) h ≤ pot s h := by
  unfold pot chg useP
  dsimp only
  rw [List.countP_append, List.countP_cons, List.countP_nil]
  rcases hf with hf|hf
  · have := chg_filter hf
    have e : (if (f.is == 2) = true then 1 else 0) = (if f.is = 2 then 1 else 0) := by by_cases h2 : f.is = 2 <;> simp [h2]
    omega
  · have := chg_filter_le s.held f.page
    have e : (if (f.is == 2) = true then 1 else 0) = 0 := by simp [hf]
    omega
theorem pot_write (hk : Ok s) (h0 : s.err = 0) {n : Int} (hc : changedAt s n = true) : pot (writeP s h n).2.1 (writeP s h n).2.2 ≤ pot s h := by
  have ho := (near_write s h n).ops
  obtain ⟨f, hf⟩ : ∃ f, frOf s n = some f := by
    cases hf : frOf s n with
    | some f => exact ⟨f, rfl⟩
    | none => unfold changedAt at hc; rw [hf] at hc; cases hc
  obtain ⟨f1, f2⟩ := frOf_mem hf
  have h2 : f.is = 2 := by unfold changedAt at hc; rw [hf] at hc; simpa using hc
  by_cases he : (writeP s h n).1 = 0
  · obtain ⟨_, _, e⟩ := writeP_zero he
    have hcl := chg_cleaned hk.once f1 h2
    rw [f2] at hcl
    have e1 : chg (writeP s h n).2.1 + 1 ≤ chg s := by rw [e]; exact hcl
    have e2 : (writeP s h n).2.1.err = s.err := by rw [e]; rfl
    unfold pot
    rw [e2]
    omega
  · obtain ⟨_, e⟩ := writeP_errs s h n he
    have e1 : chg (writeP s h n).2.1 = chg s := by rw [e]; rfl
    have e2 : (writeP s h n).2.1.err = (writeP s h n).1 := by rw [e]; rfl
    unfold pot
    rw [e1, e2, if_neg he, if_pos h0]
    omega
theorem pot_tail : pot { s with held := s.held.tail } h ≤ pot s h := by
  have : (s.held.tail.countP fun f => f.is == 2) ≤ s.held.countP fun f => f.is == 2 := List.Sublist.countP_le (List.tail_sublist _)
  unfold pot chg
  dsimp only
  omega
theorem pot_room (hk : Ok s) (h0 : s.err = 0) : pot (roomP s h).2.1 (roomP s h).2.2 ≤ pot s h := by
  unfold roomP
  split
  · exact Nat.le_refl _
  · dsimp only
    split
    · rename_i hc
      have hw := pot_write (h := h) hk h0 hc
      split
      · exact Nat.le_trans pot_tail hw
      · exact hw
    · exact pot_tail
theorem pot_fetch (h0 : s.err = 0) (n : Int) : pot (fetchP s h n).2.1 (fetchP s h n).2.2 ≤ pot s h + 1 := by
  have ho := readR_ops h n
  have hr : pot s (readR h n).2.2 ≤ pot s h + 1 := by unfold pot; omega
  unfold fetchP
  split
  · dsimp only
    have hd : ∀ e, e ≠ 0 → pot (die s e) (readR h n).2.2 ≤ pot s h + 1 := fun e he => by
      unfold pot die chg
      dsimp only
      rw [if_neg he]
      omega
    split
    · split
      · exact Nat.le_trans (pot_use0 (.inr (show (1 : Nat) ≠ 2 by omega))) hr
      · rename_i hz; exact hd _ hz
    · rename_i hz; exact hd _ hz
  · exact Nat.le_trans (pot_use0 (f := ⟨n, List.replicate s.text 0#8, 0⟩) (.inr (show (0 : Nat) ≠ 2 by omega))) (Nat.le_succ _)
theorem room_err (hk : Ok s) (h0 : s.err = 0) (hz : (roomP s h).1 = 0) : (roomP s h).2.1.err = 0 := by
  unfold roomP at hz ⊢
  split
  · exact h0
  · rename_i hl
    rw [if_neg hl] at hz
    dsimp only at hz ⊢
    split
    · rename_i hc
      rw [if_pos hc] at hz
      split
      · rename_i hw
        obtain ⟨_, _, e⟩ := writeP_zero hw
        rw [e]; exact h0
      · rename_i hw; rw [if_neg hw] at hz; exact absurd hz hw
    · exact h0
theorem pot_load (hk : Ok s) (n : Int) : pot (loadP s h n).2.1 (loadP s h n).2.2 ≤ pot s h + 1 := by
  unfold loadP
  split
  · rename_i hr
    have h0 := (right_zero hr).1
    split
    · rename_i f hf
      exact Nat.le_trans (pot_use0 (.inl (frOf_mem hf).1)) (Nat.le_succ _)
    · have a := pot_room (h := h) hk h0
      dsimp only
      split
      · rename_i hz
        exact Nat.le_trans (pot_fetch (room_err hk h0 hz) n) (Nat.succ_le_succ a)
      · exact Nat.le_trans a (Nat.le_succ _)
  · exact Nat.le_succ _
theorem pot_save (hk : Ok s) (n : Int) (t : Bytes) : pot (saveP s h n t).2.1 (saveP s h n t).2.2 ≤ pot s h + 1 := by
  unfold saveP
  split
  · rename_i hr
    have h0 := (right_zero hr).1
    split
    · split
      · exact pot_use _
      · have a := pot_room (h := h) hk h0
        dsimp only
        split
        · exact Nat.le_trans (pot_use _) (Nat.succ_le_succ a)
        · exact Nat.le_trans a (Nat.le_succ _)
    · exact Nat.le_succ _
  · exact Nat.le_succ _
theorem ok_write (hk : Ok s) (n : Int) : Ok (writeP s h n).2.1 := by
  by_cases he : (writeP s h n).1 = 0
  · obtain ⟨hw, _, e⟩ := writeP_zero he
    have := hk.writes
    rw [e]; exact ok_wrote hk n (by omega)
  · obtain ⟨e1, e⟩ := writeP_errs s h n he
    rw [e]; exact ok_die hk _ e1
theorem pot_flushL : ∀ (l : List Int) (s : PS) (h : HS), Ok s → s.err = 0 → pot (flushL l s h).2.1 (flushL l s h).2.2 ≤ pot s h
  | [], s, h, _, _ => Nat.le_refl _
  | n :: r, s, h, hk, h0 => by
    unfold flushL
    split
    · rename_i hc
      have a := pot_write (h := h) hk h0 hc
      dsimp only
      split
      · rename_i hz
        obtain ⟨_, _, e⟩ := writeP_zero hz
        exact Nat.le_trans (pot_flushL r _ _ (ok_write hk n) (by rw [e]; exact h0)) a
      · exact a
    · exact pot_flushL r s h hk h0
theorem pot_flush (hk : Ok s) : pot (flushP s h).2.1 (flushP s h).2.2 ≤ pot s h := by
  unfold flushP
  split
  · rename_i h0; exact pot_flushL _ s h hk h0
  · exact Nat.le_refl _
theorem pot_ops (s : PS) (h : HS) : h.ops ≤ pot s h := by unfold pot; omega
end
end Go.Sl.PagerS

/- pager: how what a host saw begins. No program in sight. -/
set_option linter.unusedVariables false
set_option linter.unusedSimpArgs false
namespace Go.Sl.PagerS
open Go Go.Sl Go.Sl.HostS
attribute [local irreducible] pgSealB pgOpenR
def wrs (l : List HostS.Touch) : Nat := l.countP fun t => t.op == 1
/-- A touch behind others. -/
def Entry (r : BitVec 64) (pages : Int) (size : Nat) (was : List HostS.Touch) (t : HostS.Touch) : Prop :=
  t.len = size ∧ 0 ≤ t.page ∧ t.page < pages ∧ ((t.op = 0 ∧ t.head = List.replicate 12 0#8 ∧ ∃ u ∈ was, u.op = 1 ∧ u.page = t.page) ∨ (t.op = 1 ∧ t.head = leB r 8 ++ leB (BitVec.ofNat 32 (wrs was)) 4))
def Heads (r : BitVec 64) (pages : Int) (size : Nat) (l : List HostS.Touch) : Prop := ∀ i (hi : i < l.length), Entry r pages size (l.take i) l[i]
theorem Heads.snoc {r : BitVec 64} {pages : Int} {size : Nat} {l : List HostS.Touch} {t : HostS.Touch} (h : Heads r pages size l) (ht : Entry r pages size l t) : Heads r pages size (l ++ [t]) := by
  intro i hi
  by_cases e : i < l.length
  · rw [List.getElem_append_left e, List.take_append_of_le_length (Nat.le_of_lt e)]
    exact h i e
  · have e : i = l.length := by rw [List.length_append, List.length_singleton] at hi; omega
    subst e
    rw [List.getElem_append_right (Nat.le_refl _), List.take_left]
    simpa using ht
structure HI (s : PS) (h : HS) : Prop where
  heads : Heads s.round s.pages h.size h.log
  now : s.err = 0 → wrs h.log = s.writes
  then_ : wrs h.log = s.writes ∨ (wrs h.log = s.writes + 1 ∧ s.err = 110)
  last : ∀ n pl, s.last n = some pl → ∃ u ∈ h.log, u.op = 1 ∧ u.page = n
  over : Over s h
theorem does_log (h : HS) (op n : Int) (b : Bytes) (act : HS → HS) (ha : ∀ g, (act g).log = g.log) : ((does h op n b act).1.log = h.log ∧ (does h op n b act).2 = 110) ∨ ((does h op n b act).1.log = h.log ++ [touchOf h op n b] ∧ ((does h op n b act).2 = 0 ∨ (does h op n b act).2 = 110)) := by
  unfold does
  split
  · exact .inl ⟨rfl, rfl⟩
  · dsimp only
    split
    · exact .inl ⟨rfl, rfl⟩
    · split
      · exact .inr ⟨ha _, .inr rfl⟩
      · exact .inr ⟨ha _, .inl rfl⟩
theorem headOf_box (key : Bytes) (p : Plc) (t : Bytes) : headOf (pgSealB key p t) = headB p := by
  unfold headOf
  rw [pgSeal_head, pgSealB_len, show 12 - (t.length + 28) = 0 by omega]; simp
section
variable {s : PS} {h : HS}
theorem HI.there (hi : HI s h) {n : Int} (h0 : 0 ≤ n) (h1 : n < s.pages) : there h n := ⟨h0, by rw [hi.over.pages]; exact h1⟩
theorem box_len (hk : Ok s) {n : Int} (hn : n ∈ numbers s) : (boxOf s n).length = s.text + 28 ∧ 0 ≤ n ∧ n < s.pages := by
  obtain ⟨f, hf⟩ := frOf_of hn
  obtain ⟨f1, f2⟩ := frOf_mem hf
  have := hk.len f f1
  have hp := hk.there f f1
  refine ⟨?_, by omega, by omega⟩
  unfold boxOf textOf
  rw [pgSealB_len, hf]
  simp [this]
theorem HI.write (hi : HI s h) (hk : Ok s) (h0 : s.err = 0) {n : Int} (hn : n ∈ numbers s) : HI (writeP s h n).2.1 (writeP s h n).2.2 := by
  obtain ⟨b1, b2, b3⟩ := box_len hk hn
  have ht := hi.there b2 b3
  have hnow := hi.now h0
  have ho' := (near_write s h n).over hi.over
  have hw : writeR h n (boxOf s n) = ((does h 1 n (boxOf s n) (wrote n (boxOf s n))).2, (does h 1 n (boxOf s n) (wrote n (boxOf s n))).1) := by
    unfold writeR
    rw [if_pos ht, if_pos (b1.trans hi.over.size.symm)]
  have htouch : touchOf h 1 n (boxOf s n) = ⟨1, n, h.size, headB (nextPl s n)⟩ := by
    unfold touchOf
    rw [if_pos rfl]
    unfold boxOf
    rw [headOf_box]
  have hent : Entry s.round s.pages h.size h.log (touchOf h 1 n (boxOf s n)) := by
    rw [htouch]
    refine ⟨rfl, b2, b3, .inr ⟨rfl, ?_⟩⟩
    rw [hnow]; rfl
  have hlw : ∀ l, l = h.log ++ [touchOf h 1 n (boxOf s n)] → wrs l = wrs h.log + 1 := by
    intro l hl
    rw [hl, htouch]
    unfold wrs
    rw [List.countP_append]
    simp
  have hz : (writeP s h n).2.2.size = h.size := (near_write s h n).size
  have hlg := does_log h 1 n (boxOf s n) (wrote n (boxOf s n)) fun _ => rfl
  by_cases he : (writeP s h n).1 = 0
  · obtain ⟨hwn, hwz, e⟩ := writeP_zero he
    rw [hw] at hwz
    dsimp only at hwz
    have hl : (writeP s h n).2.2.log = h.log ++ [touchOf h 1 n (boxOf s n)] := by
      rw [e, hw]
      rcases hlg with ⟨_, hx⟩|⟨hx, _⟩
      · rw [hwz] at hx; cases hx
      · exact hx
    refine ⟨?_, ?_, ?_, ?_, ho'⟩
    · rw [hz, hl, e]; exact hi.heads.snoc hent
    · intro _; rw [hlw _ hl, hnow, e]; rfl
    · left; rw [hlw _ hl, hnow, e]; rfl
    · intro m pl hm
      rw [hl]
      by_cases em : m = n
      · exact ⟨touchOf h 1 n (boxOf s n), by simp, by rw [htouch], by rw [htouch, em]⟩
      · rw [e] at hm
        have : (wroteP s n).last m = s.last m := by unfold wroteP setF; simp [em]
        dsimp only at hm
        rw [this] at hm
        obtain ⟨u, u1, u2⟩ := hi.last m pl hm
        exact ⟨u, List.mem_append_left _ u1, u2⟩
  · obtain ⟨_, e⟩ := writeP_errs s h n he
    have hlast : ∀ L : List HostS.Touch, (∀ u ∈ h.log, u ∈ L) → ∀ m pl, (writeP s h n).2.1.last m = some pl → ∃ u ∈ L, u.op = 1 ∧ u.page = m := by
      intro L hL m pl hm
      rw [e] at hm
      obtain ⟨u, u1, u2⟩ := hi.last m pl hm
      exact ⟨u, hL u u1, u2⟩
    have hwr : (writeP s h n).2.1.writes = s.writes := by rw [e]; rfl
    have herr : (writeP s h n).2.1.err = (writeP s h n).1 := by rw [e]; rfl
    have hro : (writeP s h n).2.1.round = s.round ∧ (writeP s h n).2.1.pages = s.pages := by rw [e]; exact ⟨rfl, rfl⟩
    have hcase : ((writeP s h n).2.2.log = h.log) ∨ ((writeP s h n).2.2.log = h.log ++ [touchOf h 1 n (boxOf s n)] ∧ (writeP s h n).1 = 110) := by
      by_cases hwn : s.writes = 4294967295
      · left
        unfold writeP
        rw [if_pos hwn]
      · have e3 : writeP s h n = if (writeR h n (boxOf s n)).1 = 0 then (0, wroteP s n, (writeR h n (boxOf s n)).2) else ((writeR h n (boxOf s n)).1, die s (writeR h n (boxOf s n)).1, (writeR h n (boxOf s n)).2) := by
          unfold writeP
          rw [if_neg hwn]
        rw [e3] at he ⊢
        rw [hw] at he ⊢
        dsimp only at he ⊢
        split at he
        · exact absurd rfl he
        · rename_i hne
          rw [if_neg hne]
          rcases hlg with ⟨hx, _⟩|⟨hx, hy⟩
          · exact .inl hx
          · rcases hy with hy|hy
            · exact absurd hy hne
            · exact .inr ⟨hx, hy⟩
    rcases hcase with hl|⟨hl, h110⟩
    · refine ⟨by rw [hz, hl, hro.1, hro.2]; exact hi.heads, fun hh => absurd (herr ▸ hh) he, .inl (by rw [hl, hwr]; exact hnow), by rw [hl]; exact hlast _ fun _ h => h, ho'⟩
    · refine ⟨by rw [hz, hl, hro.1, hro.2]; exact hi.heads.snoc hent, fun hh => absurd (herr ▸ hh) he, .inr ⟨by rw [hlw _ hl, hwr, hnow], by rw [herr]; exact h110⟩, by rw [hl]; exact hlast _ fun _ h => List.mem_append_left _ h, ho'⟩
theorem HI.held (hi : HI s h) (l : List Fr) (m : Nat) : HI { s with held := l, most := m } h := ⟨hi.heads, hi.now, hi.then_, hi.last, ⟨hi.over.pages, hi.over.size⟩⟩
theorem HI.room (hi : HI s h) (hk : Ok s) (h0 : s.err = 0) : HI (roomP s h).2.1 (roomP s h).2.2 := by
  unfold roomP
  split
  · exact hi
  · dsimp only
    split
    · rename_i hc
      have hn : (s.held.head?.map Fr.page).getD 0 ∈ numbers s := by
        by_cases hh : (s.held.head?.map Fr.page).getD 0 ∈ numbers s
        · exact hh
        · rw [changed_no hh] at hc; cases hc
      have hw := hi.write hk h0 hn
      split
      · exact hw.held _ _
      · exact hw
    · exact hi.held _ _
theorem readR_log (h : HS) (n : Int) (ht : HostS.there h n) : (readR h n).2.2.log = h.log ∨ (readR h n).2.2.log = h.log ++ [⟨0, n, h.size, List.replicate 12 0#8⟩] := by
  have e : (readR h n).2.2 = (does h 0 n [] id).1 := by
    unfold readR
    rw [if_pos ht]
    dsimp only
    split <;> rfl
  rw [e]
  rcases does_log h 0 n [] id fun _ => rfl with ⟨hx, _⟩|⟨hx, _⟩
  · exact .inl hx
  · exact .inr hx
theorem HI.read (hi : HI s h) {n : Int} (h0 : 0 ≤ n) (h1 : n < s.pages) {pl : Plc} (hl : s.last n = some pl) : HI s (readR h n).2.2 := by
  have hs := readR_same h n
  have ho : Over s (readR h n).2.2 := ⟨hs.1.trans hi.over.pages, hs.2.trans hi.over.size⟩
  rcases readR_log h n (hi.there h0 h1) with e|e
  · exact ⟨by rw [e, hs.2]; exact hi.heads, by rw [e]; exact hi.now, by rw [e]; exact hi.then_, by rw [e]; exact hi.last, ho⟩
  · have hw : wrs (h.log ++ [⟨0, n, h.size, List.replicate 12 0#8⟩]) = wrs h.log := by unfold wrs; rw [List.countP_append]; simp
    refine ⟨?_, by rw [e, hw]; exact hi.now, by rw [e, hw]; exact hi.then_, ?_, ho⟩
    · rw [e, hs.2]
      exact hi.heads.snoc ⟨rfl, h0, h1, .inl ⟨rfl, rfl, hi.last n pl hl⟩⟩
    · intro m pl hm
      rw [e]
      obtain ⟨u, u1, u2⟩ := hi.last m pl hm
      exact ⟨u, List.mem_append_left _ u1, u2⟩
theorem HI.die (hi : HI s h) (h0 : s.err = 0) (e : Nat) : HI (die s e) h := by
  exact ⟨hi.heads, fun _ => hi.now h0, .inl (hi.now h0), hi.last, ⟨hi.over.pages, hi.over.size⟩⟩
theorem HI.use (hi : HI s h) (f : Fr) : HI (useP s f) h := hi.held _ _
theorem HI.fetch (hi : HI s h) (h0 : s.err = 0) {n : Int} (hp : 0 ≤ n ∧ n < s.pages) : HI (fetchP s h n).2.1 (fetchP s h n).2.2 := by
  unfold fetchP
  split
  · rename_i pl hl
    have hr := hi.read hp.1 hp.2 hl
    dsimp only
    split
    · split
      · exact hr.use _
      · exact hr.die h0 _
    · exact hr.die h0 _
  · exact hi.use _
theorem HI.load (hi : HI s h) (hk : Ok s) (n : Int) : HI (loadP s h n).2.1 (loadP s h n).2.2 := by
  unfold loadP
  split
  · rename_i hr
    obtain ⟨h0, hp⟩ := right_zero hr
    split
    · exact hi.use _
    · have a := hi.room hk h0
      dsimp only
      split
      · rename_i hz
        exact a.fetch (room_err hk h0 hz) (by rw [(near_room s h).spages]; exact hp)
      · exact a
  · exact hi
theorem HI.save (hi : HI s h) (hk : Ok s) (n : Int) (t : Bytes) : HI (saveP s h n t).2.1 (saveP s h n t).2.2 := by
  unfold saveP
  split
  · rename_i hr
    obtain ⟨h0, hp⟩ := right_zero hr
    split
    · split
      · exact hi.use _
      · have a := hi.room hk h0
        dsimp only
        split
        · exact a.use _
        · exact a
    · exact hi
  · exact hi
theorem HI.flushL : ∀ (l : List Int) (s : PS) (h : HS), HI s h → Ok s → s.err = 0 → HI (flushL l s h).2.1 (flushL l s h).2.2
  | [], s, h, hi, _, _ => hi
  | n :: r, s, h, hi, hk, h0 => by
    unfold PagerS.flushL
    split
    · rename_i hc
      have hn : n ∈ numbers s := by
        by_cases hh : n ∈ numbers s
        · exact hh
        · rw [changed_no hh] at hc; cases hc
      have a := hi.write hk h0 hn
      dsimp only
      split
      · rename_i hz
        obtain ⟨_, _, e⟩ := writeP_zero hz
        exact HI.flushL r _ _ a (ok_write hk n) (by rw [e]; exact h0)
      · exact a
    · exact HI.flushL r s h hi hk h0
theorem HI.flush (hi : HI s h) (hk : Ok s) : HI (flushP s h).2.1 (flushP s h).2.2 := by
  unfold flushP
  split
  · rename_i h0; exact HI.flushL _ s h hi hk h0
  · exact hi
theorem hi_fresh {key : Bytes} {round : BitVec 64} {window : Nat} {pages : Int} {text : Nat} {h : HS} (hl : h.log = []) (ho : Over (freshP key round window pages text) h) : HI (freshP key round window pages text) h :=
  ⟨(by rw [hl]; intro i hi; simp at hi), fun _ => (by rw [hl]; rfl), .inl (by rw [hl]; rfl), fun n pl hh => (by cases hh), ho⟩
end
end Go.Sl.PagerS

/- pager: two pagers that are asked alike are seen alike, whatever stands on their pages. No program in sight. -/
set_option linter.unusedVariables false
set_option linter.unusedSimpArgs false
namespace Go.Sl.PagerS
open Go Go.Sl Go.Sl.HostS
attribute [local irreducible] pgSealB pgOpenR
structure HRel (h g : HS) : Prop where
  pages : h.pages = g.pages
  size : h.size = g.size
  ops : h.ops = g.ops
  log : h.log = g.log
  down : h.down = g.down
  coming : ∀ k, before (h.coming k) = before (g.coming k) ∧ behind (h.coming k) = behind (g.coming k)
abbrev pi (f : Fr) : Int × Nat := (f.page, f.is)
structure SRel (s t : PS) : Prop where
  held : s.held.map pi = t.held.map pi
  round : s.round = t.round
  window : s.window = t.window
  pages : s.pages = t.pages
  text : s.text = t.text
  most : s.most = t.most
  writes : s.writes = t.writes
  err : s.err = t.err
  last : s.last = t.last
section
variable {s t : PS} {h g : HS}
theorem SRel.len (r : SRel s t) : s.held.length = t.held.length := by
  have := congrArg List.length r.held
  rwa [List.length_map, List.length_map] at this
theorem SRel.numbers (r : SRel s t) : numbers s = numbers t := by
  have := congrArg (List.map Prod.fst) r.held
  rw [List.map_map, List.map_map] at this
  exact this
theorem find_pi (l : List Fr) (n : Int) : (l.find? fun f => f.page == n).map pi = (l.map pi).find? fun x => x.1 == n := by
  rw [List.find?_map]; rfl
theorem changed_pi (s : PS) (n : Int) : changedAt s n = ((((s.held.map pi).find? fun x => x.1 == n).map Prod.snd).getD 0 == 2) := by
  unfold changedAt frOf
  rw [← find_pi, Option.map_map]
  rfl
theorem SRel.changed (r : SRel s t) (n : Int) : changedAt s n = changedAt t n := by rw [changed_pi, changed_pi, r.held]
theorem SRel.right (r : SRel s t) (n : Int) : rightP s n = rightP t n := by unfold rightP; rw [r.err, r.pages]
theorem SRel.frOf (r : SRel s t) (n : Int) : (frOf s n).map pi = (frOf t n).map pi := by unfold PagerS.frOf; rw [find_pi, find_pi, r.held]
theorem SRel.next (r : SRel s t) (n : Int) : nextPl s n = nextPl t n := by
  unfold nextPl verOf
  rw [r.round, r.writes, r.last]
theorem cleaned_pi (l : List Fr) (n : Int) : (cleaned l n).map pi = (l.map pi).map fun x => if x.1 = n then (x.1, 1) else x := by
  unfold cleaned
  rw [List.map_map, List.map_map]
  apply List.map_congr_left
  intro f _
  simp only [Function.comp]
  split
  · rename_i e; rfl
  · rfl
theorem SRel.wrote (r : SRel s t) (n : Int) : SRel (wroteP s n) (wroteP t n) :=
  ⟨by show (cleaned s.held n).map pi = (cleaned t.held n).map pi; rw [cleaned_pi, cleaned_pi, r.held], r.round, r.window, r.pages, r.text, r.most, by show s.writes + 1 = t.writes + 1; rw [r.writes], r.err,
    by show setF s.last n (some (nextPl s n)) = setF t.last n (some (nextPl t n)); rw [r.next, r.last]⟩
theorem SRel.die (r : SRel s t) (e : Nat) : SRel (die s e) (die t e) := ⟨r.held, r.round, r.window, r.pages, r.text, r.most, r.writes, rfl, r.last⟩
theorem filter_pi (l : List Fr) (n : Int) : (l.filter fun f => !(f.page == n)).map pi = (l.map pi).filter fun x => !(x.1 == n) := by
  rw [List.filter_map]; rfl
theorem SRel.use (r : SRel s t) {f f' : Fr} (e : pi f = pi f') : SRel (useP s f) (useP t f') := by
  have e1 : f.page = f'.page := congrArg Prod.fst e
  have hh : ((s.held.filter fun g => !(g.page == f.page)) ++ [f]).map pi = ((t.held.filter fun g => !(g.page == f'.page)) ++ [f']).map pi := by
    rw [List.map_append, List.map_append, filter_pi, filter_pi, r.held, e1]
    simp only [List.map_cons, List.map_nil, e]
  have hl := congrArg List.length hh
  rw [List.length_map, List.length_map] at hl
  exact ⟨hh, r.round, r.window, r.pages, r.text, by show max s.most _ = max t.most _; rw [r.most, hl], r.writes, r.err, r.last⟩
theorem SRel.tail (r : SRel s t) : SRel { s with held := s.held.tail } { t with held := t.held.tail } :=
  ⟨by show s.held.tail.map pi = t.held.tail.map pi; rw [List.map_tail, List.map_tail, r.held], r.round, r.window, r.pages, r.text, r.most, r.writes, r.err, r.last⟩
end
section
variable {s t : PS} {h g : HS} {b : Int → Bytes}
end
end Go.Sl.PagerS

/- trystlaw13.Life opened. -/
set_option linter.unusedVariables false
set_option linter.unusedSimpArgs false
set_option maxHeartbeats 2000000
namespace Go.Sl
open Go Go.Proofs Go.ChangeShapes Go.WideShapes Go.ChangeAt Go.RowKit
structure FaultV where
  at_ : Int
  kind_ : Int
  page_ : Int
  byte_ : Int
  by_ : BitVec 8
  back_ : Int
def FaultV.cells (x : FaultV) : List Value := [.int .i64 x.at_] ++ ([.int .i64 x.kind_] ++ ([.int .i64 x.page_] ++ ([.int .i64 x.byte_] ++ ([u8b x.by_] ++ ([.int .i64 x.back_])))))
structure FaultVOk (w : World) (x : FaultV) : Prop where
  triv : True
  at_ : -9223372036854775808 ≤ x.at_ ∧ x.at_ ≤ 9223372036854775807
  kind_ : -9223372036854775808 ≤ x.kind_ ∧ x.kind_ ≤ 9223372036854775807
  page_ : -9223372036854775808 ≤ x.page_ ∧ x.page_ ≤ 9223372036854775807
  byte_ : -9223372036854775808 ≤ x.byte_ ∧ x.byte_ ≤ 9223372036854775807
  back_ : -9223372036854775808 ≤ x.back_ ∧ x.back_ ≤ 9223372036854775807
theorem FaultV.len {w : World} {x : FaultV} (h : FaultVOk w x) : x.cells.length = 6 := by
  simp [FaultV.cells]
section
variable {H : Type} {enc : TypeId × Value → H} {w : World} {base : Nat} {spare : Nat → Bool} {held : Bool}
theorem open_FaultV {n : Nat} {cs : List Value} {y : DataW H × List MemPlace} (h : DataW.trod enc Tryz.prog w base spare held n 70 cs = some y) (hs : Small Tryz.prog 70 y.1) : ∃ x : FaultV, cs = x.cells ∧ FaultVOk w x := by
  obtain ⟨xs, m, _, hx, hl, hn, hf⟩ := DataW.trod_struct Tryz.underlying70 h
  rw [show Tryz.prog.cellsOf 70 = 6 by kernel_rfl] at hl
  have hn : xs.length = 6 := hn
  have g : ∀ i (hi : i < xs.length), xs[i]? = some xs[i] := fun i hi => List.getElem?_eq_getElem hi
  rw [hx] at hs
  have e0 : DataW.trod enc Tryz.prog w base spare held m 3 ((cs.drop 0).take (Tryz.prog.cellsOf 3)) = some (xs[0]'(by omega)) := (hf 0 _ rfl).trans (g 0 (by omega))
  rw [show Tryz.prog.cellsOf 3 = 1 by kernel_rfl] at e0
  obtain ⟨n0, c0, _, wf0⟩ := DataW.trod_int Tryz.underlying3 e0
  have e1 : DataW.trod enc Tryz.prog w base spare held m 3 ((cs.drop 1).take (Tryz.prog.cellsOf 3)) = some (xs[1]'(by omega)) := (hf 1 _ rfl).trans (g 1 (by omega))
  rw [show Tryz.prog.cellsOf 3 = 1 by kernel_rfl] at e1
  obtain ⟨n1, c1, _, wf1⟩ := DataW.trod_int Tryz.underlying3 e1
  have e2 : DataW.trod enc Tryz.prog w base spare held m 3 ((cs.drop 2).take (Tryz.prog.cellsOf 3)) = some (xs[2]'(by omega)) := (hf 2 _ rfl).trans (g 2 (by omega))
  rw [show Tryz.prog.cellsOf 3 = 1 by kernel_rfl] at e2
  obtain ⟨n2, c2, _, wf2⟩ := DataW.trod_int Tryz.underlying3 e2
  have e3 : DataW.trod enc Tryz.prog w base spare held m 3 ((cs.drop 3).take (Tryz.prog.cellsOf 3)) = some (xs[3]'(by omega)) := (hf 3 _ rfl).trans (g 3 (by omega))
  rw [show Tryz.prog.cellsOf 3 = 1 by kernel_rfl] at e3
  obtain ⟨n3, c3, _, wf3⟩ := DataW.trod_int Tryz.underlying3 e3
  have e4 : DataW.trod enc Tryz.prog w base spare held m 5 ((cs.drop 4).take (Tryz.prog.cellsOf 5)) = some (xs[4]'(by omega)) := (hf 4 _ rfl).trans (g 4 (by omega))
  rw [show Tryz.prog.cellsOf 5 = 1 by kernel_rfl] at e4
  obtain ⟨n4, c4, _, wf4⟩ := DataW.trod_int Tryz.underlying5 e4
  obtain ⟨b4, hb4⟩ := u8_of wf4
  rw [hb4] at c4
  have e5 : DataW.trod enc Tryz.prog w base spare held m 3 ((cs.drop 5).take (Tryz.prog.cellsOf 3)) = some (xs[5]'(by omega)) := (hf 5 _ rfl).trans (g 5 (by omega))
  rw [show Tryz.prog.cellsOf 3 = 1 by kernel_rfl] at e5
  obtain ⟨n5, c5, _, wf5⟩ := DataW.trod_int Tryz.underlying3 e5
  refine ⟨⟨n0, n1, n2, n3, b4, n5⟩, ?_, ⟨trivial, i64_of wf0, i64_of wf1, i64_of wf2, i64_of wf3, i64_of wf5⟩⟩
  have d0 : cs.drop 0 = (cs.drop 0).take 1 ++ cs.drop 1 := by
    have := (List.take_append_drop 1 (cs.drop 0)).symm
    rwa [List.drop_drop] at this
  have d1 : cs.drop 1 = (cs.drop 1).take 1 ++ cs.drop 2 := by
    have := (List.take_append_drop 1 (cs.drop 1)).symm
    rwa [List.drop_drop] at this
  have d2 : cs.drop 2 = (cs.drop 2).take 1 ++ cs.drop 3 := by
    have := (List.take_append_drop 1 (cs.drop 2)).symm
    rwa [List.drop_drop] at this
  have d3 : cs.drop 3 = (cs.drop 3).take 1 ++ cs.drop 4 := by
    have := (List.take_append_drop 1 (cs.drop 3)).symm
    rwa [List.drop_drop] at this
  have d4 : cs.drop 4 = (cs.drop 4).take 1 ++ cs.drop 5 := by
    have := (List.take_append_drop 1 (cs.drop 4)).symm
    rwa [List.drop_drop] at this
  have d5 : cs.drop 5 = (cs.drop 5).take 1 := by rw [List.take_of_length_le (by simp; omega)]
  show cs = _ ++ (_ ++ (_ ++ (_ ++ (_ ++ (_)))))
  have dz : cs = cs.drop 0 := rfl
  rw [dz, d0, d1, d2, d3, d4, d5, c0, c1, c2, c3, c4, c5] <;> rfl
end
/-- A slice of them that comes in. -/
structure InFaultV (W : World) (v : Value) (l : List FaultV) : Prop where
  sl : SlW W 6 v l.length (l.flatMap FaultV.cells)
  sh : ∃ a c, v = .slice a l.length c ∧ l.length ≤ c ∧ c ≤ 9223372036854775807
  el : ∀ x ∈ l, FaultVOk W x
  len : l.length * 48 ≤ 140737488351232
abbrev FaultVS (w : World) := {x : FaultV // FaultVOk w x}
theorem InFaultV.sub {w : World} {v : Value} {l : List FaultV} (h : InFaultV w v l) : ∃ l2 : List (FaultVS w), l2.map (·.1) = l ∧ SlW w 6 v l2.length (l2.flatMap fun x => x.1.cells) := by
  have e : (l.attach.map fun x => (⟨x.1, h.el x.1 x.2⟩ : FaultVS w)).map (·.1) = l := by rw [List.map_map]; exact List.attach_map_subtype_val l
  refine ⟨_, e, ?_⟩
  have h2 := h.sl
  rw [← e, List.flatMap_map] at h2
  rw [List.length_map] at h2
  exact h2
section
variable {H : Type} {enc : TypeId × Value → H} {w : World} {base : Nat} {spare : Nat → Bool} {held : Bool}
theorem opens_FaultV {n : Nat} {cs : List Value} {y : DataW H × List MemPlace} (h : DataW.trod enc Tryz.prog w base spare held n 55 cs = some y) (hs : Small Tryz.prog 55 y.1) : ∃ (v : Value) (l : List FaultV), cs = [v] ∧ InFaultV w v l := by
  obtain ⟨v, l, h1, h2, h3, h4⟩ := open_sls (encd := fun x : FaultVS w => x.1.cells) (good := fun _ => True) Tryz.underlying55 (by kernel_rfl) (by decide) (by kernel_rfl : Tryz.prog.bytesOf 70 = 48) (fun x => FaultV.len x.2) (fun n cs y hy hsm => by
    obtain ⟨x, hx, ok⟩ := open_FaultV hy hsm
    exact ⟨⟨x, ok⟩, hx, trivial⟩) h hs
  obtain ⟨a, len, cap, h5, h6, h7⟩ := slice_shape Tryz.underlying55 h
  rw [h1] at h5
  simp only [List.cons.injEq, and_true] at h5
  obtain ⟨a', k', hv⟩ := h2.len
  rw [h5] at hv
  simp only [Value.slice.injEq] at hv
  obtain ⟨rfl, rfl, rfl⟩ := hv
  have e : (l.map (·.1)).flatMap FaultV.cells = l.flatMap fun x => x.1.cells := by rw [List.flatMap_map]
  refine ⟨v, l.map (·.1), h1, ⟨?_, ?_, ?_, ?_⟩⟩
  · rw [e, List.length_map]; exact h2
  · rw [List.length_map]; exact ⟨_, _, h5, h6, h7⟩
  · intro x hx
    obtain ⟨z, _, rfl⟩ := List.mem_map.1 hx
    exact z.2
  · rw [List.length_map]; exact h4
end
structure OpV where
  kind_ : Int
  page_ : Int
  text_V : Value
  text_ : List Byte
def OpV.cells (x : OpV) : List Value := [.int .i64 x.kind_] ++ ([.int .i64 x.page_] ++ ([x.text_V]))
structure OpVOk (w : World) (x : OpV) : Prop where
  triv : True
  kind_ : -9223372036854775808 ≤ x.kind_ ∧ x.kind_ ≤ 9223372036854775807
  page_ : -9223372036854775808 ≤ x.page_ ∧ x.page_ ≤ 9223372036854775807
  text_ : InB w x.text_V x.text_
theorem OpV.len {w : World} {x : OpV} (h : OpVOk w x) : x.cells.length = 3 := by
  simp [OpV.cells]
section
variable {H : Type} {enc : TypeId × Value → H} {w : World} {base : Nat} {spare : Nat → Bool} {held : Bool}
theorem open_OpV {n : Nat} {cs : List Value} {y : DataW H × List MemPlace} (h : DataW.trod enc Tryz.prog w base spare held n 75 cs = some y) (hs : Small Tryz.prog 75 y.1) : ∃ x : OpV, cs = x.cells ∧ OpVOk w x := by
  obtain ⟨xs, m, _, hx, hl, hn, hf⟩ := DataW.trod_struct Tryz.underlying75 h
  rw [show Tryz.prog.cellsOf 75 = 3 by kernel_rfl] at hl
  have hn : xs.length = 3 := hn
  have g : ∀ i (hi : i < xs.length), xs[i]? = some xs[i] := fun i hi => List.getElem?_eq_getElem hi
  rw [hx] at hs
  have e0 : DataW.trod enc Tryz.prog w base spare held m 3 ((cs.drop 0).take (Tryz.prog.cellsOf 3)) = some (xs[0]'(by omega)) := (hf 0 _ rfl).trans (g 0 (by omega))
  rw [show Tryz.prog.cellsOf 3 = 1 by kernel_rfl] at e0
  obtain ⟨n0, c0, _, wf0⟩ := DataW.trod_int Tryz.underlying3 e0
  have e1 : DataW.trod enc Tryz.prog w base spare held m 3 ((cs.drop 1).take (Tryz.prog.cellsOf 3)) = some (xs[1]'(by omega)) := (hf 1 _ rfl).trans (g 1 (by omega))
  rw [show Tryz.prog.cellsOf 3 = 1 by kernel_rfl] at e1
  obtain ⟨n1, c1, _, wf1⟩ := DataW.trod_int Tryz.underlying3 e1
  have e2 : DataW.trod enc Tryz.prog w base spare held m 33 ((cs.drop 2).take (Tryz.prog.cellsOf 33)) = some (xs[2]'(by omega)) := (hf 2 _ rfl).trans (g 2 (by omega))
  rw [show Tryz.prog.cellsOf 33 = 1 by kernel_rfl] at e2
  have hs2 := Small.part (j := 2) Tryz.underlying75 hs rfl (by rw [List.getElem?_map, g 2 (by omega)]; rfl)
  obtain ⟨v2, l2, c2, ok2⟩ := open_bs Tryz.underlying33 Tryz.underlying5 (by kernel_rfl) (by kernel_rfl) e2 hs2
  refine ⟨⟨n0, n1, v2, l2⟩, ?_, ⟨trivial, i64_of wf0, i64_of wf1, ok2⟩⟩
  have d0 : cs.drop 0 = (cs.drop 0).take 1 ++ cs.drop 1 := by
    have := (List.take_append_drop 1 (cs.drop 0)).symm
    rwa [List.drop_drop] at this
  have d1 : cs.drop 1 = (cs.drop 1).take 1 ++ cs.drop 2 := by
    have := (List.take_append_drop 1 (cs.drop 1)).symm
    rwa [List.drop_drop] at this
  have d2 : cs.drop 2 = (cs.drop 2).take 1 := by rw [List.take_of_length_le (by simp; omega)]
  show cs = _ ++ (_ ++ (_))
  have dz : cs = cs.drop 0 := rfl
  rw [dz, d0, d1, d2, c0, c1, c2] <;> rfl
end
/-- A slice of them that comes in. -/
structure InOpV (W : World) (v : Value) (l : List OpV) : Prop where
  sl : SlW W 3 v l.length (l.flatMap OpV.cells)
  sh : ∃ a c, v = .slice a l.length c ∧ l.length ≤ c ∧ c ≤ 9223372036854775807
  el : ∀ x ∈ l, OpVOk W x
  len : l.length * 40 ≤ 140737488351232
abbrev OpVS (w : World) := {x : OpV // OpVOk w x}
theorem InOpV.sub {w : World} {v : Value} {l : List OpV} (h : InOpV w v l) : ∃ l2 : List (OpVS w), l2.map (·.1) = l ∧ SlW w 3 v l2.length (l2.flatMap fun x => x.1.cells) := by
  have e : (l.attach.map fun x => (⟨x.1, h.el x.1 x.2⟩ : OpVS w)).map (·.1) = l := by rw [List.map_map]; exact List.attach_map_subtype_val l
  refine ⟨_, e, ?_⟩
  have h2 := h.sl
  rw [← e, List.flatMap_map] at h2
  rw [List.length_map] at h2
  exact h2
section
variable {H : Type} {enc : TypeId × Value → H} {w : World} {base : Nat} {spare : Nat → Bool} {held : Bool}
theorem opens_OpV {n : Nat} {cs : List Value} {y : DataW H × List MemPlace} (h : DataW.trod enc Tryz.prog w base spare held n 56 cs = some y) (hs : Small Tryz.prog 56 y.1) : ∃ (v : Value) (l : List OpV), cs = [v] ∧ InOpV w v l := by
  obtain ⟨v, l, h1, h2, h3, h4⟩ := open_sls (encd := fun x : OpVS w => x.1.cells) (good := fun _ => True) Tryz.underlying56 (by kernel_rfl) (by decide) (by kernel_rfl : Tryz.prog.bytesOf 75 = 40) (fun x => OpV.len x.2) (fun n cs y hy hsm => by
    obtain ⟨x, hx, ok⟩ := open_OpV hy hsm
    exact ⟨⟨x, ok⟩, hx, trivial⟩) h hs
  obtain ⟨a, len, cap, h5, h6, h7⟩ := slice_shape Tryz.underlying56 h
  rw [h1] at h5
  simp only [List.cons.injEq, and_true] at h5
  obtain ⟨a', k', hv⟩ := h2.len
  rw [h5] at hv
  simp only [Value.slice.injEq] at hv
  obtain ⟨rfl, rfl, rfl⟩ := hv
  have e : (l.map (·.1)).flatMap OpV.cells = l.flatMap fun x => x.1.cells := by rw [List.flatMap_map]
  refine ⟨v, l.map (·.1), h1, ⟨?_, ?_, ?_, ?_⟩⟩
  · rw [e, List.length_map]; exact h2
  · rw [List.length_map]; exact ⟨_, _, h5, h6, h7⟩
  · intro x hx
    obtain ⟨z, _, rfl⟩ := List.mem_map.1 hx
    exact z.2
  · rw [List.length_map]; exact h4
end
structure PLifeV where
  pages_ : Int
  size_ : Int
  window_ : Int
  key_ : List Byte
  round_ : BitVec 64
  faults_V : Value
  faults_ : List FaultV
  script_V : Value
  script_ : List OpV
def PLifeV.cells (x : PLifeV) : List Value := [.int .i64 x.pages_] ++ ([.int .i64 x.size_] ++ ([.int .i64 x.window_] ++ (x.key_.map u8b ++ ([u64b x.round_] ++ ([x.faults_V] ++ ([x.script_V]))))))
structure PLifeVOk (w : World) (x : PLifeV) : Prop where
  triv : True
  pages_ : -9223372036854775808 ≤ x.pages_ ∧ x.pages_ ≤ 9223372036854775807
  size_ : -9223372036854775808 ≤ x.size_ ∧ x.size_ ≤ 9223372036854775807
  window_ : -9223372036854775808 ≤ x.window_ ∧ x.window_ ≤ 9223372036854775807
  key_ : x.key_.length = 32
  faults_ : InFaultV w x.faults_V x.faults_
  script_ : InOpV w x.script_V x.script_
theorem PLifeV.len {w : World} {x : PLifeV} (h : PLifeVOk w x) : x.cells.length = 38 := by
  simp [PLifeV.cells, h.key_]
section
variable {H : Type} {enc : TypeId × Value → H} {w : World} {base : Nat} {spare : Nat → Bool} {held : Bool}
theorem open_PLifeV {n : Nat} {cs : List Value} {y : DataW H × List MemPlace} (h : DataW.trod enc Tryz.prog w base spare held n 58 cs = some y) (hs : Small Tryz.prog 58 y.1) : ∃ x : PLifeV, cs = x.cells ∧ PLifeVOk w x := by
  obtain ⟨xs, m, _, hx, hl, hn, hf⟩ := DataW.trod_struct Tryz.underlying58 h
  rw [show Tryz.prog.cellsOf 58 = 38 by kernel_rfl] at hl
  have hn : xs.length = 7 := hn
  have g : ∀ i (hi : i < xs.length), xs[i]? = some xs[i] := fun i hi => List.getElem?_eq_getElem hi
  rw [hx] at hs
  have e0 : DataW.trod enc Tryz.prog w base spare held m 3 ((cs.drop 0).take (Tryz.prog.cellsOf 3)) = some (xs[0]'(by omega)) := (hf 0 _ rfl).trans (g 0 (by omega))
  rw [show Tryz.prog.cellsOf 3 = 1 by kernel_rfl] at e0
  obtain ⟨n0, c0, _, wf0⟩ := DataW.trod_int Tryz.underlying3 e0
  have e1 : DataW.trod enc Tryz.prog w base spare held m 3 ((cs.drop 1).take (Tryz.prog.cellsOf 3)) = some (xs[1]'(by omega)) := (hf 1 _ rfl).trans (g 1 (by omega))
  rw [show Tryz.prog.cellsOf 3 = 1 by kernel_rfl] at e1
  obtain ⟨n1, c1, _, wf1⟩ := DataW.trod_int Tryz.underlying3 e1
  have e2 : DataW.trod enc Tryz.prog w base spare held m 3 ((cs.drop 2).take (Tryz.prog.cellsOf 3)) = some (xs[2]'(by omega)) := (hf 2 _ rfl).trans (g 2 (by omega))
  rw [show Tryz.prog.cellsOf 3 = 1 by kernel_rfl] at e2
  obtain ⟨n2, c2, _, wf2⟩ := DataW.trod_int Tryz.underlying3 e2
  have e3 : DataW.trod enc Tryz.prog w base spare held m 23 ((cs.drop 3).take (Tryz.prog.cellsOf 23)) = some (xs[3]'(by omega)) := (hf 3 _ rfl).trans (g 3 (by omega))
  rw [show Tryz.prog.cellsOf 23 = 32 by kernel_rfl] at e3
  obtain ⟨l3, c3, ok3⟩ := open_ba e3
  have e4 : DataW.trod enc Tryz.prog w base spare held m 24 ((cs.drop 35).take (Tryz.prog.cellsOf 24)) = some (xs[4]'(by omega)) := (hf 4 _ rfl).trans (g 4 (by omega))
  rw [show Tryz.prog.cellsOf 24 = 1 by kernel_rfl] at e4
  obtain ⟨n4, c4, _, wf4⟩ := DataW.trod_int Tryz.underlying24 e4
  obtain ⟨b4, hb4⟩ := u64_of wf4
  rw [hb4] at c4
  have e5 : DataW.trod enc Tryz.prog w base spare held m 55 ((cs.drop 36).take (Tryz.prog.cellsOf 55)) = some (xs[5]'(by omega)) := (hf 5 _ rfl).trans (g 5 (by omega))
  rw [show Tryz.prog.cellsOf 55 = 1 by kernel_rfl] at e5
  have hs5 := Small.part (j := 5) Tryz.underlying58 hs rfl (by rw [List.getElem?_map, g 5 (by omega)]; rfl)
  obtain ⟨v5, l5, c5, ok5⟩ := opens_FaultV e5 hs5
  have e6 : DataW.trod enc Tryz.prog w base spare held m 56 ((cs.drop 37).take (Tryz.prog.cellsOf 56)) = some (xs[6]'(by omega)) := (hf 6 _ rfl).trans (g 6 (by omega))
  rw [show Tryz.prog.cellsOf 56 = 1 by kernel_rfl] at e6
  have hs6 := Small.part (j := 6) Tryz.underlying58 hs rfl (by rw [List.getElem?_map, g 6 (by omega)]; rfl)
  obtain ⟨v6, l6, c6, ok6⟩ := opens_OpV e6 hs6
  refine ⟨⟨n0, n1, n2, l3, b4, v5, l5, v6, l6⟩, ?_, ⟨trivial, i64_of wf0, i64_of wf1, i64_of wf2, ok3, ok5, ok6⟩⟩
  have d0 : cs.drop 0 = (cs.drop 0).take 1 ++ cs.drop 1 := by
    have := (List.take_append_drop 1 (cs.drop 0)).symm
    rwa [List.drop_drop] at this
  have d1 : cs.drop 1 = (cs.drop 1).take 1 ++ cs.drop 2 := by
    have := (List.take_append_drop 1 (cs.drop 1)).symm
    rwa [List.drop_drop] at this
  have d2 : cs.drop 2 = (cs.drop 2).take 1 ++ cs.drop 3 := by
    have := (List.take_append_drop 1 (cs.drop 2)).symm
    rwa [List.drop_drop] at this
  have d3 : cs.drop 3 = (cs.drop 3).take 32 ++ cs.drop 35 := by
    have := (List.take_append_drop 32 (cs.drop 3)).symm
    rwa [List.drop_drop] at this
  have d4 : cs.drop 35 = (cs.drop 35).take 1 ++ cs.drop 36 := by
    have := (List.take_append_drop 1 (cs.drop 35)).symm
    rwa [List.drop_drop] at this
  have d5 : cs.drop 36 = (cs.drop 36).take 1 ++ cs.drop 37 := by
    have := (List.take_append_drop 1 (cs.drop 36)).symm
    rwa [List.drop_drop] at this
  have d6 : cs.drop 37 = (cs.drop 37).take 1 := by rw [List.take_of_length_le (by simp; omega)]
  show cs = _ ++ (_ ++ (_ ++ (_ ++ (_ ++ (_ ++ (_))))))
  have dz : cs = cs.drop 0 := rfl
  rw [dz, d0, d1, d2, d3, d4, d5, d6, c0, c1, c2, c3, c4, c5, c6] <;> rfl
end
end Go.Sl

/- trystlaw13: a life's cells; made, right, walked; lists of ints compared. -/
set_option maxHeartbeats 4000000
set_option maxRecDepth 10000
set_option linter.unusedVariables false
set_option linter.unusedSimpArgs false
namespace Go.Sl
open Go Go.Proofs
attribute [local irreducible] cl pt own old pur ex all den denOps denS xOps xC cX CX xthen xblk xcut xloop xgo xng retX resX Calls PV Rd Con
attribute [local irreducible] hostA pgA
open PagerS (PS Over)
theorem pg_ok {p ph : Nat} {s : PS} {M M' : List Asrt} {F : Asrt} {w0 w : World} (hm : Has M (pgA p ph s) M') (H : St w0 w (F :: M)) : PagerS.Ok s := by
  have H := H.pick (.there hm)
  unfold pgA at H
  obtain ⟨t, H⟩ := H.ex_get
  exact (St.pur_get (St.all_get H)).ok
def pF (x : FaultV) : HostS.Fault := ⟨x.at_, x.kind_, x.page_, x.byte_, x.by_, x.back_⟩
def flts (x : PLifeV) : List HostS.Fault := x.faults_.map pF
/-- A life's cells. -/
def pcs (x : PLifeV) : Array Value := x.cells.toArray
section
variable {x : PLifeV}
theorem pcs_pages : (pcs x)[0]? = some (.int .i64 x.pages_) := by unfold pcs; simp [PLifeV.cells]
theorem pcs_size : (pcs x)[1]? = some (.int .i64 x.size_) := by unfold pcs; simp [PLifeV.cells]
theorem pcs_window : (pcs x)[2]? = some (.int .i64 x.window_) := by unfold pcs; simp [PLifeV.cells]
theorem pcs_key (hk : x.key_.length = 32) : (pcs x).extract 3 (3 + 32) = (x.key_.map u8b).toArray := by
  unfold pcs
  apply Array.ext'
  simp [PLifeV.cells, List.extract_eq_take_drop, List.drop_append, List.take_append, List.take_of_length_le, hk]
theorem pcs_round (hk : x.key_.length = 32) : (pcs x)[35]? = some (u64b x.round_) := by unfold pcs; simp [PLifeV.cells, List.getElem?_append, List.getElem?_cons, hk]
theorem pcs_faults (hk : x.key_.length = 32) : (pcs x)[36]? = some x.faults_V := by unfold pcs; simp [PLifeV.cells, List.getElem?_append, List.getElem?_cons, hk]
theorem pcs_script (hk : x.key_.length = 32) : (pcs x)[37]? = some x.script_V := by unfold pcs; simp [PLifeV.cells, List.getElem?_append, List.getElem?_cons, hk]
theorem pcs_len (hk : x.key_.length = 32) : (pcs x).size = 38 := by unfold pcs; simp [PLifeV.cells, hk]
end
structure OpsIn (L : List Asrt) (sv : Value) (st : List OpV) : Prop where
  rd : Rd L 3 sv st.length (st.flatMap OpV.cells)
  el : ∀ o ∈ st, Bs L o.text_V o.text_ ∧ o.text_.length ≤ 140737488351232
  len : st.length * 40 ≤ 140737488351232
theorem opv_len (o : OpV) : o.cells.length = 3 := rfl
structure PIn (L : List Asrt) (x : PLifeV) : Prop where
  key : x.key_.length = 32
  flt : FaultsIn L x.faults_V (flts x)
  ops : OpsIn L x.script_V x.script_
/-- The host, and the pager, of a life. -/
def hs0 (x : PLifeV) : HostS.HS := HostS.fresh x.pages_ x.size_.toNat (flts x)
def ps0 (x : PLifeV) : PS := PagerS.freshP x.key_ x.round_ x.window_.toNat x.pages_ (x.size_.toNat - 28)
/-- May there be a pager? -/
def Made (x : PLifeV) : Prop := HostS.mayBe x.pages_ x.size_ (flts x) ∧ newR (hs0 x) x.window_ = 0
theorem made_facts {x : PLifeV} (hk : x.key_.length = 32) (h : Made x) : PagerS.Ok (ps0 x) ∧ Over (ps0 x) (hs0 x) ∧ PagerS.pot (ps0 x) (hs0 x) ≤ 1 ∧ (2 ≤ x.window_ ∧ x.window_ ≤ 16) ∧ (29 ≤ x.size_ ∧ x.size_ ≤ 4124) ∧ 0 ≤ x.pages_ ∧ x.pages_ ≤ 65536 := by
  obtain ⟨⟨h1, h2⟩, h3⟩ := h
  have hsz : (hs0 x).size = x.size_.toNat := rfl
  unfold newR at h3
  split at h3
  · cases h3
  · split at h3
    · cases h3
    · refine ⟨PagerS.ok_fresh hk (by omega) (by omega) (by omega), ⟨rfl, ?_⟩, Nat.le_refl _, by omega, by omega, by omega, by omega⟩
      show x.size_.toNat = x.size_.toNat - 28 + 28
      omega
section
variable {L : List Asrt} {x : PLifeV}
theorem made_ok (hi : PIn L x) (hm : Made x) : Con Tryz.prog 24 [.agg (pcs x)] L (fun r M => ∃ ph p, r = .tuple #[hp ph, hp p, .bool true] ∧ M = pgA p ph (ps0 x) :: hostA ph (hs0 x) :: L) := by
  refine Con.get (fun w0 w F H => hi.flt.rd.len H) ?_
  rintro ⟨fa, fc, hfv⟩
  have hk := hi.key
  have hfl := hi.flt.len
  have hnw := new_ok (L := L) x.pages_ x.size_ (by omega) hi.flt.ok hi.flt.rd hm.1
  have hpn := fun ph => pnew_ok (ph := ph) (h := hs0 x) hk x.round_ hm.2
  have hlen := pcs_len hk
  rw [hfv] at hnw
  have hflt := pcs_faults hk
  rw [hfv] at hflt
  refine fn_x Tryz.func24 rfl rfl rfl Tryz.mixed (by kernel_rfl) ?_
  intro w0
  refine Y1 ?_
  refine Zh5 rfl ?_; intro b1
  refine Y6 ?_
  refine Zhp rfl qH (pcs_pages) ?_
  refine Y1 ?_
  refine Zhp rfl qH (pcs_size) ?_
  refine Y1 ?_
  refine Zhp rfl qH (hflt) ?_
  refine Zh8 rfl (by kernel_rfl) (hnw) rfl qT ?_
  rintro _ _ ⟨ph, rfl, rfl⟩
  refine Y10 ?_
  refine Zhn 19 rfl (decide_eq_false (fun hh => hh rfl)) ?_
  refine V6 ?_
  refine Zgp (Imp.arr (N := hostA ph (hs0 x) :: cl b1 (pcs x) 58 :: L) qV) ?_
  refine Y2 ?_
  refine Zhg (Zol rfl) ?_
  refine Y1 ?_
  refine Zhq (n := 32) rfl qH qZ (pcs_key hk) ?_
  refine Y1 ?_
  refine Zhp rfl qH (pcs_round hk) ?_
  refine Y1 ?_
  refine Zhp rfl qH (pcs_window) ?_
  refine Zh8 rfl (by kernel_rfl) (hpn ph) rfl qT ?_
  rintro _ _ ⟨p, rfl, rfl⟩
  refine Y12 ?_
  refine Zhm 39 rfl (decide_eq_true (rfl)) ?_
  refine Y3 ?_
  refine Zhm 42 rfl (rfl) ?_
  refine V5 ?_
  refine rx3 (Zhb rfl (Zhb rfl (Zha rfl (Zg7)))) ?_
  exact ⟨_, ⟨ph, p, rfl, rfl⟩, qI⟩
theorem made_no (hi : PIn L x) (hm : ¬ Made x) : Con Tryz.prog 24 [.agg (pcs x)] L (fun r M => ∃ hv, r = .tuple #[.pointer hv, .pointer none, .bool false] ∧ M = L) := by
  refine Con.get (fun w0 w F H => hi.flt.rd.len H) ?_
  rintro ⟨fa, fc, hfv⟩
  have hk := hi.key
  have hfl := hi.flt.len
  have hlen := pcs_len hk
  have hflt := pcs_faults hk
  rw [hfv] at hflt
  by_cases hmb : HostS.mayBe x.pages_ x.size_ (flts x)
  · have hnw := new_ok (L := L) x.pages_ x.size_ (by omega) hi.flt.ok hi.flt.rd hmb
    have hz : newR (hs0 x) x.window_ ≠ 0 := fun hh => hm ⟨hmb, hh⟩
    have hpn := fun ph => pnew_no (ph := ph) (h := hs0 x) hk x.round_ hz
    rw [hfv] at hnw
    refine fn_x Tryz.func24 rfl rfl rfl Tryz.mixed (by kernel_rfl) ?_
    intro w0
    refine Y1 ?_
    refine Zh5 rfl ?_; intro b1
    refine Y6 ?_
    refine Zhp rfl qH (pcs_pages) ?_
    refine Y1 ?_
    refine Zhp rfl qH (pcs_size) ?_
    refine Y1 ?_
    refine Zhp rfl qH (hflt) ?_
    refine Zh8 rfl (by kernel_rfl) (hnw) rfl qT ?_
    rintro _ _ ⟨ph, rfl, rfl⟩
    refine Y10 ?_
    refine Zhn 19 rfl (decide_eq_false (fun hh => hh rfl)) ?_
    refine V6 ?_
    refine Zgp (Imp.arr (N := hostA ph (hs0 x) :: cl b1 (pcs x) 58 :: L) qV) ?_
    refine Y2 ?_
    refine Zhg (Zol rfl) ?_
    refine Y1 ?_
    refine Zhq (n := 32) rfl qH qZ (pcs_key hk) ?_
    refine Y1 ?_
    refine Zhp rfl qH (pcs_round hk) ?_
    refine Y1 ?_
    refine Zhp rfl qH (pcs_window) ?_
    refine Zh8 rfl (by kernel_rfl) (hpn ph) rfl qT ?_
    rintro _ _ ⟨rfl, rfl⟩
    refine Y12 ?_
    refine Zhn 39 rfl (decide_eq_false (hz)) ?_
    refine V8 ?_
    refine rx3 (Zhb rfl (Zhb rfl (Zha rfl (Zg7)))) ?_
    exact ⟨_, ⟨_, rfl, rfl⟩, qI⟩
  · have hnw := new_no (L := L) x.pages_ x.size_ (by omega) hi.flt.ok hi.flt.rd hmb
    rw [hfv] at hnw
    refine fn_x Tryz.func24 rfl rfl rfl Tryz.mixed (by kernel_rfl) ?_
    intro w0
    refine Y1 ?_
    refine Zh5 rfl ?_; intro b1
    refine Y6 ?_
    refine Zhp rfl qH (pcs_pages) ?_
    refine Y1 ?_
    refine Zhp rfl qH (pcs_size) ?_
    refine Y1 ?_
    refine Zhp rfl qH (hflt) ?_
    refine Zh8 rfl (by kernel_rfl) (hnw) rfl qT ?_
    rintro _ _ ⟨rfl, rfl⟩
    refine Y10 ?_
    refine Zhm 19 rfl (decide_eq_true ((show (2 : Nat) ≠ 0 by omega))) ?_
    refine V11 ?_
    refine rx3 (Zhb rfl (Zhb rfl (Zha rfl (Zg7)))) ?_
    exact ⟨_, ⟨none, rfl, rfl⟩, qI⟩
end
end Go.Sl

/- trystlaw13: play, walked; two logs compared. -/
set_option maxHeartbeats 4000000
set_option maxRecDepth 10000
set_option linter.unusedVariables false
set_option linter.unusedSimpArgs false
namespace Go.Sl
open Go Go.Proofs
attribute [local irreducible] cl pt own old pur ex all den denOps denS xOps xC cX CX xthen xblk xcut xloop xgo xng retX resX Calls PV Rd Con
attribute [local irreducible] hostA pgA PagerS.loadP PagerS.saveP PagerS.flushP pcs
attribute [local irreducible] ocells
open PagerS (PS Over)
/-- The bytes that a play saves. -/
def pbyte (by_ : Byte) (i : Nat) (x : List Byte) (k : Nat) : Byte := if k < x.length then (by_ + BitVec.ofInt 8 ((i * k : Nat) : Int)) ^^^ x.getD k 0#8 else by_ + BitVec.ofInt 8 ((i * k : Nat) : Int)
def ptext (by_ : Byte) (i : Nat) (x : List Byte) (n m : Nat) : List Byte := (List.range n).map fun k => if k < m then pbyte by_ i x k else 0#8
theorem ptext_len (by_ : Byte) (i : Nat) (x : List Byte) (n m : Nat) : (ptext by_ i x n m).length = n := by simp [ptext]
theorem ptext_zero (by_ : Byte) (i : Nat) (x : List Byte) (n : Nat) : ptext by_ i x n 0 = List.replicate n 0#8 := by
  apply List.ext_getElem (by simp [ptext]); intro j h1 h2; simp [ptext]
theorem ptext_set (by_ : Byte) (i : Nat) (x : List Byte) (n m : Nat) (h : m < n) : (ptext by_ i x n m).set m (pbyte by_ i x m) = ptext by_ i x n (m + 1) := by
  apply List.ext_getElem (by simp [ptext])
  intro j h1 h2
  rw [List.getElem_set]
  simp only [ptext, List.getElem_map, List.getElem_range]
  by_cases e : m = j
  · subst e; rw [if_pos rfl, if_pos (Nat.lt_succ_self _)]
  · rw [if_neg e]
    by_cases e2 : j < m
    · rw [if_pos e2, if_pos (by omega)]
    · rw [if_neg e2, if_neg (by omega)]
def stepP (by_ : Byte) (i : Nat) (o : OpV) (s : PS) (h : HostS.HS) : List Int × PS × HostS.HS :=
  if o.kind_ = 0 then ([((PagerS.loadP s h o.page_).1.2 : Int)], (PagerS.loadP s h o.page_).2)
  else if o.kind_ = 1 then ([((PagerS.saveP s h o.page_ (ptext by_ i o.text_ s.text s.text)).1 : Int)], (PagerS.saveP s h o.page_ (ptext by_ i o.text_ s.text s.text)).2)
  else if o.kind_ = 2 then ([((PagerS.flushP s h).1 : Int)], (PagerS.flushP s h).2)
  else ([], s, h)
def playP (by_ : Byte) : List OpV → Nat → PS → HostS.HS → List Int × PS × HostS.HS
  | [], _, s, h => ([], s, h)
  | o :: r, i, s, h => ((stepP by_ i o s h).1 ++ (playP by_ r (i + 1) (stepP by_ i o s h).2.1 (stepP by_ i o s h).2.2).1, (playP by_ r (i + 1) (stepP by_ i o s h).2.1 (stepP by_ i o s h).2.2).2)
theorem playP_at (by_ : Byte) (l : List OpV) {i : Nat} (hi : i < l.length) (s : PS) (h : HostS.HS) : playP by_ (l.drop i) i s h = ((stepP by_ i l[i] s h).1 ++ (playP by_ (l.drop (i + 1)) (i + 1) (stepP by_ i l[i] s h).2.1 (stepP by_ i l[i] s h).2.2).1, (playP by_ (l.drop (i + 1)) (i + 1) (stepP by_ i l[i] s h).2.1 (stepP by_ i l[i] s h).2.2).2) := by
  rw [List.drop_eq_getElem_cons hi]; rfl
/-- What goes on behind a step. -/
theorem step_goes (by_ : Byte) (i : Nat) (o : OpV) {s : PS} {h : HostS.HS} (hk : PagerS.Ok s) (ho : Over s h) : Over (stepP by_ i o s h).2.1 (stepP by_ i o s h).2.2 ∧ PagerS.pot (stepP by_ i o s h).2.1 (stepP by_ i o s h).2.2 ≤ PagerS.pot s h + 1 ∧ (stepP by_ i o s h).1.length ≤ 1 := by
  unfold stepP
  split
  · exact ⟨(PagerS.near_load s h _).over ho, PagerS.pot_load hk _, Nat.le_refl _⟩
  · split
    · exact ⟨(PagerS.near_save s h _ _).over ho, PagerS.pot_save hk _ _, Nat.le_refl _⟩
    · split
      · exact ⟨(PagerS.near_flush hk h).over ho, Nat.le_succ_of_le (PagerS.pot_flush hk), Nat.le_refl _⟩
      · exact ⟨ho, Nat.le_succ _, Nat.zero_le _⟩
theorem step_hi (by_ : Byte) (i : Nat) (o : OpV) {s : PS} {h : HostS.HS} (hk : PagerS.Ok s) (hi : PagerS.HI s h) : PagerS.HI (stepP by_ i o s h).2.1 (stepP by_ i o s h).2.2 := by
  unfold stepP
  split
  · exact hi.load hk _
  · split
    · exact hi.save hk _ _
    · split
      · exact hi.flush hk
      · exact hi
section
variable {L : List Asrt} {x : PLifeV} {p ph : Nat} {s : PS} {h : HostS.HS}
theorem zv_snoc (zs : List Int) (z : Int) : zv (zs ++ [z]) = zv zs ++ [.int .i64 z] := by simp
theorem play_x (hi : PIn L x) (hk : PagerS.Ok s) (hov : Over s h) (hpot : PagerS.pot s h ≤ 1) (hhi : PagerS.HI s h) (by_ : Byte) :
    Con Tryz.prog 26 [hp p, .agg (pcs x), u8b by_] (pgA p ph s :: hostA ph h :: L) (fun r M => ∃ a c, r = .slice a (playP by_ x.script_ 0 s h).1.length c ∧ M = ownI a c (playP by_ x.script_ 0 s h).1 :: pgA p ph (playP by_ x.script_ 0 s h).2.1 :: hostA ph (playP by_ x.script_ 0 s h).2.2 :: L ∧ PagerS.HI (playP by_ x.script_ 0 s h).2.1 (playP by_ x.script_ 0 s h).2.2 ∧ PagerS.pot (playP by_ x.script_ 0 s h).2.1 (playP by_ x.script_ 0 s h).2.2 ≤ x.script_.length + 1) := by
  refine Con.get (fun w0 w F H => hi.ops.rd.len (H.enx (Imp.tail.trans Imp.tail))) ?_
  rintro ⟨sa, sc, hsv⟩
  have hkey := hi.key
  have hlen := pcs_len hkey
  have hscr := pcs_script hkey
  rw [hsv] at hscr
  have hops := hi.ops
  rw [hsv] at hops
  have hml := hops.len
  refine fn_x Tryz.func26 rfl rfl rfl Tryz.mixed (by kernel_rfl) ?_
  intro w0
  refine Y1 ?_
  refine Zh5 rfl ?_; intro b4
  refine V8 ?_
  refine Zgp (Imp.own_nil (E := 3) (size := 1)) ?_
  refine Zgo [(7, 93)] (by kernel_rfl) (fun z : Nat × (List Int × Option Addr × Nat) × PS × HostS.HS => z.1 ≤ x.script_.length ∧ (z.2.1.1 ++ (playP by_ (x.script_.drop z.1) z.1 z.2.2.1 z.2.2.2).1, (playP by_ (x.script_.drop z.1) z.1 z.2.2.1 z.2.2.2).2) = playP by_ x.script_ 0 s h ∧ Over z.2.2.1 z.2.2.2 ∧ PagerS.pot z.2.2.1 z.2.2.2 ≤ z.1 + 1 ∧ z.2.1.1.length ≤ z.1 ∧ PagerS.HI z.2.2.1 z.2.2.2)
    (fun z => ownI z.2.1.2.1 z.2.1.2.2 z.2.1.1 :: pgA p ph z.2.2.1 :: hostA ph z.2.2.2 :: cl b4 (pcs x) 58 :: L) (fun z => [(8, nvv z.1), (7, .slice z.2.1.2.1 z.2.1.1.length z.2.1.2.2)]) (fun z => x.script_.length - z.1) (0, ([], none, 0), s, h) ⟨Nat.zero_le _, rfl, hov, hpot, Nat.le_refl _, hhi⟩ qI ⟨rfl, rfl, trivial⟩ ?_
  rintro ⟨i, ⟨outs, oa, oc⟩, s1, h1⟩ u ⟨hil, hpl, hov1, hpot1, hol, hhi1⟩
  dsimp only at hil hpl hov1 hpot1 hol hhi1 ⊢
  refine Y3 ?_
  refine Zhp rfl qH (hscr) ?_
  refine V3 ?_
  refine Zgg rfl (fun hB => ?_) (fun hB => ?_)
  · refine Zgt (fun F w H => (hops.rd.imp (Imp.arr (M := _) qV)).someAt (by omega) H) ?_
    rintro ⟨b, o, rfl⟩
    obtain ⟨hel, hell⟩ := hops.el _ (List.getElem_mem hB)
    refine Zgt (fun F w H => (hel.imp (Imp.arr (M := _) qV)).sh _ _ _ H) ?_
    rintro ⟨ta, tc, htv, htc, htcm⟩
    have hone : x.script_[i].cells.toArray.toList.all oneC = true := by simp [OpV.cells, oneC, htv]
    refine Zgt (fun F w H => pg_ok qH H) ?_
    intro hk1
    have hops1 := Nat.le_trans (PagerS.pot_ops s1 h1) hpot1
    obtain ⟨g1, g2, g3⟩ := step_goes by_ i x.script_[i] hk1 hov1
    have g4 := step_hi by_ i x.script_[i] hk1 hhi1
    rw [playP_at by_ x.script_ hB] at hpl
    dsimp only at hpl
    refine Y2 ?_
    refine Zhp rfl qH (hscr) ?_
    refine Y2 ?_
    refine Zfg rfl ((hops.rd.imp qI).agN opv_len (by omega) hB) ?_
    refine Zhz (cs := #[.int .i64 0, .int .i64 0, .slice none 0 0]) rfl ?_; intro b9
    first|refine Zhy rfl rfl qR qZ (by first|rfl|exact oneM_u8 _|exact oneL_u8 _|assumption|(simp [oneC]; done)) qZ ?_|refine Zhx rfl rfl qR qZ (by first|rfl|exact oneM_u8 _|exact oneL_u8 _|assumption|(simp [oneC]; done)) qZ rfl ?_
    refine V1 ?_
    by_cases k0 : x.script_[i].kind_ = 0
    · have e : stepP by_ i x.script_[i] s1 h1 = ([((PagerS.loadP s1 h1 x.script_[i].page_).1.2 : Int)], (PagerS.loadP s1 h1 x.script_[i].page_).2) := by unfold stepP; rw [if_pos k0]
      rw [e] at hpl g1 g2 g3 g4
      refine Y5 ?_
      refine Zhg (Zbr (b := 0) rfl rfl) ?_
      refine Zhm 29 rfl (decide_eq_true (k0)) ?_
      refine Y7 ?_
      refine Zh8 rfl (by kernel_rfl) (load_x hov1 (by omega) x.script_[i].page_) rfl qT ?_
      rintro _ _ ⟨la, lc, rfl, rfl⟩
      refine Y10 ?_
      refine Zh7 (cs := #[.int .i64 _]) (by omega) (by omega) rfl ?_; intro b39
      refine Zia rfl rfl qH (Rd.cl (xs := [.int .i64 ((PagerS.loadP s1 h1 x.script_[i].page_).1.2 : Int)]) qH rfl qZ rfl) (by first|rfl|exact oneM_u8 _|exact oneL_u8 _|assumption|(simp [oneC]; done)) (by omega) qS ?_; intro a3 c3
      refine V2 ?_
      rw [← zv_snoc, show outs.length + 1 = (outs ++ [((PagerS.loadP s1 h1 x.script_[i].page_).1.2 : Int)]).length by simp]
      refine V5 ?_
      exact Zgl (i + 1, (outs ++ [((PagerS.loadP s1 h1 x.script_[i].page_).1.2 : Int)], a3, c3), (PagerS.loadP s1 h1 x.script_[i].page_).2.1, (PagerS.loadP s1 h1 x.script_[i].page_).2.2) qO ⟨by dsimp only; omega, by dsimp only; rw [← hpl, List.append_assoc], g1, by dsimp only at g2 ⊢; omega, by simp; omega, g4⟩ qI ⟨rfl, rfl, trivial⟩
    by_cases k1 : x.script_[i].kind_ = 1
    · have e : stepP by_ i x.script_[i] s1 h1 = ([((PagerS.saveP s1 h1 x.script_[i].page_ (ptext by_ i x.script_[i].text_ s1.text s1.text)).1 : Int)], (PagerS.saveP s1 h1 x.script_[i].page_ (ptext by_ i x.script_[i].text_ s1.text s1.text)).2) := by unfold stepP; rw [if_neg k0, if_pos k1]
      rw [e] at hpl g1 g2 g3 g4
      have ht1 := hk1.t1
      have htxl := ptext_len by_ i x.script_[i].text_ s1.text s1.text
      refine Y5 ?_
      refine Zhg (Zbr (b := 0) rfl rfl) ?_
      refine Zhn 29 rfl (decide_eq_false (k0)) ?_
      refine Y4 ?_
      refine Zhg (Zbr (b := 1) rfl rfl) ?_
      refine Zhm 42 rfl (decide_eq_true (k1)) ?_
      refine Y5 ?_
      refine Zh8 rfl (by kernel_rfl) (text_p) rfl qT ?_
      rintro _ _ ⟨rfl, rfl⟩
      refine Y1 ?_
      refine Zm3 (f := u8b) (a := 0#8) rfl rfl rfl qS qS qS ?_; intro b45
      refine Y5 ?_
      repeat (first|refine zA ?_|refine zB ?_|refine zD ?_|refine zE ?_|refine zF ?_|refine zG ?_|refine zH ?_|refine zI ?_|refine zJ ?_|refine zK ?_|refine zL ?_|refine zM rfl ?_|refine zN ?_|refine zO ?_|refine zP ?_|refine zQ ?_)
      refine Zgn [(13, 13), (46, 78)] (by kernel_rfl) (fun _ : Unit => True) (fun _ => cl b45 ((ptext by_ i x.script_[i].text_ s1.text s1.text).map u8b).toArray 5 :: ownI oa oc outs :: pgA p ph s1 :: hostA ph h1 :: cl b9 x.script_[i].cells.toArray 75 :: cl b4 (pcs x) 58 :: L) (fun _ => []) ?_ ?_
      · refine Ct.o ?_
        refine Zgo [(13, 13), (46, 78)] (by kernel_rfl) (fun k : Nat => k ≤ s1.text) (fun k => cl b45 ((ptext by_ i x.script_[i].text_ s1.text k).map u8b).toArray 5 :: ownI oa oc outs :: pgA p ph s1 :: hostA ph h1 :: cl b9 x.script_[i].cells.toArray 75 :: cl b4 (pcs x) 58 :: L) (fun k => [(13, nvv k)]) (fun k => s1.text - k) 0 (Nat.zero_le _) (by rw [ptext_zero]; exact qI) ⟨rfl, trivial⟩ ?_
        intro k u2 hkl
        refine V6 ?_
        refine Zgg rfl (fun hB2 => ?_) (fun hB2 => ?_)
        · have hmul : i * k ≤ 9223372036854775807 := Nat.le_trans (Nat.mul_le_mul (show i ≤ 3518437208781 by omega) (show k ≤ 4096 by omega)) (by decide)
          have hlk := ptext_len by_ i x.script_[i].text_ s1.text k
          refine Y6 ?_
          refine Zhg (Zmc (a := i) (b := k) rfl rfl hmul) ?_
          refine Zhg (Zjs (n := ((i * k : Nat) : Int)) rfl) ?_
          refine Y2 ?_
          refine Zht rfl rfl qR qZ (setL (f := u8b) (x := by_ + BitVec.ofInt 8 ((i * k : Nat) : Int)) (l := ptext by_ i x.script_[i].text_ s1.text k)) ?_
          refine V1 ?_
          by_cases hkx : k < x.script_[i].text_.length
          · refine Zgt (fun F w H => (hel.rd.imp (Imp.arr (M := _) qV)).len H) ?_
            rw [htv]
            rintro -
            have hel2 := hel
            rw [htv] at hel2
            refine Zgt (fun F w H => (hel2.imp (Imp.arr (M := _) qV)).some (by omega) H) ?_
            rintro ⟨tb, to, rfl⟩
            have hcell : (x.script_[i].cells.toArray)[2]? = some (.slice (some ⟨tb, to, none⟩) x.script_[i].text_.length tc) := by rw [← htv]; rfl
            have hv : ((ptext by_ i x.script_[i].text_ s1.text k).set k (by_ + BitVec.ofInt 8 ((i * k : Nat) : Int))).set k ((by_ + BitVec.ofInt 8 ((i * k : Nat) : Int)) ^^^ x.script_[i].text_[k]) = ptext by_ i x.script_[i].text_ s1.text (k + 1) := by
              rw [List.set_set, ← ptext_set by_ i _ _ _ hB2]
              unfold pbyte
              rw [if_pos hkx, List.getD_eq_getElem?_getD, List.getElem?_eq_getElem hkx]; rfl
            have hg0 : (((ptext by_ i x.script_[i].text_ s1.text k).set k (by_ + BitVec.ofInt 8 ((i * k : Nat) : Int))).map u8b).toArray[k]? = some (u8b (by_ + BitVec.ofInt 8 ((i * k : Nat) : Int))) := by
              simp [List.getElem?_set, hlk, hB2]
            refine Y3 ?_
            refine Zhp rfl qH (hcell) ?_
            refine Y2 ?_
            refine Zhm 65 rfl (decide_eq_true (hkx)) ?_
            refine V2 ?_
            refine Zij (_) [7, 9, 10] (.q 0 (.q 1 (.q 2 (.q 3 (.q 4 (.q 6 (.q 8 (.r 5 (.r 7 (.r 9 (.r 10 (.q 11 (.q 12 (.e 13 false .nil)))))))))))))) (by kernel_rfl) (by kernel_rfl) (Imp.refl _) ?_
            refine W7 ?_
            refine Ziv rfl rfl qH (hg0) ?_
            refine Ziv rfl rfl qH (hcell) ?_
            refine W1 ?_
            refine Zfh rfl rfl (((hel2.rd.imp qI).at hkx (getM (f := u8b) hkx))) ?_
            refine W2 ?_
            refine Ziq rfl ?_
            refine Zht rfl rfl qR qZ (((setL (f := u8b) (x := (by_ + BitVec.ofInt 8 ((i * k : Nat) : Int)) ^^^ x.script_[i].text_[k]) (l := (ptext by_ i x.script_[i].text_ s1.text k).set k (by_ + BitVec.ofInt 8 ((i * k : Nat) : Int)))).trans (by rw [hv]))) ?_
            refine Zg3 ⟨(fun hh => Bool.noConfusion hh), ?_⟩
            refine Zik ?_
            refine V5 ?_
            exact Zgl (k + 1) qO (by omega) qI ⟨rfl, trivial⟩
          · have hcell : (x.script_[i].cells.toArray)[2]? = some (.slice ta x.script_[i].text_.length tc) := by rw [← htv]; rfl
            have hv : (ptext by_ i x.script_[i].text_ s1.text k).set k (by_ + BitVec.ofInt 8 ((i * k : Nat) : Int)) = ptext by_ i x.script_[i].text_ s1.text (k + 1) := by
              rw [← ptext_set by_ i _ _ _ hB2]
              unfold pbyte
              rw [if_neg hkx]
            rw [hv]
            refine Y3 ?_
            refine Zhp rfl qH (hcell) ?_
            refine Y2 ?_
            refine Zhn 65 rfl (decide_eq_false (hkx)) ?_
            refine V7 ?_
            exact Zgl (k + 1) qO (by omega) qI ⟨rfl, trivial⟩
        · have hke : k = s1.text := by omega
          subst hke
          refine Ct.o ?_
          exact Zgk () trivial qI trivial
      · rintro - u2 -
        refine Y6 ?_
        refine Zh8 rfl (by kernel_rfl) (save_x (L := cl b45 ((ptext by_ i x.script_[i].text_ s1.text s1.text).map u8b).toArray 5 :: L) hov1 (by omega) x.script_[i].page_ (bs_full (n := s1.text) .here htxl (by omega))) rfl qT ?_
        rintro _ _ ⟨rfl, rfl⟩
        refine Y1 ?_
        refine Zh7 (cs := #[.int .i64 _]) (by omega) (by omega) rfl ?_; intro b85
        refine Zia rfl rfl qH (Rd.cl (xs := [.int .i64 ((PagerS.saveP s1 h1 x.script_[i].page_ (ptext by_ i x.script_[i].text_ s1.text s1.text)).1 : Int)]) qH rfl qZ rfl) (by first|rfl|exact oneM_u8 _|exact oneL_u8 _|assumption|(simp [oneC]; done)) (by omega) qS ?_; intro a3 c3
        refine V2 ?_
        rw [← zv_snoc, show outs.length + 1 = (outs ++ [((PagerS.saveP s1 h1 x.script_[i].page_ (ptext by_ i x.script_[i].text_ s1.text s1.text)).1 : Int)]).length by simp]
        refine V5 ?_
        exact Zgl (i + 1, (outs ++ [((PagerS.saveP s1 h1 x.script_[i].page_ (ptext by_ i x.script_[i].text_ s1.text s1.text)).1 : Int)], a3, c3), (PagerS.saveP s1 h1 x.script_[i].page_ (ptext by_ i x.script_[i].text_ s1.text s1.text)).2.1, (PagerS.saveP s1 h1 x.script_[i].page_ (ptext by_ i x.script_[i].text_ s1.text s1.text)).2.2) qO ⟨by dsimp only; omega, by dsimp only; rw [← hpl, List.append_assoc], g1, by dsimp only at g2 ⊢; omega, by simp; omega, g4⟩ qI ⟨rfl, rfl, trivial⟩
    by_cases k2 : x.script_[i].kind_ = 2
    · have e : stepP by_ i x.script_[i] s1 h1 = ([((PagerS.flushP s1 h1).1 : Int)], (PagerS.flushP s1 h1).2) := by unfold stepP; rw [if_neg k0, if_neg k1, if_pos k2]
      rw [e] at hpl g1 g2 g3 g4
      refine Y5 ?_
      refine Zhg (Zbr (b := 0) rfl rfl) ?_
      refine Zhn 29 rfl (decide_eq_false (k0)) ?_
      refine Y4 ?_
      refine Zhg (Zbr (b := 1) rfl rfl) ?_
      refine Zhn 42 rfl (decide_eq_false (k1)) ?_
      refine Y4 ?_
      refine Zhg (Zbr (b := 2) rfl rfl) ?_
      refine Zhm 88 rfl (decide_eq_true (k2)) ?_
      refine Y6 ?_
      refine Zh8 rfl (by kernel_rfl) (flush_x hov1 (by omega)) rfl qT ?_
      rintro _ _ ⟨rfl, rfl⟩
      refine Y1 ?_
      refine Zh7 (cs := #[.int .i64 _]) (by omega) (by omega) rfl ?_; intro b92
      refine Zia rfl rfl qH (Rd.cl (xs := [.int .i64 ((PagerS.flushP s1 h1).1 : Int)]) qH rfl qZ rfl) (by first|rfl|exact oneM_u8 _|exact oneL_u8 _|assumption|(simp [oneC]; done)) (by omega) qS ?_; intro a3 c3
      refine V2 ?_
      rw [← zv_snoc, show outs.length + 1 = (outs ++ [((PagerS.flushP s1 h1).1 : Int)]).length by simp]
      refine V5 ?_
      exact Zgl (i + 1, (outs ++ [((PagerS.flushP s1 h1).1 : Int)], a3, c3), (PagerS.flushP s1 h1).2.1, (PagerS.flushP s1 h1).2.2) qO ⟨by dsimp only; omega, by dsimp only; rw [← hpl, List.append_assoc], g1, by dsimp only at g2 ⊢; omega, by simp; omega, g4⟩ qI ⟨rfl, rfl, trivial⟩
    · have e : stepP by_ i x.script_[i] s1 h1 = ([], s1, h1) := by unfold stepP; rw [if_neg k0, if_neg k1, if_neg k2]
      rw [e] at hpl g1 g2 g3 g4
      rw [List.nil_append] at hpl
      refine Y5 ?_
      refine Zhg (Zbr (b := 0) rfl rfl) ?_
      refine Zhn 29 rfl (decide_eq_false (k0)) ?_
      refine Y4 ?_
      refine Zhg (Zbr (b := 1) rfl rfl) ?_
      refine Zhn 42 rfl (decide_eq_false (k1)) ?_
      refine Y4 ?_
      refine Zhg (Zbr (b := 2) rfl rfl) ?_
      refine Zhn 88 rfl (decide_eq_false (k2)) ?_
      refine V8 ?_
      exact Zgl (i + 1, (outs, oa, oc), s1, h1) qO ⟨by dsimp only; omega, hpl, hov1, by dsimp only; omega, by dsimp only; omega, g4⟩ qI ⟨rfl, rfl, trivial⟩
  · have hie : i = x.script_.length := by omega
    subst hie
    rw [List.drop_length] at hpl
    have hpl2 : (outs, s1, h1) = playP by_ x.script_ 0 s h := by rw [← hpl]; simp [playP]
    rw [← hpl2]
    refine V4 ?_
    refine rx1 (Zhc rfl (Zg7)) ?_
    exact ⟨_, ⟨oa, oc, rfl, rfl, hhi1, hpot1⟩, qI⟩
end
end Go.Sl

/- the statements' small helpers: lists of bytes compared, copied, joined. -/
set_option maxHeartbeats 4000000
set_option maxRecDepth 10000
set_option linter.unusedVariables false
set_option linter.unusedSimpArgs false
namespace Go.Sl
open Go Go.Proofs
attribute [local irreducible] cl pt own old pur ex all den denOps denS xOps xC cX CX xthen xblk xcut xloop xgo xng retX resX Calls PV Rd Con
theorem app_take_succ {α β : Type} {f : α → β} (a : List α) {l : List α} {k : Nat} (h : k < l.length) : (a ++ l.take (k + 1)).map f = (a ++ l.take k).map f ++ [f l[k]] := by
  rw [List.take_succ_eq_append_getElem h, ← List.append_assoc, List.map_append]; rfl
theorem eqBytes_x {L : List Asrt} {va vb : Value} {a b : List Byte} (ha : Bs L va a) (hb : Bs L vb b) : Con Tryz.prog 29 [va, vb] L (fun v M => v = .bool (decide (a = b)) ∧ L = M) := by
  refine Con.get (fun w0 w F H => ha.sh _ _ _ H) ?_
  rintro ⟨aa, ac, rfl, hac, hacm⟩
  refine Con.get (fun w0 w F H => hb.sh _ _ _ H) ?_
  rintro ⟨ba, bc, rfl, hbc, hbcm⟩
  refine fn_x Tryz.func29 rfl rfl rfl Tryz.mixed (by kernel_rfl) ?_
  intro w0
  refine V10 ?_
  refine Zgg rfl (fun hB => ?_) (fun hB => ?_)
  · refine V3 ?_
    refine rx1 (Zha rfl (Zg7)) ?_
    exact ⟨_, ⟨by rw [decide_eq_false (fun h => hB (by rw [h]))], rfl⟩, by exact Imp.arr (by repeat (first|exact Arr.nil|exact Arr.stop|refine Arr.cons (by repeat constructor) ?_|refine Arr.skip ?_))⟩
  have hlen : a.length = b.length := by omega
  refine V3 ?_
  refine Zgo [(4, 5), (11, 25)] (by kernel_rfl) (fun i : Nat => i ≤ a.length ∧ a.take i = b.take i) (fun _ => L) (fun i => [(5, .int .i64 (i : Int))]) (fun i => a.length - i) 0 ⟨by omega, rfl⟩ (Imp.refl _) ⟨rfl, trivial⟩ ?_
  rintro i u ⟨hi, he⟩
  refine V6 ?_
  refine Zgg rfl (fun hB => ?_) (fun hB => ?_)
  · have hib : i < b.length := by omega
    refine Zgt (fun F w H => ha.some (by omega) H) ?_
    rintro ⟨a1, a2, rfl⟩
    refine Zgt (fun F w H => hb.some (by omega) H) ?_
    rintro ⟨b1, b2, rfl⟩
    refine Ct.o ?_
    refine Zij (_) [7] (.q 0 (.q 1 (.q 2 (.q 4 (.q 5 (.q 6 (.r 3 (.r 7 (.q 8 .nil))))))))) (by kernel_rfl) (by kernel_rfl) (Imp.refl _) ?_
    refine W6 ?_
    refine Zi8 (j := i) rfl rfl ha.rd hB (getM (f := u8b) hB) ?_
    refine Zi8 (j := i) rfl rfl hb.rd hib (getM (f := u8b) hib) ?_
    refine Zim rfl (Zjl rfl rfl) ?_
    refine Zik ?_
    refine Ct.o ?_
    refine Zgg rfl (fun hB2 => ?_) (fun hB2 => ?_)
    · refine V3 ?_
      refine rx1 (Zha rfl (Zg7)) ?_
      refine ⟨_, ⟨?_, rfl⟩, by exact Imp.arr (by repeat (first|exact Arr.nil|exact Arr.stop|refine Arr.cons (by repeat constructor) ?_|refine Arr.skip ?_))⟩
      rw [decide_eq_false]
      rintro rfl
      exact hB2 rfl
    · refine V5 ?_
      have hB2 : a[i] = b[i] := by simpa using hB2
      exact Zgl (i + 1) qO ⟨by omega, by rw [List.take_succ_eq_append_getElem hB, List.take_succ_eq_append_getElem hib, he, hB2]⟩ qI ⟨rfl, trivial⟩
  · have hie : i = a.length := by omega
    subst hie
    rw [List.take_length, hlen, List.take_length] at he
    refine V3 ?_
    refine rx1 (Zha rfl (Zg7)) ?_
    exact ⟨_, ⟨by rw [decide_eq_true he], rfl⟩, by exact Imp.arr (by repeat (first|exact Arr.nil|exact Arr.stop|refine Arr.cons (by repeat constructor) ?_|refine Arr.skip ?_))⟩
end Go.Sl

/- trystlaw13: works, walked. -/
set_option maxHeartbeats 4000000
set_option maxRecDepth 10000
set_option linter.unusedVariables false
set_option linter.unusedSimpArgs false
namespace Go.Sl
open Go Go.Proofs
attribute [local irreducible] cl pt own old pur ex all den denOps denS xOps xC cX CX xthen xblk xcut xloop xgo xng retX resX Calls PV Rd Con
attribute [local irreducible] hostA pgSealB pgOpenR
open PagerS (PS Over)
theorem writeP_is {s : PS} {h : HostS.HS} {b : Int → List Byte} (hq : PagerS.Quiet s h b) (hw : s.writes < 4294967295) {n : Int} (hn : n ∈ PagerS.numbers s) : PagerS.writeP s h n = (0, PagerS.wroteP s n, HostS.wrote n (PagerS.boxOf s n) (HostS.logged h 1 n (PagerS.boxOf s n))) := by
  obtain ⟨h0, _⟩ := hq.write hw hn
  obtain ⟨_, hz, e⟩ := PagerS.writeP_zero h0
  rw [e, PagerS.writeR_zero hz]
theorem fetchP_is {s : PS} {h : HostS.HS} {b : Int → List Byte} (hq : PagerS.Quiet s h b) {n : Int} (hn : n ∉ PagerS.numbers s) (hp : 0 ≤ n ∧ n < s.pages) {pl : Plc} (hl : s.last n = some pl) : PagerS.fetchP s h n = ((b n, 0), PagerS.useP s ⟨n, b n, 1⟩, HostS.logged h 0 n []) := by
  have hrd := PagerS.readR_calm hq.calm (n := n) ⟨hp.1, by rw [hq.sound.over.pages]; exact hp.2⟩
  obtain ⟨_, l2⟩ := (hq.sound.right hq.err n).2 (PagerS.changed_no hn)
  have hbl := hq.sound.len n
  have ht1 := hq.sound.ok.t1
  unfold PagerS.fetchP
  rw [hl]
  dsimp only
  rw [hrd]
  dsimp only
  rw [if_pos rfl, l2 pl hl, pg_back _ _ _ (by omega)]
  rfl
namespace PlW
def k5 : List Byte := 5#8 :: List.replicate 31 0#8
def s0 : PS := PagerS.freshP k5 9#64 2 4 2
def h0 : HostS.HS := HostS.fresh 4 30 []
def s1 : PS := PagerS.useP s0 ⟨1, [5#8, 6#8], 2⟩
def s2 : PS := PagerS.useP s1 ⟨2, [7#8, 8#8], 2⟩
def cut (s : PS) : PS := { s with held := s.held.tail }
def s3 : PS := PagerS.useP (cut (PagerS.wroteP s2 1)) ⟨3, [9#8, 9#8], 2⟩
def h3 : HostS.HS := HostS.wrote 1 (PagerS.boxOf s2 1) (HostS.logged h0 1 1 (PagerS.boxOf s2 1))
def s4 : PS := PagerS.useP (cut (PagerS.wroteP s3 2)) ⟨1, [5#8, 6#8], 1⟩
def h4 : HostS.HS := HostS.logged (HostS.wrote 2 (PagerS.boxOf s3 2) (HostS.logged h3 1 2 (PagerS.boxOf s3 2))) 0 1 []
def b0 : Int → List Byte := fun _ => List.replicate 2 0#8
def b1 := HostS.setF b0 1 [5#8, 6#8]
def b2 := HostS.setF b1 2 [7#8, 8#8]
def b3 := HostS.setF b2 3 [9#8, 9#8]
theorem q0 : PagerS.Quiet s0 h0 b0 := PagerS.quiet_fresh (PagerS.ok_fresh rfl (by omega) (by omega) (by omega)) rfl rfl (PagerS.calm_fresh 4 30)
theorem e1 : PagerS.saveP s0 h0 1 [5#8, 6#8] = (0, s1, h0) := rfl
theorem q1 : PagerS.Quiet s1 h0 b1 := (q0.save (n := 1) (t := [5#8, 6#8]) (by decide) (by decide) (by decide) rfl).2
theorem e2 : PagerS.saveP s1 h0 2 [7#8, 8#8] = (0, s2, h0) := rfl
theorem q2 : PagerS.Quiet s2 h0 b2 := (q1.save (n := 2) (t := [7#8, 8#8]) (by decide) (by decide) (by decide) rfl).2
theorem e3 : PagerS.saveP s2 h0 3 [9#8, 9#8] = (0, s3, h3) := by
  have hw := writeP_is q2 (by decide) (n := 1) (by decide)
  have hr : PagerS.roomP s2 h0 = (0, cut (PagerS.wroteP s2 1), h3) := by
    have : PagerS.roomP s2 h0 = (if (PagerS.writeP s2 h0 1).1 = 0 then (0, cut (PagerS.writeP s2 h0 1).2.1, (PagerS.writeP s2 h0 1).2.2) else PagerS.writeP s2 h0 1) := rfl
    rw [this, hw]; rfl
  have : PagerS.saveP s2 h0 3 [9#8, 9#8] = (if (PagerS.roomP s2 h0).1 = 0 then (0, PagerS.useP (PagerS.roomP s2 h0).2.1 ⟨3, [9#8, 9#8], 2⟩, (PagerS.roomP s2 h0).2.2) else PagerS.roomP s2 h0) := rfl
  rw [this, hr]; rfl
theorem q3 : PagerS.Quiet s3 h3 b3 := by
  have := (q2.save (n := 3) (t := [9#8, 9#8]) (by decide) (by decide) (by decide) rfl).2
  rw [e3] at this; exact this
theorem e4 : PagerS.loadP s3 h3 1 = (([5#8, 6#8], 0), s4, h4) := by
  have hw := writeP_is q3 (by decide) (n := 2) (by decide)
  have hr : PagerS.roomP s3 h3 = (0, cut (PagerS.wroteP s3 2), HostS.wrote 2 (PagerS.boxOf s3 2) (HostS.logged h3 1 2 (PagerS.boxOf s3 2))) := by
    have : PagerS.roomP s3 h3 = (if (PagerS.writeP s3 h3 2).1 = 0 then (0, cut (PagerS.writeP s3 h3 2).2.1, (PagerS.writeP s3 h3 2).2.2) else PagerS.writeP s3 h3 2) := rfl
    rw [this, hw]; rfl
  have q4 := (q3.room (by decide)).2
  rw [hr] at q4
  have hf := fetchP_is q4 (n := 1) (by decide) (by decide) (pl := PagerS.nextPl s2 1) rfl
  have : PagerS.loadP s3 h3 1 = (if (PagerS.roomP s3 h3).1 = 0 then PagerS.fetchP (PagerS.roomP s3 h3).2.1 (PagerS.roomP s3 h3).2.2 1 else (([], (PagerS.roomP s3 h3).1), (PagerS.roomP s3 h3).2)) := rfl
  rw [this, hr, if_pos rfl, hf]; rfl
theorem may : HostS.mayBe 4 30 [] := ⟨⟨by decide, by decide, by decide, by decide⟩, rfl⟩
end PlW
attribute [local irreducible] PagerS.saveP PagerS.loadP PlW.s0 PlW.s1 PlW.s2 PlW.s3 PlW.s4 PlW.h0 PlW.h3 PlW.h4
open PlW in
theorem plWorks_x : Con Tryz.prog 25 [] [] (fun r M => r = .bool true ∧ M = []) := by
  have hs1 := fun p q b => save_x (p := q) (ph := p) (L := [cl b #[u8b 5#8, u8b 6#8] 5]) q0.sound.over (by with_unfolding_all decide) 1 (bs_full (l := [5#8, 6#8]) (n := 2) qH rfl (by omega))
  have hs2 := fun p q b => save_x (p := q) (ph := p) (L := [cl b #[u8b 7#8, u8b 8#8] 5]) q1.sound.over (by with_unfolding_all decide) 2 (bs_full (l := [7#8, 8#8]) (n := 2) qH rfl (by omega))
  have hs3 := fun p q b => save_x (p := q) (ph := p) (L := [cl b #[u8b 9#8, u8b 9#8] 5]) q2.sound.over (by with_unfolding_all decide) 3 (bs_full (l := [9#8, 9#8]) (n := 2) qH rfl (by omega))
  have hl := fun p q => load_x (p := q) (ph := p) q3.sound.over (by with_unfolding_all decide) 1
  rw [e1] at hs1
  rw [e2] at hs2
  rw [e3] at hs3
  rw [e4] at hl
  dsimp only at hs1 hs2 hs3 hl
  have hz : newR h0 2 = 0 := by with_unfolding_all rfl
  have hf : PagerS.freshP k5 9#64 (2 : Int).toNat h0.pages (h0.size - 28) = s0 := by with_unfolding_all rfl
  have hn := fun p => pnew_ok (ph := p) (h := h0) (key := k5) rfl 9#64 hz
  rw [hf] at hn
  have hh : HostS.fresh 4 (30 : Int).toNat [] = h0 := by with_unfolding_all rfl
  have hnw := new_ok (L := []) 4 30 (fv := .slice none 0 0) (fl := []) (by simp) (by simp) Rd.nil may
  rw [hh] at hnw
  have hw4 : s4.writes = 2 := by with_unfolding_all rfl
  have hl4 : h4.log.length = 3 := by with_unfolding_all rfl
  have hwx := fun p q => writes_p (p := q) (ph := p) (s := s4)
  rw [hw4] at hwx
  have hlx := fun p => log_x (p := p) (s := h4) (by with_unfolding_all decide)
  rw [hl4] at hlx
  refine fn_x Tryz.func25 rfl rfl rfl Tryz.mixed (by kernel_rfl) ?_
  intro w0
  refine Y4 ?_
  refine Zh8 rfl (by kernel_rfl) (hnw) rfl qT ?_
  rintro _ _ ⟨p, rfl, rfl⟩
  refine Y10 ?_
  refine Zhn 10 rfl (decide_eq_false (fun hh => hh rfl)) ?_
  refine Y8 ?_
  refine Zhg (Zol rfl) ?_
  refine Zhg (Zdn (cs := (k5.map u8b).toArray) (by kernel_rfl)) ?_
  refine Zh8 rfl (by kernel_rfl) (hn p) rfl qT ?_
  rintro _ _ ⟨q, rfl, rfl⟩
  refine Y10 ?_
  refine Zhn 23 rfl (decide_eq_false ((fun hh => hh rfl))) ?_
  refine Y6 ?_
  first|refine Y0 ?_|(refine Zhh rfl ?_; (refine Zh7 (cs := #[u8b 5#8, u8b 6#8]) (by omega) (by omega) (by kernel_rfl) ?_; intro b30))
  first|refine Y0 ?_|(refine Zhh rfl ?_; (refine Zh8 rfl (by kernel_rfl) (hs1 p q b30) rfl qT ?_); (rintro _ _ ⟨rfl, rfl⟩); (refine Zg2 qA ?_))
  refine Y1 ?_
  refine Zhn 32 rfl (decide_eq_false ((fun hh => hh rfl))) ?_
  refine Y3 ?_
  first|refine Y0 ?_|(refine Zhh rfl ?_; (refine Zh7 (cs := #[u8b 7#8, u8b 8#8]) (by omega) (by omega) (by kernel_rfl) ?_; intro b36))
  first|refine Y0 ?_|(refine Zhh rfl ?_; (refine Zh8 rfl (by kernel_rfl) (hs2 p q b36) rfl qT ?_); (rintro _ _ ⟨rfl, rfl⟩); (refine Zg2 qA ?_))
  refine Y1 ?_
  refine Zhn 38 rfl (decide_eq_false ((fun hh => hh rfl))) ?_
  refine Y3 ?_
  first|refine Y0 ?_|(refine Zhh rfl ?_; (refine Zh7 (cs := #[u8b 9#8, u8b 9#8]) (by omega) (by omega) (by kernel_rfl) ?_; intro b42))
  first|refine Y0 ?_|(refine Zhh rfl ?_; (refine Zh8 rfl (by kernel_rfl) (hs3 p q b42) rfl qT ?_); (rintro _ _ ⟨rfl, rfl⟩); (refine Zg2 qA ?_))
  refine Y1 ?_
  refine Zhn 44 rfl (decide_eq_false ((fun hh => hh rfl))) ?_
  refine Y5 ?_
  refine Zh8 rfl (by kernel_rfl) (hl p q) rfl qT ?_
  rintro _ _ ⟨a, c, rfl, rfl⟩
  refine Y10 ?_
  refine Zhm 52 rfl (decide_eq_true (rfl)) ?_
  refine Y2 ?_
  first|refine Y0 ?_|(refine Zhh rfl ?_; (refine Zh7 (cs := #[u8b 5#8, u8b 6#8]) (by omega) (by omega) (by kernel_rfl) ?_; intro b55))
  first|refine Y0 ?_|(refine Zhh rfl ?_; (refine Zh8 rfl (by kernel_rfl) (eqBytes_x (L := [ownB a c [5#8, 6#8], cl b55 #[u8b 5#8, u8b 6#8] 5]) (a := [5#8, 6#8]) (b := [5#8, 6#8]) (Bs.own qH) (bs_full (l := [5#8, 6#8]) (n := 2) qH rfl (by omega))) rfl qT ?_); (rintro _ _ ⟨rfl, rfl⟩); (refine Zg2 qA ?_))
  refine Zhm 56 rfl (decide_eq_true (rfl)) ?_
  refine Y3 ?_
  first|refine Y0 ?_|(refine Zhh rfl ?_; (refine Zh8 rfl (by kernel_rfl) (hwx p q) rfl qT ?_); (rintro _ _ ⟨rfl, rfl⟩); (refine Zg2 qA ?_))
  first|refine Y0 ?_|(refine Zhh rfl ?_; (refine Zhg (Zky (x := 2#32) (y := 2#32) rfl rfl) ?_))
  refine Zhm 61 rfl (decide_eq_true (rfl)) ?_
  refine Y3 ?_
  first|refine Y0 ?_|(refine Zhh rfl ?_; (refine Zh8 rfl (by kernel_rfl) (hlx p) rfl qT ?_); (rintro _ _ ⟨la, lc, rfl, rfl⟩); (refine Zg2 qA ?_))
  refine Y2 ?_
  refine Zhm 67 rfl (decide_eq_true (rfl)) ?_
  refine V3 ?_
  refine rx1 (Zha rfl (Zg7)) ?_
  exact ⟨_, ⟨rfl, rfl⟩, qI⟩
end Go.Sl

/- trystlaw13: PagerSees, walked. -/
set_option maxHeartbeats 4000000
set_option maxRecDepth 10000
set_option linter.unusedVariables false
set_option linter.unusedSimpArgs false
namespace Go.Sl
open Go Go.Proofs
attribute [local irreducible] cl pt own old pur ex all den denOps denS xOps xC cX CX xthen xblk xcut xloop xgo xng retX resX Calls PV Rd Con
attribute [local irreducible] hostA pgA PagerS.loadP PagerS.saveP PagerS.flushP pcs playP
attribute [local irreducible] ocells
open PagerS (PS Over)
theorem PIn.mono {L M : List Asrt} {x : PLifeV} (h : PIn L x) (hi : Imp M L) : PIn M x := ⟨h.key, ⟨h.flt.rd.imp hi, h.flt.ok, h.flt.len⟩, ⟨h.ops.rd.imp hi, fun o ho => ⟨(h.ops.el o ho).1.imp hi, (h.ops.el o ho).2⟩, h.ops.len⟩⟩
theorem heads_tok {r : BitVec 64} {pages : Int} {size : Nat} {l : List HostS.Touch} (h : PagerS.Heads r pages size l) (hp : pages ≤ 65536) (hz : size ≤ 4124) : ∀ t ∈ l, TOk t := by
  intro t ht
  obtain ⟨i, hi, rfl⟩ := List.mem_iff_getElem.1 ht
  obtain ⟨h1, h2, h3, h4⟩ := h i hi
  rcases h4 with ⟨e, hh, _⟩|⟨e, hh⟩
  · exact ⟨by omega, by omega, by omega, by rw [hh]; simp⟩
  · exact ⟨by omega, by omega, by omega, by rw [hh]; simp [leB_len]⟩
theorem hi_tok {s : PS} {h : HostS.HS} (hi : PagerS.HI s h) (hk : PagerS.Ok s) : ∀ t ∈ h.log, TOk t := by
  have := hk.p1; have := hk.t1; have := hi.over.size
  exact heads_tok hi.heads hk.p1 (by omega)
section
variable {L : List Asrt} {x : PLifeV}
end
end Go.Sl

/- trystlaw13: lives that come in. -/
set_option maxHeartbeats 4000000
set_option maxRecDepth 10000
set_option linter.unusedVariables false
set_option linter.unusedSimpArgs false
namespace Go.Sl
open Go Go.Proofs
attribute [local irreducible] cl pt own old pur ex all den denOps denS xOps xC cX CX xthen xblk xcut xloop xgo xng retX resX Calls PV Rd Con
open PagerS (PS Over)
theorem pf_cells (l : List FaultV) : (l.map pF).flatMap fcells = l.flatMap FaultV.cells := by
  rw [List.flatMap_map]; rfl
theorem pin_of {W : World} {x : PLifeV} (ok : PLifeVOk W x) : PIn [old W] x := by
  have hf := ok.faults_
  have ho := ok.script_
  refine ⟨ok.key_, ⟨?_, ?_, ?_⟩, ⟨Rd.old .here ho.sl, fun o h => ⟨(ho.el o h).text_.bs .here, (ho.el o h).text_.len⟩, ho.len⟩⟩
  · unfold flts
    rw [pf_cells, List.length_map]
    exact Rd.old .here hf.sl
  · intro f hff
    obtain ⟨y, hy, rfl⟩ := List.mem_map.1 hff
    exact ⟨(hf.el y hy).back_.1, (hf.el y hy).back_.2⟩
  · unfold flts; rw [List.length_map]; exact hf.len
end Go.Sl

/- the statements' small helpers: lists with marked room behind them. -/
set_option maxHeartbeats 4000000
set_option maxRecDepth 10000
set_option linter.unusedVariables false
set_option linter.unusedSimpArgs false
namespace Go.Sl
open Go Go.Proofs
attribute [local irreducible] cl pt own old pur ex all den denOps denS xOps xC cX CX xthen xblk xcut xloop xgo xng retX resX Calls PV Rd Con
end Go.Sl

/- the statements' small helpers: lists joined. -/
set_option maxHeartbeats 4000000
set_option maxRecDepth 10000
set_option linter.unusedVariables false
set_option linter.unusedSimpArgs false
namespace Go.Sl
open Go Go.Proofs
attribute [local irreducible] cl pt own old pur ex all den denOps denS xOps xC cX CX xthen xblk xcut xloop xgo xng retX resX Calls PV Rd Con
def joinB (ps : List (Value × List Byte)) : List Byte := (ps.map (·.2)).flatten
theorem joinB_succ (ps : List (Value × List Byte)) (i : Nat) (h : i < ps.length) : joinB (ps.take (i + 1)) = joinB (ps.take i) ++ ps[i].2 := by
  rw [List.take_succ_eq_append_getElem h]; simp only [joinB, List.map_append, List.flatten_append, List.map_cons, List.map_nil, List.flatten_cons, List.flatten_nil, List.append_nil]
theorem joinB_le (ps : List (Value × List Byte)) (i : Nat) : (joinB (ps.take i)).length ≤ (joinB ps).length := by
  have e : joinB ps = joinB (ps.take i) ++ joinB (ps.drop i) := by
    simp only [joinB, ← List.flatten_append, ← List.map_append, List.take_append_drop]
  rw [e]; simp
theorem join_x {L : List Asrt} {v : Value} {ps : List (Value × List Byte)} (h : Rs L v ps) (hl : (joinB ps).length ≤ 140737488355328) : Con Tryz.prog 60 [v] L (fun r M => ∃ a c, r = .slice a (joinB ps).length c ∧ M = own 5 1 r (joinB ps).length ((joinB ps).map u8b) :: L) := by
  refine Con.get (fun w0 w F H => h.sh _ _ _ H) ?_
  rintro ⟨aa, ac, rfl, hac, hacm⟩
  refine fn_x Tryz.func60 rfl rfl rfl Tryz.mixed (by kernel_rfl) ?_
  intro w0
  refine V9 ?_
  refine Zgo [(3, 30)] (by kernel_rfl) (fun s : Nat × Option Addr × Nat × Nat => s.1 ≤ ps.length ∧ s.2.2.2 = (joinB (ps.take s.1)).length) (fun s => own 5 1 (.slice s.2.1 s.2.2.2 s.2.2.1) s.2.2.2 ((joinB (ps.take s.1)).map u8b) :: L)
    (fun s => [(4, .int .i64 (s.1 : Int)), (3, .slice s.2.1 s.2.2.2 s.2.2.1)]) (fun s => ps.length - s.1) (0, none, 0, 0) ⟨Nat.zero_le _, rfl⟩ Imp.own_nil ⟨rfl, rfl, trivial⟩ ?_
  rintro ⟨i, a, c, n⟩ u ⟨hi, hn⟩
  dsimp only at hi hn ⊢
  have hnl : n ≤ (joinB ps).length := by rw [hn]; exact joinB_le ps i
  refine V6 ?_
  refine Zgg rfl (fun hB => ?_) (fun hB => ?_)
  · have hel := h.el _ (List.getElem_mem hB)
    refine Zgt (fun F w H => (h.rd.imp qI).someAt (by omega) H) ?_
    rintro ⟨a1, a2, rfl⟩
    refine Zgt (fun F w H => (hel.imp qI).sh _ _ _ H) ?_
    rintro ⟨ea, ec, hev, hecl, hecm⟩
    generalize hrow : ps[i].2 = row at hel hev hecl
    have htot : (joinB (ps.take i)).length + row.length ≤ (joinB ps).length := by
      have h1 := joinB_le ps (i + 1)
      rw [joinB_succ ps i hB, List.length_append, hrow] at h1; exact h1
    have hgi : (ps.map (·.1))[i]? = some (.slice ea row.length ec) := by simp [hB, hev]
    refine V3 ?_
    refine Zgo [(3, 3), (5, 5), (12, 30)] (by kernel_rfl) (fun s : Nat × Option Addr × Nat × Nat => s.1 ≤ row.length ∧ s.2.2.2 = n + s.1) (fun s => own 5 1 (.slice s.2.1 s.2.2.2 s.2.2.1) s.2.2.2 ((joinB (ps.take i) ++ row.take s.1).map u8b) :: L)
      (fun s => [(5, .int .i64 (s.1 : Int)), (3, .slice s.2.1 s.2.2.2 s.2.2.1)]) (fun s => row.length - s.1) (0, a, c, n) ⟨Nat.zero_le _, rfl⟩ (by dsimp only; rw [List.take_zero, List.append_nil]; exact Imp.refl _) ⟨rfl, rfl, trivial⟩ ?_
    rintro ⟨k, a', c', n'⟩ u' ⟨hk, hn'⟩
    dsimp only at hk hn' ⊢
    refine Y5 ?_
    refine Zic (j := i) rfl (h.rd.imp qI) hB hgi ?_
    refine V3 ?_
    refine Zgg rfl (fun hK => ?_) (fun hK => ?_)
    · refine Zgt (fun F w H => (by rw [hev] at hel; exact (hel.imp qI).some (by omega) H)) ?_
      rintro ⟨e1, e2, rfl⟩
      rw [hev] at hel
      refine Y5 ?_
      refine Zic (j := i) rfl (h.rd.imp qI) hB hgi ?_
      refine Y2 ?_
      refine Zic (j := k) rfl (hel.rd.imp qI) hK (getM (f := u8b) hK) ?_
      refine Zh7 (cs := #[.int .u8 _]) (by omega) (by omega) rfl ?_; intro b29
      refine Zia rfl rfl qH (Rd.cl (xs := [u8b row[k]]) qH rfl qZ rfl) qN (by omega) qS ?_; intro a3 c3
      refine V7 ?_
      refine Zgl (k + 1, a3, c3, n' + 1) qO ⟨by dsimp only; omega, by dsimp only; omega⟩ ?_ ⟨rfl, rfl, trivial⟩
      dsimp only
      rw [app_take_succ _ hK]
      exact Imp.arr (by repeat (first|exact Arr.nil|exact Arr.stop|refine Arr.cons (by repeat constructor) ?_|refine Arr.skip ?_))
    · have hke : k = row.length := by omega
      subst hke
      rw [List.take_length]
      refine V5 ?_
      refine Zgl (i + 1, a', c', n') qO ⟨by dsimp only; omega, by dsimp only; rw [joinB_succ ps i hB, List.length_append, hrow]; omega⟩ ?_ ⟨rfl, rfl, trivial⟩
      dsimp only
      rw [joinB_succ ps i hB, hrow]
      exact Imp.arr (by repeat (first|exact Arr.nil|exact Arr.stop|refine Arr.cons (by repeat constructor) ?_|refine Arr.skip ?_))
  · have hie : i = ps.length := by omega
    subst hie
    rw [List.take_length] at hn
    rw [List.take_length]
    subst hn
    refine V4 ?_
    refine rx1 (Zhc rfl (Zg7)) ?_
    exact ⟨_, ⟨a, c, rfl, rfl⟩, by exact Imp.arr (by repeat (first|exact Arr.nil|exact Arr.stop|refine Arr.cons (by repeat constructor) ?_|refine Arr.skip ?_))⟩
theorem two_x {L : List Asrt} {va vb : Value} {a b : List Byte} (ha : Bs L va a) (hb : Bs L vb b) (hl : (a ++ b).length ≤ 140737488355328) : Con Tryz.prog 27 [va, vb] L (fun r M => ∃ x c, r = .slice x (a ++ b).length c ∧ M = own 5 1 r (a ++ b).length ((a ++ b).map u8b) :: L) := by
  refine Con.get (fun w0 w F H => ha.sh _ _ _ H) ?_
  rintro ⟨aa, ac, rfl, hac, hacm⟩
  refine Con.get (fun w0 w F H => hb.sh _ _ _ H) ?_
  rintro ⟨ba, bc, rfl, hbc, hbcm⟩
  have e : joinB [(.slice aa a.length ac, a), (.slice ba b.length bc, b)] = a ++ b := by simp [joinB]
  refine fn_x Tryz.func27 rfl rfl rfl Tryz.mixed (by kernel_rfl) ?_
  intro w0
  refine Y6 ?_
  refine Zh7 (cs := #[.slice _ _ _, .slice _ _ _]) (by omega) (by omega) rfl ?_; intro b7
  refine Zh8 rfl (by kernel_rfl) (join_x (L := cl b7 #[.slice aa a.length ac, .slice ba b.length bc] 33 :: L) (ps := [(.slice aa a.length ac, a), (.slice ba b.length bc, b)]) (Rs.cl (o := 0) qH (by simp) rfl (by simp) (by simp) (by intro x hx; simp only [List.mem_cons, List.not_mem_nil, or_false] at hx; rcases hx with rfl|rfl; exact ha.imp Imp.tail; exact hb.imp Imp.tail)) (by rw [e]; exact hl)) rfl qT ?_
  rintro _ _ ⟨x, c, rfl, rfl⟩
  refine V3 ?_
  rw [e]
  refine rx1 (Zhc rfl (Zg7)) ?_
  exact ⟨_, ⟨x, c, rfl, rfl⟩, by exact Imp.arr (by repeat (first|exact Arr.nil|exact Arr.stop|refine Arr.cons (by repeat constructor) ?_|refine Arr.skip ?_))⟩
end Go.Sl

/- the statements' small helpers: numbers as bytes, the lowest first; a list copied into noughts. -/
set_option maxHeartbeats 4000000
set_option maxRecDepth 10000
set_option linter.unusedVariables false
set_option linter.unusedSimpArgs false
namespace Go.Sl
open Go Go.Proofs
attribute [local irreducible] cl pt own old pur ex all den denOps denS xOps xC cX CX xthen xblk xcut xloop xgo xng retX resX Calls PV Rd Con
theorem little_x {L : List Asrt} (v : BitVec 64) (n : Nat) (hn : n ≤ 16) : Con Tryz.prog 28 [u64b v, nvv n] L (fun r M => ∃ a c, r = .slice a (leB v n).length c ∧ M = own 5 1 r (leB v n).length ((leB v n).map u8b) :: L) := by
  refine fn_x Tryz.func28 rfl rfl rfl Tryz.mixed (by kernel_rfl) ?_
  intro w0
  refine V9 ?_
  refine Zgo [(5, 19)] (by kernel_rfl) (fun s : Nat × Option Addr × Nat => s.1 ≤ n) (fun s => own 5 1 (.slice s.2.1 (leB v s.1).length s.2.2) (leB v s.1).length ((leB v s.1).map u8b) :: L)
    (fun s => [(6, nvv s.1), (5, .slice s.2.1 (leB v s.1).length s.2.2)]) (fun s => n - s.1) (0, none, 0) (by show 0 ≤ _; omega) (Imp.own_nil) ⟨rfl, rfl, trivial⟩ ?_
  rintro ⟨i, a, c⟩ u hi
  dsimp only at hi ⊢
  have hll := leB_len v i
  refine V5 ?_
  refine Zgg rfl (fun hB => ?_) (fun hB => ?_)
  · refine Y4 ?_
    first|refine Zhg (Zmc (a := 8) rfl rfl) ?_|refine Zhg (Zbi rfl rfl) ?_
    refine Zhg (Zlk rfl rfl) ?_
    refine Zhg (Zlx rfl) ?_
    refine Zh7 (cs := #[.int .u8 _]) (by omega) (by omega) rfl ?_; intro b18
    refine Zia rfl rfl qH (Rd.cl (xs := [u8b ((v >>> (8 * i)).setWidth 8)]) qH rfl qZ rfl) qN (by omega) qS ?_; intro a3 c3
    refine V2 ?_
    have e2 : (leB v i).map u8b ++ [u8b ((v >>> (8 * i)).setWidth 8)] = (leB v (i + 1)).map u8b := by rw [leB_succ]; simp only [List.map_append, List.map_cons, List.map_nil]
    have e3 : (leB v i).length + 1 = (leB v (i + 1)).length := by rw [leB_len, leB_len]
    rw [e2, e3]
    refine V5 ?_
    exact Zgl (i + 1, a3, c3) qO qO qI ⟨rfl, rfl, trivial⟩
  · have hie : i = n := by omega
    subst hie
    refine V4 ?_
    refine rx1 (Zhc rfl (Zg7)) ?_
    exact ⟨_, ⟨a, c, rfl, rfl⟩, qI⟩
end Go.Sl

/- trystlaw13: PagerHeads, walked. -/
set_option maxHeartbeats 4000000
set_option maxRecDepth 10000
set_option linter.unusedVariables false
set_option linter.unusedSimpArgs false
namespace Go.Sl
open Go Go.Proofs
attribute [local irreducible] cl pt own old pur ex all den denOps denS xOps xC cX CX xthen xblk xcut xloop xgo xng retX resX Calls PV Rd Con
attribute [local irreducible] hostA pgA PagerS.loadP PagerS.saveP PagerS.flushP pcs playP
attribute [local irreducible] ocells
open PagerS (PS Over)
theorem leB_low4 (w : Nat) : leB (BitVec.ofNat 64 w) 4 = leB (BitVec.ofNat 32 w) 4 := by
  unfold leB
  apply List.map_congr_left
  intro j hj
  have hj : j < 4 := by simpa using hj
  apply BitVec.eq_of_getLsbD_eq
  intro k hk
  simp only [BitVec.getLsbD_setWidth, BitVec.getLsbD_ushiftRight, BitVec.getLsbD_ofNat]
  have h1 : 8 * j + k < 32 := by omega
  have h2 : 8 * j + k < 64 := by omega
  simp [h1, h2]
/-- What a play leaves as it is. -/
structure Stays (s t : PS) (h g : HostS.HS) : Prop where
  round : t.round = s.round
  pages : t.pages = s.pages
  size : g.size = h.size
theorem stays_of {k m : Nat} {s t : PS} {h g : HostS.HS} (n : PagerS.Near k m s h t g) : Stays s t h g := ⟨n.round, n.spages, n.size⟩
theorem step_stays (by_ : Byte) (i : Nat) (o : OpV) (s : PS) (h : HostS.HS) : Stays s (stepP by_ i o s h).2.1 h (stepP by_ i o s h).2.2 := by
  unfold stepP
  split
  · exact stays_of (PagerS.near_load s h _)
  · split
    · exact stays_of (PagerS.near_save s h _ _)
    · split
      · have hf : Stays s (PagerS.flushP s h).2.1 h (PagerS.flushP s h).2.2 := by
          with_unfolding_all unfold PagerS.flushP
          split
          · exact stays_of (PagerS.near_flushL _ s h)
          · exact ⟨rfl, rfl, rfl⟩
        exact hf
      · exact ⟨rfl, rfl, rfl⟩
theorem play_stays (by_ : Byte) : ∀ (l : List OpV) (i : Nat) (s : PS) (h : HostS.HS), Stays s (playP by_ l i s h).2.1 h (playP by_ l i s h).2.2
  | [], i, s, h => by with_unfolding_all exact ⟨rfl, rfl, rfl⟩
  | o :: l, i, s, h => by
    have a := step_stays by_ i o s h
    have b := play_stays by_ l (i + 1) (stepP by_ i o s h).2.1 (stepP by_ i o s h).2.2
    have e : playP by_ (o :: l) i s h = ((stepP by_ i o s h).1 ++ (playP by_ l (i + 1) (stepP by_ i o s h).2.1 (stepP by_ i o s h).2.2).1, (playP by_ l (i + 1) (stepP by_ i o s h).2.1 (stepP by_ i o s h).2.2).2) := by with_unfolding_all rfl
    rw [e]
    exact ⟨b.round.trans a.round, b.pages.trans a.pages, b.size.trans a.size⟩
theorem wrs_take (l : List HostS.Touch) (i : Nat) (hi : i < l.length) : PagerS.wrs (l.take (i + 1)) = PagerS.wrs (l.take i) + (if l[i].op = 1 then 1 else 0) := by
  unfold PagerS.wrs
  rw [List.take_succ_eq_append_getElem hi, List.countP_append]
  congr 1
  by_cases h : l[i].op = 1 <;> simp [h]
def wasF (pg : Int) (u : HostS.Touch) : Bool := decide (u.op = 1) && decide (u.page = pg)
theorem ocl_op (t : OTouch) : ((ocells t).toArray)[0]? = some (.int .i64 t.1.op) := by with_unfolding_all rfl
theorem ocl_page (t : OTouch) : ((ocells t).toArray)[1]? = some (.int .i64 t.1.page) := by with_unfolding_all rfl
theorem ocl_len (t : OTouch) : ((ocells t).toArray)[2]? = some (.int .i64 t.1.len) := by with_unfolding_all rfl
theorem ocl_list (t : OTouch) : ocells t = [.int .i64 t.1.op, .int .i64 t.1.page, .int .i64 t.1.len] ++ t.1.head.map u8b := by with_unfolding_all rfl
theorem ocl_head (t : OTouch) : ((ocells t).toArray).extract 3 (3 + 12) = (t.1.head.map u8b).toArray := by
  rw [ocl_list]
  apply Array.ext'
  simp [List.extract_eq_take_drop, List.take_of_length_le, t.2.h12]
theorem ocl_op' (t : OTouch) : (ocells t)[0]? = some (.int .i64 t.1.op) := by rw [ocl_list]; rfl
theorem ocl_page' (t : OTouch) : (ocells t)[1]? = some (.int .i64 t.1.page) := by rw [ocl_list]; rfl
theorem ocl_one (t : OTouch) : ((ocells t).toArray).toList.all oneC = true := by
  rw [ocl_list]; simp [oneC]
section
variable {L : List Asrt} {x : PLifeV}
theorem heads_x (hi : PIn L x) : Con Tryz.prog 4 [.agg (pcs x)] L (fun r M => r = .bool true ∧ L = M) := by
  have hk := hi.key
  have hlen := pcs_len hk
  by_cases hm : Made x
  · obtain ⟨m1, m2, m3, m4, m5, m6, m7⟩ := made_facts hk hm
    have hsx : ((x.size_.toNat : Nat) : Int) = x.size_ := Int.toNat_of_nonneg (by omega)
    have hhi : PagerS.HI (ps0 x) (hs0 x) := PagerS.hi_fresh rfl m2
    have hst := play_stays 7#8 x.script_ 0 (ps0 x) (hs0 x)
    refine fn_x Tryz.func4 rfl rfl rfl Tryz.mixed (by kernel_rfl) ?_
    intro w0
    refine Y1 ?_
    refine Zh5 rfl ?_; intro b1
    refine Y4 ?_
    refine Zh8 rfl (by kernel_rfl) (made_ok hi hm) rfl qT ?_
    rintro _ _ ⟨ph, p, rfl, rfl⟩
    refine Y11 ?_
    refine Zhg (Zb0 rfl) ?_
    refine Zhn 21 rfl (rfl) ?_
    refine Y5 ?_
    refine Zh8 rfl (by kernel_rfl) (play_x hi m1 m2 m3 hhi 7#8) rfl qT ?_
    rintro _ _ ⟨oa, oc, rfl, rfl, i1, i2⟩
    refine V2 ?_
    refine Zgt (fun F w H => pg_ok (p := p) (ph := ph) qH H) ?_
    intro hk1
    refine Zgt (fun F w H => host_ok (p := ph) qH H) ?_
    intro hho
    have hp1 := Nat.le_trans (PagerS.pot_ops _ _) i2
    have hsl := hi.ops.len
    obtain ⟨ol, hol⟩ := sub_of (hi_tok i1 hk1)
    have hsz : (hs0 x).size = x.size_.toNat := rfl
    have hpg : (ps0 x).pages = x.pages_ := rfl
    have hrd : (ps0 x).round = x.round_ := rfl
    have s1 := hst.round
    have s2 := hst.pages
    have s3 := hst.size
    have hll := hho.log
    have hhd := i1.heads
    have hth := i1.then_
    have hwm := hk1.writes
    rw [s1, s2, s3, hsz, hpg, hrd] at hhd
    generalize (playP 7#8 x.script_ 0 (ps0 x) (hs0 x)).2.1 = t1 at *
    generalize (playP 7#8 x.script_ 0 (ps0 x) (hs0 x)).2.2 = h1 at *
    generalize (playP 7#8 x.script_ 0 (ps0 x) (hs0 x)).1 = outs at *
    have hoc : h1.log.flatMap tcells = ol.flatMap ocells := by rw [hol, List.flatMap_map]; with_unfolding_all rfl
    have holl : h1.log.length = ol.length := by rw [hol, List.length_map]
    refine Y2 ?_
    refine Zh8 rfl (by kernel_rfl) (log_x (p := ph) (s := h1) (by omega)) rfl qT ?_
    rintro _ _ ⟨l1, c1, rfl, rfl⟩
    refine V3 ?_
    have hown : ownLog l1 c1 h1.log = own 65 15 (.slice l1 ol.length c1) ol.length (ol.flatMap ocells) := by unfold ownLog; rw [holl, hoc]
    rw [hown, holl]
    have hl9 : h1.log.length ≤ 4000000000000 := by omega
    clear hll hown hoc hsz hpg hrd s1 s2 s3 hst hhi m1 m2 m3 m4 m5 m6 m7 i1 i2 hk1 hp1
    generalize h1.log = lg at *
    have hat : ∀ i (h1 : i < ol.length) (h2 : i < lg.length), ol[i].1 = lg[i] := fun i h1 h2 => by simp [hol]
    refine V6 ?_
    refine Zgo [(2, 2), (7, 12), (28, 108)] (by kernel_rfl) (fun i : Nat => i ≤ ol.length) (fun _ => own 65 15 (.slice l1 ol.length c1) ol.length (ol.flatMap ocells) :: cl b1 (pcs x) 58 :: pgA p ph t1 :: L) (fun i => [(8, nvv i), (7, nvv (PagerS.wrs (lg.take i)))]) (fun i => ol.length - i) 0 (Nat.zero_le _) qI ⟨rfl, rfl, trivial⟩ ?_
    intro i u hil
    have hwl : PagerS.wrs (lg.take i) ≤ lg.length := Nat.le_trans List.countP_le_length (by rw [List.length_take]; omega)
    refine V6 ?_
    refine Zgg rfl (fun hB => ?_) (fun hB => ?_)
    · refine Zgt (fun F w H => own_someN (n := ol.length) (a := l1) qH (by omega) H) ?_
      rintro ⟨g, rfl⟩
      have hrdl : ∀ {M M' : List Asrt}, Has M (own 65 15 (.slice (some ⟨g, 0, none⟩) ol.length c1) ol.length (ol.flatMap ocells)) M' → Rd M 15 (.slice (some ⟨g, 0, none⟩) ol.length c1) ol.length (ol.flatMap ocells) := fun h => Rd.own h
      have hone := ocl_one ol[i]
      have hB2 : i < lg.length := by omega
      obtain ⟨e1, e2, e3, e4⟩ := hhd i hB2
      have hti := hat i hB hB2
      have hwt := wrs_take lg i hB2
      rw [← hti] at e1 e2 e3 e4 hwt
      have h12 := ol[i].2.h12
      have elen : ol[i].1.len = x.size_ := e1.trans hsx
      have epg0 : ¬ ol[i].1.page < 0 := by omega
      have epg1 : ¬ ol[i].1.page ≥ x.pages_ := by omega
      have hosz : ((ocells ol[i]).toArray).size = 15 := by simpa using ocells_len ol[i]
      refine Y4 ?_
      refine Zfg rfl ((hrdl qH).agN0 ocells_len (by omega) hB) ?_
      refine Zhz (cs := #[.int .i64 0, .int .i64 0, .int .i64 0, u8b 0#8, u8b 0#8, u8b 0#8, u8b 0#8, u8b 0#8, u8b 0#8, u8b 0#8, u8b 0#8, u8b 0#8, u8b 0#8, u8b 0#8, u8b 0#8]) rfl ?_; intro b9
      first|refine Zhy rfl rfl qR qZ (by first|rfl|exact oneM_u8 _|exact oneL_u8 _|assumption|(simp [oneC]; done)) qZ ?_|refine Zhx rfl rfl qR qZ (by first|rfl|exact oneM_u8 _|exact oneL_u8 _|assumption|(simp [oneC]; done)) qZ rfl ?_
      refine Y3 ?_
      refine Zhp rfl qH (ocl_len _) ?_
      refine Y1 ?_
      refine Zhp rfl qH (pcs_size) ?_
      refine Zhg (Zbs (a := ol[i].1.len) (b := x.size_) rfl rfl) ?_
      refine Zhn 42 rfl (decide_eq_false (fun hh => hh elen)) ?_
      refine Y2 ?_
      first|refine Y0 ?_|(refine Zhh rfl ?_; (refine Zhp rfl qH (ocl_page _) ?_))
      first|refine Y0 ?_|(refine Zhh rfl ?_; (refine Zhg (Zbn (a := ol[i].1.page) (b := 0) rfl rfl) ?_))
      refine Zhn 46 rfl (decide_eq_false (epg0)) ?_
      refine Y3 ?_
      first|refine Y0 ?_|(refine Zhh rfl ?_; (refine Zhp rfl qH (ocl_page _) ?_))
      refine Y1 ?_
      first|refine Y0 ?_|(refine Zhh rfl ?_; (refine Zhp rfl qH (pcs_pages) ?_))
      first|refine Y0 ?_|(refine Zhh rfl ?_; (refine Zhg (Zbq (a := ol[i].1.page) (b := x.pages_) rfl rfl) ?_))
      refine Zhn 53 rfl (decide_eq_false (epg1)) ?_
      refine V3 ?_
      rcases e4 with ⟨e5, e6, v, v1, v2, v3⟩|⟨e5, e6⟩
      · refine Y2 ?_
        refine Zhp rfl qH (ocl_op _) ?_
        refine Zhg (Zbr (a := ol[i].1.op) (b := 0) rfl rfl) ?_
        refine Zhm 57 rfl (decide_eq_true (e5)) ?_
        refine Y8 ?_
        repeat (first|refine zA ?_|refine zB ?_|refine zD ?_|refine zE ?_|refine zF ?_|refine zG ?_|refine zH ?_|refine zI ?_|refine zJ ?_|refine zK ?_|refine zL ?_|refine zM rfl ?_|refine zN ?_|refine zO ?_|refine zP ?_|refine zQ ?_)
        have hany : (lg.take i).any (wasF ol[i].1.page) = true := List.any_eq_true.2 ⟨v, v1, by unfold wasF; rw [decide_eq_true v2, decide_eq_true v3]; rfl⟩
        refine Zgn [(10, 11), (58, 81)] (by kernel_rfl) (fun _ : Unit => True) (fun _ => own 65 15 (.slice (some ⟨g, 0, none⟩) ol.length c1) ol.length (ol.flatMap ocells) :: cl b9 (ocells ol[i]).toArray 65 :: cl b1 (pcs x) 58 :: pgA p ph t1 :: L) (fun _ => [(10, .bool true)]) ?_ ?_
        · refine Ct.o ?_
          refine Zgo [(10, 11), (58, 81)] (by kernel_rfl) (fun k : Nat => k ≤ i) (fun _ => own 65 15 (.slice (some ⟨g, 0, none⟩) ol.length c1) ol.length (ol.flatMap ocells) :: cl b9 (ocells ol[i]).toArray 65 :: cl b1 (pcs x) 58 :: pgA p ph t1 :: L) (fun k => [(11, nvv k), (10, .bool ((lg.take k).any (wasF ol[i].1.page)))]) (fun k => i - k) 0 (Nat.zero_le _) qI ⟨rfl, rfl, trivial⟩ ?_
          intro k u2 hkl
          refine V5 ?_
          refine Zgg rfl (fun hC => ?_) (fun hC => ?_)
          · have hC2 : k < ol.length := by omega
            have hC3 : k < lg.length := by omega
            have hok := hat k hC2 hC3
            have ew : (lg.take (k + 1)).any (wasF ol[i].1.page) = ((lg.take k).any (wasF ol[i].1.page) || wasF ol[i].1.page ol[k].1) := by rw [List.take_succ_eq_append_getElem hC3, List.any_append, hok]; simp
            refine Ct.o ?_
            by_cases c0 : (lg.take k).any (wasF ol[i].1.page) = true
            · rw [c0] at ew
              refine Ct.o ?_
              refine Zij ([own 65 15 (.slice (some ⟨g, 0, none⟩) ol.length c1) ol.length (ol.flatMap ocells), cl b9 (ocells ol[i]).toArray 65]) [15] (.q 0 (.q 1 (.q 2 (.q 3 (.q 4 (.q 5 (.r 6 (.q 7 (.q 8 (.q 9 (.q 10 (.q 11 (.q 12 (.q 14 (.r 13 (.r 15 (.q 16 (.q 17 (.q 18 (.q 19 .nil)))))))))))))))))))) (by kernel_rfl) (by kernel_rfl) (Imp.arr qV) ?_
              refine W1 ?_
              refine Zi5 63 rfl (c0) ?_
              refine W20 ?_
              refine V5 ?_
              exact Zgl (k + 1) qO (by omega) qI ⟨rfl, congrArg Value.bool ew.symm, trivial⟩
            · have c0 : (lg.take k).any (wasF ol[i].1.page) = false := by simpa using c0
              rw [c0, Bool.false_or] at ew
              by_cases c1' : ol[k].1.op = 1
              · refine Ct.o ?_
                refine Zij ([own 65 15 (.slice (some ⟨g, 0, none⟩) ol.length c1) ol.length (ol.flatMap ocells), cl b9 (ocells ol[i]).toArray 65]) [15] (.q 0 (.q 1 (.q 2 (.q 3 (.q 4 (.q 5 (.r 6 (.q 7 (.q 8 (.q 9 (.q 10 (.q 11 (.q 12 (.q 14 (.r 13 (.r 15 (.q 16 (.q 17 (.q 18 (.q 19 .nil)))))))))))))))))))) (by kernel_rfl) (by kernel_rfl) (Imp.arr qV) ?_
                refine W1 ?_
                refine Zi6 63 rfl (c0) ?_
                refine W5 ?_
                first|refine Zi1 rfl rfl ?_|refine Zi2 rfl rfl ?_|refine Zfi rfl rfl rfl (((hrdl qH).atN0 (j := 0) ocells_len hC2 (by omega) (ocl_op' ol[k]))) ?_
                first|refine Zio rfl rfl ?_|refine Zip rfl rfl ?_|refine Zin rfl rfl (Zbr (a := ol[k].1.op) (b := 1) rfl rfl) ?_
                refine Zi5 70 rfl (decide_eq_true (c1')) ?_
                refine W6 ?_
                first|refine Zi1 rfl rfl ?_|refine Zi2 rfl rfl ?_|refine Zfi rfl rfl rfl (((hrdl qH).atN0 (j := 1) ocells_len hC2 (by omega) (ocl_page' ol[k]))) ?_
                first|refine Zi1 rfl rfl ?_|refine Zi2 rfl rfl ?_|refine Ziw rfl rfl rfl qH (ocl_page _) ?_
                first|refine Zio rfl rfl ?_|refine Zip rfl rfl ?_|refine Zin rfl rfl (Zbr (a := ol[k].1.page) (b := ol[i].1.page) rfl rfl) ?_
                refine W4 ?_
                refine V5 ?_
                exact Zgl (k + 1) qO (by omega) qI ⟨rfl, congrArg Value.bool (ew.trans (by unfold wasF; rw [decide_eq_true c1', Bool.true_and])).symm, trivial⟩
              · refine Ct.o ?_
                refine Zij ([own 65 15 (.slice (some ⟨g, 0, none⟩) ol.length c1) ol.length (ol.flatMap ocells), cl b9 (ocells ol[i]).toArray 65]) [15] (.q 0 (.q 1 (.q 2 (.q 3 (.q 4 (.q 5 (.r 6 (.q 7 (.q 8 (.q 9 (.q 10 (.q 11 (.q 12 (.q 14 (.r 13 (.r 15 (.q 16 (.q 17 (.q 18 (.q 19 .nil)))))))))))))))))))) (by kernel_rfl) (by kernel_rfl) (Imp.arr qV) ?_
                refine W1 ?_
                refine Zi6 63 rfl (c0) ?_
                refine W5 ?_
                first|refine Zi1 rfl rfl ?_|refine Zi2 rfl rfl ?_|refine Zfi rfl rfl rfl (((hrdl qH).atN0 (j := 0) ocells_len hC2 (by omega) (ocl_op' ol[k]))) ?_
                first|refine Zio rfl rfl ?_|refine Zip rfl rfl ?_|refine Zin rfl rfl (Zbr (a := ol[k].1.op) (b := 1) rfl rfl) ?_
                refine Zi6 70 rfl (decide_eq_false (c1')) ?_
                refine W13 ?_
                refine V5 ?_
                exact Zgl (k + 1) qO (by omega) qI ⟨rfl, congrArg Value.bool (ew.trans (by unfold wasF; rw [decide_eq_false c1']; rfl)).symm, trivial⟩
          · have hke : k = i := by omega
            subst hke
            refine Ct.o ?_
            exact Zgk () trivial qI ⟨congrArg Value.bool hany, trivial⟩
        · rintro - u2 -
          refine Y2 ?_
          refine Zhg (Zb0 rfl) ?_
          refine Zhn 83 rfl (rfl) ?_
          refine Y2 ?_
          first|refine Y0 ?_|(refine Zhh rfl ?_; (refine Zhq (n := 12) rfl qH qZ (ocl_head _) ?_))
          first|refine Y0 ?_|(refine Zhh rfl ?_; (refine Zhg (Zdn (cs := ((List.replicate 12 0#8).map u8b).toArray) (by kernel_rfl)) ?_))
          first|refine Y0 ?_|(refine Zhh rfl ?_; (refine Zhg (Zm5 h12 (by rfl) rfl rfl) ?_))
          refine Zhn 88 rfl (decide_eq_false (fun hh => hh e6)) ?_
          refine V8 ?_
          exact Zgl (i + 1) qO (by omega) qI ⟨rfl, congrArg (fun n : Nat => nvv n) (hwt.trans (by rw [if_neg (show ¬ ol[i].1.op = 1 by omega)]; rfl)).symm, trivial⟩
      · have hl4 := little_x (L := [own 5 1 (.slice none 0 0) 0 []]) (BitVec.ofInt 64 ((PagerS.wrs (lg.take i) : Nat) : Int)) 4 (by omega)
        have hhl : (leB x.round_ 8 ++ leB (BitVec.ofInt 64 ((PagerS.wrs (lg.take i) : Nat) : Int)) 4) = ol[i].1.head := by rw [e6, BitVec.ofInt_natCast, leB_low4]
        have ht := fun pa pc1 qa qc => two_x (L := [own 5 1 (.slice qa (leB (BitVec.ofInt 64 ((PagerS.wrs (lg.take i) : Nat) : Int)) 4).length qc) (leB (BitVec.ofInt 64 ((PagerS.wrs (lg.take i) : Nat) : Int)) 4).length ((leB (BitVec.ofInt 64 ((PagerS.wrs (lg.take i) : Nat) : Int)) 4).map u8b), own 5 1 (.slice pa (leB x.round_ 8).length pc1) (leB x.round_ 8).length ((leB x.round_ 8).map u8b)]) (a := leB x.round_ 8) (b := leB (BitVec.ofInt 64 ((PagerS.wrs (lg.take i) : Nat) : Int)) 4) (Bs.own (.there .here)) (Bs.own .here) (by simp [leB_len])
        refine Y2 ?_
        refine Zhp rfl qH (ocl_op _) ?_
        refine Zhg (Zbr (a := ol[i].1.op) (b := 0) rfl rfl) ?_
        refine Zhn 57 rfl (decide_eq_false ((by omega))) ?_
        refine Y4 ?_
        refine Zhp rfl qH (pcs_round hk) ?_
        refine Zh8 rfl (by kernel_rfl) (little_x (L := []) x.round_ 8 (by omega)) rfl qT ?_
        rintro _ _ ⟨pa, pc1, rfl, rfl⟩
        refine Y2 ?_
        refine Zhg (Zlv (n := ((PagerS.wrs (lg.take i) : Nat) : Int)) rfl) ?_
        refine Zh8 rfl (by kernel_rfl) (little_x (L := []) (BitVec.ofInt 64 ((PagerS.wrs (lg.take i) : Nat) : Int)) 4 (by omega)) rfl qT ?_
        rintro _ _ ⟨qa, qc, rfl, rfl⟩
        refine Y1 ?_
        refine Zh8 rfl (by kernel_rfl) (ht pa pc1 qa qc) rfl qT ?_
        rintro _ _ ⟨ra, rc, rfl, rfl⟩
        refine V3 ?_
        rw [hhl]
        refine Y2 ?_
        refine Zhp rfl qH (ocl_op _) ?_
        refine Zhg (Zbs (a := ol[i].1.op) (b := 1) rfl rfl) ?_
        refine Zhn 99 rfl (decide_eq_false (fun hh => hh e5)) ?_
        refine Y2 ?_
        first|refine Y0 ?_|(refine Zhh rfl ?_; (refine Zhg (Zmx (l := 0) (h := 12) rfl qB qB (by omega) (by omega) (by omega)) ?_))
        refine Y1 ?_
        first|refine Y0 ?_|(refine Zhh rfl ?_; (refine Zh8 rfl (by kernel_rfl) (eqBytes_x (L := [cl b9 (ocells ol[i]).toArray 65, ownB ra rc ol[i].1.head]) (a := ol[i].1.head) (b := ol[i].1.head) (by have hh := Bs.cl (M := [cl b9 (ocells ol[i]).toArray 65, ownB ra rc ol[i].1.head]) (o := 3) (c := 12) (l := ol[i].1.head) .here (by rw [h12]; omega) (by rw [h12, ocl_head]) (by omega) (by omega); rw [h12] at hh; exact hh) (Bs.own (.there .here))) rfl qT ?_); (rintro _ _ ⟨rfl, rfl⟩); (refine Zg2 qA ?_))
        refine Zhm 104 rfl (decide_eq_true (rfl)) ?_
        first|refine Y0 ?_|(refine Zhh rfl ?_; (refine Zhg (Zb0 rfl) ?_))
        refine Zhn 105 rfl (rfl) ?_
        refine V13 ?_
        exact Zgl (i + 1) qO (by omega) qI ⟨rfl, congrArg (fun n : Nat => nvv n) (hwt.trans (by rw [if_pos e5])).symm, trivial⟩
    · have hie : i = lg.length := by omega
      subst hie
      rw [List.take_length] at *
      have hw32 : (BitVec.ofNat 32 t1.writes).toNat = t1.writes := by rw [BitVec.toNat_ofNat]; omega
      refine Y2 ?_
      refine Zh8 rfl (by kernel_rfl) (writes_p (p := p)) rfl qT ?_
      rintro _ _ ⟨rfl, rfl⟩
      refine Y1 ?_
      refine Zhg (Zk7 (x := BitVec.ofNat 32 t1.writes) rfl) ?_
      refine V2 ?_
      rw [hw32]
      rcases hth with hth|⟨hth, he⟩
      · refine Y3 ?_
        refine Zhg (Zmj (a := t1.writes) (b := PagerS.wrs lg) rfl rfl) ?_
        refine Zhm 114 rfl (decide_eq_true (hth.symm)) ?_
        refine Y12 ?_
        first|refine Y0 ?_|(refine Zhh rfl ?_; (refine Zh8 rfl (by kernel_rfl) (plWorks_x) rfl qT ?_); (rintro _ _ ⟨rfl, rfl⟩); (refine Zg2 qA ?_))
        refine V3 ?_
        refine rx1 (Zha rfl (Zg7)) ?_
        exact ⟨_, ⟨rfl, rfl⟩, qI⟩
      · refine Y3 ?_
        refine Zhg (Zmj (a := t1.writes) (b := PagerS.wrs lg) rfl rfl) ?_
        refine Zhn 114 rfl (decide_eq_false ((by omega))) ?_
        refine Y3 ?_
        first|refine Y0 ?_|(refine Zhh rfl ?_; (refine Zhg (Zmb (a := PagerS.wrs lg) (b := 1) rfl rfl (by omega) (by omega)) ?_))
        first|refine Y0 ?_|(refine Zhh rfl ?_; (refine Zhg (Zmj (a := t1.writes) (b := PagerS.wrs lg - 1) rfl rfl) ?_))
        refine Zhm 119 rfl (decide_eq_true ((by omega))) ?_
        refine Y2 ?_
        first|refine Y0 ?_|(refine Zhh rfl ?_; (refine Zh8 rfl (by kernel_rfl) (err_p (p := p)) rfl qT ?_); (rintro _ _ ⟨rfl, rfl⟩); (refine Zg2 qA ?_))
        first|refine Y0 ?_|(refine Zhh rfl ?_; (refine Zhg (Zmj (a := t1.err) (b := 110) rfl rfl) ?_))
        refine Zhm 123 rfl (decide_eq_true (he)) ?_
        refine Y3 ?_
        first|refine Y0 ?_|(refine Zhh rfl ?_; (refine Zh8 rfl (by kernel_rfl) (plWorks_x) rfl qT ?_); (rintro _ _ ⟨rfl, rfl⟩); (refine Zg2 qA ?_))
        refine V3 ?_
        refine rx1 (Zha rfl (Zg7)) ?_
        exact ⟨_, ⟨rfl, rfl⟩, qI⟩
  · refine fn_x Tryz.func4 rfl rfl rfl Tryz.mixed (by kernel_rfl) ?_
    intro w0
    refine Y1 ?_
    refine Zh5 rfl ?_; intro b1
    refine Y4 ?_
    refine Zh8 rfl (by kernel_rfl) (made_no hi hm) rfl qT ?_
    rintro _ _ ⟨hv, rfl, rfl⟩
    refine Y11 ?_
    refine Zhg (Zb0 rfl) ?_
    refine Zhm 21 rfl (rfl) ?_
    refine Y3 ?_
    refine Zh8 rfl (by kernel_rfl) (plWorks_x) rfl qT ?_
    rintro _ _ ⟨rfl, rfl⟩
    refine V3 ?_
    refine rx1 (Zha rfl (Zg7)) ?_
    exact ⟨_, ⟨rfl, rfl⟩, qI⟩
theorem heads_w (W : World) (x : PLifeV) (ok : PLifeVOk W x) : Con Tryz.prog 4 [.agg x.cells.toArray] [old W] (fun r M => r = .bool true ∧ [old W] = M) := by
  have hh := heads_x (pin_of ok)
  unfold pcs at hh
  exact hh
end
end Go.Sl
