/- Parts of the proof, joined: PgrV, PgrU, PgrX, OpenPg, PlA, PlB, RefA, PlW, PlC, PlD, PgrY, PlF. -/
import Derived.Test.YthodgeekgpkieaaGreatLawPagerSpoiltM0
import Derived.Test.YthodgeekgpkieaaGreatLawPagerSpoiltM1
import Derived.Test.YthodgeekgpkieaaGreatLawPagerSpoiltM2
import Derived.Test.YthodgeekgpkieaaGreatLawPagerSpoiltM3
import Derived.Test.YthodgeekgpkieaaGreatLawPagerSpoiltM4
/- pager: how often a host is asked; what a host saw of a pager. No program in sight. -/
set_option linter.unusedVariables false
set_option linter.unusedSimpArgs false
namespace Go.Sl.PagerS
open Go Go.Sl Go.Sl.HostS
attribute [local irreducible] pgSealB pgOpenR
/-- How many held pages are changed. -/
def chg (s : PS) : Nat := s.held.countP fun f => f.is == 2
def pot (s : PS) (h : HS) : Nat := h.ops + chg s + (if s.err = 0 then 1 else 0)
section
variable {s : PS} {h : HS}
theorem chg_cleaned {l : List Fr} (hn : (l.map Fr.page).Nodup) {f : Fr} (hf : f ∈ l) (hc : f.is = 2) : (cleaned l f.page).countP (fun g => g.is == 2) + 1 ≤ l.countP fun g => g.is == 2 := by
  induction l with
  | nil => cases hf
  | cons x r ih =>
    rw [List.map_cons, List.nodup_cons] at hn
    unfold cleaned at ih ⊢
    rw [List.map_cons, List.countP_cons, List.countP_cons]
    rcases List.mem_cons.1 hf with e|hf
    · subst e
      rw [if_pos rfl]
      have : (r.map fun g => if g.page = f.page then { g with is := 1 } else g) = r := by
        conv => rhs; rw [← List.map_id r]
        apply List.map_congr_left
        intro g hg
        rw [if_neg (fun hh => hn.1 (by rw [← hh]; exact List.mem_map.2 ⟨g, hg, rfl⟩))]; rfl
      rw [this]
      simp [hc]
    · have := ih hn.2 hf
      have hne : ¬ x.page = f.page := fun hh => hn.1 (by rw [hh]; exact List.mem_map.2 ⟨f, hf, rfl⟩)
      rw [if_neg hne]
      omega
theorem chg_filter {l : List Fr} {f : Fr} (hf : f ∈ l) : (l.filter fun g => !(g.page == f.page)).countP (fun g => g.is == 2) + (if f.is = 2 then 1 else 0) ≤ l.countP fun g => g.is == 2 := by
  induction l with
  | nil => cases hf
  | cons x r ih =>
    have mono : (r.filter fun g => !(g.page == f.page)).countP (fun g => g.is == 2) ≤ r.countP fun g => g.is == 2 := List.Sublist.countP_le (List.filter_sublist)
    rcases List.mem_cons.1 hf with e|hf
    · subst e
      rw [List.filter_cons_of_neg (by simp), List.countP_cons]
      have : (if (f.is == 2) = true then 1 else 0) = (if f.is = 2 then 1 else 0) := by by_cases h2 : f.is = 2 <;> simp [h2]
      omega
    · have := ih hf
      by_cases e : x.page = f.page
      · rw [List.filter_cons_of_neg (by simp [e]), List.countP_cons]; omega
      · rw [List.filter_cons_of_pos (by simp [e]), List.countP_cons, List.countP_cons]; omega
theorem chg_filter_le (l : List Fr) (n : Int) : (l.filter fun g => !(g.page == n)).countP (fun g => g.is == 2) ≤ l.countP fun g => g.is == 2 := List.Sublist.countP_le (List.filter_sublist)
theorem pot_use (f : Fr) : pot (useP s f) h ≤ pot s h + 1 := by
  have := chg_filter_le s.held f.page
  unfold pot chg useP
  dsimp only
  rw [List.countP_append, List.countP_cons, List.countP_nil]
  split <;> split <;> omega
theorem pot_use0 {f : Fr} (hf : f ∈ s.held ∨ f.is ≠ 2) : pot (useP s f) h ≤ pot s h := by
  unfold pot chg useP
  dsimp only
  rw [List.countP_append, List.countP_cons, List.countP_nil]
  rcases hf with hf|hf
  · have := chg_filter hf
    have e : (if (f.is == 2) = true then 1 else 0) = (if f.is = 2 then 1 else 0) := by by_cases h2 : f.is = 2 <;> simp [h2]
    omega
  · have := chg_filter_le s.held f.page
    have e : (if (f.is == 2) = true then 1 else 0) = 0 := by simp [hf]
    omega
theorem pot_write (hk : Ok s) (h0 : s.err = 0) {n : Int} (hc : changedAt s n = true) : pot (writeP s h n).2.1 (writeP s h n).2.2 ≤ pot s h := by
  have ho := (near_write s h n).ops
  obtain ⟨f, hf⟩ : ∃ f, frOf s n = some f := by
    cases hf : frOf s n with
    | some f => exact ⟨f, rfl⟩
    | none => unfold changedAt at hc; rw [hf] at hc; cases hc
  obtain ⟨f1, f2⟩ := frOf_mem hf
  have h2 : f.is = 2 := by unfold changedAt at hc; rw [hf] at hc; simpa using hc
  by_cases he : (writeP s h n).1 = 0
  · obtain ⟨_, _, e⟩ := writeP_zero he
    have hcl := chg_cleaned hk.once f1 h2
    rw [f2] at hcl
    have e1 : chg (writeP s h n).2.1 + 1 ≤ chg s := by rw [e]; exact hcl
    have e2 : (writeP s h n).2.1.err = s.err := by rw [e]; rfl
    unfold pot
    rw [e2]
    omega
  · obtain ⟨_, e⟩ := writeP_errs s h n he
    have e1 : chg (writeP s h n).2.1 = chg s := by rw [e]; rfl
    have e2 : (writeP s h n).2.1.err = (writeP s h n).1 := by rw [e]; rfl
    unfold pot
    rw [e1, e2, if_neg he, if_pos h0]
    omega
theorem pot_tail : pot { s with held := s.held.tail } h ≤ pot s h := by
  have : (s.held.tail.countP fun f => f.is == 2) ≤ s.held.countP fun f => f.is == 2 := List.Sublist.countP_le (List.tail_sublist _)
  unfold pot chg
  dsimp only
  omega
theorem pot_room (hk : Ok s) (h0 : s.err = 0) : pot (roomP s h).2.1 (roomP s h).2.2 ≤ pot s h := by
  unfold roomP
  split
  · exact Nat.le_refl _
  · dsimp only
    split
    · rename_i hc
      have hw := pot_write (h := h) hk h0 hc
      split
      · exact Nat.le_trans pot_tail hw
      · exact hw
    · exact pot_tail
theorem pot_fetch (h0 : s.err = 0) (n : Int) : pot (fetchP s h n).2.1 (fetchP s h n).2.2 ≤ pot s h + 1 := by
  have ho := readR_ops h n
  have hr : pot s (readR h n).2.2 ≤ pot s h + 1 := by unfold pot; omega
  unfold fetchP
  split
  · dsimp only
    have hd : ∀ e, e ≠ 0 → pot (die s e) (readR h n).2.2 ≤ pot s h + 1 := fun e he => by
      unfold pot die chg
      dsimp only
      rw [if_neg he]
      omega
    split
    · split
      · exact Nat.le_trans (pot_use0 (.inr (show (1 : Nat) ≠ 2 by omega))) hr
      · rename_i hz; exact hd _ hz
    · rename_i hz; exact hd _ hz
  · exact Nat.le_trans (pot_use0 (f := ⟨n, List.replicate s.text 0#8, 0⟩) (.inr (show (0 : Nat) ≠ 2 by omega))) (Nat.le_succ _)
theorem room_err (hk : Ok s) (h0 : s.err = 0) (hz : (roomP s h).1 = 0) : (roomP s h).2.1.err = 0 := by
  unfold roomP at hz ⊢
  split
  · exact h0
  · rename_i hl
    rw [if_neg hl] at hz
    dsimp only at hz ⊢
    split
    · rename_i hc
      rw [if_pos hc] at hz
      split
      · rename_i hw
        obtain ⟨_, _, e⟩ := writeP_zero hw
        rw [e]; exact h0
      · rename_i hw; rw [if_neg hw] at hz; exact absurd hz hw
    · exact h0
theorem pot_load (hk : Ok s) (n : Int) : pot (loadP s h n).2.1 (loadP s h n).2.2 ≤ pot s h + 1 := by
  unfold loadP
  split
  · rename_i hr
    have h0 := (right_zero hr).1
    split
    · rename_i f hf
      exact Nat.le_trans (pot_use0 (.inl (frOf_mem hf).1)) (Nat.le_succ _)
    · have a := pot_room (h := h) hk h0
      dsimp only
      split
      · rename_i hz
        exact Nat.le_trans (pot_fetch (room_err hk h0 hz) n) (Nat.succ_le_succ a)
      · exact Nat.le_trans a (Nat.le_succ _)
  · exact Nat.le_succ _
theorem pot_save (hk : Ok s) (n : Int) (t : Bytes) : pot (saveP s h n t).2.1 (saveP s h n t).2.2 ≤ pot s h + 1 := by
  unfold saveP
  split
  · rename_i hr
    have h0 := (right_zero hr).1
    split
    · split
      · exact pot_use _
      · have a := pot_room (h := h) hk h0
        dsimp only
        split
        · exact Nat.le_trans (pot_use _) (Nat.succ_le_succ a)
        · exact Nat.le_trans a (Nat.le_succ _)
    · exact Nat.le_succ _
  · exact Nat.le_succ _
theorem ok_write (hk : Ok s) (n : Int) : Ok (writeP s h n).2.1 := by
  by_cases he : (writeP s h n).1 = 0
  · obtain ⟨hw, _, e⟩ := writeP_zero he
    have := hk.writes
    rw [e]; exact ok_wrote hk n (by omega)
  · obtain ⟨e1, e⟩ := writeP_errs s h n he
    rw [e]; exact ok_die hk _ e1
theorem pot_flushL : ∀ (l : List Int) (s : PS) (h : HS), Ok s → s.err = 0 → pot (flushL l s h).2.1 (flushL l s h).2.2 ≤ pot s h
  | [], s, h, _, _ => Nat.le_refl _
  | n :: r, s, h, hk, h0 => by
    unfold flushL
    split
    · rename_i hc
      have a := pot_write (h := h) hk h0 hc
      dsimp only
      split
      · rename_i hz
        obtain ⟨_, _, e⟩ := writeP_zero hz
        exact Nat.le_trans (pot_flushL r _ _ (ok_write hk n) (by rw [e]; exact h0)) a
      · exact a
    · exact pot_flushL r s h hk h0
theorem pot_flush (hk : Ok s) : pot (flushP s h).2.1 (flushP s h).2.2 ≤ pot s h := by
  unfold flushP
  split
  · rename_i h0; exact pot_flushL _ s h hk h0
  · exact Nat.le_refl _
theorem pot_ops (s : PS) (h : HS) : h.ops ≤ pot s h := by unfold pot; omega
end
end Go.Sl.PagerS

/- pager: how what a host saw begins. No program in sight. -/
set_option linter.unusedVariables false
set_option linter.unusedSimpArgs false
namespace Go.Sl.PagerS
open Go Go.Sl Go.Sl.HostS
attribute [local irreducible] pgSealB pgOpenR
def wrs (l : List HostS.Touch) : Nat := l.countP fun t => t.op == 1
/-- A touch behind others. -/
def Entry (r : BitVec 64) (pages : Int) (size : Nat) (was : List HostS.Touch) (t : HostS.Touch) : Prop :=
  t.len = size ∧ 0 ≤ t.page ∧ t.page < pages ∧ ((t.op = 0 ∧ t.head = List.replicate 12 0#8 ∧ ∃ u ∈ was, u.op = 1 ∧ u.page = t.page) ∨ (t.op = 1 ∧ t.head = leB r 8 ++ leB (BitVec.ofNat 32 (wrs was)) 4))
def Heads (r : BitVec 64) (pages : Int) (size : Nat) (l : List HostS.Touch) : Prop := ∀ i (hi : i < l.length), Entry r pages size (l.take i) l[i]
theorem Heads.snoc {r : BitVec 64} {pages : Int} {size : Nat} {l : List HostS.Touch} {t : HostS.Touch} (h : Heads r pages size l) (ht : Entry r pages size l t) : Heads r pages size (l ++ [t]) := by
  intro i hi
  by_cases e : i < l.length
  · rw [List.getElem_append_left e, List.take_append_of_le_length (Nat.le_of_lt e)]
    exact h i e
  · have e : i = l.length := by rw [List.length_append, List.length_singleton] at hi; omega
    subst e
    rw [List.getElem_append_right (Nat.le_refl _), List.take_left]
    simpa using ht
structure HI (s : PS) (h : HS) : Prop where
  heads : Heads s.round s.pages h.size h.log
  now : s.err = 0 → wrs h.log = s.writes
  then_ : wrs h.log = s.writes ∨ (wrs h.log = s.writes + 1 ∧ s.err = 110)
  last : ∀ n pl, s.last n = some pl → ∃ u ∈ h.log, u.op = 1 ∧ u.page = n
  over : Over s h
theorem does_log (h : HS) (op n : Int) (b : Bytes) (act : HS → HS) (ha : ∀ g, (act g).log = g.log) : ((does h op n b act).1.log = h.log ∧ (does h op n b act).2 = 110) ∨ ((does h op n b act).1.log = h.log ++ [touchOf h op n b] ∧ ((does h op n b act).2 = 0 ∨ (does h op n b act).2 = 110)) := by
  unfold does
  split
  · exact .inl ⟨rfl, rfl⟩
  · dsimp only
    split
    · exact .inl ⟨rfl, rfl⟩
    · split
      · exact .inr ⟨ha _, .inr rfl⟩
      · exact .inr ⟨ha _, .inl rfl⟩
theorem headOf_box (key : Bytes) (p : Plc) (t : Bytes) : headOf (pgSealB key p t) = headB p := by
  unfold headOf
  rw [pgSeal_head, pgSealB_len, show 12 - (t.length + 28) = 0 by omega]; simp
section
variable {s : PS} {h : HS}
theorem HI.there (hi : HI s h) {n : Int} (h0 : 0 ≤ n) (h1 : n < s.pages) : there h n := ⟨h0, by rw [hi.over.pages]; exact h1⟩
theorem box_len (hk : Ok s) {n : Int} (hn : n ∈ numbers s) : (boxOf s n).length = s.text + 28 ∧ 0 ≤ n ∧ n < s.pages := by
  obtain ⟨f, hf⟩ := frOf_of hn
  obtain ⟨f1, f2⟩ := frOf_mem hf
  have := hk.len f f1
  have hp := hk.there f f1
  refine ⟨?_, by omega, by omega⟩
  unfold boxOf textOf
  rw [pgSealB_len, hf]
  simp [this]
theorem HI.write (hi : HI s h) (hk : Ok s) (h0 : s.err = 0) {n : Int} (hn : n ∈ numbers s) : HI (writeP s h n).2.1 (writeP s h n).2.2 := by
  obtain ⟨b1, b2, b3⟩ := box_len hk hn
  have ht := hi.there b2 b3
  have hnow := hi.now h0
  have ho' := (near_write s h n).over hi.over
  have hw : writeR h n (boxOf s n) = ((does h 1 n (boxOf s n) (wrote n (boxOf s n))).2, (does h 1 n (boxOf s n) (wrote n (boxOf s n))).1) := by
    unfold writeR
    rw [if_pos ht, if_pos (b1.trans hi.over.size.symm)]
  have htouch : touchOf h 1 n (boxOf s n) = ⟨1, n, h.size, headB (nextPl s n)⟩ := by
    unfold touchOf
    rw [if_pos rfl]
    unfold boxOf
    rw [headOf_box]
  have hent : Entry s.round s.pages h.size h.log (touchOf h 1 n (boxOf s n)) := by
    rw [htouch]
    refine ⟨rfl, b2, b3, .inr ⟨rfl, ?_⟩⟩
    rw [hnow]; rfl
  have hlw : ∀ l, l = h.log ++ [touchOf h 1 n (boxOf s n)] → wrs l = wrs h.log + 1 := by
    intro l hl
    rw [hl, htouch]
    unfold wrs
    rw [List.countP_append]
    simp
  have hz : (writeP s h n).2.2.size = h.size := (near_write s h n).size
  have hlg := does_log h 1 n (boxOf s n) (wrote n (boxOf s n)) fun _ => rfl
  by_cases he : (writeP s h n).1 = 0
  · obtain ⟨hwn, hwz, e⟩ := writeP_zero he
    rw [hw] at hwz
    dsimp only at hwz
    have hl : (writeP s h n).2.2.log = h.log ++ [touchOf h 1 n (boxOf s n)] := by
      rw [e, hw]
      rcases hlg with ⟨_, hx⟩|⟨hx, _⟩
      · rw [hwz] at hx; cases hx
      · exact hx
    refine ⟨?_, ?_, ?_, ?_, ho'⟩
    · rw [hz, hl, e]; exact hi.heads.snoc hent
    · intro _; rw [hlw _ hl, hnow, e]; rfl
    · left; rw [hlw _ hl, hnow, e]; rfl
    · intro m pl hm
      rw [hl]
      by_cases em : m = n
      · exact ⟨touchOf h 1 n (boxOf s n), by simp, by rw [htouch], by rw [htouch, em]⟩
      · rw [e] at hm
        have : (wroteP s n).last m = s.last m := by unfold wroteP setF; simp [em]
        dsimp only at hm
        rw [this] at hm
        obtain ⟨u, u1, u2⟩ := hi.last m pl hm
        exact ⟨u, List.mem_append_left _ u1, u2⟩
  · obtain ⟨_, e⟩ := writeP_errs s h n he
    have hlast : ∀ L : List HostS.Touch, (∀ u ∈ h.log, u ∈ L) → ∀ m pl, (writeP s h n).2.1.last m = some pl → ∃ u ∈ L, u.op = 1 ∧ u.page = m := by
      intro L hL m pl hm
      rw [e] at hm
      obtain ⟨u, u1, u2⟩ := hi.last m pl hm
      exact ⟨u, hL u u1, u2⟩
    have hwr : (writeP s h n).2.1.writes = s.writes := by rw [e]; rfl
    have herr : (writeP s h n).2.1.err = (writeP s h n).1 := by rw [e]; rfl
    have hro : (writeP s h n).2.1.round = s.round ∧ (writeP s h n).2.1.pages = s.pages := by rw [e]; exact ⟨rfl, rfl⟩
    have hcase : ((writeP s h n).2.2.log = h.log) ∨ ((writeP s h n).2.2.log = h.log ++ [touchOf h 1 n (boxOf s n)] ∧ (writeP s h n).1 = 110) := by
      by_cases hwn : s.writes = 4294967295
      · left
        unfold writeP
        rw [if_pos hwn]
      · have e3 : writeP s h n = if (writeR h n (boxOf s n)).1 = 0 then (0, wroteP s n, (writeR h n (boxOf s n)).2) else ((writeR h n (boxOf s n)).1, die s (writeR h n (boxOf s n)).1, (writeR h n (boxOf s n)).2) := by
          unfold writeP
          rw [if_neg hwn]
        rw [e3] at he ⊢
        rw [hw] at he ⊢
        dsimp only at he ⊢
        split at he
        · exact absurd rfl he
        · rename_i hne
          rw [if_neg hne]
          rcases hlg with ⟨hx, _⟩|⟨hx, hy⟩
          · exact .inl hx
          · rcases hy with hy|hy
            · exact absurd hy hne
            · exact .inr ⟨hx, hy⟩
    rcases hcase with hl|⟨hl, h110⟩
    · refine ⟨by rw [hz, hl, hro.1, hro.2]; exact hi.heads, fun hh => absurd (herr ▸ hh) he, .inl (by rw [hl, hwr]; exact hnow), by rw [hl]; exact hlast _ fun _ h => h, ho'⟩
    · refine ⟨by rw [hz, hl, hro.1, hro.2]; exact hi.heads.snoc hent, fun hh => absurd (herr ▸ hh) he, .inr ⟨by rw [hlw _ hl, hwr, hnow], by rw [herr]; exact h110⟩, by rw [hl]; exact hlast _ fun _ h => List.mem_append_left _ h, ho'⟩
theorem HI.held (hi : HI s h) (l : List Fr) (m : Nat) : HI { s with held := l, most := m } h := ⟨hi.heads, hi.now, hi.then_, hi.last, ⟨hi.over.pages, hi.over.size⟩⟩
theorem HI.room (hi : HI s h) (hk : Ok s) (h0 : s.err = 0) : HI (roomP s h).2.1 (roomP s h).2.2 := by
  unfold roomP
  split
  · exact hi
  · dsimp only
    split
    · rename_i hc
      have hn : (s.held.head?.map Fr.page).getD 0 ∈ numbers s := by
        by_cases hh : (s.held.head?.map Fr.page).getD 0 ∈ numbers s
        · exact hh
        · rw [changed_no hh] at hc; cases hc
      have hw := hi.write hk h0 hn
      split
      · exact hw.held _ _
      · exact hw
    · exact hi.held _ _
theorem readR_log (h : HS) (n : Int) (ht : HostS.there h n) : (readR h n).2.2.log = h.log ∨ (readR h n).2.2.log = h.log ++ [⟨0, n, h.size, List.replicate 12 0#8⟩] := by
  have e : (readR h n).2.2 = (does h 0 n [] id).1 := by
    unfold readR
    rw [if_pos ht]
    dsimp only
    split <;> rfl
  rw [e]
  rcases does_log h 0 n [] id fun _ => rfl with ⟨hx, _⟩|⟨hx, _⟩
  · exact .inl hx
  · exact .inr hx
theorem readR_err3 (h : HS) (n : Int) (ht : HostS.there h n) : (readR h n).2.1 = 0 ∨ (readR h n).2.1 = 110 := by
  have e : (readR h n).2.1 = (does h 0 n [] id).2 := by
    unfold readR
    rw [if_pos ht]
    dsimp only
    split
    · rename_i hz; exact hz.symm
    · rfl
  rw [e]
  rcases does_log h 0 n [] id fun _ => rfl with ⟨_, hx⟩|⟨_, hx⟩
  · exact .inr hx
  · exact hx
theorem HI.read (hi : HI s h) {n : Int} (h0 : 0 ≤ n) (h1 : n < s.pages) {pl : Plc} (hl : s.last n = some pl) : HI s (readR h n).2.2 := by
  have hs := readR_same h n
  have ho : Over s (readR h n).2.2 := ⟨hs.1.trans hi.over.pages, hs.2.trans hi.over.size⟩
  rcases readR_log h n (hi.there h0 h1) with e|e
  · exact ⟨by rw [e, hs.2]; exact hi.heads, by rw [e]; exact hi.now, by rw [e]; exact hi.then_, by rw [e]; exact hi.last, ho⟩
  · have hw : wrs (h.log ++ [⟨0, n, h.size, List.replicate 12 0#8⟩]) = wrs h.log := by unfold wrs; rw [List.countP_append]; simp
    refine ⟨?_, by rw [e, hw]; exact hi.now, by rw [e, hw]; exact hi.then_, ?_, ho⟩
    · rw [e, hs.2]
      exact hi.heads.snoc ⟨rfl, h0, h1, .inl ⟨rfl, rfl, hi.last n pl hl⟩⟩
    · intro m pl hm
      rw [e]
      obtain ⟨u, u1, u2⟩ := hi.last m pl hm
      exact ⟨u, List.mem_append_left _ u1, u2⟩
theorem HI.die (hi : HI s h) (h0 : s.err = 0) (e : Nat) : HI (die s e) h := by
  exact ⟨hi.heads, fun _ => hi.now h0, .inl (hi.now h0), hi.last, ⟨hi.over.pages, hi.over.size⟩⟩
theorem open_err (key : Bytes) (pl : Plc) (b : Bytes) : (pgOpenR key pl b).2 = 0 ∨ (pgOpenR key pl b).2 = 120 := by
  by_cases hh : pgOpens key pl b
  · left; rw [pgOpenR_yes _ _ _ hh]
  · right; rw [pgOpenR_not _ _ _ hh]
theorem HI.use (hi : HI s h) (f : Fr) : HI (useP s f) h := hi.held _ _
theorem HI.fetch (hi : HI s h) (h0 : s.err = 0) {n : Int} (hp : 0 ≤ n ∧ n < s.pages) : HI (fetchP s h n).2.1 (fetchP s h n).2.2 := by
  unfold fetchP
  split
  · rename_i pl hl
    have hr := hi.read hp.1 hp.2 hl
    dsimp only
    split
    · split
      · exact hr.use _
      · exact hr.die h0 _
    · exact hr.die h0 _
  · exact hi.use _
theorem HI.load (hi : HI s h) (hk : Ok s) (n : Int) : HI (loadP s h n).2.1 (loadP s h n).2.2 := by
  unfold loadP
  split
  · rename_i hr
    obtain ⟨h0, hp⟩ := right_zero hr
    split
    · exact hi.use _
    · have a := hi.room hk h0
      dsimp only
      split
      · rename_i hz
        exact a.fetch (room_err hk h0 hz) (by rw [(near_room s h).spages]; exact hp)
      · exact a
  · exact hi
theorem HI.save (hi : HI s h) (hk : Ok s) (n : Int) (t : Bytes) : HI (saveP s h n t).2.1 (saveP s h n t).2.2 := by
  unfold saveP
  split
  · rename_i hr
    obtain ⟨h0, hp⟩ := right_zero hr
    split
    · split
      · exact hi.use _
      · have a := hi.room hk h0
        dsimp only
        split
        · exact a.use _
        · exact a
    · exact hi
  · exact hi
theorem HI.flushL : ∀ (l : List Int) (s : PS) (h : HS), HI s h → Ok s → s.err = 0 → HI (flushL l s h).2.1 (flushL l s h).2.2
  | [], s, h, hi, _, _ => hi
  | n :: r, s, h, hi, hk, h0 => by
    unfold PagerS.flushL
    split
    · rename_i hc
      have hn : n ∈ numbers s := by
        by_cases hh : n ∈ numbers s
        · exact hh
        · rw [changed_no hh] at hc; cases hc
      have a := hi.write hk h0 hn
      dsimp only
      split
      · rename_i hz
        obtain ⟨_, _, e⟩ := writeP_zero hz
        exact HI.flushL r _ _ a (ok_write hk n) (by rw [e]; exact h0)
      · exact a
    · exact HI.flushL r s h hi hk h0
theorem HI.flush (hi : HI s h) (hk : Ok s) : HI (flushP s h).2.1 (flushP s h).2.2 := by
  unfold flushP
  split
  · rename_i h0; exact HI.flushL _ s h hi hk h0
  · exact hi
theorem hi_fresh {key : Bytes} {round : BitVec 64} {window : Nat} {pages : Int} {text : Nat} {h : HS} (hl : h.log = []) (ho : Over (freshP key round window pages text) h) : HI (freshP key round window pages text) h :=
  ⟨(by rw [hl]; intro i hi; simp at hi), fun _ => (by rw [hl]; rfl), .inl (by rw [hl]; rfl), fun n pl hh => (by cases hh), ho⟩
end
end Go.Sl.PagerS

/- pager: two pagers that are asked alike are seen alike, whatever stands on their pages. No program in sight. -/
set_option linter.unusedVariables false
set_option linter.unusedSimpArgs false
namespace Go.Sl.PagerS
open Go Go.Sl Go.Sl.HostS
attribute [local irreducible] pgSealB pgOpenR
structure HRel (h g : HS) : Prop where
  pages : h.pages = g.pages
  size : h.size = g.size
  ops : h.ops = g.ops
  log : h.log = g.log
  down : h.down = g.down
  coming : ∀ k, before (h.coming k) = before (g.coming k) ∧ behind (h.coming k) = behind (g.coming k)
abbrev pi (f : Fr) : Int × Nat := (f.page, f.is)
structure SRel (s t : PS) : Prop where
  held : s.held.map pi = t.held.map pi
  round : s.round = t.round
  window : s.window = t.window
  pages : s.pages = t.pages
  text : s.text = t.text
  most : s.most = t.most
  writes : s.writes = t.writes
  err : s.err = t.err
  last : s.last = t.last
section
variable {s t : PS} {h g : HS}
theorem SRel.len (r : SRel s t) : s.held.length = t.held.length := by
  have := congrArg List.length r.held
  rwa [List.length_map, List.length_map] at this
theorem SRel.numbers (r : SRel s t) : numbers s = numbers t := by
  have := congrArg (List.map Prod.fst) r.held
  rw [List.map_map, List.map_map] at this
  exact this
theorem find_pi (l : List Fr) (n : Int) : (l.find? fun f => f.page == n).map pi = (l.map pi).find? fun x => x.1 == n := by
  rw [List.find?_map]; rfl
theorem changed_pi (s : PS) (n : Int) : changedAt s n = ((((s.held.map pi).find? fun x => x.1 == n).map Prod.snd).getD 0 == 2) := by
  unfold changedAt frOf
  rw [← find_pi, Option.map_map]
  rfl
theorem SRel.changed (r : SRel s t) (n : Int) : changedAt s n = changedAt t n := by rw [changed_pi, changed_pi, r.held]
theorem SRel.right (r : SRel s t) (n : Int) : rightP s n = rightP t n := by unfold rightP; rw [r.err, r.pages]
theorem SRel.frOf (r : SRel s t) (n : Int) : (frOf s n).map pi = (frOf t n).map pi := by unfold PagerS.frOf; rw [find_pi, find_pi, r.held]
theorem SRel.next (r : SRel s t) (n : Int) : nextPl s n = nextPl t n := by
  unfold nextPl verOf
  rw [r.round, r.writes, r.last]
theorem cleaned_pi (l : List Fr) (n : Int) : (cleaned l n).map pi = (l.map pi).map fun x => if x.1 = n then (x.1, 1) else x := by
  unfold cleaned
  rw [List.map_map, List.map_map]
  apply List.map_congr_left
  intro f _
  simp only [Function.comp]
  split
  · rename_i e; rfl
  · rfl
theorem SRel.wrote (r : SRel s t) (n : Int) : SRel (wroteP s n) (wroteP t n) :=
  ⟨by show (cleaned s.held n).map pi = (cleaned t.held n).map pi; rw [cleaned_pi, cleaned_pi, r.held], r.round, r.window, r.pages, r.text, r.most, by show s.writes + 1 = t.writes + 1; rw [r.writes], r.err,
    by show setF s.last n (some (nextPl s n)) = setF t.last n (some (nextPl t n)); rw [r.next, r.last]⟩
theorem SRel.die (r : SRel s t) (e : Nat) : SRel (die s e) (die t e) := ⟨r.held, r.round, r.window, r.pages, r.text, r.most, r.writes, rfl, r.last⟩
theorem filter_pi (l : List Fr) (n : Int) : (l.filter fun f => !(f.page == n)).map pi = (l.map pi).filter fun x => !(x.1 == n) := by
  rw [List.filter_map]; rfl
theorem SRel.use (r : SRel s t) {f f' : Fr} (e : pi f = pi f') : SRel (useP s f) (useP t f') := by
  have e1 : f.page = f'.page := congrArg Prod.fst e
  have hh : ((s.held.filter fun g => !(g.page == f.page)) ++ [f]).map pi = ((t.held.filter fun g => !(g.page == f'.page)) ++ [f']).map pi := by
    rw [List.map_append, List.map_append, filter_pi, filter_pi, r.held, e1]
    simp only [List.map_cons, List.map_nil, e]
  have hl := congrArg List.length hh
  rw [List.length_map, List.length_map] at hl
  exact ⟨hh, r.round, r.window, r.pages, r.text, by show max s.most _ = max t.most _; rw [r.most, hl], r.writes, r.err, r.last⟩
theorem SRel.tail (r : SRel s t) : SRel { s with held := s.held.tail } { t with held := t.held.tail } :=
  ⟨by show s.held.tail.map pi = t.held.tail.map pi; rw [List.map_tail, List.map_tail, r.held], r.round, r.window, r.pages, r.text, r.most, r.writes, r.err, r.last⟩
theorem does_rel (r : HRel h g) (op n : Int) {b b' : Bytes} (hb : headOf b = headOf b') (act act' : HS → HS)
    (ha : ∀ x y : HS, HRel x y → HRel (act x) (act' y)) : (does h op n b act).2 = (does g op n b' act').2 ∧ HRel (does h op n b act).1 (does g op n b' act').1 := by
  obtain ⟨c1, c2⟩ := r.coming h.ops
  have ht : touchOf h op n b = touchOf g op n b' := by unfold touchOf; rw [r.size, hb]
  have htk : ∀ k, before ((taken h).coming k) = before ((taken g).coming k) ∧ behind ((taken h).coming k) = behind ((taken g).coming k) := by
    intro k
    show before (setF h.coming h.ops [] k) = before (setF g.coming g.ops [] k) ∧ behind (setF h.coming h.ops [] k) = behind (setF g.coming g.ops [] k)
    rw [r.ops]
    unfold setF
    split
    · exact ⟨rfl, rfl⟩
    · exact r.coming k
  have hlg : HRel (logged h op n b) (logged g op n b') := ⟨r.pages, r.size, by show h.ops + 1 = g.ops + 1; rw [r.ops], by show h.log ++ [touchOf h op n b] = g.log ++ [touchOf g op n b']; rw [r.log, ht], r.down, htk⟩
  have ha2 := ha _ _ hlg
  unfold does
  rw [← r.down]
  split
  · exact ⟨rfl, r⟩
  · dsimp only
    rw [← r.ops, c1]
    split
    · exact ⟨rfl, ⟨r.pages, r.size, by show h.ops + 1 = g.ops + 1; rw [r.ops], r.log, rfl, htk⟩⟩
    · rw [c2]
      split
      · exact ⟨rfl, ⟨ha2.pages, ha2.size, ha2.ops, ha2.log, rfl, ha2.coming⟩⟩
      · exact ⟨rfl, ha2⟩
theorem write_rel (r : SRel s t) (q : HRel h g) (ks : Ok s) (kt : Ok t) (hos : Over s h) (hot : Over t g) {n : Int} (hn : n ∈ numbers s) : (writeP s h n).1 = (writeP t g n).1 ∧ SRel (writeP s h n).2.1 (writeP t g n).2.1 ∧ HRel (writeP s h n).2.2 (writeP t g n).2.2 := by
  obtain ⟨a1, a2, a3⟩ := box_len ks hn
  obtain ⟨b1, b2, b3⟩ := box_len kt (r.numbers ▸ hn)
  have hts : there h n := ⟨a2, by rw [hos.pages]; exact a3⟩
  have htt : there g n := ⟨b2, by rw [hot.pages]; exact b3⟩
  have hb : headOf (boxOf s n) = headOf (boxOf t n) := by
    unfold boxOf
    rw [headOf_box, headOf_box, r.next]
  obtain ⟨d1, d2⟩ := does_rel q 1 n hb (wrote n (boxOf s n)) (wrote n (boxOf t n)) fun x y hh => ⟨hh.pages, hh.size, hh.ops, hh.log, hh.down, hh.coming⟩
  have w1 : writeR h n (boxOf s n) = ((does h 1 n (boxOf s n) (wrote n (boxOf s n))).2, (does h 1 n (boxOf s n) (wrote n (boxOf s n))).1) := by
    unfold writeR
    rw [if_pos hts, if_pos (a1.trans hos.size.symm)]
  have w2 : writeR g n (boxOf t n) = ((does g 1 n (boxOf t n) (wrote n (boxOf t n))).2, (does g 1 n (boxOf t n) (wrote n (boxOf t n))).1) := by
    unfold writeR
    rw [if_pos htt, if_pos (b1.trans hot.size.symm)]
  unfold writeP
  rw [w1, w2, r.writes]
  split
  · exact ⟨rfl, r.die 130, q⟩
  · dsimp only
    rw [d1]
    split
    · exact ⟨rfl, r.wrote n, d2⟩
    · exact ⟨rfl, r.die _, d2⟩
theorem room_rel (r : SRel s t) (q : HRel h g) (ks : Ok s) (kt : Ok t) (hos : Over s h) (hot : Over t g) : (roomP s h).1 = (roomP t g).1 ∧ SRel (roomP s h).2.1 (roomP t g).2.1 ∧ HRel (roomP s h).2.2 (roomP t g).2.2 := by
  have hd : (s.held.head?.map Fr.page).getD 0 = (t.held.head?.map Fr.page).getD 0 := by
    have := congrArg List.head? r.held
    rw [List.head?_map, List.head?_map] at this
    have := congrArg (Option.map Prod.fst) this
    rw [Option.map_map, Option.map_map] at this
    exact congrArg (fun x => x.getD 0) this
  unfold roomP
  rw [r.len, r.window]
  split
  · exact ⟨rfl, r, q⟩
  · dsimp only
    rw [hd, r.changed]
    split
    · rename_i hc
      have hn : (t.held.head?.map Fr.page).getD 0 ∈ numbers s := by
        by_cases hh : (t.held.head?.map Fr.page).getD 0 ∈ numbers s
        · exact hh
        · rw [← r.changed, changed_no hh] at hc; cases hc
      obtain ⟨w1, w2, w3⟩ := write_rel r q ks kt hos hot hn
      rw [w1]
      split
      · exact ⟨rfl, SRel.tail w2, w3⟩
      · rename_i hne; exact ⟨w1, w2, w3⟩
    · exact ⟨rfl, ⟨(SRel.tail r).held, r.round, rfl, r.pages, r.text, r.most, r.writes, r.err, r.last⟩, q⟩
theorem read_rel (q : HRel h g) {n : Int} (hts : there h n) : (readR h n).2.1 = (readR g n).2.1 ∧ HRel (readR h n).2.2 (readR g n).2.2 := by
  have htt : there g n := ⟨hts.1, q.pages ▸ hts.2⟩
  obtain ⟨d1, d2⟩ := does_rel q 0 n (b := []) (b' := []) rfl id id fun x y hh => hh
  unfold readR
  rw [if_pos hts, if_pos htt]
  dsimp only
  rw [d1]
  split
  · exact ⟨rfl, d2⟩
  · exact ⟨rfl, d2⟩
/-- What comes of two loads: the same, or the one did not open. -/
def Alike (e0 : Nat) (x : (Bytes × Nat) × PH) (y : (Bytes × Nat) × PH) : Prop :=
  (x.1.2 = y.1.2 ∧ SRel x.2.1 y.2.1 ∧ HRel x.2.2 y.2.2) ∨ (e0 = 0 ∧ x.1.2 = 120 ∧ x.2.1.err = 120 ∧ y.1.2 = 0 ∧ x.2.2.log = y.2.2.log)
end
section
variable {s t : PS} {h g : HS} {b : Int → Bytes}
/-- Over a host whose reads are not spoilt nothing fails to open. -/
theorem Sound.fetch_err (hs : Sound s h b) (h0 : s.err = 0) {n : Int} (hn : n ∉ numbers s) (hp : 0 ≤ n ∧ n < s.pages) : (fetchP s h n).1.2 = 0 ∨ (fetchP s h n).1.2 = 110 := by
  obtain ⟨l1, l2⟩ := (hs.right h0 n).2 (changed_no hn)
  have hbl := hs.len n
  have ht1 := hs.ok.t1
  have ht : there h n := ⟨hp.1, by rw [hs.over.pages]; exact hp.2⟩
  unfold fetchP
  cases hl : s.last n with
  | none => exact .inl rfl
  | some pl =>
    dsimp only
    by_cases hz : (readR h n).2.1 = 0
    · rw [if_pos hz, readR_zero hs.mild hz, l2 pl hl, pg_back _ _ _ (by omega)]
      exact .inl rfl
    · rw [if_neg hz]
      rcases readR_err3 h n ht with e|e
      · exact absurd e hz
      · exact .inr e
theorem fetch_rel (r : SRel s t) (q : HRel h g) (hst : Sound t g b) (hos : Over s h) (h0 : t.err = 0) {n : Int} (hn : n ∉ numbers t) (hp : 0 ≤ n ∧ n < t.pages) : Alike 0 (fetchP s h n) (fetchP t g n) := by
  have hts : there h n := ⟨hp.1, by rw [hos.pages, r.pages]; exact hp.2⟩
  obtain ⟨d1, d2⟩ := read_rel q hts
  have he := hst.fetch_err h0 hn hp
  unfold fetchP at he ⊢
  rw [r.last]
  cases hl : t.last n with
  | none =>
    dsimp only
    exact .inl ⟨rfl, r.use rfl, q⟩
  | some pl =>
    rw [hl] at he
    dsimp only at he ⊢
    rw [d1]
    by_cases hz : (readR g n).2.1 = 0
    · rw [if_pos hz, if_pos hz]
      rw [if_pos hz] at he
      have h2 : (pgOpenR t.key pl (readR g n).1).2 = 0 := by
        rcases open_err t.key pl (readR g n).1 with e|e
        · exact e
        · rw [if_neg (by rw [e]; omega)] at he
          dsimp only at he
          rcases he with he|he <;> omega
      rw [if_pos h2]
      by_cases h1 : (pgOpenR s.key pl (readR h n).1).2 = 0
      · rw [if_pos h1]
        exact .inl ⟨rfl, r.use rfl, d2⟩
      · rw [if_neg h1]
        have h120 : (pgOpenR s.key pl (readR h n).1).2 = 120 := (open_err _ _ _).resolve_left h1
        exact .inr ⟨rfl, h120, h120, rfl, d2.log⟩
    · rw [if_neg hz, if_neg hz]
      exact .inl ⟨rfl, r.die _, d2⟩
theorem load_rel (r : SRel s t) (q : HRel h g) (ks : Ok s) (hst : Sound t g b) (hos : Over s h) (n : Int) : Alike s.err (loadP s h n) (loadP t g n) := by
  unfold loadP
  rw [r.right]
  by_cases hr : rightP t n = 0
  · rw [if_pos hr, if_pos hr]
    obtain ⟨h0, hp⟩ := right_zero hr
    have hfr := r.frOf n
    cases hf : frOf t n with
    | some f' =>
      rw [hf] at hfr
      cases hf2 : frOf s n with
      | none => rw [hf2] at hfr; cases hfr
      | some f =>
        rw [hf2] at hfr
        exact .inl ⟨rfl, r.use (Option.some.inj hfr), q⟩
    | none =>
      rw [hf] at hfr
      cases hf2 : frOf s n with
      | some f => rw [hf2] at hfr; cases hfr
      | none =>
        dsimp only
        obtain ⟨w1, w2, w3⟩ := room_rel r q ks hst.ok hos hst.over
        rw [w1]
        obtain ⟨q1, q2, q3⟩ := hst.room h0
        obtain ⟨v1, v2, v3, v4, v5⟩ := roomP_leaves (h := g) hst.ok
        by_cases hz : (roomP t g).1 = 0
        · rw [if_pos hz, if_pos hz]
          have := fetch_rel w2 w3 q1 ((near_room s h).over hos) (q2 hz) (v1 n (frOf_none hf)) (by rw [v3]; exact hp)
          rcases this with hh|⟨_, hh⟩
          · exact .inl hh
          · exact .inr ⟨r.err.trans h0, hh⟩
        · rw [if_neg hz, if_neg hz]
          exact .inl ⟨rfl, w2, w3⟩
  · rw [if_neg hr, if_neg hr]
    exact .inl ⟨rfl, r, q⟩
theorem save_rel (r : SRel s t) (q : HRel h g) (ks : Ok s) (kt : Ok t) (hos : Over s h) (hot : Over t g) (n : Int) {x y : Bytes} (hxy : x.length = y.length) : (saveP s h n x).1 = (saveP t g n y).1 ∧ SRel (saveP s h n x).2.1 (saveP t g n y).2.1 ∧ HRel (saveP s h n x).2.2 (saveP t g n y).2.2 := by
  unfold saveP
  rw [r.right, hxy, r.text]
  by_cases hr : rightP t n = 0
  · rw [if_pos hr, if_pos hr]
    by_cases hl : y.length = t.text
    · rw [if_pos hl, if_pos hl]
      have hfr := r.frOf n
      cases hf : frOf t n with
      | some f' =>
        rw [hf] at hfr
        cases hf2 : frOf s n with
        | none => rw [hf2] at hfr; cases hfr
        | some f => exact ⟨rfl, r.use rfl, q⟩
      | none =>
        rw [hf] at hfr
        cases hf2 : frOf s n with
        | some f => rw [hf2] at hfr; cases hfr
        | none =>
          dsimp only
          obtain ⟨w1, w2, w3⟩ := room_rel r q ks kt hos hot
          rw [w1]
          split
          · exact ⟨rfl, w2.use rfl, w3⟩
          · exact ⟨w1, w2, w3⟩
    · rw [if_neg hl, if_neg hl]
      exact ⟨rfl, r, q⟩
  · rw [if_neg hr, if_neg hr]
    exact ⟨rfl, r, q⟩
theorem flushL_rel : ∀ (l : List Int) (s t : PS) (h g : HS), SRel s t → HRel h g → Ok s → Ok t → Over s h → Over t g → (flushL l s h).1 = (flushL l t g).1 ∧ SRel (flushL l s h).2.1 (flushL l t g).2.1 ∧ HRel (flushL l s h).2.2 (flushL l t g).2.2
  | [], s, t, h, g, r, q, _, _, _, _ => ⟨rfl, r, q⟩
  | n :: l, s, t, h, g, r, q, ks, kt, hos, hot => by
    unfold flushL
    rw [r.changed]
    split
    · rename_i hc
      have hn : n ∈ numbers s := by
        by_cases hh : n ∈ numbers s
        · exact hh
        · rw [← r.changed, changed_no hh] at hc; cases hc
      obtain ⟨w1, w2, w3⟩ := write_rel r q ks kt hos hot hn
      dsimp only
      rw [w1]
      split
      · exact flushL_rel l _ _ _ _ w2 w3 (ok_write ks n) (ok_write kt n) ((near_write s h n).over hos) ((near_write t g n).over hot)
      · exact ⟨w1, w2, w3⟩
    · exact flushL_rel l s t h g r q ks kt hos hot
theorem flush_rel (r : SRel s t) (q : HRel h g) (ks : Ok s) (kt : Ok t) (hos : Over s h) (hot : Over t g) : (flushP s h).1 = (flushP t g).1 ∧ SRel (flushP s h).2.1 (flushP t g).2.1 ∧ HRel (flushP s h).2.2 (flushP t g).2.2 := by
  unfold flushP
  rw [r.err, r.numbers]
  split
  · exact flushL_rel _ s t h g r q ks kt hos hot
  · exact ⟨rfl, r, q⟩
end
end Go.Sl.PagerS

/- trystlaw13.Life opened. -/
set_option linter.unusedVariables false
set_option linter.unusedSimpArgs false
set_option maxHeartbeats 2000000
namespace Go.Sl
open Go Go.Proofs Go.ChangeShapes Go.WideShapes Go.ChangeAt Go.RowKit
structure FaultV where
  at_ : Int
  kind_ : Int
  page_ : Int
  byte_ : Int
  by_ : BitVec 8
  back_ : Int
def FaultV.cells (x : FaultV) : List Value := [.int .i64 x.at_] ++ ([.int .i64 x.kind_] ++ ([.int .i64 x.page_] ++ ([.int .i64 x.byte_] ++ ([u8b x.by_] ++ ([.int .i64 x.back_])))))
structure FaultVOk (w : World) (x : FaultV) : Prop where
  triv : True
  at_ : -9223372036854775808 ≤ x.at_ ∧ x.at_ ≤ 9223372036854775807
  kind_ : -9223372036854775808 ≤ x.kind_ ∧ x.kind_ ≤ 9223372036854775807
  page_ : -9223372036854775808 ≤ x.page_ ∧ x.page_ ≤ 9223372036854775807
  byte_ : -9223372036854775808 ≤ x.byte_ ∧ x.byte_ ≤ 9223372036854775807
  back_ : -9223372036854775808 ≤ x.back_ ∧ x.back_ ≤ 9223372036854775807
theorem FaultV.len {w : World} {x : FaultV} (h : FaultVOk w x) : x.cells.length = 6 := by
  simp [FaultV.cells]
section
variable {H : Type} {enc : TypeId × Value → H} {w : World} {base : Nat} {spare : Nat → Bool} {held : Bool}
theorem open_FaultV {n : Nat} {cs : List Value} {y : DataW H × List MemPlace} (h : DataW.trod enc Tryz.prog w base spare held n 70 cs = some y) (hs : Small Tryz.prog 70 y.1) : ∃ x : FaultV, cs = x.cells ∧ FaultVOk w x := by
  obtain ⟨xs, m, _, hx, hl, hn, hf⟩ := DataW.trod_struct Tryz.underlying70 h
  rw [show Tryz.prog.cellsOf 70 = 6 by kernel_rfl] at hl
  have hn : xs.length = 6 := hn
  have g : ∀ i (hi : i < xs.length), xs[i]? = some xs[i] := fun i hi => List.getElem?_eq_getElem hi
  rw [hx] at hs
  have e0 : DataW.trod enc Tryz.prog w base spare held m 3 ((cs.drop 0).take (Tryz.prog.cellsOf 3)) = some (xs[0]'(by omega)) := (hf 0 _ rfl).trans (g 0 (by omega))
  rw [show Tryz.prog.cellsOf 3 = 1 by kernel_rfl] at e0
  obtain ⟨n0, c0, _, wf0⟩ := DataW.trod_int Tryz.underlying3 e0
  have e1 : DataW.trod enc Tryz.prog w base spare held m 3 ((cs.drop 1).take (Tryz.prog.cellsOf 3)) = some (xs[1]'(by omega)) := (hf 1 _ rfl).trans (g 1 (by omega))
  rw [show Tryz.prog.cellsOf 3 = 1 by kernel_rfl] at e1
  obtain ⟨n1, c1, _, wf1⟩ := DataW.trod_int Tryz.underlying3 e1
  have e2 : DataW.trod enc Tryz.prog w base spare held m 3 ((cs.drop 2).take (Tryz.prog.cellsOf 3)) = some (xs[2]'(by omega)) := (hf 2 _ rfl).trans (g 2 (by omega))
  rw [show Tryz.prog.cellsOf 3 = 1 by kernel_rfl] at e2
  obtain ⟨n2, c2, _, wf2⟩ := DataW.trod_int Tryz.underlying3 e2
  have e3 : DataW.trod enc Tryz.prog w base spare held m 3 ((cs.drop 3).take (Tryz.prog.cellsOf 3)) = some (xs[3]'(by omega)) := (hf 3 _ rfl).trans (g 3 (by omega))
  rw [show Tryz.prog.cellsOf 3 = 1 by kernel_rfl] at e3
  obtain ⟨n3, c3, _, wf3⟩ := DataW.trod_int Tryz.underlying3 e3
  have e4 : DataW.trod enc Tryz.prog w base spare held m 5 ((cs.drop 4).take (Tryz.prog.cellsOf 5)) = some (xs[4]'(by omega)) := (hf 4 _ rfl).trans (g 4 (by omega))
  rw [show Tryz.prog.cellsOf 5 = 1 by kernel_rfl] at e4
  obtain ⟨n4, c4, _, wf4⟩ := DataW.trod_int Tryz.underlying5 e4
  obtain ⟨b4, hb4⟩ := u8_of wf4
  rw [hb4] at c4
  have e5 : DataW.trod enc Tryz.prog w base spare held m 3 ((cs.drop 5).take (Tryz.prog.cellsOf 3)) = some (xs[5]'(by omega)) := (hf 5 _ rfl).trans (g 5 (by omega))
  rw [show Tryz.prog.cellsOf 3 = 1 by kernel_rfl] at e5
  obtain ⟨n5, c5, _, wf5⟩ := DataW.trod_int Tryz.underlying3 e5
  refine ⟨⟨n0, n1, n2, n3, b4, n5⟩, ?_, ⟨trivial, i64_of wf0, i64_of wf1, i64_of wf2, i64_of wf3, i64_of wf5⟩⟩
  have d0 : cs.drop 0 = (cs.drop 0).take 1 ++ cs.drop 1 := by
    have := (List.take_append_drop 1 (cs.drop 0)).symm
    rwa [List.drop_drop] at this
  have d1 : cs.drop 1 = (cs.drop 1).take 1 ++ cs.drop 2 := by
    have := (List.take_append_drop 1 (cs.drop 1)).symm
    rwa [List.drop_drop] at this
  have d2 : cs.drop 2 = (cs.drop 2).take 1 ++ cs.drop 3 := by
    have := (List.take_append_drop 1 (cs.drop 2)).symm
    rwa [List.drop_drop] at this
  have d3 : cs.drop 3 = (cs.drop 3).take 1 ++ cs.drop 4 := by
    have := (List.take_append_drop 1 (cs.drop 3)).symm
    rwa [List.drop_drop] at this
  have d4 : cs.drop 4 = (cs.drop 4).take 1 ++ cs.drop 5 := by
    have := (List.take_append_drop 1 (cs.drop 4)).symm
    rwa [List.drop_drop] at this
  have d5 : cs.drop 5 = (cs.drop 5).take 1 := by rw [List.take_of_length_le (by simp; omega)]
  show cs = _ ++ (_ ++ (_ ++ (_ ++ (_ ++ (_)))))
  have dz : cs = cs.drop 0 := rfl
  rw [dz, d0, d1, d2, d3, d4, d5, c0, c1, c2, c3, c4, c5] <;> rfl
end
/-- A slice of them that comes in. -/
structure InFaultV (W : World) (v : Value) (l : List FaultV) : Prop where
  sl : SlW W 6 v l.length (l.flatMap FaultV.cells)
  sh : ∃ a c, v = .slice a l.length c ∧ l.length ≤ c ∧ c ≤ 9223372036854775807
  el : ∀ x ∈ l, FaultVOk W x
  len : l.length * 48 ≤ 140737488351232
abbrev FaultVS (w : World) := {x : FaultV // FaultVOk w x}
theorem InFaultV.sub {w : World} {v : Value} {l : List FaultV} (h : InFaultV w v l) : ∃ l2 : List (FaultVS w), l2.map (·.1) = l ∧ SlW w 6 v l2.length (l2.flatMap fun x => x.1.cells) := by
  have e : (l.attach.map fun x => (⟨x.1, h.el x.1 x.2⟩ : FaultVS w)).map (·.1) = l := by rw [List.map_map]; exact List.attach_map_subtype_val l
  refine ⟨_, e, ?_⟩
  have h2 := h.sl
  rw [← e, List.flatMap_map] at h2
  rw [List.length_map] at h2
  exact h2
section
variable {H : Type} {enc : TypeId × Value → H} {w : World} {base : Nat} {spare : Nat → Bool} {held : Bool}
theorem opens_FaultV {n : Nat} {cs : List Value} {y : DataW H × List MemPlace} (h : DataW.trod enc Tryz.prog w base spare held n 55 cs = some y) (hs : Small Tryz.prog 55 y.1) : ∃ (v : Value) (l : List FaultV), cs = [v] ∧ InFaultV w v l := by
  obtain ⟨v, l, h1, h2, h3, h4⟩ := open_sls (encd := fun x : FaultVS w => x.1.cells) (good := fun _ => True) Tryz.underlying55 (by kernel_rfl) (by decide) (by kernel_rfl : Tryz.prog.bytesOf 70 = 48) (fun x => FaultV.len x.2) (fun n cs y hy hsm => by
    obtain ⟨x, hx, ok⟩ := open_FaultV hy hsm
    exact ⟨⟨x, ok⟩, hx, trivial⟩) h hs
  obtain ⟨a, len, cap, h5, h6, h7⟩ := slice_shape Tryz.underlying55 h
  rw [h1] at h5
  simp only [List.cons.injEq, and_true] at h5
  obtain ⟨a', k', hv⟩ := h2.len
  rw [h5] at hv
  simp only [Value.slice.injEq] at hv
  obtain ⟨rfl, rfl, rfl⟩ := hv
  have e : (l.map (·.1)).flatMap FaultV.cells = l.flatMap fun x => x.1.cells := by rw [List.flatMap_map]
  refine ⟨v, l.map (·.1), h1, ⟨?_, ?_, ?_, ?_⟩⟩
  · rw [e, List.length_map]; exact h2
  · rw [List.length_map]; exact ⟨_, _, h5, h6, h7⟩
  · intro x hx
    obtain ⟨z, _, rfl⟩ := List.mem_map.1 hx
    exact z.2
  · rw [List.length_map]; exact h4
end
structure OpV where
  kind_ : Int
  page_ : Int
  text_V : Value
  text_ : List Byte
def OpV.cells (x : OpV) : List Value := [.int .i64 x.kind_] ++ ([.int .i64 x.page_] ++ ([x.text_V]))
structure OpVOk (w : World) (x : OpV) : Prop where
  triv : True
  kind_ : -9223372036854775808 ≤ x.kind_ ∧ x.kind_ ≤ 9223372036854775807
  page_ : -9223372036854775808 ≤ x.page_ ∧ x.page_ ≤ 9223372036854775807
  text_ : InB w x.text_V x.text_
theorem OpV.len {w : World} {x : OpV} (h : OpVOk w x) : x.cells.length = 3 := by
  simp [OpV.cells]
section
variable {H : Type} {enc : TypeId × Value → H} {w : World} {base : Nat} {spare : Nat → Bool} {held : Bool}
theorem open_OpV {n : Nat} {cs : List Value} {y : DataW H × List MemPlace} (h : DataW.trod enc Tryz.prog w base spare held n 75 cs = some y) (hs : Small Tryz.prog 75 y.1) : ∃ x : OpV, cs = x.cells ∧ OpVOk w x := by
  obtain ⟨xs, m, _, hx, hl, hn, hf⟩ := DataW.trod_struct Tryz.underlying75 h
  rw [show Tryz.prog.cellsOf 75 = 3 by kernel_rfl] at hl
  have hn : xs.length = 3 := hn
  have g : ∀ i (hi : i < xs.length), xs[i]? = some xs[i] := fun i hi => List.getElem?_eq_getElem hi
  rw [hx] at hs
  have e0 : DataW.trod enc Tryz.prog w base spare held m 3 ((cs.drop 0).take (Tryz.prog.cellsOf 3)) = some (xs[0]'(by omega)) := (hf 0 _ rfl).trans (g 0 (by omega))
  rw [show Tryz.prog.cellsOf 3 = 1 by kernel_rfl] at e0
  obtain ⟨n0, c0, _, wf0⟩ := DataW.trod_int Tryz.underlying3 e0
  have e1 : DataW.trod enc Tryz.prog w base spare held m 3 ((cs.drop 1).take (Tryz.prog.cellsOf 3)) = some (xs[1]'(by omega)) := (hf 1 _ rfl).trans (g 1 (by omega))
  rw [show Tryz.prog.cellsOf 3 = 1 by kernel_rfl] at e1
  obtain ⟨n1, c1, _, wf1⟩ := DataW.trod_int Tryz.underlying3 e1
  have e2 : DataW.trod enc Tryz.prog w base spare held m 33 ((cs.drop 2).take (Tryz.prog.cellsOf 33)) = some (xs[2]'(by omega)) := (hf 2 _ rfl).trans (g 2 (by omega))
  rw [show Tryz.prog.cellsOf 33 = 1 by kernel_rfl] at e2
  have hs2 := Small.part (j := 2) Tryz.underlying75 hs rfl (by rw [List.getElem?_map, g 2 (by omega)]; rfl)
  obtain ⟨v2, l2, c2, ok2⟩ := open_bs Tryz.underlying33 Tryz.underlying5 (by kernel_rfl) (by kernel_rfl) e2 hs2
  refine ⟨⟨n0, n1, v2, l2⟩, ?_, ⟨trivial, i64_of wf0, i64_of wf1, ok2⟩⟩
  have d0 : cs.drop 0 = (cs.drop 0).take 1 ++ cs.drop 1 := by
    have := (List.take_append_drop 1 (cs.drop 0)).symm
    rwa [List.drop_drop] at this
  have d1 : cs.drop 1 = (cs.drop 1).take 1 ++ cs.drop 2 := by
    have := (List.take_append_drop 1 (cs.drop 1)).symm
    rwa [List.drop_drop] at this
  have d2 : cs.drop 2 = (cs.drop 2).take 1 := by rw [List.take_of_length_le (by simp; omega)]
  show cs = _ ++ (_ ++ (_))
  have dz : cs = cs.drop 0 := rfl
  rw [dz, d0, d1, d2, c0, c1, c2] <;> rfl
end
/-- A slice of them that comes in. -/
structure InOpV (W : World) (v : Value) (l : List OpV) : Prop where
  sl : SlW W 3 v l.length (l.flatMap OpV.cells)
  sh : ∃ a c, v = .slice a l.length c ∧ l.length ≤ c ∧ c ≤ 9223372036854775807
  el : ∀ x ∈ l, OpVOk W x
  len : l.length * 40 ≤ 140737488351232
abbrev OpVS (w : World) := {x : OpV // OpVOk w x}
theorem InOpV.sub {w : World} {v : Value} {l : List OpV} (h : InOpV w v l) : ∃ l2 : List (OpVS w), l2.map (·.1) = l ∧ SlW w 3 v l2.length (l2.flatMap fun x => x.1.cells) := by
  have e : (l.attach.map fun x => (⟨x.1, h.el x.1 x.2⟩ : OpVS w)).map (·.1) = l := by rw [List.map_map]; exact List.attach_map_subtype_val l
  refine ⟨_, e, ?_⟩
  have h2 := h.sl
  rw [← e, List.flatMap_map] at h2
  rw [List.length_map] at h2
  exact h2
section
variable {H : Type} {enc : TypeId × Value → H} {w : World} {base : Nat} {spare : Nat → Bool} {held : Bool}
theorem opens_OpV {n : Nat} {cs : List Value} {y : DataW H × List MemPlace} (h : DataW.trod enc Tryz.prog w base spare held n 56 cs = some y) (hs : Small Tryz.prog 56 y.1) : ∃ (v : Value) (l : List OpV), cs = [v] ∧ InOpV w v l := by
  obtain ⟨v, l, h1, h2, h3, h4⟩ := open_sls (encd := fun x : OpVS w => x.1.cells) (good := fun _ => True) Tryz.underlying56 (by kernel_rfl) (by decide) (by kernel_rfl : Tryz.prog.bytesOf 75 = 40) (fun x => OpV.len x.2) (fun n cs y hy hsm => by
    obtain ⟨x, hx, ok⟩ := open_OpV hy hsm
    exact ⟨⟨x, ok⟩, hx, trivial⟩) h hs
  obtain ⟨a, len, cap, h5, h6, h7⟩ := slice_shape Tryz.underlying56 h
  rw [h1] at h5
  simp only [List.cons.injEq, and_true] at h5
  obtain ⟨a', k', hv⟩ := h2.len
  rw [h5] at hv
  simp only [Value.slice.injEq] at hv
  obtain ⟨rfl, rfl, rfl⟩ := hv
  have e : (l.map (·.1)).flatMap OpV.cells = l.flatMap fun x => x.1.cells := by rw [List.flatMap_map]
  refine ⟨v, l.map (·.1), h1, ⟨?_, ?_, ?_, ?_⟩⟩
  · rw [e, List.length_map]; exact h2
  · rw [List.length_map]; exact ⟨_, _, h5, h6, h7⟩
  · intro x hx
    obtain ⟨z, _, rfl⟩ := List.mem_map.1 hx
    exact z.2
  · rw [List.length_map]; exact h4
end
structure PLifeV where
  pages_ : Int
  size_ : Int
  window_ : Int
  key_ : List Byte
  round_ : BitVec 64
  faults_V : Value
  faults_ : List FaultV
  script_V : Value
  script_ : List OpV
def PLifeV.cells (x : PLifeV) : List Value := [.int .i64 x.pages_] ++ ([.int .i64 x.size_] ++ ([.int .i64 x.window_] ++ (x.key_.map u8b ++ ([u64b x.round_] ++ ([x.faults_V] ++ ([x.script_V]))))))
structure PLifeVOk (w : World) (x : PLifeV) : Prop where
  triv : True
  pages_ : -9223372036854775808 ≤ x.pages_ ∧ x.pages_ ≤ 9223372036854775807
  size_ : -9223372036854775808 ≤ x.size_ ∧ x.size_ ≤ 9223372036854775807
  window_ : -9223372036854775808 ≤ x.window_ ∧ x.window_ ≤ 9223372036854775807
  key_ : x.key_.length = 32
  faults_ : InFaultV w x.faults_V x.faults_
  script_ : InOpV w x.script_V x.script_
theorem PLifeV.len {w : World} {x : PLifeV} (h : PLifeVOk w x) : x.cells.length = 38 := by
  simp [PLifeV.cells, h.key_]
section
variable {H : Type} {enc : TypeId × Value → H} {w : World} {base : Nat} {spare : Nat → Bool} {held : Bool}
theorem open_PLifeV {n : Nat} {cs : List Value} {y : DataW H × List MemPlace} (h : DataW.trod enc Tryz.prog w base spare held n 58 cs = some y) (hs : Small Tryz.prog 58 y.1) : ∃ x : PLifeV, cs = x.cells ∧ PLifeVOk w x := by
  obtain ⟨xs, m, _, hx, hl, hn, hf⟩ := DataW.trod_struct Tryz.underlying58 h
  rw [show Tryz.prog.cellsOf 58 = 38 by kernel_rfl] at hl
  have hn : xs.length = 7 := hn
  have g : ∀ i (hi : i < xs.length), xs[i]? = some xs[i] := fun i hi => List.getElem?_eq_getElem hi
  rw [hx] at hs
  have e0 : DataW.trod enc Tryz.prog w base spare held m 3 ((cs.drop 0).take (Tryz.prog.cellsOf 3)) = some (xs[0]'(by omega)) := (hf 0 _ rfl).trans (g 0 (by omega))
  rw [show Tryz.prog.cellsOf 3 = 1 by kernel_rfl] at e0
  obtain ⟨n0, c0, _, wf0⟩ := DataW.trod_int Tryz.underlying3 e0
  have e1 : DataW.trod enc Tryz.prog w base spare held m 3 ((cs.drop 1).take (Tryz.prog.cellsOf 3)) = some (xs[1]'(by omega)) := (hf 1 _ rfl).trans (g 1 (by omega))
  rw [show Tryz.prog.cellsOf 3 = 1 by kernel_rfl] at e1
  obtain ⟨n1, c1, _, wf1⟩ := DataW.trod_int Tryz.underlying3 e1
  have e2 : DataW.trod enc Tryz.prog w base spare held m 3 ((cs.drop 2).take (Tryz.prog.cellsOf 3)) = some (xs[2]'(by omega)) := (hf 2 _ rfl).trans (g 2 (by omega))
  rw [show Tryz.prog.cellsOf 3 = 1 by kernel_rfl] at e2
  obtain ⟨n2, c2, _, wf2⟩ := DataW.trod_int Tryz.underlying3 e2
  have e3 : DataW.trod enc Tryz.prog w base spare held m 23 ((cs.drop 3).take (Tryz.prog.cellsOf 23)) = some (xs[3]'(by omega)) := (hf 3 _ rfl).trans (g 3 (by omega))
  rw [show Tryz.prog.cellsOf 23 = 32 by kernel_rfl] at e3
  obtain ⟨l3, c3, ok3⟩ := open_ba e3
  have e4 : DataW.trod enc Tryz.prog w base spare held m 24 ((cs.drop 35).take (Tryz.prog.cellsOf 24)) = some (xs[4]'(by omega)) := (hf 4 _ rfl).trans (g 4 (by omega))
  rw [show Tryz.prog.cellsOf 24 = 1 by kernel_rfl] at e4
  obtain ⟨n4, c4, _, wf4⟩ := DataW.trod_int Tryz.underlying24 e4
  obtain ⟨b4, hb4⟩ := u64_of wf4
  rw [hb4] at c4
  have e5 : DataW.trod enc Tryz.prog w base spare held m 55 ((cs.drop 36).take (Tryz.prog.cellsOf 55)) = some (xs[5]'(by omega)) := (hf 5 _ rfl).trans (g 5 (by omega))
  rw [show Tryz.prog.cellsOf 55 = 1 by kernel_rfl] at e5
  have hs5 := Small.part (j := 5) Tryz.underlying58 hs rfl (by rw [List.getElem?_map, g 5 (by omega)]; rfl)
  obtain ⟨v5, l5, c5, ok5⟩ := opens_FaultV e5 hs5
  have e6 : DataW.trod enc Tryz.prog w base spare held m 56 ((cs.drop 37).take (Tryz.prog.cellsOf 56)) = some (xs[6]'(by omega)) := (hf 6 _ rfl).trans (g 6 (by omega))
  rw [show Tryz.prog.cellsOf 56 = 1 by kernel_rfl] at e6
  have hs6 := Small.part (j := 6) Tryz.underlying58 hs rfl (by rw [List.getElem?_map, g 6 (by omega)]; rfl)
  obtain ⟨v6, l6, c6, ok6⟩ := opens_OpV e6 hs6
  refine ⟨⟨n0, n1, n2, l3, b4, v5, l5, v6, l6⟩, ?_, ⟨trivial, i64_of wf0, i64_of wf1, i64_of wf2, ok3, ok5, ok6⟩⟩
  have d0 : cs.drop 0 = (cs.drop 0).take 1 ++ cs.drop 1 := by
    have := (List.take_append_drop 1 (cs.drop 0)).symm
    rwa [List.drop_drop] at this
  have d1 : cs.drop 1 = (cs.drop 1).take 1 ++ cs.drop 2 := by
    have := (List.take_append_drop 1 (cs.drop 1)).symm
    rwa [List.drop_drop] at this
  have d2 : cs.drop 2 = (cs.drop 2).take 1 ++ cs.drop 3 := by
    have := (List.take_append_drop 1 (cs.drop 2)).symm
    rwa [List.drop_drop] at this
  have d3 : cs.drop 3 = (cs.drop 3).take 32 ++ cs.drop 35 := by
    have := (List.take_append_drop 32 (cs.drop 3)).symm
    rwa [List.drop_drop] at this
  have d4 : cs.drop 35 = (cs.drop 35).take 1 ++ cs.drop 36 := by
    have := (List.take_append_drop 1 (cs.drop 35)).symm
    rwa [List.drop_drop] at this
  have d5 : cs.drop 36 = (cs.drop 36).take 1 ++ cs.drop 37 := by
    have := (List.take_append_drop 1 (cs.drop 36)).symm
    rwa [List.drop_drop] at this
  have d6 : cs.drop 37 = (cs.drop 37).take 1 := by rw [List.take_of_length_le (by simp; omega)]
  show cs = _ ++ (_ ++ (_ ++ (_ ++ (_ ++ (_ ++ (_))))))
  have dz : cs = cs.drop 0 := rfl
  rw [dz, d0, d1, d2, d3, d4, d5, d6, c0, c1, c2, c3, c4, c5, c6] <;> rfl
end
end Go.Sl

/- trystlaw13: a life's cells; made, right, walked; lists of ints compared. -/
set_option maxHeartbeats 4000000
set_option maxRecDepth 10000
set_option linter.unusedVariables false
set_option linter.unusedSimpArgs false
namespace Go.Sl
open Go Go.Proofs
attribute [local irreducible] cl pt own old pur ex all den denOps denS xOps xC cX CX xthen xblk xcut xloop xgo xng retX resX Calls PV Rd Con
attribute [local irreducible] hostA pgA
open PagerS (PS Over)
theorem pg_ok {p ph : Nat} {s : PS} {M M' : List Asrt} {F : Asrt} {w0 w : World} (hm : Has M (pgA p ph s) M') (H : St w0 w (F :: M)) : PagerS.Ok s := by
  have H := H.pick (.there hm)
  unfold pgA at H
  obtain ⟨t, H⟩ := H.ex_get
  exact (St.pur_get (St.all_get H)).ok
def pF (x : FaultV) : HostS.Fault := ⟨x.at_, x.kind_, x.page_, x.byte_, x.by_, x.back_⟩
def flts (x : PLifeV) : List HostS.Fault := x.faults_.map pF
/-- A life's cells. -/
def pcs (x : PLifeV) : Array Value := x.cells.toArray
section
variable {x : PLifeV}
theorem pcs_pages : (pcs x)[0]? = some (.int .i64 x.pages_) := by unfold pcs; simp [PLifeV.cells]
theorem pcs_size : (pcs x)[1]? = some (.int .i64 x.size_) := by unfold pcs; simp [PLifeV.cells]
theorem pcs_window : (pcs x)[2]? = some (.int .i64 x.window_) := by unfold pcs; simp [PLifeV.cells]
theorem pcs_key (hk : x.key_.length = 32) : (pcs x).extract 3 (3 + 32) = (x.key_.map u8b).toArray := by
  unfold pcs
  apply Array.ext'
  simp [PLifeV.cells, List.extract_eq_take_drop, List.drop_append, List.take_append, List.take_of_length_le, hk]
theorem pcs_round (hk : x.key_.length = 32) : (pcs x)[35]? = some (u64b x.round_) := by unfold pcs; simp [PLifeV.cells, List.getElem?_append, List.getElem?_cons, hk]
theorem pcs_faults (hk : x.key_.length = 32) : (pcs x)[36]? = some x.faults_V := by unfold pcs; simp [PLifeV.cells, List.getElem?_append, List.getElem?_cons, hk]
theorem pcs_script (hk : x.key_.length = 32) : (pcs x)[37]? = some x.script_V := by unfold pcs; simp [PLifeV.cells, List.getElem?_append, List.getElem?_cons, hk]
theorem pcs_len (hk : x.key_.length = 32) : (pcs x).size = 38 := by unfold pcs; simp [PLifeV.cells, hk]
end
structure OpsIn (L : List Asrt) (sv : Value) (st : List OpV) : Prop where
  rd : Rd L 3 sv st.length (st.flatMap OpV.cells)
  el : ∀ o ∈ st, Bs L o.text_V o.text_ ∧ o.text_.length ≤ 140737488351232
  len : st.length * 40 ≤ 140737488351232
theorem opv_len (o : OpV) : o.cells.length = 3 := rfl
structure PIn (L : List Asrt) (x : PLifeV) : Prop where
  key : x.key_.length = 32
  flt : FaultsIn L x.faults_V (flts x)
  ops : OpsIn L x.script_V x.script_
/-- The host, and the pager, of a life. -/
def hs0 (x : PLifeV) : HostS.HS := HostS.fresh x.pages_ x.size_.toNat (flts x)
def ps0 (x : PLifeV) : PS := PagerS.freshP x.key_ x.round_ x.window_.toNat x.pages_ (x.size_.toNat - 28)
/-- May there be a pager? -/
def Made (x : PLifeV) : Prop := HostS.mayBe x.pages_ x.size_ (flts x) ∧ newR (hs0 x) x.window_ = 0
theorem made_facts {x : PLifeV} (hk : x.key_.length = 32) (h : Made x) : PagerS.Ok (ps0 x) ∧ Over (ps0 x) (hs0 x) ∧ PagerS.pot (ps0 x) (hs0 x) ≤ 1 ∧ (2 ≤ x.window_ ∧ x.window_ ≤ 16) ∧ (29 ≤ x.size_ ∧ x.size_ ≤ 4124) ∧ 0 ≤ x.pages_ ∧ x.pages_ ≤ 65536 := by
  obtain ⟨⟨h1, h2⟩, h3⟩ := h
  have hsz : (hs0 x).size = x.size_.toNat := rfl
  unfold newR at h3
  split at h3
  · cases h3
  · split at h3
    · cases h3
    · refine ⟨PagerS.ok_fresh hk (by omega) (by omega) (by omega), ⟨rfl, ?_⟩, Nat.le_refl _, by omega, by omega, by omega, by omega⟩
      show x.size_.toNat = x.size_.toNat - 28 + 28
      omega
section
variable {L : List Asrt} {x : PLifeV}
theorem made_ok (hi : PIn L x) (hm : Made x) : Con Tryz.prog 24 [.agg (pcs x)] L (fun r M => ∃ ph p, r = .tuple #[hp ph, hp p, .bool true] ∧ M = pgA p ph (ps0 x) :: hostA ph (hs0 x) :: L) := by
  refine Con.get (fun w0 w F H => hi.flt.rd.len H) ?_
  rintro ⟨fa, fc, hfv⟩
  have hk := hi.key
  have hfl := hi.flt.len
  have hnw := new_ok (L := L) x.pages_ x.size_ (by omega) hi.flt.ok hi.flt.rd hm.1
  have hpn := fun ph => pnew_ok (ph := ph) (h := hs0 x) hk x.round_ hm.2
  have hlen := pcs_len hk
  rw [hfv] at hnw
  have hflt := pcs_faults hk
  rw [hfv] at hflt
  refine fn_x Tryz.func24 rfl rfl rfl Tryz.mixed (by kernel_rfl) ?_
  intro w0
  refine Y1 ?_
  refine Zh5 rfl ?_; intro b1
  refine Y6 ?_
  refine Zhp rfl qH (pcs_pages) ?_
  refine Y1 ?_
  refine Zhp rfl qH (pcs_size) ?_
  refine Y1 ?_
  refine Zhp rfl qH (hflt) ?_
  refine Zh8 rfl (by kernel_rfl) (hnw) rfl qT ?_
  rintro _ _ ⟨ph, rfl, rfl⟩
  refine Y10 ?_
  refine Zhn 19 rfl (decide_eq_false (fun hh => hh rfl)) ?_
  refine V6 ?_
  refine Zgp (Imp.arr (N := hostA ph (hs0 x) :: cl b1 (pcs x) 58 :: L) qV) ?_
  refine Y2 ?_
  refine Zhg (Zol rfl) ?_
  refine Y1 ?_
  refine Zhq (n := 32) rfl qH qZ (pcs_key hk) ?_
  refine Y1 ?_
  refine Zhp rfl qH (pcs_round hk) ?_
  refine Y1 ?_
  refine Zhp rfl qH (pcs_window) ?_
  refine Zh8 rfl (by kernel_rfl) (hpn ph) rfl qT ?_
  rintro _ _ ⟨p, rfl, rfl⟩
  refine Y12 ?_
  refine Zhm 39 rfl (decide_eq_true (rfl)) ?_
  refine Y3 ?_
  refine Zhm 42 rfl (rfl) ?_
  refine V5 ?_
  refine rx3 (Zhb rfl (Zhb rfl (Zha rfl (Zg7)))) ?_
  exact ⟨_, ⟨ph, p, rfl, rfl⟩, qI⟩
theorem made_no (hi : PIn L x) (hm : ¬ Made x) : Con Tryz.prog 24 [.agg (pcs x)] L (fun r M => ∃ hv, r = .tuple #[.pointer hv, .pointer none, .bool false] ∧ M = L) := by
  refine Con.get (fun w0 w F H => hi.flt.rd.len H) ?_
  rintro ⟨fa, fc, hfv⟩
  have hk := hi.key
  have hfl := hi.flt.len
  have hlen := pcs_len hk
  have hflt := pcs_faults hk
  rw [hfv] at hflt
  by_cases hmb : HostS.mayBe x.pages_ x.size_ (flts x)
  · have hnw := new_ok (L := L) x.pages_ x.size_ (by omega) hi.flt.ok hi.flt.rd hmb
    have hz : newR (hs0 x) x.window_ ≠ 0 := fun hh => hm ⟨hmb, hh⟩
    have hpn := fun ph => pnew_no (ph := ph) (h := hs0 x) hk x.round_ hz
    rw [hfv] at hnw
    refine fn_x Tryz.func24 rfl rfl rfl Tryz.mixed (by kernel_rfl) ?_
    intro w0
    refine Y1 ?_
    refine Zh5 rfl ?_; intro b1
    refine Y6 ?_
    refine Zhp rfl qH (pcs_pages) ?_
    refine Y1 ?_
    refine Zhp rfl qH (pcs_size) ?_
    refine Y1 ?_
    refine Zhp rfl qH (hflt) ?_
    refine Zh8 rfl (by kernel_rfl) (hnw) rfl qT ?_
    rintro _ _ ⟨ph, rfl, rfl⟩
    refine Y10 ?_
    refine Zhn 19 rfl (decide_eq_false (fun hh => hh rfl)) ?_
    refine V6 ?_
    refine Zgp (Imp.arr (N := hostA ph (hs0 x) :: cl b1 (pcs x) 58 :: L) qV) ?_
    refine Y2 ?_
    refine Zhg (Zol rfl) ?_
    refine Y1 ?_
    refine Zhq (n := 32) rfl qH qZ (pcs_key hk) ?_
    refine Y1 ?_
    refine Zhp rfl qH (pcs_round hk) ?_
    refine Y1 ?_
    refine Zhp rfl qH (pcs_window) ?_
    refine Zh8 rfl (by kernel_rfl) (hpn ph) rfl qT ?_
    rintro _ _ ⟨rfl, rfl⟩
    refine Y12 ?_
    refine Zhn 39 rfl (decide_eq_false (hz)) ?_
    refine V8 ?_
    refine rx3 (Zhb rfl (Zhb rfl (Zha rfl (Zg7)))) ?_
    exact ⟨_, ⟨_, rfl, rfl⟩, qI⟩
  · have hnw := new_no (L := L) x.pages_ x.size_ (by omega) hi.flt.ok hi.flt.rd hmb
    rw [hfv] at hnw
    refine fn_x Tryz.func24 rfl rfl rfl Tryz.mixed (by kernel_rfl) ?_
    intro w0
    refine Y1 ?_
    refine Zh5 rfl ?_; intro b1
    refine Y6 ?_
    refine Zhp rfl qH (pcs_pages) ?_
    refine Y1 ?_
    refine Zhp rfl qH (pcs_size) ?_
    refine Y1 ?_
    refine Zhp rfl qH (hflt) ?_
    refine Zh8 rfl (by kernel_rfl) (hnw) rfl qT ?_
    rintro _ _ ⟨rfl, rfl⟩
    refine Y10 ?_
    refine Zhm 19 rfl (decide_eq_true ((show (2 : Nat) ≠ 0 by omega))) ?_
    refine V11 ?_
    refine rx3 (Zhb rfl (Zhb rfl (Zha rfl (Zg7)))) ?_
    exact ⟨_, ⟨none, rfl, rfl⟩, qI⟩
end
end Go.Sl

/- trystlaw13: play, walked; two logs compared. -/
set_option maxHeartbeats 4000000
set_option maxRecDepth 10000
set_option linter.unusedVariables false
set_option linter.unusedSimpArgs false
namespace Go.Sl
open Go Go.Proofs
attribute [local irreducible] cl pt own old pur ex all den denOps denS xOps xC cX CX xthen xblk xcut xloop xgo xng retX resX Calls PV Rd Con
attribute [local irreducible] hostA pgA PagerS.loadP PagerS.saveP PagerS.flushP pcs
attribute [local irreducible] ocells
open PagerS (PS Over)
theorem sameLog13_x {L : List Asrt} {va vb : Value} {a b : List OTouch} (ha : Rd L 15 va a.length (a.flatMap ocells)) (hb : Rd L 15 vb b.length (b.flatMap ocells)) (hal : a.length ≤ 9223372036854775807) (hbl : b.length ≤ 9223372036854775807) :
    Con Tryz.prog 30 [va, vb] L (fun r M => r = .bool (decide (a.map (·.1) = b.map (·.1))) ∧ M = L) := by
  refine Con.get (fun w0 w F H => ha.len H) ?_
  rintro ⟨aa, ac, rfl⟩
  refine Con.get (fun w0 w F H => hb.len H) ?_
  rintro ⟨ba, bc, rfl⟩
  by_cases hl : a.length = b.length
  · refine fn_x Tryz.func30 rfl rfl rfl Tryz.mixed (by kernel_rfl) ?_
    intro w0
    refine Y9 ?_
    refine Zhn 10 rfl (decide_eq_false ((fun h => h hl))) ?_
    refine V5 ?_
    refine Zgo [(4, 5), (11, 25)] (by kernel_rfl) (fun i : Nat => i ≤ a.length ∧ (a.take i).map (·.1) = (b.take i).map (·.1)) (fun _ => L) (fun i => [(5, nvv i)]) (fun i => a.length - i) 0 ⟨Nat.zero_le _, rfl⟩ qI ⟨rfl, trivial⟩ ?_
    rintro i u ⟨hi, he⟩
    refine V6 ?_
    refine Zgg rfl (fun hB => ?_) (fun hB => ?_)
    · have hib : i < b.length := by omega
      refine Zgt (fun F w H => ha.someAt (by omega) H) ?_
      rintro ⟨a1, a2, rfl⟩
      refine Zgt (fun F w H => hb.someAt (by omega) H) ?_
      rintro ⟨b1, b2, rfl⟩
      have e1 : (a.take (i + 1)).map (·.1) = (a.take i).map (·.1) ++ [a[i].1] := by rw [List.take_succ_eq_append_getElem hB, List.map_append]; rfl
      have e2 : (b.take (i + 1)).map (·.1) = (b.take i).map (·.1) ++ [b[i].1] := by rw [List.take_succ_eq_append_getElem hib, List.map_append]; rfl
      by_cases heq : a[i].1 = b[i].1
      · refine Ct.o ?_
        refine Zij (_) [7] (.q 0 (.q 1 (.q 2 (.q 4 (.q 5 (.q 6 (.r 3 (.r 7 (.q 8 .nil))))))))) (by kernel_rfl) (by kernel_rfl) (Imp.refl _) ?_
        refine W6 ?_
        refine Zfj rfl rfl (ha.agN ocells_len (by omega) hB) ?_
        refine Zfj rfl rfl (hb.agN ocells_len (by omega) hib) ?_
        refine Zim rfl (pv_neq_touch a[i] b[i] rfl rfl) ?_
        refine Zi6 25 rfl (decide_eq_false ((fun h => h heq))) ?_
        refine Zik ?_
        refine V6 ?_
        exact Zgl (i + 1) qO ⟨by omega, by rw [e1, e2, he, heq]⟩ qI ⟨rfl, trivial⟩
      · refine Ct.o ?_
        refine Zij (_) [7] (.q 0 (.q 1 (.q 2 (.q 4 (.q 5 (.q 6 (.r 3 (.r 7 (.q 8 .nil))))))))) (by kernel_rfl) (by kernel_rfl) (Imp.refl _) ?_
        refine W6 ?_
        refine Zfj rfl rfl (ha.agN ocells_len (by omega) hB) ?_
        refine Zfj rfl rfl (hb.agN ocells_len (by omega) hib) ?_
        refine Zim rfl (pv_neq_touch a[i] b[i] rfl rfl) ?_
        refine Zi5 25 rfl (decide_eq_true (heq)) ?_
        refine Zik ?_
        refine V4 ?_
        refine rx1 (Zha rfl (Zg7)) ?_
        refine ⟨_, ⟨?_, rfl⟩, qI⟩
        rw [decide_eq_false]
        intro h
        have h2 : (a.map (·.1))[i]? = (b.map (·.1))[i]? := by rw [h]
        rw [List.getElem?_map, List.getElem?_map, List.getElem?_eq_getElem hB, List.getElem?_eq_getElem hib] at h2
        exact heq (Option.some.inj h2)
    · have hie : i = a.length := by omega
      subst hie
      rw [List.take_length, List.take_of_length_le (by omega)] at he
      refine V3 ?_
      refine rx1 (Zha rfl (Zg7)) ?_
      exact ⟨_, ⟨by rw [decide_eq_true he], rfl⟩, qI⟩
  · refine fn_x Tryz.func30 rfl rfl rfl Tryz.mixed (by kernel_rfl) ?_
    intro w0
    refine Y9 ?_
    refine Zhm 10 rfl (decide_eq_true (hl)) ?_
    refine V5 ?_
    refine rx1 (Zha rfl (Zg7)) ?_
    refine ⟨_, ⟨?_, rfl⟩, qI⟩
    rw [decide_eq_false]
    intro h
    have := congrArg List.length h
    rw [List.length_map, List.length_map] at this
    exact hl this
/-- The bytes that a play saves. -/
def pbyte (by_ : Byte) (i : Nat) (x : List Byte) (k : Nat) : Byte := if k < x.length then (by_ + BitVec.ofInt 8 ((i * k : Nat) : Int)) ^^^ x.getD k 0#8 else by_ + BitVec.ofInt 8 ((i * k : Nat) : Int)
def ptext (by_ : Byte) (i : Nat) (x : List Byte) (n m : Nat) : List Byte := (List.range n).map fun k => if k < m then pbyte by_ i x k else 0#8
theorem ptext_len (by_ : Byte) (i : Nat) (x : List Byte) (n m : Nat) : (ptext by_ i x n m).length = n := by simp [ptext]
theorem ptext_zero (by_ : Byte) (i : Nat) (x : List Byte) (n : Nat) : ptext by_ i x n 0 = List.replicate n 0#8 := by
  apply List.ext_getElem (by simp [ptext]); intro j h1 h2; simp [ptext]
theorem ptext_set (by_ : Byte) (i : Nat) (x : List Byte) (n m : Nat) (h : m < n) : (ptext by_ i x n m).set m (pbyte by_ i x m) = ptext by_ i x n (m + 1) := by
  apply List.ext_getElem (by simp [ptext])
  intro j h1 h2
  rw [List.getElem_set]
  simp only [ptext, List.getElem_map, List.getElem_range]
  by_cases e : m = j
  · subst e; rw [if_pos rfl, if_pos (Nat.lt_succ_self _)]
  · rw [if_neg e]
    by_cases e2 : j < m
    · rw [if_pos e2, if_pos (by omega)]
    · rw [if_neg e2, if_neg (by omega)]
def stepP (by_ : Byte) (i : Nat) (o : OpV) (s : PS) (h : HostS.HS) : List Int × PS × HostS.HS :=
  if o.kind_ = 0 then ([((PagerS.loadP s h o.page_).1.2 : Int)], (PagerS.loadP s h o.page_).2)
  else if o.kind_ = 1 then ([((PagerS.saveP s h o.page_ (ptext by_ i o.text_ s.text s.text)).1 : Int)], (PagerS.saveP s h o.page_ (ptext by_ i o.text_ s.text s.text)).2)
  else if o.kind_ = 2 then ([((PagerS.flushP s h).1 : Int)], (PagerS.flushP s h).2)
  else ([], s, h)
def playP (by_ : Byte) : List OpV → Nat → PS → HostS.HS → List Int × PS × HostS.HS
  | [], _, s, h => ([], s, h)
  | o :: r, i, s, h => ((stepP by_ i o s h).1 ++ (playP by_ r (i + 1) (stepP by_ i o s h).2.1 (stepP by_ i o s h).2.2).1, (playP by_ r (i + 1) (stepP by_ i o s h).2.1 (stepP by_ i o s h).2.2).2)
theorem playP_at (by_ : Byte) (l : List OpV) {i : Nat} (hi : i < l.length) (s : PS) (h : HostS.HS) : playP by_ (l.drop i) i s h = ((stepP by_ i l[i] s h).1 ++ (playP by_ (l.drop (i + 1)) (i + 1) (stepP by_ i l[i] s h).2.1 (stepP by_ i l[i] s h).2.2).1, (playP by_ (l.drop (i + 1)) (i + 1) (stepP by_ i l[i] s h).2.1 (stepP by_ i l[i] s h).2.2).2) := by
  rw [List.drop_eq_getElem_cons hi]; rfl
/-- What goes on behind a step. -/
theorem step_goes (by_ : Byte) (i : Nat) (o : OpV) {s : PS} {h : HostS.HS} (hk : PagerS.Ok s) (ho : Over s h) : Over (stepP by_ i o s h).2.1 (stepP by_ i o s h).2.2 ∧ PagerS.pot (stepP by_ i o s h).2.1 (stepP by_ i o s h).2.2 ≤ PagerS.pot s h + 1 ∧ (stepP by_ i o s h).1.length ≤ 1 := by
  unfold stepP
  split
  · exact ⟨(PagerS.near_load s h _).over ho, PagerS.pot_load hk _, Nat.le_refl _⟩
  · split
    · exact ⟨(PagerS.near_save s h _ _).over ho, PagerS.pot_save hk _ _, Nat.le_refl _⟩
    · split
      · exact ⟨(PagerS.near_flush hk h).over ho, Nat.le_succ_of_le (PagerS.pot_flush hk), Nat.le_refl _⟩
      · exact ⟨ho, Nat.le_succ _, Nat.zero_le _⟩
theorem step_hi (by_ : Byte) (i : Nat) (o : OpV) {s : PS} {h : HostS.HS} (hk : PagerS.Ok s) (hi : PagerS.HI s h) : PagerS.HI (stepP by_ i o s h).2.1 (stepP by_ i o s h).2.2 := by
  unfold stepP
  split
  · exact hi.load hk _
  · split
    · exact hi.save hk _ _
    · split
      · exact hi.flush hk
      · exact hi
theorem play_len (by_ : Byte) : ∀ (l : List OpV) (i : Nat) (s : PS) (h : HostS.HS), (playP by_ l i s h).1.length ≤ l.length
  | [], _, _, _ => Nat.le_refl _
  | o :: r, i, s, h => by
    show ((stepP by_ i o s h).1 ++ (playP by_ r (i + 1) (stepP by_ i o s h).2.1 (stepP by_ i o s h).2.2).1).length ≤ _
    have := play_len by_ r (i + 1) (stepP by_ i o s h).2.1 (stepP by_ i o s h).2.2
    have h1 : (stepP by_ i o s h).1.length ≤ 1 := by
      unfold stepP
      split
      · exact Nat.le_refl _
      · split
        · exact Nat.le_refl _
        · split
          · exact Nat.le_refl _
          · exact Nat.zero_le _
    rw [List.length_append, List.length_cons]
    omega
section
variable {L : List Asrt} {x : PLifeV} {p ph : Nat} {s : PS} {h : HostS.HS}
theorem zv_snoc (zs : List Int) (z : Int) : zv (zs ++ [z]) = zv zs ++ [.int .i64 z] := by simp
theorem play_x (hi : PIn L x) (hk : PagerS.Ok s) (hov : Over s h) (hpot : PagerS.pot s h ≤ 1) (hhi : PagerS.HI s h) (by_ : Byte) :
    Con Tryz.prog 26 [hp p, .agg (pcs x), u8b by_] (pgA p ph s :: hostA ph h :: L) (fun r M => ∃ a c, r = .slice a (playP by_ x.script_ 0 s h).1.length c ∧ M = ownI a c (playP by_ x.script_ 0 s h).1 :: pgA p ph (playP by_ x.script_ 0 s h).2.1 :: hostA ph (playP by_ x.script_ 0 s h).2.2 :: L ∧ PagerS.HI (playP by_ x.script_ 0 s h).2.1 (playP by_ x.script_ 0 s h).2.2 ∧ PagerS.pot (playP by_ x.script_ 0 s h).2.1 (playP by_ x.script_ 0 s h).2.2 ≤ x.script_.length + 1) := by
  refine Con.get (fun w0 w F H => hi.ops.rd.len (H.enx (Imp.tail.trans Imp.tail))) ?_
  rintro ⟨sa, sc, hsv⟩
  have hkey := hi.key
  have hlen := pcs_len hkey
  have hscr := pcs_script hkey
  rw [hsv] at hscr
  have hops := hi.ops
  rw [hsv] at hops
  have hml := hops.len
  refine fn_x Tryz.func26 rfl rfl rfl Tryz.mixed (by kernel_rfl) ?_
  intro w0
  refine Y1 ?_
  refine Zh5 rfl ?_; intro b4
  refine V8 ?_
  refine Zgp (Imp.own_nil (E := 3) (size := 1)) ?_
  refine Zgo [(7, 93)] (by kernel_rfl) (fun z : Nat × (List Int × Option Addr × Nat) × PS × HostS.HS => z.1 ≤ x.script_.length ∧ (z.2.1.1 ++ (playP by_ (x.script_.drop z.1) z.1 z.2.2.1 z.2.2.2).1, (playP by_ (x.script_.drop z.1) z.1 z.2.2.1 z.2.2.2).2) = playP by_ x.script_ 0 s h ∧ Over z.2.2.1 z.2.2.2 ∧ PagerS.pot z.2.2.1 z.2.2.2 ≤ z.1 + 1 ∧ z.2.1.1.length ≤ z.1 ∧ PagerS.HI z.2.2.1 z.2.2.2)
    (fun z => ownI z.2.1.2.1 z.2.1.2.2 z.2.1.1 :: pgA p ph z.2.2.1 :: hostA ph z.2.2.2 :: cl b4 (pcs x) 58 :: L) (fun z => [(8, nvv z.1), (7, .slice z.2.1.2.1 z.2.1.1.length z.2.1.2.2)]) (fun z => x.script_.length - z.1) (0, ([], none, 0), s, h) ⟨Nat.zero_le _, rfl, hov, hpot, Nat.le_refl _, hhi⟩ qI ⟨rfl, rfl, trivial⟩ ?_
  rintro ⟨i, ⟨outs, oa, oc⟩, s1, h1⟩ u ⟨hil, hpl, hov1, hpot1, hol, hhi1⟩
  dsimp only at hil hpl hov1 hpot1 hol hhi1 ⊢
  refine Y3 ?_
  refine Zhp rfl qH (hscr) ?_
  refine V3 ?_
  refine Zgg rfl (fun hB => ?_) (fun hB => ?_)
  · refine Zgt (fun F w H => (hops.rd.imp (Imp.arr (M := _) qV)).someAt (by omega) H) ?_
    rintro ⟨b, o, rfl⟩
    obtain ⟨hel, hell⟩ := hops.el _ (List.getElem_mem hB)
    refine Zgt (fun F w H => (hel.imp (Imp.arr (M := _) qV)).sh _ _ _ H) ?_
    rintro ⟨ta, tc, htv, htc, htcm⟩
    have hone : x.script_[i].cells.toArray.toList.all oneC = true := by simp [OpV.cells, oneC, htv]
    refine Zgt (fun F w H => pg_ok qH H) ?_
    intro hk1
    have hops1 := Nat.le_trans (PagerS.pot_ops s1 h1) hpot1
    obtain ⟨g1, g2, g3⟩ := step_goes by_ i x.script_[i] hk1 hov1
    have g4 := step_hi by_ i x.script_[i] hk1 hhi1
    rw [playP_at by_ x.script_ hB] at hpl
    dsimp only at hpl
    refine Y2 ?_
    refine Zhp rfl qH (hscr) ?_
    refine Y2 ?_
    refine Zfg rfl ((hops.rd.imp qI).agN opv_len (by omega) hB) ?_
    refine Zhz (cs := #[.int .i64 0, .int .i64 0, .slice none 0 0]) rfl ?_; intro b9
    first|refine Zhy rfl rfl qR qZ (by first|rfl|exact oneM_u8 _|exact oneL_u8 _|assumption|(simp [oneC]; done)) qZ ?_|refine Zhx rfl rfl qR qZ (by first|rfl|exact oneM_u8 _|exact oneL_u8 _|assumption|(simp [oneC]; done)) qZ rfl ?_
    refine V1 ?_
    by_cases k0 : x.script_[i].kind_ = 0
    · have e : stepP by_ i x.script_[i] s1 h1 = ([((PagerS.loadP s1 h1 x.script_[i].page_).1.2 : Int)], (PagerS.loadP s1 h1 x.script_[i].page_).2) := by unfold stepP; rw [if_pos k0]
      rw [e] at hpl g1 g2 g3 g4
      refine Y5 ?_
      refine Zhg (Zbr (b := 0) rfl rfl) ?_
      refine Zhm 29 rfl (decide_eq_true (k0)) ?_
      refine Y7 ?_
      refine Zh8 rfl (by kernel_rfl) (load_x hov1 (by omega) x.script_[i].page_) rfl qT ?_
      rintro _ _ ⟨la, lc, rfl, rfl⟩
      refine Y10 ?_
      refine Zh7 (cs := #[.int .i64 _]) (by omega) (by omega) rfl ?_; intro b39
      refine Zia rfl rfl qH (Rd.cl (xs := [.int .i64 ((PagerS.loadP s1 h1 x.script_[i].page_).1.2 : Int)]) qH rfl qZ rfl) (by first|rfl|exact oneM_u8 _|exact oneL_u8 _|assumption|(simp [oneC]; done)) (by omega) qS ?_; intro a3 c3
      refine V2 ?_
      rw [← zv_snoc, show outs.length + 1 = (outs ++ [((PagerS.loadP s1 h1 x.script_[i].page_).1.2 : Int)]).length by simp]
      refine V5 ?_
      exact Zgl (i + 1, (outs ++ [((PagerS.loadP s1 h1 x.script_[i].page_).1.2 : Int)], a3, c3), (PagerS.loadP s1 h1 x.script_[i].page_).2.1, (PagerS.loadP s1 h1 x.script_[i].page_).2.2) qO ⟨by dsimp only; omega, by dsimp only; rw [← hpl, List.append_assoc], g1, by dsimp only at g2 ⊢; omega, by simp; omega, g4⟩ qI ⟨rfl, rfl, trivial⟩
    by_cases k1 : x.script_[i].kind_ = 1
    · have e : stepP by_ i x.script_[i] s1 h1 = ([((PagerS.saveP s1 h1 x.script_[i].page_ (ptext by_ i x.script_[i].text_ s1.text s1.text)).1 : Int)], (PagerS.saveP s1 h1 x.script_[i].page_ (ptext by_ i x.script_[i].text_ s1.text s1.text)).2) := by unfold stepP; rw [if_neg k0, if_pos k1]
      rw [e] at hpl g1 g2 g3 g4
      have ht1 := hk1.t1
      have htxl := ptext_len by_ i x.script_[i].text_ s1.text s1.text
      refine Y5 ?_
      refine Zhg (Zbr (b := 0) rfl rfl) ?_
      refine Zhn 29 rfl (decide_eq_false (k0)) ?_
      refine Y4 ?_
      refine Zhg (Zbr (b := 1) rfl rfl) ?_
      refine Zhm 42 rfl (decide_eq_true (k1)) ?_
      refine Y5 ?_
      refine Zh8 rfl (by kernel_rfl) (text_p) rfl qT ?_
      rintro _ _ ⟨rfl, rfl⟩
      refine Y1 ?_
      refine Zm3 (f := u8b) (a := 0#8) rfl rfl rfl qS qS qS ?_; intro b45
      refine Y5 ?_
      repeat (first|refine zA ?_|refine zB ?_|refine zD ?_|refine zE ?_|refine zF ?_|refine zG ?_|refine zH ?_|refine zI ?_|refine zJ ?_|refine zK ?_|refine zL ?_|refine zM rfl ?_|refine zN ?_|refine zO ?_|refine zP ?_|refine zQ ?_)
      refine Zgn [(13, 13), (46, 78)] (by kernel_rfl) (fun _ : Unit => True) (fun _ => cl b45 ((ptext by_ i x.script_[i].text_ s1.text s1.text).map u8b).toArray 5 :: ownI oa oc outs :: pgA p ph s1 :: hostA ph h1 :: cl b9 x.script_[i].cells.toArray 75 :: cl b4 (pcs x) 58 :: L) (fun _ => []) ?_ ?_
      · refine Ct.o ?_
        refine Zgo [(13, 13), (46, 78)] (by kernel_rfl) (fun k : Nat => k ≤ s1.text) (fun k => cl b45 ((ptext by_ i x.script_[i].text_ s1.text k).map u8b).toArray 5 :: ownI oa oc outs :: pgA p ph s1 :: hostA ph h1 :: cl b9 x.script_[i].cells.toArray 75 :: cl b4 (pcs x) 58 :: L) (fun k => [(13, nvv k)]) (fun k => s1.text - k) 0 (Nat.zero_le _) (by rw [ptext_zero]; exact qI) ⟨rfl, trivial⟩ ?_
        intro k u2 hkl
        refine V6 ?_
        refine Zgg rfl (fun hB2 => ?_) (fun hB2 => ?_)
        · have hmul : i * k ≤ 9223372036854775807 := Nat.le_trans (Nat.mul_le_mul (show i ≤ 3518437208781 by omega) (show k ≤ 4096 by omega)) (by decide)
          have hlk := ptext_len by_ i x.script_[i].text_ s1.text k
          refine Y6 ?_
          refine Zhg (Zmc (a := i) (b := k) rfl rfl hmul) ?_
          refine Zhg (Zjs (n := ((i * k : Nat) : Int)) rfl) ?_
          refine Y2 ?_
          refine Zht rfl rfl qR qZ (setL (f := u8b) (x := by_ + BitVec.ofInt 8 ((i * k : Nat) : Int)) (l := ptext by_ i x.script_[i].text_ s1.text k)) ?_
          refine V1 ?_
          by_cases hkx : k < x.script_[i].text_.length
          · refine Zgt (fun F w H => (hel.rd.imp (Imp.arr (M := _) qV)).len H) ?_
            rw [htv]
            rintro -
            have hel2 := hel
            rw [htv] at hel2
            refine Zgt (fun F w H => (hel2.imp (Imp.arr (M := _) qV)).some (by omega) H) ?_
            rintro ⟨tb, to, rfl⟩
            have hcell : (x.script_[i].cells.toArray)[2]? = some (.slice (some ⟨tb, to, none⟩) x.script_[i].text_.length tc) := by rw [← htv]; rfl
            have hv : ((ptext by_ i x.script_[i].text_ s1.text k).set k (by_ + BitVec.ofInt 8 ((i * k : Nat) : Int))).set k ((by_ + BitVec.ofInt 8 ((i * k : Nat) : Int)) ^^^ x.script_[i].text_[k]) = ptext by_ i x.script_[i].text_ s1.text (k + 1) := by
              rw [List.set_set, ← ptext_set by_ i _ _ _ hB2]
              unfold pbyte
              rw [if_pos hkx, List.getD_eq_getElem?_getD, List.getElem?_eq_getElem hkx]; rfl
            have hg0 : (((ptext by_ i x.script_[i].text_ s1.text k).set k (by_ + BitVec.ofInt 8 ((i * k : Nat) : Int))).map u8b).toArray[k]? = some (u8b (by_ + BitVec.ofInt 8 ((i * k : Nat) : Int))) := by
              simp [List.getElem?_set, hlk, hB2]
            refine Y3 ?_
            refine Zhp rfl qH (hcell) ?_
            refine Y2 ?_
            refine Zhm 65 rfl (decide_eq_true (hkx)) ?_
            refine V2 ?_
            refine Zij (_) [7, 9, 10] (.q 0 (.q 1 (.q 2 (.q 3 (.q 4 (.q 6 (.q 8 (.r 5 (.r 7 (.r 9 (.r 10 (.q 11 (.q 12 (.e 13 false .nil)))))))))))))) (by kernel_rfl) (by kernel_rfl) (Imp.refl _) ?_
            refine W7 ?_
            refine Ziv rfl rfl qH (hg0) ?_
            refine Ziv rfl rfl qH (hcell) ?_
            refine W1 ?_
            refine Zfh rfl rfl (((hel2.rd.imp qI).at hkx (getM (f := u8b) hkx))) ?_
            refine W2 ?_
            refine Ziq rfl ?_
            refine Zht rfl rfl qR qZ (((setL (f := u8b) (x := (by_ + BitVec.ofInt 8 ((i * k : Nat) : Int)) ^^^ x.script_[i].text_[k]) (l := (ptext by_ i x.script_[i].text_ s1.text k).set k (by_ + BitVec.ofInt 8 ((i * k : Nat) : Int)))).trans (by rw [hv]))) ?_
            refine Zg3 ⟨(fun hh => Bool.noConfusion hh), ?_⟩
            refine Zik ?_
            refine V5 ?_
            exact Zgl (k + 1) qO (by omega) qI ⟨rfl, trivial⟩
          · have hcell : (x.script_[i].cells.toArray)[2]? = some (.slice ta x.script_[i].text_.length tc) := by rw [← htv]; rfl
            have hv : (ptext by_ i x.script_[i].text_ s1.text k).set k (by_ + BitVec.ofInt 8 ((i * k : Nat) : Int)) = ptext by_ i x.script_[i].text_ s1.text (k + 1) := by
              rw [← ptext_set by_ i _ _ _ hB2]
              unfold pbyte
              rw [if_neg hkx]
            rw [hv]
            refine Y3 ?_
            refine Zhp rfl qH (hcell) ?_
            refine Y2 ?_
            refine Zhn 65 rfl (decide_eq_false (hkx)) ?_
            refine V7 ?_
            exact Zgl (k + 1) qO (by omega) qI ⟨rfl, trivial⟩
        · have hke : k = s1.text := by omega
          subst hke
          refine Ct.o ?_
          exact Zgk () trivial qI trivial
      · rintro - u2 -
        refine Y6 ?_
        refine Zh8 rfl (by kernel_rfl) (save_x (L := cl b45 ((ptext by_ i x.script_[i].text_ s1.text s1.text).map u8b).toArray 5 :: L) hov1 (by omega) x.script_[i].page_ (bs_full (n := s1.text) .here htxl (by omega))) rfl qT ?_
        rintro _ _ ⟨rfl, rfl⟩
        refine Y1 ?_
        refine Zh7 (cs := #[.int .i64 _]) (by omega) (by omega) rfl ?_; intro b85
        refine Zia rfl rfl qH (Rd.cl (xs := [.int .i64 ((PagerS.saveP s1 h1 x.script_[i].page_ (ptext by_ i x.script_[i].text_ s1.text s1.text)).1 : Int)]) qH rfl qZ rfl) (by first|rfl|exact oneM_u8 _|exact oneL_u8 _|assumption|(simp [oneC]; done)) (by omega) qS ?_; intro a3 c3
        refine V2 ?_
        rw [← zv_snoc, show outs.length + 1 = (outs ++ [((PagerS.saveP s1 h1 x.script_[i].page_ (ptext by_ i x.script_[i].text_ s1.text s1.text)).1 : Int)]).length by simp]
        refine V5 ?_
        exact Zgl (i + 1, (outs ++ [((PagerS.saveP s1 h1 x.script_[i].page_ (ptext by_ i x.script_[i].text_ s1.text s1.text)).1 : Int)], a3, c3), (PagerS.saveP s1 h1 x.script_[i].page_ (ptext by_ i x.script_[i].text_ s1.text s1.text)).2.1, (PagerS.saveP s1 h1 x.script_[i].page_ (ptext by_ i x.script_[i].text_ s1.text s1.text)).2.2) qO ⟨by dsimp only; omega, by dsimp only; rw [← hpl, List.append_assoc], g1, by dsimp only at g2 ⊢; omega, by simp; omega, g4⟩ qI ⟨rfl, rfl, trivial⟩
    by_cases k2 : x.script_[i].kind_ = 2
    · have e : stepP by_ i x.script_[i] s1 h1 = ([((PagerS.flushP s1 h1).1 : Int)], (PagerS.flushP s1 h1).2) := by unfold stepP; rw [if_neg k0, if_neg k1, if_pos k2]
      rw [e] at hpl g1 g2 g3 g4
      refine Y5 ?_
      refine Zhg (Zbr (b := 0) rfl rfl) ?_
      refine Zhn 29 rfl (decide_eq_false (k0)) ?_
      refine Y4 ?_
      refine Zhg (Zbr (b := 1) rfl rfl) ?_
      refine Zhn 42 rfl (decide_eq_false (k1)) ?_
      refine Y4 ?_
      refine Zhg (Zbr (b := 2) rfl rfl) ?_
      refine Zhm 88 rfl (decide_eq_true (k2)) ?_
      refine Y6 ?_
      refine Zh8 rfl (by kernel_rfl) (flush_x hov1 (by omega)) rfl qT ?_
      rintro _ _ ⟨rfl, rfl⟩
      refine Y1 ?_
      refine Zh7 (cs := #[.int .i64 _]) (by omega) (by omega) rfl ?_; intro b92
      refine Zia rfl rfl qH (Rd.cl (xs := [.int .i64 ((PagerS.flushP s1 h1).1 : Int)]) qH rfl qZ rfl) (by first|rfl|exact oneM_u8 _|exact oneL_u8 _|assumption|(simp [oneC]; done)) (by omega) qS ?_; intro a3 c3
      refine V2 ?_
      rw [← zv_snoc, show outs.length + 1 = (outs ++ [((PagerS.flushP s1 h1).1 : Int)]).length by simp]
      refine V5 ?_
      exact Zgl (i + 1, (outs ++ [((PagerS.flushP s1 h1).1 : Int)], a3, c3), (PagerS.flushP s1 h1).2.1, (PagerS.flushP s1 h1).2.2) qO ⟨by dsimp only; omega, by dsimp only; rw [← hpl, List.append_assoc], g1, by dsimp only at g2 ⊢; omega, by simp; omega, g4⟩ qI ⟨rfl, rfl, trivial⟩
    · have e : stepP by_ i x.script_[i] s1 h1 = ([], s1, h1) := by unfold stepP; rw [if_neg k0, if_neg k1, if_neg k2]
      rw [e] at hpl g1 g2 g3 g4
      rw [List.nil_append] at hpl
      refine Y5 ?_
      refine Zhg (Zbr (b := 0) rfl rfl) ?_
      refine Zhn 29 rfl (decide_eq_false (k0)) ?_
      refine Y4 ?_
      refine Zhg (Zbr (b := 1) rfl rfl) ?_
      refine Zhn 42 rfl (decide_eq_false (k1)) ?_
      refine Y4 ?_
      refine Zhg (Zbr (b := 2) rfl rfl) ?_
      refine Zhn 88 rfl (decide_eq_false (k2)) ?_
      refine V8 ?_
      exact Zgl (i + 1, (outs, oa, oc), s1, h1) qO ⟨by dsimp only; omega, hpl, hov1, by dsimp only; omega, by dsimp only; omega, g4⟩ qI ⟨rfl, rfl, trivial⟩
  · have hie : i = x.script_.length := by omega
    subst hie
    rw [List.drop_length] at hpl
    have hpl2 : (outs, s1, h1) = playP by_ x.script_ 0 s h := by rw [← hpl]; simp [playP]
    rw [← hpl2]
    refine V4 ?_
    refine rx1 (Zhc rfl (Zg7)) ?_
    exact ⟨_, ⟨oa, oc, rfl, rfl, hhi1, hpot1⟩, qI⟩
end
end Go.Sl

/- the statements' small helpers: lists of bytes compared, copied, joined. -/
set_option maxHeartbeats 4000000
set_option maxRecDepth 10000
set_option linter.unusedVariables false
set_option linter.unusedSimpArgs false
namespace Go.Sl
open Go Go.Proofs
attribute [local irreducible] cl pt own old pur ex all den denOps denS xOps xC cX CX xthen xblk xcut xloop xgo xng retX resX Calls PV Rd Con
theorem eqBytes_x {L : List Asrt} {va vb : Value} {a b : List Byte} (ha : Bs L va a) (hb : Bs L vb b) : Con Tryz.prog 29 [va, vb] L (fun v M => v = .bool (decide (a = b)) ∧ L = M) := by
  refine Con.get (fun w0 w F H => ha.sh _ _ _ H) ?_
  rintro ⟨aa, ac, rfl, hac, hacm⟩
  refine Con.get (fun w0 w F H => hb.sh _ _ _ H) ?_
  rintro ⟨ba, bc, rfl, hbc, hbcm⟩
  refine fn_x Tryz.func29 rfl rfl rfl Tryz.mixed (by kernel_rfl) ?_
  intro w0
  refine V10 ?_
  refine Zgg rfl (fun hB => ?_) (fun hB => ?_)
  · refine V3 ?_
    refine rx1 (Zha rfl (Zg7)) ?_
    exact ⟨_, ⟨by rw [decide_eq_false (fun h => hB (by rw [h]))], rfl⟩, by exact Imp.arr (by repeat (first|exact Arr.nil|exact Arr.stop|refine Arr.cons (by repeat constructor) ?_|refine Arr.skip ?_))⟩
  have hlen : a.length = b.length := by omega
  refine V3 ?_
  refine Zgo [(4, 5), (11, 25)] (by kernel_rfl) (fun i : Nat => i ≤ a.length ∧ a.take i = b.take i) (fun _ => L) (fun i => [(5, .int .i64 (i : Int))]) (fun i => a.length - i) 0 ⟨by omega, rfl⟩ (Imp.refl _) ⟨rfl, trivial⟩ ?_
  rintro i u ⟨hi, he⟩
  refine V6 ?_
  refine Zgg rfl (fun hB => ?_) (fun hB => ?_)
  · have hib : i < b.length := by omega
    refine Zgt (fun F w H => ha.some (by omega) H) ?_
    rintro ⟨a1, a2, rfl⟩
    refine Zgt (fun F w H => hb.some (by omega) H) ?_
    rintro ⟨b1, b2, rfl⟩
    refine Ct.o ?_
    refine Zij (_) [7] (.q 0 (.q 1 (.q 2 (.q 4 (.q 5 (.q 6 (.r 3 (.r 7 (.q 8 .nil))))))))) (by kernel_rfl) (by kernel_rfl) (Imp.refl _) ?_
    refine W6 ?_
    refine Zi8 (j := i) rfl rfl ha.rd hB (getM (f := u8b) hB) ?_
    refine Zi8 (j := i) rfl rfl hb.rd hib (getM (f := u8b) hib) ?_
    refine Zim rfl (Zjl rfl rfl) ?_
    refine Zik ?_
    refine Ct.o ?_
    refine Zgg rfl (fun hB2 => ?_) (fun hB2 => ?_)
    · refine V3 ?_
      refine rx1 (Zha rfl (Zg7)) ?_
      refine ⟨_, ⟨?_, rfl⟩, by exact Imp.arr (by repeat (first|exact Arr.nil|exact Arr.stop|refine Arr.cons (by repeat constructor) ?_|refine Arr.skip ?_))⟩
      rw [decide_eq_false]
      rintro rfl
      exact hB2 rfl
    · refine V5 ?_
      have hB2 : a[i] = b[i] := by simpa using hB2
      exact Zgl (i + 1) qO ⟨by omega, by rw [List.take_succ_eq_append_getElem hB, List.take_succ_eq_append_getElem hib, he, hB2]⟩ qI ⟨rfl, trivial⟩
  · have hie : i = a.length := by omega
    subst hie
    rw [List.take_length, hlen, List.take_length] at he
    refine V3 ?_
    refine rx1 (Zha rfl (Zg7)) ?_
    exact ⟨_, ⟨by rw [decide_eq_true he], rfl⟩, by exact Imp.arr (by repeat (first|exact Arr.nil|exact Arr.stop|refine Arr.cons (by repeat constructor) ?_|refine Arr.skip ?_))⟩
end Go.Sl

/- trystlaw13: works, walked. -/
set_option maxHeartbeats 4000000
set_option maxRecDepth 10000
set_option linter.unusedVariables false
set_option linter.unusedSimpArgs false
namespace Go.Sl
open Go Go.Proofs
attribute [local irreducible] cl pt own old pur ex all den denOps denS xOps xC cX CX xthen xblk xcut xloop xgo xng retX resX Calls PV Rd Con
attribute [local irreducible] hostA pgSealB pgOpenR
open PagerS (PS Over)
theorem writeP_is {s : PS} {h : HostS.HS} {b : Int → List Byte} (hq : PagerS.Quiet s h b) (hw : s.writes < 4294967295) {n : Int} (hn : n ∈ PagerS.numbers s) : PagerS.writeP s h n = (0, PagerS.wroteP s n, HostS.wrote n (PagerS.boxOf s n) (HostS.logged h 1 n (PagerS.boxOf s n))) := by
  obtain ⟨h0, _⟩ := hq.write hw hn
  obtain ⟨_, hz, e⟩ := PagerS.writeP_zero h0
  rw [e, PagerS.writeR_zero hz]
theorem fetchP_is {s : PS} {h : HostS.HS} {b : Int → List Byte} (hq : PagerS.Quiet s h b) {n : Int} (hn : n ∉ PagerS.numbers s) (hp : 0 ≤ n ∧ n < s.pages) {pl : Plc} (hl : s.last n = some pl) : PagerS.fetchP s h n = ((b n, 0), PagerS.useP s ⟨n, b n, 1⟩, HostS.logged h 0 n []) := by
  have hrd := PagerS.readR_calm hq.calm (n := n) ⟨hp.1, by rw [hq.sound.over.pages]; exact hp.2⟩
  obtain ⟨_, l2⟩ := (hq.sound.right hq.err n).2 (PagerS.changed_no hn)
  have hbl := hq.sound.len n
  have ht1 := hq.sound.ok.t1
  unfold PagerS.fetchP
  rw [hl]
  dsimp only
  rw [hrd]
  dsimp only
  rw [if_pos rfl, l2 pl hl, pg_back _ _ _ (by omega)]
  rfl
namespace PlW
def k5 : List Byte := 5#8 :: List.replicate 31 0#8
def s0 : PS := PagerS.freshP k5 9#64 2 4 2
def h0 : HostS.HS := HostS.fresh 4 30 []
def s1 : PS := PagerS.useP s0 ⟨1, [5#8, 6#8], 2⟩
def s2 : PS := PagerS.useP s1 ⟨2, [7#8, 8#8], 2⟩
def cut (s : PS) : PS := { s with held := s.held.tail }
def s3 : PS := PagerS.useP (cut (PagerS.wroteP s2 1)) ⟨3, [9#8, 9#8], 2⟩
def h3 : HostS.HS := HostS.wrote 1 (PagerS.boxOf s2 1) (HostS.logged h0 1 1 (PagerS.boxOf s2 1))
def s4 : PS := PagerS.useP (cut (PagerS.wroteP s3 2)) ⟨1, [5#8, 6#8], 1⟩
def h4 : HostS.HS := HostS.logged (HostS.wrote 2 (PagerS.boxOf s3 2) (HostS.logged h3 1 2 (PagerS.boxOf s3 2))) 0 1 []
def b0 : Int → List Byte := fun _ => List.replicate 2 0#8
def b1 := HostS.setF b0 1 [5#8, 6#8]
def b2 := HostS.setF b1 2 [7#8, 8#8]
def b3 := HostS.setF b2 3 [9#8, 9#8]
theorem q0 : PagerS.Quiet s0 h0 b0 := PagerS.quiet_fresh (PagerS.ok_fresh rfl (by omega) (by omega) (by omega)) rfl rfl (PagerS.calm_fresh 4 30)
theorem e1 : PagerS.saveP s0 h0 1 [5#8, 6#8] = (0, s1, h0) := rfl
theorem q1 : PagerS.Quiet s1 h0 b1 := (q0.save (n := 1) (t := [5#8, 6#8]) (by decide) (by decide) (by decide) rfl).2
theorem e2 : PagerS.saveP s1 h0 2 [7#8, 8#8] = (0, s2, h0) := rfl
theorem q2 : PagerS.Quiet s2 h0 b2 := (q1.save (n := 2) (t := [7#8, 8#8]) (by decide) (by decide) (by decide) rfl).2
theorem e3 : PagerS.saveP s2 h0 3 [9#8, 9#8] = (0, s3, h3) := by
  have hw := writeP_is q2 (by decide) (n := 1) (by decide)
  have hr : PagerS.roomP s2 h0 = (0, cut (PagerS.wroteP s2 1), h3) := by
    have : PagerS.roomP s2 h0 = (if (PagerS.writeP s2 h0 1).1 = 0 then (0, cut (PagerS.writeP s2 h0 1).2.1, (PagerS.writeP s2 h0 1).2.2) else PagerS.writeP s2 h0 1) := rfl
    rw [this, hw]; rfl
  have : PagerS.saveP s2 h0 3 [9#8, 9#8] = (if (PagerS.roomP s2 h0).1 = 0 then (0, PagerS.useP (PagerS.roomP s2 h0).2.1 ⟨3, [9#8, 9#8], 2⟩, (PagerS.roomP s2 h0).2.2) else PagerS.roomP s2 h0) := rfl
  rw [this, hr]; rfl
theorem q3 : PagerS.Quiet s3 h3 b3 := by
  have := (q2.save (n := 3) (t := [9#8, 9#8]) (by decide) (by decide) (by decide) rfl).2
  rw [e3] at this; exact this
theorem e4 : PagerS.loadP s3 h3 1 = (([5#8, 6#8], 0), s4, h4) := by
  have hw := writeP_is q3 (by decide) (n := 2) (by decide)
  have hr : PagerS.roomP s3 h3 = (0, cut (PagerS.wroteP s3 2), HostS.wrote 2 (PagerS.boxOf s3 2) (HostS.logged h3 1 2 (PagerS.boxOf s3 2))) := by
    have : PagerS.roomP s3 h3 = (if (PagerS.writeP s3 h3 2).1 = 0 then (0, cut (PagerS.writeP s3 h3 2).2.1, (PagerS.writeP s3 h3 2).2.2) else PagerS.writeP s3 h3 2) := rfl
    rw [this, hw]; rfl
  have q4 := (q3.room (by decide)).2
  rw [hr] at q4
  have hf := fetchP_is q4 (n := 1) (by decide) (by decide) (pl := PagerS.nextPl s2 1) rfl
  have : PagerS.loadP s3 h3 1 = (if (PagerS.roomP s3 h3).1 = 0 then PagerS.fetchP (PagerS.roomP s3 h3).2.1 (PagerS.roomP s3 h3).2.2 1 else (([], (PagerS.roomP s3 h3).1), (PagerS.roomP s3 h3).2)) := rfl
  rw [this, hr, if_pos rfl, hf]; rfl
theorem may : HostS.mayBe 4 30 [] := ⟨⟨by decide, by decide, by decide, by decide⟩, rfl⟩
end PlW
attribute [local irreducible] PagerS.saveP PagerS.loadP PlW.s0 PlW.s1 PlW.s2 PlW.s3 PlW.s4 PlW.h0 PlW.h3 PlW.h4
open PlW in
theorem plWorks_x : Con Tryz.prog 25 [] [] (fun r M => r = .bool true ∧ M = []) := by
  have hs1 := fun p q b => save_x (p := q) (ph := p) (L := [cl b #[u8b 5#8, u8b 6#8] 5]) q0.sound.over (by with_unfolding_all decide) 1 (bs_full (l := [5#8, 6#8]) (n := 2) qH rfl (by omega))
  have hs2 := fun p q b => save_x (p := q) (ph := p) (L := [cl b #[u8b 7#8, u8b 8#8] 5]) q1.sound.over (by with_unfolding_all decide) 2 (bs_full (l := [7#8, 8#8]) (n := 2) qH rfl (by omega))
  have hs3 := fun p q b => save_x (p := q) (ph := p) (L := [cl b #[u8b 9#8, u8b 9#8] 5]) q2.sound.over (by with_unfolding_all decide) 3 (bs_full (l := [9#8, 9#8]) (n := 2) qH rfl (by omega))
  have hl := fun p q => load_x (p := q) (ph := p) q3.sound.over (by with_unfolding_all decide) 1
  rw [e1] at hs1
  rw [e2] at hs2
  rw [e3] at hs3
  rw [e4] at hl
  dsimp only at hs1 hs2 hs3 hl
  have hz : newR h0 2 = 0 := by with_unfolding_all rfl
  have hf : PagerS.freshP k5 9#64 (2 : Int).toNat h0.pages (h0.size - 28) = s0 := by with_unfolding_all rfl
  have hn := fun p => pnew_ok (ph := p) (h := h0) (key := k5) rfl 9#64 hz
  rw [hf] at hn
  have hh : HostS.fresh 4 (30 : Int).toNat [] = h0 := by with_unfolding_all rfl
  have hnw := new_ok (L := []) 4 30 (fv := .slice none 0 0) (fl := []) (by simp) (by simp) Rd.nil may
  rw [hh] at hnw
  have hw4 : s4.writes = 2 := by with_unfolding_all rfl
  have hl4 : h4.log.length = 3 := by with_unfolding_all rfl
  have hwx := fun p q => writes_p (p := q) (ph := p) (s := s4)
  rw [hw4] at hwx
  have hlx := fun p => log_x (p := p) (s := h4) (by with_unfolding_all decide)
  rw [hl4] at hlx
  refine fn_x Tryz.func25 rfl rfl rfl Tryz.mixed (by kernel_rfl) ?_
  intro w0
  refine Y4 ?_
  refine Zh8 rfl (by kernel_rfl) (hnw) rfl qT ?_
  rintro _ _ ⟨p, rfl, rfl⟩
  refine Y10 ?_
  refine Zhn 10 rfl (decide_eq_false (fun hh => hh rfl)) ?_
  refine Y8 ?_
  refine Zhg (Zol rfl) ?_
  refine Zhg (Zdn (cs := (k5.map u8b).toArray) (by kernel_rfl)) ?_
  refine Zh8 rfl (by kernel_rfl) (hn p) rfl qT ?_
  rintro _ _ ⟨q, rfl, rfl⟩
  refine Y10 ?_
  refine Zhn 23 rfl (decide_eq_false ((fun hh => hh rfl))) ?_
  refine Y6 ?_
  first|refine Y0 ?_|(refine Zhh rfl ?_; (refine Zh7 (cs := #[u8b 5#8, u8b 6#8]) (by omega) (by omega) (by kernel_rfl) ?_; intro b30))
  first|refine Y0 ?_|(refine Zhh rfl ?_; (refine Zh8 rfl (by kernel_rfl) (hs1 p q b30) rfl qT ?_); (rintro _ _ ⟨rfl, rfl⟩); (refine Zg2 qA ?_))
  refine Y1 ?_
  refine Zhn 32 rfl (decide_eq_false ((fun hh => hh rfl))) ?_
  refine Y3 ?_
  first|refine Y0 ?_|(refine Zhh rfl ?_; (refine Zh7 (cs := #[u8b 7#8, u8b 8#8]) (by omega) (by omega) (by kernel_rfl) ?_; intro b36))
  first|refine Y0 ?_|(refine Zhh rfl ?_; (refine Zh8 rfl (by kernel_rfl) (hs2 p q b36) rfl qT ?_); (rintro _ _ ⟨rfl, rfl⟩); (refine Zg2 qA ?_))
  refine Y1 ?_
  refine Zhn 38 rfl (decide_eq_false ((fun hh => hh rfl))) ?_
  refine Y3 ?_
  first|refine Y0 ?_|(refine Zhh rfl ?_; (refine Zh7 (cs := #[u8b 9#8, u8b 9#8]) (by omega) (by omega) (by kernel_rfl) ?_; intro b42))
  first|refine Y0 ?_|(refine Zhh rfl ?_; (refine Zh8 rfl (by kernel_rfl) (hs3 p q b42) rfl qT ?_); (rintro _ _ ⟨rfl, rfl⟩); (refine Zg2 qA ?_))
  refine Y1 ?_
  refine Zhn 44 rfl (decide_eq_false ((fun hh => hh rfl))) ?_
  refine Y5 ?_
  refine Zh8 rfl (by kernel_rfl) (hl p q) rfl qT ?_
  rintro _ _ ⟨a, c, rfl, rfl⟩
  refine Y10 ?_
  refine Zhm 52 rfl (decide_eq_true (rfl)) ?_
  refine Y2 ?_
  first|refine Y0 ?_|(refine Zhh rfl ?_; (refine Zh7 (cs := #[u8b 5#8, u8b 6#8]) (by omega) (by omega) (by kernel_rfl) ?_; intro b55))
  first|refine Y0 ?_|(refine Zhh rfl ?_; (refine Zh8 rfl (by kernel_rfl) (eqBytes_x (L := [ownB a c [5#8, 6#8], cl b55 #[u8b 5#8, u8b 6#8] 5]) (a := [5#8, 6#8]) (b := [5#8, 6#8]) (Bs.own qH) (bs_full (l := [5#8, 6#8]) (n := 2) qH rfl (by omega))) rfl qT ?_); (rintro _ _ ⟨rfl, rfl⟩); (refine Zg2 qA ?_))
  refine Zhm 56 rfl (decide_eq_true (rfl)) ?_
  refine Y3 ?_
  first|refine Y0 ?_|(refine Zhh rfl ?_; (refine Zh8 rfl (by kernel_rfl) (hwx p q) rfl qT ?_); (rintro _ _ ⟨rfl, rfl⟩); (refine Zg2 qA ?_))
  first|refine Y0 ?_|(refine Zhh rfl ?_; (refine Zhg (Zky (x := 2#32) (y := 2#32) rfl rfl) ?_))
  refine Zhm 61 rfl (decide_eq_true (rfl)) ?_
  refine Y3 ?_
  first|refine Y0 ?_|(refine Zhh rfl ?_; (refine Zh8 rfl (by kernel_rfl) (hlx p) rfl qT ?_); (rintro _ _ ⟨la, lc, rfl, rfl⟩); (refine Zg2 qA ?_))
  refine Y2 ?_
  refine Zhm 67 rfl (decide_eq_true (rfl)) ?_
  refine V3 ?_
  refine rx1 (Zha rfl (Zg7)) ?_
  exact ⟨_, ⟨rfl, rfl⟩, qI⟩
end Go.Sl

/- trystlaw13: PagerSees, walked. -/
set_option maxHeartbeats 4000000
set_option maxRecDepth 10000
set_option linter.unusedVariables false
set_option linter.unusedSimpArgs false
namespace Go.Sl
open Go Go.Proofs
attribute [local irreducible] cl pt own old pur ex all den denOps denS xOps xC cX CX xthen xblk xcut xloop xgo xng retX resX Calls PV Rd Con
attribute [local irreducible] hostA pgA PagerS.loadP PagerS.saveP PagerS.flushP pcs playP
attribute [local irreducible] ocells
open PagerS (PS Over)
def noF (x : PLifeV) : PLifeV := { x with faults_V := .slice none 0 0, faults_ := [] }
theorem set_mid (A B : List Value) (v w : Value) (n : Nat) (hn : A.length = n) : (A ++ ([v] ++ B)).set n w = A ++ ([w] ++ B) := by
  subst hn
  simp
theorem pcs_noF {x : PLifeV} (hk : x.key_.length = 32) : (pcs x).setIfInBounds 36 (.slice none 0 0) = pcs (noF x) := by
  with_unfolding_all unfold pcs
  apply Array.ext'
  rw [Array.toList_setIfInBounds]
  have := set_mid ([.int .i64 x.pages_] ++ ([.int .i64 x.size_] ++ ([.int .i64 x.window_] ++ (x.key_.map u8b ++ [u64b x.round_])))) [x.script_V] x.faults_V (.slice none 0 0) 36 (by simp [hk])
  simpa [PLifeV.cells, noF] using this
theorem pcs_one {x : PLifeV} {fa sa : Option Addr} {fn fc sn sc : Nat} (hf : x.faults_V = .slice fa fn fc) (hs : x.script_V = .slice sa sn sc) : (pcs x).toList.all oneC = true := by
  with_unfolding_all unfold pcs
  simp [PLifeV.cells, hf, hs, oneC]
theorem pin_noF {L : List Asrt} {x : PLifeV} (h : PIn L x) : PIn L (noF x) := ⟨h.key, ⟨Rd.nil, fun f hf => (by cases hf), by show 0 * 48 ≤ _; omega⟩, h.ops⟩
theorem PIn.mono {L M : List Asrt} {x : PLifeV} (h : PIn L x) (hi : Imp M L) : PIn M x := ⟨h.key, ⟨h.flt.rd.imp hi, h.flt.ok, h.flt.len⟩, ⟨h.ops.rd.imp hi, fun o ho => ⟨(h.ops.el o ho).1.imp hi, (h.ops.el o ho).2⟩, h.ops.len⟩⟩
theorem heads_tok {r : BitVec 64} {pages : Int} {size : Nat} {l : List HostS.Touch} (h : PagerS.Heads r pages size l) (hp : pages ≤ 65536) (hz : size ≤ 4124) : ∀ t ∈ l, TOk t := by
  intro t ht
  obtain ⟨i, hi, rfl⟩ := List.mem_iff_getElem.1 ht
  obtain ⟨h1, h2, h3, h4⟩ := h i hi
  rcases h4 with ⟨e, hh, _⟩|⟨e, hh⟩
  · exact ⟨by omega, by omega, by omega, by rw [hh]; simp⟩
  · exact ⟨by omega, by omega, by omega, by rw [hh]; simp [leB_len]⟩
theorem hi_tok {s : PS} {h : HostS.HS} (hi : PagerS.HI s h) (hk : PagerS.Ok s) : ∀ t ∈ h.log, TOk t := by
  have := hk.p1; have := hk.t1; have := hi.over.size
  exact heads_tok hi.heads hk.p1 (by omega)
theorem mild_of {x : PLifeV} (h : ∀ f ∈ x.faults_, 3 ≤ f.kind_) : PagerS.Mild (hs0 x) := by
  intro k f hf
  have hf2 : f ∈ (flts x).filter fun f => f.at_ == k := hf
  obtain ⟨y, hy, rfl⟩ := List.mem_map.1 (List.mem_filter.1 hf2).1
  exact h y hy
section
variable {L : List Asrt} {x : PLifeV}
abbrev nil1 (b : Bool) (x : PLifeV) : PLifeV := bif b then noF x else x
theorem pin_nil1 {b : Bool} (h : PIn L x) : PIn L (nil1 b x) := by cases b; exact h; exact pin_noF h
end
end Go.Sl

/- trystlaw13: lives that come in. -/
set_option maxHeartbeats 4000000
set_option maxRecDepth 10000
set_option linter.unusedVariables false
set_option linter.unusedSimpArgs false
namespace Go.Sl
open Go Go.Proofs
attribute [local irreducible] cl pt own old pur ex all den denOps denS xOps xC cX CX xthen xblk xcut xloop xgo xng retX resX Calls PV Rd Con
open PagerS (PS Over)
theorem pf_cells (l : List FaultV) : (l.map pF).flatMap fcells = l.flatMap FaultV.cells := by
  rw [List.flatMap_map]; rfl
theorem pin_of {W : World} {x : PLifeV} (ok : PLifeVOk W x) : PIn [old W] x := by
  have hf := ok.faults_
  have ho := ok.script_
  refine ⟨ok.key_, ⟨?_, ?_, ?_⟩, ⟨Rd.old .here ho.sl, fun o h => ⟨(ho.el o h).text_.bs .here, (ho.el o h).text_.len⟩, ho.len⟩⟩
  · unfold flts
    rw [pf_cells, List.length_map]
    exact Rd.old .here hf.sl
  · intro f hff
    obtain ⟨y, hy, rfl⟩ := List.mem_map.1 hff
    exact ⟨(hf.el y hy).back_.1, (hf.el y hy).back_.2⟩
  · unfold flts; rw [List.length_map]; exact hf.len
end Go.Sl

/- pager: over a host whose reads are spoilt: what stays well formed; what a dead pager does; a host's log grows. No program in sight. -/
set_option linter.unusedVariables false
set_option linter.unusedSimpArgs false
namespace Go.Sl.PagerS
open Go Go.Sl Go.Sl.HostS
attribute [local irreducible] pgSealB pgOpenR
/-- All pages are of the host's size. -/
def Rows (h : HS) : Prop := ∀ p, ∀ r ∈ h.lay p, r.length = h.size
theorem rows_back {h : HS} (hr : Rows h) (n w : Int) : (back h n w).length = h.size := by
  unfold back
  dsimp only
  split
  · rename_i hz
    rw [List.getD_eq_getElem?_getD]
    have hlt : ((h.lay n).length - 1 - max w 0 : Int).toNat < (h.lay n).length := by omega
    rw [List.getElem?_eq_getElem hlt]
    exact hr n _ (List.getElem_mem hlt)
  · simp
theorem rows_spoilt {h : HS} (hr : Rows h) (n : Int) (l : List Fault) : (spoilt h n l).length = h.size := by
  unfold spoilt
  have : ∀ (l : List Fault) (b : Bytes), b.length = h.size → (l.foldl (spoil1 h n) b).length = h.size := by
    intro l
    induction l with
    | nil => intro b hb; exact hb
    | cons f r ih =>
      intro b hb
      rw [List.foldl_cons]
      refine ih _ ?_
      unfold spoil1
      split
      · split
        · simpa using hb
        · exact hb
      · split
        · exact rows_back hr _ _
        · split
          · split
            · exact rows_back hr _ _
            · exact hb
          · exact hb
  exact this l _ (rows_back hr _ _)
theorem rows_read {h : HS} (hr : Rows h) {n : Int} (hz : (readR h n).2.1 = 0) : (readR h n).1.length = h.size := by
  unfold readR at hz ⊢
  split
  · rename_i ht
    rw [if_pos ht] at hz
    dsimp only at hz ⊢
    split
    · exact rows_spoilt hr _ _
    · rename_i h0; rw [if_neg h0] at hz; exact absurd hz h0
  · rename_i ht
    rw [if_neg ht] at hz; cases hz
theorem does_rows {h : HS} (hr : Rows h) (op n : Int) (b : Bytes) (act : HS → HS) (ha : ∀ g, Rows g → g.size = h.size → Rows (act g)) : Rows (does h op n b act).1 := by
  unfold does
  split
  · exact hr
  · dsimp only
    split
    · exact hr
    · have := ha (logged h op n b) hr rfl
      split
      · exact this
      · exact this
theorem read_rows {h : HS} (hr : Rows h) (n : Int) : Rows (readR h n).2.2 := by
  have := does_rows hr 0 n [] id fun g hg _ => hg
  unfold readR
  split
  · dsimp only
    split <;> exact this
  · exact hr
theorem write_rows {h : HS} (hr : Rows h) (n : Int) (b : Bytes) : Rows (writeR h n b).2 := by
  unfold writeR
  split
  · split
    · rename_i hl
      refine does_rows hr 1 n b _ fun g hg hz => ?_
      intro p r hp
      have : (wrote n b g).lay p = setF g.lay n (g.lay n ++ [b]) p := rfl
      rw [this] at hp
      unfold setF at hp
      show r.length = g.size
      split at hp
      · rcases List.mem_append.1 hp with hp|hp
        · exact hg n r hp
        · rw [List.mem_singleton] at hp; rw [hp, hl, hz]
      · exact hg p r hp
    · exact hr
  · exact hr
structure LOk (s : PS) (h : HS) : Prop where
  ok : Ok s
  over : Over s h
  rows : Rows h
section
variable {s : PS} {h : HS}
theorem LOk.write (k : LOk s h) (n : Int) : LOk (writeP s h n).2.1 (writeP s h n).2.2 := by
  refine ⟨ok_write k.ok n, (near_write s h n).over k.over, ?_⟩
  rcases writeP_host (s := s) (h := h) n with e|e
  · rw [e]; exact k.rows
  · rw [e]; exact write_rows k.rows _ _
theorem LOk.room (k : LOk s h) : LOk (roomP s h).2.1 (roomP s h).2.2 := by
  unfold roomP
  split
  · exact k
  · dsimp only
    have w := k.write ((s.held.head?.map Fr.page).getD 0)
    split
    · split
      · exact ⟨ok_tail w.ok, ⟨w.over.pages, w.over.size⟩, w.rows⟩
      · exact w
    · exact ⟨ok_tail k.ok, ⟨k.over.pages, k.over.size⟩, k.rows⟩
theorem LOk.use (k : LOk s h) {f : Fr} (hr : (frOf s f.page).isSome = true ∨ s.held.length < s.window) (hp : 0 ≤ f.page ∧ f.page < s.pages) (hl : f.text.length = s.text) (hi : f.is ≤ 2) : LOk (useP s f) h := ⟨ok_use k.ok hr hp hl hi, ⟨k.over.pages, k.over.size⟩, k.rows⟩
theorem LOk.fetch (k : LOk s h) {n : Int} (hw : s.held.length < s.window) (hp : 0 ≤ n ∧ n < s.pages) : LOk (fetchP s h n).2.1 (fetchP s h n).2.2 := by
  have he := readR_err h n
  have hsm := readR_same h n
  have k2 : LOk s (readR h n).2.2 := ⟨k.ok, ⟨hsm.1.trans k.over.pages, hsm.2.trans k.over.size⟩, read_rows k.rows n⟩
  unfold fetchP
  split
  · rename_i pl hl
    dsimp only
    split
    · rename_i hz
      split
      · rename_i h2
        refine k2.use (f := ⟨n, _, 1⟩) (.inr hw) hp ?_ (by dsimp only; omega)
        dsimp only
        have h3 : pgOpens s.key pl (readR h n).1 := by
          by_cases hh : pgOpens s.key pl (readR h n).1
          · exact hh
          · rw [pgOpenR_not _ _ _ hh] at h2; cases h2
        have h4 := (pg_form _ _ _ h3).2
        have h5 := rows_read k.rows hz
        have h6 := k.over.size
        omega
      · rename_i h2
        rcases open_err s.key pl (readR h n).1 with e|e
        · exact absurd e h2
        · rw [e]; exact ⟨ok_die k.ok 120 (by omega), ⟨k2.over.pages, k2.over.size⟩, k2.rows⟩
    · exact ⟨ok_die k.ok _ he, ⟨k2.over.pages, k2.over.size⟩, k2.rows⟩
  · exact k.use (f := ⟨n, _, 0⟩) (.inr hw) hp (by simp) (by dsimp only; omega)
theorem LOk.load (k : LOk s h) (n : Int) : LOk (loadP s h n).2.1 (loadP s h n).2.2 := by
  unfold loadP
  split
  · rename_i hr
    obtain ⟨h0, hp⟩ := right_zero hr
    split
    · rename_i f hf
      obtain ⟨f1, f2⟩ := frOf_mem hf
      subst f2
      exact k.use (.inl (by rw [hf]; rfl)) hp (k.ok.len f f1) (k.ok.is f f1)
    · have a := k.room
      obtain ⟨v1, v2, v3, v4, v5⟩ := roomP_leaves (h := h) k.ok
      dsimp only
      split
      · rename_i hz
        exact a.fetch (by rw [v2]; exact v5 hz) (by rw [v3]; exact hp)
      · exact a
  · exact k
theorem LOk.save (k : LOk s h) (n : Int) (t : Bytes) : LOk (saveP s h n t).2.1 (saveP s h n t).2.2 := by
  unfold saveP
  split
  · rename_i hr
    obtain ⟨h0, hp⟩ := right_zero hr
    split
    · rename_i ht
      split
      · rename_i f hf
        exact k.use (f := ⟨n, t, 2⟩) (.inl (by rw [hf]; rfl)) hp ht (Nat.le_refl _)
      · have a := k.room
        obtain ⟨v1, v2, v3, v4, v5⟩ := roomP_leaves (h := h) k.ok
        dsimp only
        split
        · rename_i hz
          exact a.use (f := ⟨n, t, 2⟩) (.inr (by rw [v2]; exact v5 hz)) (by rw [v3]; exact hp) (by rw [v4]; exact ht) (Nat.le_refl _)
        · exact a
    · exact k
  · exact k
theorem LOk.flushL : ∀ (l : List Int) (s : PS) (h : HS), LOk s h → LOk (flushL l s h).2.1 (flushL l s h).2.2
  | [], s, h, k => k
  | n :: r, s, h, k => by
    unfold PagerS.flushL
    split
    · have w := k.write n
      dsimp only
      split
      · exact LOk.flushL r _ _ w
      · exact w
    · exact LOk.flushL r s h k
theorem LOk.flush (k : LOk s h) : LOk (flushP s h).2.1 (flushP s h).2.2 := by
  unfold flushP
  split
  · exact LOk.flushL _ s h k
  · exact k
theorem rows_fresh (pages : Int) (size : Nat) (fl : List Fault) : Rows (fresh pages size fl) := fun p r hr => (by cases hr)
/-- A dead pager does nothing. -/
theorem load_dead {n : Int} (h0 : s.err ≠ 0) : loadP s h n = (([], s.err), s, h) := by
  have : rightP s n = s.err := by unfold rightP; rw [if_pos h0]
  unfold loadP
  rw [this, if_neg h0]
theorem save_dead {n : Int} {t : Bytes} (h0 : s.err ≠ 0) : saveP s h n t = (s.err, s, h) := by
  have : rightP s n = s.err := by unfold rightP; rw [if_pos h0]
  unfold saveP
  rw [this, if_neg h0]
theorem flush_dead (h0 : s.err ≠ 0) : flushP s h = (s.err, s, h) := by
  unfold flushP; rw [if_neg h0]
/-- A log goes on. -/
def Grew (h g : HS) : Prop := ∃ l, g.log = h.log ++ l
theorem Grew.refl (h : HS) : Grew h h := ⟨[], by simp⟩
theorem Grew.trans {a b c : HS} (x : Grew a b) (y : Grew b c) : Grew a c := by
  obtain ⟨l, hl⟩ := x
  obtain ⟨m, hm⟩ := y
  exact ⟨l ++ m, by rw [hm, hl, List.append_assoc]⟩
theorem grew_does (h : HS) (op n : Int) (b : Bytes) (act : HS → HS) (ha : ∀ g, (act g).log = g.log) : Grew h (does h op n b act).1 := by
  rcases does_log h op n b act ha with ⟨e, _⟩|⟨e, _⟩
  · exact ⟨[], by rw [e]; simp⟩
  · exact ⟨_, e⟩
theorem grew_read (h : HS) (n : Int) : Grew h (readR h n).2.2 := by
  have := grew_does h 0 n [] id fun _ => rfl
  unfold readR
  split
  · dsimp only
    split <;> exact this
  · exact Grew.refl h
theorem grew_write (s : PS) (h : HS) (n : Int) : Grew h (writeP s h n).2.2 := by
  rcases writeP_host (s := s) (h := h) n with e|e
  · rw [e]; exact Grew.refl h
  · rw [e]
    unfold writeR
    split
    · split
      · exact grew_does h 1 n _ _ fun _ => rfl
      · exact Grew.refl h
    · exact Grew.refl h
theorem grew_room (s : PS) (h : HS) : Grew h (roomP s h).2.2 := by
  unfold roomP
  split
  · exact Grew.refl h
  · dsimp only
    have w := grew_write s h ((s.held.head?.map Fr.page).getD 0)
    split
    · split <;> exact w
    · exact Grew.refl h
theorem grew_fetch (s : PS) (h : HS) (n : Int) : Grew h (fetchP s h n).2.2 := by
  have r := grew_read h n
  unfold fetchP
  split
  · dsimp only
    split
    · split <;> exact r
    · exact r
  · exact Grew.refl h
theorem grew_load (s : PS) (h : HS) (n : Int) : Grew h (loadP s h n).2.2 := by
  unfold loadP
  split
  · split
    · exact Grew.refl h
    · dsimp only
      split
      · exact (grew_room s h).trans (grew_fetch _ _ n)
      · exact grew_room s h
  · exact Grew.refl h
theorem grew_save (s : PS) (h : HS) (n : Int) (t : Bytes) : Grew h (saveP s h n t).2.2 := by
  unfold saveP
  split
  · split
    · split
      · exact Grew.refl h
      · dsimp only
        split <;> exact grew_room s h
    · exact Grew.refl h
  · exact Grew.refl h
theorem grew_flushL : ∀ (l : List Int) (s : PS) (h : HS), Grew h (flushL l s h).2.2
  | [], s, h => Grew.refl h
  | n :: r, s, h => by
    unfold flushL
    split
    · dsimp only
      split
      · exact (grew_write s h n).trans (grew_flushL r _ _)
      · exact grew_write s h n
    · exact grew_flushL r s h
theorem grew_flush (s : PS) (h : HS) : Grew h (flushP s h).2.2 := by
  unfold flushP
  split
  · exact grew_flushL _ s h
  · exact Grew.refl h
/-- Writing fails by the power, or by the counter. -/
theorem write_err3 (hk : Ok s) (ho : Over s h) {n : Int} (hn : n ∈ numbers s) : (writeP s h n).1 = 0 ∨ (writeP s h n).1 = 110 ∨ (writeP s h n).1 = 130 := by
  obtain ⟨a1, a2, a3⟩ := box_len hk hn
  have hts : there h n := ⟨a2, by rw [ho.pages]; exact a3⟩
  have w1 : (writeR h n (boxOf s n)).1 = (does h 1 n (boxOf s n) (wrote n (boxOf s n))).2 := by
    unfold writeR
    rw [if_pos hts, if_pos (a1.trans ho.size.symm)]
  unfold writeP
  split
  · exact .inr (.inr rfl)
  · dsimp only
    split
    · exact .inl rfl
    · rename_i h9
      dsimp only
      rw [w1] at h9 ⊢
      rcases does_log h 1 n (boxOf s n) (wrote n (boxOf s n)) fun _ => rfl with ⟨_, e⟩|⟨_, e|e⟩
      · exact .inr (.inl e)
      · exact absurd e h9
      · exact .inr (.inl e)
theorem room_err3 (hk : Ok s) (ho : Over s h) : (roomP s h).1 = 0 ∨ (roomP s h).1 = 110 ∨ (roomP s h).1 = 130 := by
  unfold roomP
  split
  · exact .inl rfl
  · dsimp only
    split
    · rename_i hc
      have hn : (s.held.head?.map Fr.page).getD 0 ∈ numbers s := by
        by_cases hh : (s.held.head?.map Fr.page).getD 0 ∈ numbers s
        · exact hh
        · rw [changed_no hh] at hc; cases hc
      have := write_err3 hk ho hn
      split
      · exact .inl rfl
      · exact this
    · exact .inl rfl
theorem right_err (h0 : s.err ≠ 120) (n : Int) : rightP s n ≠ 120 := by
  unfold rightP
  split
  · exact h0
  · split <;> omega
theorem room_stays (s : PS) (h : HS) : (roomP s h).2.1.err = s.err ∨ (roomP s h).2.1.err = (roomP s h).1 := by
  unfold roomP
  split
  · exact .inl rfl
  · dsimp only
    split
    · by_cases hz : (writeP s h ((s.held.head?.map Fr.page).getD 0)).1 = 0
      · rw [if_pos hz]
        obtain ⟨_, _, e⟩ := writeP_zero hz
        left; rw [e]; rfl
      · rw [if_neg hz]
        right; rw [(writeP_errs s h _ hz).2]; rfl
    · exact .inl rfl
/-- Over a host whose reads are not spoilt no page fails to open. -/
theorem load_not {b : Int → Bytes} (hs : Sound s h b) (h0 : s.err ≠ 120) (n : Int) : (loadP s h n).1.2 ≠ 120 ∧ (loadP s h n).2.1.err ≠ 120 := by
  obtain ⟨e, e1, e2, e3, e4, e5⟩ := hs.load n
  have he : (loadP s h n).1.2 = e := by rw [e1]
  rw [he]
  by_cases hr : rightP s n = 0
  · rw [e4 hr]
    obtain ⟨h00, hp⟩ := right_zero hr
    have : e = 0 ∨ e = 110 ∨ e = 130 := by
      rw [← he]
      unfold loadP
      rw [if_pos hr]
      cases hf : frOf s n with
      | some f => exact .inl rfl
      | none =>
        dsimp only
        obtain ⟨q1, q2, q3⟩ := hs.room h00
        obtain ⟨v1, v2, v3, v4, v5⟩ := roomP_leaves (h := h) hs.ok
        by_cases hz : (roomP s h).1 = 0
        · rw [if_pos hz]
          rcases q1.fetch_err (q2 hz) (v1 n (frOf_none hf)) (by rw [v3]; exact hp) with e|e <;> omega
        · rw [if_neg hz]
          exact room_err3 hs.ok hs.over
    omega
  · have h9 := e5 hr
    have h8 := right_err h0 n
    refine ⟨by omega, ?_⟩
    unfold loadP
    rw [if_neg hr]
    exact h0
theorem save_not (hk : Ok s) (ho : Over s h) (h0 : s.err ≠ 120) (n : Int) (t : Bytes) : (saveP s h n t).1 ≠ 120 ∧ (saveP s h n t).2.1.err ≠ 120 := by
  have h8 := right_err h0 n
  have h7 := room_err3 hk ho
  have h6 := room_stays s h
  unfold saveP
  split
  · split
    · split
      · exact ⟨by dsimp only; omega, h0⟩
      · dsimp only
        have h5 : (roomP s h).2.1.err ≠ 120 := by rcases h6 with e|e <;> omega
        split
        · exact ⟨by dsimp only; omega, h5⟩
        · exact ⟨by omega, h5⟩
    · exact ⟨by dsimp only; omega, h0⟩
  · exact ⟨h8, h0⟩
theorem flushL_not : ∀ (l : List Int) (s : PS) (h : HS), Ok s → Over s h → s.err ≠ 120 → (flushL l s h).1 ≠ 120 ∧ (flushL l s h).2.1.err ≠ 120
  | [], s, h, _, _, h0 => ⟨by unfold flushL; dsimp only; omega, h0⟩
  | n :: r, s, h, hk, ho, h0 => by
    unfold flushL
    split
    · rename_i hc
      have hn : n ∈ numbers s := by
        by_cases hh : n ∈ numbers s
        · exact hh
        · rw [changed_no hh] at hc; cases hc
      have := write_err3 hk ho hn
      dsimp only
      by_cases hz : (writeP s h n).1 = 0
      · rw [if_pos hz]
        obtain ⟨_, _, e⟩ := writeP_zero hz
        exact flushL_not r _ _ (ok_write hk n) ((near_write s h n).over ho) (by rw [e]; exact h0)
      · rw [if_neg hz, (writeP_errs s h n hz).2]
        exact ⟨by omega, by show (writeP s h n).1 ≠ 120; omega⟩
    · exact flushL_not r s h hk ho h0
theorem flush_not (hk : Ok s) (ho : Over s h) (h0 : s.err ≠ 120) : (flushP s h).1 ≠ 120 ∧ (flushP s h).2.1.err ≠ 120 := by
  unfold flushP
  split
  · exact flushL_not _ s h hk ho h0
  · exact ⟨h0, h0⟩
end
end Go.Sl.PagerS

/- trystlaw13: PagerSpoilt, walked. -/
set_option maxHeartbeats 4000000
set_option maxRecDepth 10000
set_option linter.unusedVariables false
set_option linter.unusedSimpArgs false
namespace Go.Sl
open Go Go.Proofs
attribute [local irreducible] cl pt own old pur ex all den denOps denS xOps xC cX CX xthen xblk xcut xloop xgo xng retX resX Calls PV Rd Con
attribute [local irreducible] hostA pgA PagerS.loadP PagerS.saveP PagerS.flushP pcs playP
attribute [local irreducible] ocells
open PagerS (PS Over)
/-- The answers of a life whose reads are spoilt beside those of one without: alike, then 120. -/
def fineL (d : Bool) : List Int → List Int → Prop
  | a :: as_, b :: bs => ((d || decide (a = 120)) = true → a = 120) ∧ ((d || decide (a = 120)) = false → a = b) ∧ fineL (d || decide (a = 120)) as_ bs
  | [], [] => True
  | _, _ => False
def deadL (d : Bool) (l : List Int) : Bool := d || l.any fun a => decide (a = 120)
theorem deadL_cons (d : Bool) (a : Int) (l : List Int) : deadL d (a :: l) = deadL (d || decide (a = 120)) l := by unfold deadL; rw [List.any_cons, Bool.or_assoc]
theorem fineL_len : ∀ (d : Bool) (a b : List Int), fineL d a b → a.length = b.length
  | _, [], [], _ => rfl
  | d, x :: a, y :: b, h => by rw [List.length_cons, List.length_cons, fineL_len _ a b h.2.2]
  | _, [], _ :: _, h => h.elim
  | _, _ :: _, [], h => h.elim
theorem playP_cons (by_ : Byte) (o : OpV) (l : List OpV) (i : Nat) (s : PS) (h : HostS.HS) : playP by_ (o :: l) i s h = ((stepP by_ i o s h).1 ++ (playP by_ l (i + 1) (stepP by_ i o s h).2.1 (stepP by_ i o s h).2.2).1, (playP by_ l (i + 1) (stepP by_ i o s h).2.1 (stepP by_ i o s h).2.2).2) := by with_unfolding_all rfl
theorem playP_nil (by_ : Byte) (i : Nat) (s : PS) (h : HostS.HS) : playP by_ [] i s h = ([], s, h) := by with_unfolding_all rfl
theorem grew_step (by_ : Byte) (i : Nat) (o : OpV) (s : PS) (h : HostS.HS) : PagerS.Grew h (stepP by_ i o s h).2.2 := by
  unfold stepP
  split
  · exact PagerS.grew_load s h _
  · split
    · exact PagerS.grew_save s h _ _
    · split
      · exact PagerS.grew_flush s h
      · exact PagerS.Grew.refl h
theorem grew_play (by_ : Byte) : ∀ (l : List OpV) (i : Nat) (s : PS) (h : HostS.HS), PagerS.Grew h (playP by_ l i s h).2.2
  | [], i, s, h => by rw [playP_nil]; exact PagerS.Grew.refl h
  | o :: l, i, s, h => by rw [playP_cons]; exact (grew_step by_ i o s h).trans (grew_play by_ l _ _ _)
/-- A dead one answers 120. -/
theorem play_dead (by1 by2 : Byte) : ∀ (l : List OpV) (i : Nat) {s t : PS} {h g : HostS.HS}, s.err = 120 → fineL true (playP by1 l i s h).1 (playP by2 l i t g).1 ∧ (playP by1 l i s h).2 = (s, h)
  | [], i, s, t, h, g, h0 => by rw [playP_nil, playP_nil]; exact ⟨trivial, rfl⟩
  | o :: l, i, s, t, h, g, h0 => by
    have hn : s.err ≠ 0 := by omega
    rw [playP_cons, playP_cons]
    have e1 : (stepP by1 i o s h).2 = (s, h) ∧ (((stepP by1 i o s h).1 = [120] ∧ ∃ b, (stepP by2 i o t g).1 = [b]) ∨ ((stepP by1 i o s h).1 = [] ∧ (stepP by2 i o t g).1 = [])) := by
      unfold stepP
      split
      · rw [PagerS.load_dead hn, h0]; exact ⟨rfl, .inl ⟨rfl, _, rfl⟩⟩
      · split
        · rw [PagerS.save_dead hn, h0]; exact ⟨rfl, .inl ⟨rfl, _, rfl⟩⟩
        · split
          · rw [PagerS.flush_dead hn, h0]; exact ⟨rfl, .inl ⟨rfl, _, rfl⟩⟩
          · exact ⟨rfl, .inr ⟨rfl, rfl⟩⟩
    obtain ⟨e2, e3⟩ := e1
    have ih := play_dead by1 by2 l (i + 1) (s := s) (t := (stepP by2 i o t g).2.1) (h := h) (g := (stepP by2 i o t g).2.2) h0
    rw [e2]
    rcases e3 with ⟨e4, b, e5⟩|⟨e4, e5⟩
    · rw [e4, e5]
      exact ⟨⟨fun _ => rfl, fun hh => (by simp at hh), by simpa using ih.1⟩, ih.2⟩
    · rw [e4, e5]
      exact ⟨by simpa using ih.1, ih.2⟩
theorem step_spoilt (by_ : Byte) (i : Nat) (o : OpV) {s t : PS} {h g : HostS.HS} {b : Int → List Byte} (r : PagerS.SRel s t) (q : PagerS.HRel h g) (k : PagerS.LOk s h) (ht : PagerS.Sound t g b) (h0 : t.err ≠ 120) :
    ((stepP by_ i o s h).1 = (stepP by_ i o t g).1 ∧ (∀ a ∈ (stepP by_ i o s h).1, a ≠ 120) ∧ PagerS.SRel (stepP by_ i o s h).2.1 (stepP by_ i o t g).2.1 ∧ PagerS.HRel (stepP by_ i o s h).2.2 (stepP by_ i o t g).2.2 ∧ PagerS.LOk (stepP by_ i o s h).2.1 (stepP by_ i o s h).2.2 ∧ (∃ b, PagerS.Sound (stepP by_ i o t g).2.1 (stepP by_ i o t g).2.2 b) ∧ (stepP by_ i o t g).2.1.err ≠ 120) ∨
    ((stepP by_ i o s h).1 = [120] ∧ (∃ b, (stepP by_ i o t g).1 = [b]) ∧ (stepP by_ i o s h).2.1.err = 120 ∧ (stepP by_ i o s h).2.2.log = (stepP by_ i o t g).2.2.log) := by
  unfold stepP
  split
  · obtain ⟨n1, n2⟩ := PagerS.load_not ht h0 o.page_
    obtain ⟨_, _, c, _⟩ := ht.load o.page_
    rcases PagerS.load_rel r q k.ok ht k.over o.page_ with ⟨e1, e2, e3⟩|⟨_, e1, e2, e3, e4⟩
    · refine .inl ⟨by rw [e1], ?_, e2, e3, k.load o.page_, ⟨_, c⟩, n2⟩
      intro a ha
      rw [List.mem_singleton] at ha
      rw [ha, e1]; omega
    · exact .inr ⟨by rw [e1]; rfl, ⟨_, rfl⟩, e2, e4⟩
  · split
    · obtain ⟨n1, n2⟩ := PagerS.save_not (h := g) ht.ok ht.over h0 o.page_ (ptext by_ i o.text_ t.text t.text)
      obtain ⟨e1, e2, e3⟩ := PagerS.save_rel (x := ptext by_ i o.text_ s.text s.text) (y := ptext by_ i o.text_ t.text t.text) r q k.ok ht.ok k.over ht.over o.page_ (by rw [ptext_len, ptext_len, r.text])
      refine .inl ⟨by rw [e1], ?_, e2, e3, k.save o.page_ _, ⟨_, (ht.save o.page_ _).1⟩, n2⟩
      intro a ha
      rw [List.mem_singleton] at ha
      rw [ha, e1]; omega
    · split
      · obtain ⟨n1, n2⟩ := PagerS.flush_not (h := g) ht.ok ht.over h0
        obtain ⟨e1, e2, e3⟩ := PagerS.flush_rel r q k.ok ht.ok k.over ht.over
        refine .inl ⟨by rw [e1], ?_, e2, e3, k.flush, ⟨_, ht.flush.1⟩, n2⟩
        intro a ha
        rw [List.mem_singleton] at ha
        rw [ha, e1]; omega
      · exact .inl ⟨rfl, fun a ha => (by cases ha), r, q, k, ⟨_, ht⟩, h0⟩
theorem step_one (by_ : Byte) (i : Nat) (o : OpV) (s : PS) (h : HostS.HS) : (stepP by_ i o s h).1 = [] ∨ ∃ a, (stepP by_ i o s h).1 = [a] := by
  unfold stepP
  split
  · exact .inr ⟨_, rfl⟩
  · split
    · exact .inr ⟨_, rfl⟩
    · split
      · exact .inr ⟨_, rfl⟩
      · exact .inl rfl
theorem play_spoilt (by_ : Byte) : ∀ (l : List OpV) (i : Nat) {s t : PS} {h g : HostS.HS} {b : Int → List Byte}, PagerS.SRel s t → PagerS.HRel h g → PagerS.LOk s h → PagerS.Sound t g b → t.err ≠ 120 →
    fineL false (playP by_ l i s h).1 (playP by_ l i t g).1 ∧ deadL false (playP by_ l i s h).1 = decide ((playP by_ l i s h).2.1.err = 120) ∧ (deadL false (playP by_ l i s h).1 = false → (playP by_ l i s h).2.2.log = (playP by_ l i t g).2.2.log) ∧ PagerS.Grew (playP by_ l i s h).2.2 (playP by_ l i t g).2.2
  | [], i, s, t, h, g, b, r, q, k, ht, h0 => by
    rw [playP_nil, playP_nil]
    have : ¬ s.err = 120 := by rw [r.err]; exact h0
    exact ⟨trivial, by rw [decide_eq_false this]; rfl, fun _ => q.log, ⟨[], by simp [q.log]⟩⟩
  | o :: l, i, s, t, h, g, b, r, q, k, ht, h0 => by
    rw [playP_cons, playP_cons]
    rcases step_spoilt by_ i o r q k ht h0 with ⟨e1, e2, e3, e4, e5, ⟨_, e6⟩, e7⟩|⟨e1, ⟨b2, e2⟩, e3, e4⟩
    · have ih := play_spoilt by_ l (i + 1) e3 e4 e5 e6 e7
      rw [← e1]
      rcases step_one by_ i o s h with e|⟨a, e⟩
      · rw [e]
        exact ih
      · rw [e] at e2 ⊢
        have ha : ¬ a = 120 := e2 a (List.mem_cons_self ..)
        have hd : (false || decide (a = 120)) = false := by rw [decide_eq_false ha]; rfl
        obtain ⟨i1, i2, i3, i4⟩ := ih
        refine ⟨?_, ?_, ?_, i4⟩
        · show fineL false (a :: _) (a :: _)
          unfold fineL
          rw [hd]
          exact ⟨fun hh => (by cases hh), fun _ => rfl, i1⟩
        · show deadL false (a :: _) = _
          rw [deadL_cons, hd]; exact i2
        · intro hh
          have hh : deadL false (a :: (playP by_ l (i + 1) (stepP by_ i o s h).2.1 (stepP by_ i o s h).2.2).1) = false := hh
          rw [deadL_cons, hd] at hh
          exact i3 hh
    · obtain ⟨d1, d2⟩ := play_dead by_ by_ l (i + 1) (s := (stepP by_ i o s h).2.1) (t := (stepP by_ i o t g).2.1) (h := (stepP by_ i o s h).2.2) (g := (stepP by_ i o t g).2.2) e3
      rw [e1, e2]
      have hd : deadL false ([(120 : Int)] ++ (playP by_ l (i + 1) (stepP by_ i o s h).2.1 (stepP by_ i o s h).2.2).1) = true := by
        show deadL false ((120 : Int) :: _) = true
        rw [deadL_cons]; unfold deadL; simp
      refine ⟨?_, ?_, ?_, ?_⟩
      · show fineL false ((120 : Int) :: _) (b2 :: _)
        unfold fineL
        exact ⟨fun _ => rfl, fun hh => (by simp at hh), by simpa using d1⟩
      · dsimp only
        rw [hd, d2, decide_eq_true e3]
      · dsimp only
        rw [hd]
        intro hh; cases hh
      · dsimp only
        rw [d2]
        obtain ⟨m, hm⟩ := grew_play by_ l (i + 1) (stepP by_ i o t g).2.1 (stepP by_ i o t g).2.2
        exact ⟨m, by rw [hm]; dsimp only; rw [e4]⟩
theorem fineL_at {d : Bool} {a b : List Int} {i : Nat} (h : fineL d (a.drop i) (b.drop i)) (hi : i < a.length) (hj : i < b.length) : ((d || decide (a[i] = 120)) = true → a[i] = 120) ∧ ((d || decide (a[i] = 120)) = false → a[i] = b[i]) ∧ fineL (d || decide (a[i] = 120)) (a.drop (i + 1)) (b.drop (i + 1)) := by
  rw [List.drop_eq_getElem_cons hi, List.drop_eq_getElem_cons hj] at h
  exact h
theorem deadL_take (l : List Int) {i : Nat} (hi : i < l.length) : deadL false (l.take (i + 1)) = (deadL false (l.take i) || decide (l[i] = 120)) := by
  unfold deadL
  rw [List.take_succ_eq_append_getElem hi, List.any_append]
  simp
theorem hrel_noF {x : PLifeV} (h : ∀ f ∈ x.faults_, f.kind_ < 3) : PagerS.HRel (hs0 x) (hs0 (noF x)) := by
  refine ⟨rfl, rfl, rfl, rfl, rfl, fun k => ?_⟩
  have key : ∀ f ∈ HostS.comes (flts x) k, f.kind < 3 := fun f hf => by
    obtain ⟨y, hy, rfl⟩ := List.mem_map.1 (List.mem_filter.1 hf).1
    exact h y hy
  constructor
  · show HostS.before (HostS.comes (flts x) k) = HostS.before (HostS.comes [] k)
    have : HostS.before (HostS.comes (flts x) k) = false := by
      unfold HostS.before
      rw [List.any_eq_false]
      intro f hf
      have := key f hf
      simp; omega
    rw [this]; rfl
  · show HostS.behind (HostS.comes (flts x) k) = HostS.behind (HostS.comes [] k)
    have : HostS.behind (HostS.comes (flts x) k) = false := by
      unfold HostS.behind
      rw [List.any_eq_false]
      intro f hf
      have := key f hf
      simp; omega
    rw [this]; rfl
theorem made_noF {x : PLifeV} (h : Made x) : Made (noF x) := ⟨⟨h.1.1, rfl⟩, h.2⟩
attribute [local irreducible] deadL fineL
section
variable {L : List Asrt} {x : PLifeV}
theorem spoilt_x (hi : PIn L x) : Con Tryz.prog 5 [.agg (pcs x)] L (fun r M => r = .bool true ∧ L = M) := by
  have hfl := hi.flt.len
  have hflr := hi.flt.rd
  have hfll : x.faults_.length = (flts x).length := by unfold flts; rw [List.length_map]
  refine Con.get (fun w0 w F H => hflr.len H) ?_
  rintro ⟨fa, fc, hfv⟩
  refine Con.get (fun w0 w F H => hi.ops.rd.len H) ?_
  rintro ⟨sa, sc, hsv⟩
  refine fn_x Tryz.func5 rfl rfl rfl Tryz.mixed (by kernel_rfl) ?_
  intro w0
  refine Y1 ?_
  refine Zh5 rfl ?_; intro b1
  refine V5 ?_
  refine Zgo [(3, 3), (17, 31)] (by kernel_rfl) (fun z : Nat × Bool => z.1 ≤ x.faults_.length ∧ (z.2 = false → ∀ f ∈ x.faults_.take z.1, f.kind_ < 3)) (fun z => cl b1 (pcs (nil1 z.2 x)) 58 :: L) (fun z => [(3, nvv z.1)]) (fun z => x.faults_.length - z.1) (0, false) ⟨Nat.zero_le _, fun _ f hf => (by simp at hf)⟩ qI ⟨rfl, trivial⟩ ?_
  rintro ⟨i, b⟩ u ⟨hil, hkd⟩
  dsimp only at hil hkd ⊢
  have hiy := pin_nil1 (b := b) hi
  have hky := hiy.key
  have hlen := pcs_len hky
  by_cases hB : i < x.faults_.length ∧ b = false
  · obtain ⟨hB, rfl⟩ := hB
    have hflt := pcs_faults hi.key
    rw [hfv] at hflt
    simp only [nil1, cond_false] at hlen ⊢
    have hlen2 := pcs_len hi.key
    have h36 : 36 < (pcs x).size := by omega
    have hB2 : i < (flts x).length := by omega
    rw [hfv] at hflr
    refine Zgt (fun F w H => (hflr.imp (Imp.arr (M := _) qV)).someAt (by omega) H) ?_
    rintro ⟨f1, f2, rfl⟩
    refine Y3 ?_
    refine Zhp rfl qH (hflt) ?_
    refine Y2 ?_
    refine Zhm 21 rfl (decide_eq_true (hB2)) ?_
    refine V2 ?_
    have hfi : (flts x)[i] = pF x.faults_[i] := by simp [flts]
    by_cases h3 : x.faults_[i].kind_ < 3
    · refine Y2 ?_
      refine Zhp rfl qH (hflt) ?_
      refine Y3 ?_
      refine Zff rfl (((hflr.imp qI).atN fcells_len hB2 (j := 1) (by omega) rfl)) ?_
      refine Zhg (Zbq (b := 3) rfl rfl) ?_
      refine Zhn 30 rfl (decide_eq_false ((by rw [hfi]; show ¬ x.faults_[i].kind_ ≥ 3; omega))) ?_
      refine V7 ?_
      refine Zgl (i + 1, false) qO ⟨by dsimp only; omega, fun _ f hf => ?_⟩ qI ⟨rfl, trivial⟩
      dsimp only at hf
      rw [List.take_succ_eq_append_getElem hB, List.mem_append, List.mem_singleton] at hf
      rcases hf with hf|rfl
      · exact hkd rfl f hf
      · exact h3
    · refine Y2 ?_
      refine Zhp rfl qH (hflt) ?_
      refine Y3 ?_
      refine Zff rfl (((hflr.imp qI).atN fcells_len hB2 (j := 1) (by omega) rfl)) ?_
      refine Zhg (Zbq (b := 3) rfl rfl) ?_
      refine Zhm 30 rfl (decide_eq_true ((by rw [hfi]; show x.faults_[i].kind_ ≥ 3; omega))) ?_
      refine Y4 ?_
      refine Zhw rfl rfl qR h36 (pcs_noF hi.key) ?_
      refine V6 ?_
      exact Zgl (i + 1, true) qO ⟨by dsimp only; omega, fun hh => (by cases hh)⟩ qI ⟨rfl, trivial⟩
  · have hy3 : ∀ f ∈ (nil1 b x).faults_, f.kind_ < 3 := by
      cases b with
      | true => intro f hf; cases hf
      | false =>
        have : i = x.faults_.length := by
          have : ¬ i < x.faults_.length := fun hh => hB ⟨hh, rfl⟩
          omega
        subst this
        rw [List.take_length] at hkd
        exact hkd rfl
    have hsvy : (nil1 b x).script_V = .slice sa x.script_.length sc := by cases b <;> exact hsv
    have hfvy : ∃ a n c, (nil1 b x).faults_V = .slice a n c ∧ ¬ i < n := by
      cases b with
      | true => exact ⟨none, 0, 0, rfl, by omega⟩
      | false => exact ⟨fa, (flts x).length, fc, hfv, fun hh => hB ⟨by omega, rfl⟩⟩
    generalize nil1 b x = y at *
    obtain ⟨ya, yn, yc, hyv, hyn⟩ := hfvy
    have hone := pcs_one hyv hsvy
    have hflt := pcs_faults hky
    rw [hyv] at hflt
    refine Y3 ?_
    refine Zhp rfl qH (hflt) ?_
    refine Y2 ?_
    refine Zhn 21 rfl (decide_eq_false (hyn)) ?_
    refine V2 ?_
    have hiy2 := pin_noF hiy
    have hlen2 := pcs_len hiy2.key
    have h36 : 36 < (pcs y).size := by omega
    by_cases hm : Made y
    · have hm2 := made_noF hm
      obtain ⟨m1, m2, m3, m4, m5, m6, m7⟩ := made_facts hky hm
      obtain ⟨n1, n2, n3, _⟩ := made_facts hiy2.key hm2
      have hsd : PagerS.Sound (ps0 (noF y)) (hs0 (noF y)) _ := PagerS.sound_fresh n1 rfl n2.size (mild_of (x := noF y) fun f hf => (by cases hf))
      have hlk : PagerS.LOk (ps0 y) (hs0 y) := ⟨m1, m2, PagerS.rows_fresh _ _ _⟩
      obtain ⟨r1, r2, r3, r4⟩ := play_spoilt 3#8 y.script_ 0 (s := ps0 y) (t := ps0 (noF y)) (h := hs0 y) (g := hs0 (noF y)) ⟨rfl, rfl, rfl, rfl, rfl, rfl, rfl, rfl, rfl⟩ (hrel_noF hy3) hlk hsd (show (0 : Nat) ≠ 120 by omega)
      have hhi : PagerS.HI (ps0 y) (hs0 y) := PagerS.hi_fresh rfl m2
      have hhi2 : PagerS.HI (ps0 (noF y)) (hs0 (noF y)) := PagerS.hi_fresh rfl n2
      refine Y2 ?_
      refine Zh8 rfl (by kernel_rfl) (made_ok hiy hm) rfl qT ?_
      rintro _ _ ⟨ph, p, rfl, rfl⟩
      refine Y11 ?_
      refine Zhz (cs := #[.int .i64 0, .int .i64 0, .int .i64 0, u8b 0#8, u8b 0#8, u8b 0#8, u8b 0#8, u8b 0#8, u8b 0#8, u8b 0#8, u8b 0#8, u8b 0#8, u8b 0#8, u8b 0#8, u8b 0#8, u8b 0#8, u8b 0#8, u8b 0#8, u8b 0#8, u8b 0#8, u8b 0#8, u8b 0#8, u8b 0#8, u8b 0#8, u8b 0#8, u8b 0#8, u8b 0#8, u8b 0#8, u8b 0#8, u8b 0#8, u8b 0#8, u8b 0#8, u8b 0#8, u8b 0#8, u8b 0#8, u64b 0#64, .slice none 0 0, .slice none 0 0]) rfl ?_; intro b7
      first|refine Zhy rfl rfl qR qZ (by first|rfl|exact oneM_u8 _|exact oneL_u8 _|assumption|(simp [oneC]; done)) qZ ?_|refine Zhx rfl rfl qR qZ (by first|rfl|exact oneM_u8 _|exact oneL_u8 _|assumption|(simp [oneC]; done)) qZ rfl ?_
      refine Y3 ?_
      refine Zhw rfl rfl qR h36 (pcs_noF hky) ?_
      refine Y3 ?_
      refine Zh8 rfl (by kernel_rfl) (made_ok hiy2 hm2) rfl qT ?_
      rintro _ _ ⟨qh, q, rfl, rfl⟩
      refine Y11 ?_
      refine Zhg (Zb0 rfl) ?_
      refine Zhn 47 rfl (rfl) ?_
      refine Y2 ?_
      first|refine Y0 ?_|(refine Zhh rfl ?_; (refine Zhg (Zb0 rfl) ?_))
      refine Zhn 50 rfl (rfl) ?_
      refine Y6 ?_
      refine Zh8 rfl (by kernel_rfl) (play_x hiy m1 m2 m3 hhi 3#8) rfl qT ?_
      rintro _ _ ⟨oa, oc, rfl, rfl, i1, i2⟩
      refine Y6 ?_
      refine Zh8 rfl (by kernel_rfl) (play_x hiy2 n1 n2 n3 hhi2 3#8) rfl qT ?_
      rintro _ _ ⟨oa2, oc2, rfl, rfl, i3, i4⟩
      refine V3 ?_
      have hsw : (noF y).script_ = y.script_ := rfl
      rw [hsw] at i3 i4
      rw [hsw]
      refine Zgt (fun F w H => pg_ok (p := p) (ph := ph) qH H) ?_
      intro hk1
      refine Zgt (fun F w H => pg_ok (p := q) (ph := qh) qH H) ?_
      intro hk2
      refine Zgt (fun F w H => host_ok (p := ph) qH H) ?_
      intro hho
      refine Zgt (fun F w H => host_ok (p := qh) qH H) ?_
      intro hho2
      have hol := play_len 3#8 y.script_ 0 (ps0 y) (hs0 y)
      have hol2 := play_len 3#8 y.script_ 0 (ps0 (noF y)) (hs0 (noF y))
      have hysl := hiy.ops.len
      have hp1 := Nat.le_trans (PagerS.pot_ops _ _) i2
      have hp2 := Nat.le_trans (PagerS.pot_ops _ _) i4
      obtain ⟨ol2, ho2⟩ := sub_of (hi_tok i3 hk2)
      have hll := hho.log
      have hll2 := hho2.log
      generalize (playP 3#8 y.script_ 0 (ps0 y) (hs0 y)).1 = outs at *
      generalize (playP 3#8 y.script_ 0 (ps0 y) (hs0 y)).2.1 = s1 at *
      generalize (playP 3#8 y.script_ 0 (ps0 y) (hs0 y)).2.2 = h1 at *
      generalize (playP 3#8 y.script_ 0 (ps0 (noF y)) (hs0 (noF y))).1 = outs2 at *
      generalize (playP 3#8 y.script_ 0 (ps0 (noF y)) (hs0 (noF y))).2.1 = t1 at *
      generalize (playP 3#8 y.script_ 0 (ps0 (noF y)) (hs0 (noF y))).2.2 = g1 at *
      obtain ⟨rest, hg⟩ := r4
      have hlm : h1.log.length ≤ g1.log.length := by rw [hg, List.length_append]; omega
      have hlo := fineL_len _ _ _ r1
      have htk : h1.log = (ol2.take h1.log.length).map (·.1) := by
        rw [List.map_take, ← ho2, hg, List.take_left]
      have hoc : h1.log.flatMap tcells = (ol2.take h1.log.length).flatMap ocells := by
        conv => lhs; rw [htk]
        rw [List.flatMap_map]; with_unfolding_all rfl
      have hoc2 : g1.log.flatMap tcells = ol2.flatMap ocells := by rw [ho2, List.flatMap_map]; with_unfolding_all rfl
      have holl : g1.log.length = ol2.length := by rw [ho2, List.length_map]
      have htl : (ol2.take h1.log.length).length = h1.log.length := by rw [List.length_take]; omega
      have hfl15 : (ol2.flatMap ocells).take (h1.log.length * 15) = (ol2.take h1.log.length).flatMap ocells := by
        conv => lhs; rw [← List.take_append_drop h1.log.length ol2]
        rw [List.flatMap_append, List.take_left' (by rw [List.length_flatMap]; simp only [ocells_len, List.map_const', List.sum_replicate_nat, htl])]
      have ho1 : h1.ops ≤ 3518437208880 := by omega
      have ho2' : g1.ops ≤ 3518437208880 := by omega
      have hb1 : h1.log.length ≤ 9000000000000 := by omega
      have hb2 : g1.log.length ≤ 9000000000000 := by omega
      have hb3 : outs.length ≤ 9000000000000 := by omega
      clear m1 m2 m3 m4 m5 m6 m7 n1 n2 n3 hsd hlk hhi hhi2 i1 i2 i3 i4 hk1 hk2 hho hho2 hp1 hp2 hll hll2 hysl hol hol2 h36 hflt hyn hil hkd hB hfl hfll hlen hlen2
      refine Y2 ?_
      refine Zh8 rfl (by kernel_rfl) (log_x (p := ph) (s := h1) (by omega)) rfl qT ?_
      rintro _ _ ⟨l1, c1, rfl, rfl⟩
      refine Y5 ?_
      refine Zh8 rfl (by kernel_rfl) (log_x (p := qh) (s := g1) (by omega)) rfl qT ?_
      rintro _ _ ⟨l2, c2, rfl, rfl⟩
      refine V3 ?_
      refine Zgt (fun F w H => own_cap (E := 65) (size := 15) (a := l2) (n := g1.log.length) (c := c2) qH H) ?_
      rintro ⟨hc2, hc2m⟩
      have hrd2 : ∀ {M M' : List Asrt}, Has M (ownLog l2 c2 g1.log) M' → Rd M 15 (.slice l2 h1.log.length c2) (ol2.take h1.log.length).length ((ol2.take h1.log.length).flatMap ocells) := fun hh => by
        have a1 := (Imp.has hh).trans (own_takeN (E := 65) (sz := 15) (m := h1.log.length) (n := g1.log.length) (xs := g1.log.flatMap tcells) (a := l2) (c := c2) hlm)
        rw [hoc2, hfl15] at a1
        rw [htl]
        exact (Rd.own (.here)).imp a1
      refine Y5 ?_
      refine Zhg (Zmh (a := h1.log.length) (b := g1.log.length) rfl rfl) ?_
      refine Zhn 74 rfl (decide_eq_false ((by omega))) ?_
      refine Y5 ?_
      first|refine Y0 ?_|(refine Zhh rfl ?_; (refine Zhg (Zm8 (h := h1.log.length) rfl rfl (by omega)) ?_))
      first|refine Y0 ?_|(refine Zhh rfl ?_; (refine Zh8 rfl (by kernel_rfl) (sameLog13_x (L := [ownLog l1 c1 h1.log, ownLog l2 c2 g1.log]) (a := ol2.take h1.log.length) (b := ol2.take h1.log.length) (by rw [htl, ← hoc]; exact Rd.own .here) (hrd2 (.there .here)) (by omega) (by omega)) rfl qT ?_); (rintro _ _ ⟨rfl, rfl⟩); (refine Zg2 qA ?_))
      refine Zhm 81 rfl (decide_eq_true (rfl)) ?_
      first|refine Y0 ?_|(refine Zhh rfl ?_; (refine Zhg (Zb0 rfl) ?_))
      refine Zhn 82 rfl (rfl) ?_
      refine Y6 ?_
      first|refine Y0 ?_|(refine Zhh rfl ?_; (refine Zhg (Zmk (a := outs.length) (b := outs2.length) rfl rfl) ?_))
      refine Zhn 89 rfl (decide_eq_false (fun hh => hh hlo)) ?_
      refine V3 ?_
      have hd0 : false = deadL false (outs.take 0) := by unfold deadL; simp
      refine V6 ?_
      refine Zgo [(2, 2), (15, 16), (91, 127)] (by kernel_rfl) (fun i : Nat => i ≤ outs.length ∧ fineL (deadL false (outs.take i)) (outs.drop i) (outs2.drop i)) (fun _ => ownI oa oc outs :: ownI oa2 oc2 outs2 :: pgA p ph s1 :: L) (fun i => [(16, nvv i), (15, .bool (deadL false (outs.take i)))]) (fun i => outs.length - i) 0 ⟨Nat.zero_le _, hd0 ▸ r1⟩ qI ⟨rfl, congrArg Value.bool hd0, trivial⟩ ?_
      rintro i u2 ⟨hil, hfn⟩
      refine V6 ?_
      refine Zgg rfl (fun hC => ?_) (fun hC => ?_)
      · have hC2 : i < outs2.length := by omega
        refine Zgt (fun F w H => own_someN (n := outs.length) (a := oa) qH (by omega) H) ?_
        rintro ⟨g, rfl⟩
        refine Zgt (fun F w H => own_someN (n := outs2.length) (a := oa2) qH (by omega) H) ?_
        rintro ⟨g2, rfl⟩
        obtain ⟨f1, f2, f3⟩ := fineL_at hfn hC hC2
        have hdt := deadL_take outs hC
        have hr1 : ∀ {M M' : List Asrt}, Has M (ownI (some ⟨g, 0, none⟩) oc outs) M' → RdAt M g i (.int .i64 outs[i]) := fun hh => (Rd.own hh : Rd _ 1 (.slice (some ⟨g, 0, none⟩) outs.length oc) outs.length (zv outs)).at0 hC (getM (f := Value.int .i64) hC)
        have hr2 : ∀ {M M' : List Asrt}, Has M (ownI (some ⟨g2, 0, none⟩) oc2 outs2) M' → RdAt M g2 i (.int .i64 outs2[i]) := fun hh => (Rd.own hh : Rd _ 1 (.slice (some ⟨g2, 0, none⟩) outs2.length oc2) outs2.length (zv outs2)).at0 hC2 (getM (f := Value.int .i64) hC2)
        rw [← hdt] at f1 f2 f3
        refine Ct.o ?_
        by_cases d0 : deadL false (outs.take i) = true
        · rw [d0, Bool.true_or] at hdt
          have hv := f1 hdt
          refine Y2 ?_
          refine Zhm 97 rfl (d0) ?_
          refine V9 ?_
          refine Zij ([ownI (some ⟨g, 0, none⟩) oc outs, ownI (some ⟨g2, 0, none⟩) oc2 outs2]) [19] (.q 0 (.q 1 (.q 2 (.q 3 (.q 4 (.r 5 (.q 6 (.q 7 (.q 8 (.q 9 (.q 10 (.q 11 (.q 12 (.q 13 (.q 14 (.q 16 (.q 17 (.q 18 (.r 15 (.r 19 (.q 20 (.q 21 (.q 22 .nil))))))))))))))))))))))) (by kernel_rfl) (by kernel_rfl) (Imp.arr qV) ?_
          refine W5 ?_
          first|refine Zi1 rfl rfl ?_|refine Zi2 rfl rfl ?_|refine Zfi rfl rfl rfl ((hr1 qH)) ?_
          first|refine Zio rfl rfl ?_|refine Zip rfl rfl ?_|refine Zin rfl rfl (Zbs (a := outs[i]) (b := 120) rfl rfl) ?_
          refine Zi6 111 rfl (decide_eq_false (fun hh => hh hv)) ?_
          refine W17 ?_
          refine V6 ?_
          exact Zgl (i + 1) qO ⟨by omega, f3⟩ qI ⟨rfl, congrArg Value.bool hdt.symm, trivial⟩
        · have d0 : deadL false (outs.take i) = false := by simpa using d0
          rw [d0, Bool.false_or] at hdt
          by_cases d1 : outs[i] = 120
          · rw [decide_eq_true d1] at hdt
            refine Y2 ?_
            refine Zhn 97 rfl (d0) ?_
            refine Y4 ?_
            first|refine Y0 ?_|(refine Zhh rfl ?_; (refine Zff rfl ((hr1 qH)) ?_))
            first|refine Y0 ?_|(refine Zhh rfl ?_; (refine Zhg (Zbr (a := outs[i]) (b := 120) rfl rfl) ?_))
            refine Zhm 103 rfl (decide_eq_true (d1)) ?_
            refine V3 ?_
            refine Zij ([ownI (some ⟨g, 0, none⟩) oc outs, ownI (some ⟨g2, 0, none⟩) oc2 outs2]) [19] (.q 0 (.q 1 (.q 2 (.q 3 (.q 4 (.r 5 (.q 6 (.q 7 (.q 8 (.q 9 (.q 10 (.q 11 (.q 12 (.q 13 (.q 14 (.q 16 (.q 17 (.q 18 (.r 15 (.r 19 (.q 20 (.q 21 (.q 22 .nil))))))))))))))))))))))) (by kernel_rfl) (by kernel_rfl) (Imp.arr qV) ?_
            refine W5 ?_
            first|refine Zi1 rfl rfl ?_|refine Zi2 rfl rfl ?_|refine Zfi rfl rfl rfl ((hr1 qH)) ?_
            first|refine Zio rfl rfl ?_|refine Zip rfl rfl ?_|refine Zin rfl rfl (Zbs (a := outs[i]) (b := 120) rfl rfl) ?_
            refine Zi6 111 rfl (decide_eq_false (fun hh => hh d1)) ?_
            refine W17 ?_
            refine V6 ?_
            exact Zgl (i + 1) qO ⟨by omega, f3⟩ qI ⟨rfl, congrArg Value.bool hdt.symm, trivial⟩
          · rw [decide_eq_false d1] at hdt
            have hv := f2 hdt
            refine Y2 ?_
            refine Zhn 97 rfl (d0) ?_
            refine Y4 ?_
            first|refine Y0 ?_|(refine Zhh rfl ?_; (refine Zff rfl ((hr1 qH)) ?_))
            first|refine Y0 ?_|(refine Zhh rfl ?_; (refine Zhg (Zbr (a := outs[i]) (b := 120) rfl rfl) ?_))
            refine Zhn 103 rfl (decide_eq_false (d1)) ?_
            refine V3 ?_
            refine Zij ([ownI (some ⟨g, 0, none⟩) oc outs, ownI (some ⟨g2, 0, none⟩) oc2 outs2]) [19] (.q 0 (.q 1 (.q 2 (.q 3 (.q 4 (.r 5 (.q 6 (.q 7 (.q 8 (.q 9 (.q 10 (.q 11 (.q 12 (.q 13 (.q 14 (.q 16 (.q 17 (.q 18 (.r 15 (.r 19 (.q 20 (.q 21 (.q 22 .nil))))))))))))))))))))))) (by kernel_rfl) (by kernel_rfl) (Imp.arr qV) ?_
            refine W10 ?_
            first|refine Zio rfl rfl ?_|refine Zip rfl rfl ?_|refine Zin rfl rfl (Zb0 rfl) ?_
            refine Zi5 115 rfl (rfl) ?_
            refine W7 ?_
            first|refine Zi1 rfl rfl ?_|refine Zi2 rfl rfl ?_|refine Zfi rfl rfl rfl ((hr1 qH)) ?_
            first|refine Zi1 rfl rfl ?_|refine Zi2 rfl rfl ?_|refine Zfi rfl rfl rfl ((hr2 qH)) ?_
            first|refine Zio rfl rfl ?_|refine Zip rfl rfl ?_|refine Zin rfl rfl (Zbs (a := outs[i]) (b := outs2[i]) rfl rfl) ?_
            refine Zi6 125 rfl (decide_eq_false (fun hh => hh hv)) ?_
            refine W3 ?_
            refine V6 ?_
            exact Zgl (i + 1) qO ⟨by omega, f3⟩ qI ⟨rfl, congrArg Value.bool hdt.symm, trivial⟩
      · have hie : i = outs.length := by omega
        subst hie
        rw [List.take_length] at hfn ⊢
        refine Ct.o ?_
        by_cases d0 : deadL false outs = true
        · have he : s1.err = 120 := of_decide_eq_true (r2 ▸ d0)
          refine Y2 ?_
          refine Zhm 128 rfl (d0) ?_
          refine Y1 ?_
          refine Zh8 rfl (by kernel_rfl) (err_p (p := p)) rfl qT ?_
          rintro _ _ ⟨rfl, rfl⟩
          refine Y1 ?_
          refine Zhg (Zmj (a := s1.err) (b := 120) rfl rfl) ?_
          refine Zhm 131 rfl (decide_eq_true (he)) ?_
          refine Y1 ?_
          refine Zhm 132 rfl (decide_eq_true (rfl)) ?_
          refine Y3 ?_
          refine Zhm 135 rfl (d0) ?_
          refine Y8 ?_
          first|refine Y0 ?_|(refine Zhh rfl ?_; (refine Zh8 rfl (by kernel_rfl) (plWorks_x) rfl qT ?_); (rintro _ _ ⟨rfl, rfl⟩); (refine Zg2 qA ?_))
          refine V3 ?_
          refine rx1 (Zha rfl (Zg7)) ?_
          exact ⟨_, ⟨rfl, rfl⟩, qI⟩
        · have d0 : deadL false outs = false := by simpa using d0
          have he : ¬ s1.err = 120 := of_decide_eq_false (r2 ▸ d0)
          have hlg := r3 d0
          refine Y2 ?_
          refine Zhn 128 rfl (d0) ?_
          refine Y1 ?_
          refine Zh8 rfl (by kernel_rfl) (err_p (p := p)) rfl qT ?_
          rintro _ _ ⟨rfl, rfl⟩
          refine Y1 ?_
          refine Zhg (Zmj (a := s1.err) (b := 120) rfl rfl) ?_
          refine Zhn 131 rfl (decide_eq_false (he)) ?_
          refine Y1 ?_
          refine Zhm 132 rfl (decide_eq_true (rfl)) ?_
          refine Y3 ?_
          refine Zhn 135 rfl (d0) ?_
          refine Y4 ?_
          first|refine Y0 ?_|(refine Zhh rfl ?_; (refine Zhg (Zmj (a := h1.log.length) (b := g1.log.length) rfl rfl) ?_))
          refine Zhm 140 rfl (decide_eq_true ((by rw [hlg]))) ?_
          refine Y3 ?_
          first|refine Y0 ?_|(refine Zhh rfl ?_; (refine Zh8 rfl (by kernel_rfl) (plWorks_x) rfl qT ?_); (rintro _ _ ⟨rfl, rfl⟩); (refine Zg2 qA ?_))
          refine V3 ?_
          refine rx1 (Zha rfl (Zg7)) ?_
          exact ⟨_, ⟨rfl, rfl⟩, qI⟩
    · refine Y2 ?_
      refine Zh8 rfl (by kernel_rfl) (made_no hiy hm) rfl qT ?_
      rintro _ _ ⟨hv, rfl, rfl⟩
      refine Y11 ?_
      refine Zhz (cs := #[.int .i64 0, .int .i64 0, .int .i64 0, u8b 0#8, u8b 0#8, u8b 0#8, u8b 0#8, u8b 0#8, u8b 0#8, u8b 0#8, u8b 0#8, u8b 0#8, u8b 0#8, u8b 0#8, u8b 0#8, u8b 0#8, u8b 0#8, u8b 0#8, u8b 0#8, u8b 0#8, u8b 0#8, u8b 0#8, u8b 0#8, u8b 0#8, u8b 0#8, u8b 0#8, u8b 0#8, u8b 0#8, u8b 0#8, u8b 0#8, u8b 0#8, u8b 0#8, u8b 0#8, u8b 0#8, u8b 0#8, u64b 0#64, .slice none 0 0, .slice none 0 0]) rfl ?_; intro b7
      first|refine Zhy rfl rfl qR qZ (by first|rfl|exact oneM_u8 _|exact oneL_u8 _|assumption|(simp [oneC]; done)) qZ ?_|refine Zhx rfl rfl qR qZ (by first|rfl|exact oneM_u8 _|exact oneL_u8 _|assumption|(simp [oneC]; done)) qZ rfl ?_
      refine Y3 ?_
      refine Zhw rfl rfl qR h36 (pcs_noF hky) ?_
      refine V1 ?_
      by_cases hm2 : Made (noF y)
      · refine Y2 ?_
        refine Zh8 rfl (by kernel_rfl) (made_ok hiy2 hm2) rfl qT ?_
        rintro _ _ ⟨qh, q, rfl, rfl⟩
        refine Y11 ?_
        refine Zhg (Zb0 rfl) ?_
        refine Zhm 47 rfl (rfl) ?_
        refine Y8 ?_
        refine Zhg (Zb0 rfl) ?_
        refine Zhm 53 rfl (rfl) ?_
        refine Y4 ?_
        first|refine Y0 ?_|(refine Zhh rfl ?_; (refine Zh8 rfl (by kernel_rfl) (plWorks_x) rfl qT ?_); (rintro _ _ ⟨rfl, rfl⟩); (refine Zg2 qA ?_))
        refine V3 ?_
        refine rx1 (Zha rfl (Zg7)) ?_
        exact ⟨_, ⟨rfl, rfl⟩, qI⟩
      · refine Y2 ?_
        refine Zh8 rfl (by kernel_rfl) (made_no hiy2 hm2) rfl qT ?_
        rintro _ _ ⟨hv2, rfl, rfl⟩
        refine Y11 ?_
        refine Zhg (Zb0 rfl) ?_
        refine Zhm 47 rfl (rfl) ?_
        refine Y8 ?_
        refine Zhg (Zb0 rfl) ?_
        refine Zhm 53 rfl (rfl) ?_
        refine Y4 ?_
        first|refine Y0 ?_|(refine Zhh rfl ?_; (refine Zh8 rfl (by kernel_rfl) (plWorks_x) rfl qT ?_); (rintro _ _ ⟨rfl, rfl⟩); (refine Zg2 qA ?_))
        refine V3 ?_
        refine rx1 (Zha rfl (Zg7)) ?_
        exact ⟨_, ⟨rfl, rfl⟩, qI⟩
theorem spoilt_w (W : World) (x : PLifeV) (ok : PLifeVOk W x) : Con Tryz.prog 5 [.agg x.cells.toArray] [old W] (fun r M => r = .bool true ∧ [old W] = M) := by
  have hh := spoilt_x (pin_of ok)
  unfold pcs at hh
  exact hh
end
end Go.Sl
