/- Parts of the proof, joined: PgrU, PgrX, OpenPg, PlA, PlB, PlW, PlC, PlD, PlG, RefD, RefPa, PlE, PlH, PlI. -/
import Derived.Test.YthodgeekgpkieaaGreatLawPagerKeepsM0
import Derived.Test.YthodgeekgpkieaaGreatLawPagerKeepsM1
import Derived.Test.YthodgeekgpkieaaGreatLawPagerKeepsM2
import Derived.Test.YthodgeekgpkieaaGreatLawPagerKeepsM3
import Derived.Test.YthodgeekgpkieaaGreatLawPagerKeepsM4
/- pager: how what a host saw begins. No program in sight. -/
set_option linter.unusedVariables false
set_option linter.unusedSimpArgs false
namespace Go.Sl.PagerS
open Go Go.Sl Go.Sl.HostS
attribute [local irreducible] pgSealB pgOpenR
def wrs (l : List HostS.Touch) : Nat := l.countP fun t => t.op == 1
/-- A touch behind others. -/
def Entry (r : BitVec 64) (pages : Int) (size : Nat) (was : List HostS.Touch) (t : HostS.Touch) : Prop :=
  t.len = size ∧ 0 ≤ t.page ∧ t.page < pages ∧ ((t.op = 0 ∧ t.head = List.replicate 12 0#8 ∧ ∃ u ∈ was, u.op = 1 ∧ u.page = t.page) ∨ (t.op = 1 ∧ t.head = leB r 8 ++ leB (BitVec.ofNat 32 (wrs was)) 4))
def Heads (r : BitVec 64) (pages : Int) (size : Nat) (l : List HostS.Touch) : Prop := ∀ i (hi : i < l.length), Entry r pages size (l.take i) l[i]
theorem Heads.snoc {r : BitVec 64} {pages : Int} {size : Nat} {l : List HostS.Touch} {t : HostS.Touch} (h : Heads r pages size l) (ht : Entry r pages size l t) : Heads r pages size (l ++ [t]) := by
  intro i hi
  by_cases e : i < l.length
  · rw [List.getElem_append_left e, List.take_append_of_le_length (Nat.le_of_lt e)]
    exact h i e
  · have e : i = l.length := by rw [List.length_append, List.length_singleton] at hi; omega
    subst e
    rw [List.getElem_append_right (Nat.le_refl _), List.take_left]
    simpa using ht
structure HI (s : PS) (h : HS) : Prop where
  heads : Heads s.round s.pages h.size h.log
  now : s.err = 0 → wrs h.log = s.writes
  then_ : wrs h.log = s.writes ∨ (wrs h.log = s.writes + 1 ∧ s.err = 110)
  last : ∀ n pl, s.last n = some pl → ∃ u ∈ h.log, u.op = 1 ∧ u.page = n
  over : Over s h
theorem does_log (h : HS) (op n : Int) (b : Bytes) (act : HS → HS) (ha : ∀ g, (act g).log = g.log) : ((does h op n b act).1.log = h.log ∧ (does h op n b act).2 = 110) ∨ ((does h op n b act).1.log = h.log ++ [touchOf h op n b] ∧ ((does h op n b act).2 = 0 ∨ (does h op n b act).2 = 110)) := by
  unfold does
  split
  · exact .inl ⟨rfl, rfl⟩
  · dsimp only
    split
    · exact .inl ⟨rfl, rfl⟩
    · split
      · exact .inr ⟨ha _, .inr rfl⟩
      · exact .inr ⟨ha _, .inl rfl⟩
theorem headOf_box (key : Bytes) (p : Plc) (t : Bytes) : headOf (pgSealB key p t) = headB p := by
  unfold headOf
  rw [pgSeal_head, pgSealB_len, show 12 - (t.length + 28) = 0 by omega]; simp
section
variable {s : PS} {h : HS}
theorem HI.there (hi : HI s h) {n : Int} (h0 : 0 ≤ n) (h1 : n < s.pages) : there h n := ⟨h0, by rw [hi.over.pages]; exact h1⟩
theorem box_len (hk : Ok s) {n : Int} (hn : n ∈ numbers s) : (boxOf s n).length = s.text + 28 ∧ 0 ≤ n ∧ n < s.pages := by
  obtain ⟨f, hf⟩ := frOf_of hn
  obtain ⟨f1, f2⟩ := frOf_mem hf
  have := hk.len f f1
  have hp := hk.there f f1
  refine ⟨?_, by omega, by omega⟩
  unfold boxOf textOf
  rw [pgSealB_len, hf]
  simp [this]
theorem HI.write (hi : HI s h) (hk : Ok s) (h0 : s.err = 0) {n : Int} (hn : n ∈ numbers s) : HI (writeP s h n).2.1 (writeP s h n).2.2 := by
  obtain ⟨b1, b2, b3⟩ := box_len hk hn
  have ht := hi.there b2 b3
  have hnow := hi.now h0
  have ho' := (near_write s h n).over hi.over
  have hw : writeR h n (boxOf s n) = ((does h 1 n (boxOf s n) (wrote n (boxOf s n))).2, (does h 1 n (boxOf s n) (wrote n (boxOf s n))).1) := by
    unfold writeR
    rw [if_pos ht, if_pos (b1.trans hi.over.size.symm)]
  have htouch : touchOf h 1 n (boxOf s n) = ⟨1, n, h.size, headB (nextPl s n)⟩ := by
    unfold touchOf
    rw [if_pos rfl]
    unfold boxOf
    rw [headOf_box]
  have hent : Entry s.round s.pages h.size h.log (touchOf h 1 n (boxOf s n)) := by
    rw [htouch]
    refine ⟨rfl, b2, b3, .inr ⟨rfl, ?_⟩⟩
    rw [hnow]; rfl
  have hlw : ∀ l, l = h.log ++ [touchOf h 1 n (boxOf s n)] → wrs l = wrs h.log + 1 := by
    intro l hl
    rw [hl, htouch]
    unfold wrs
    rw [List.countP_append]
    simp
  have hz : (writeP s h n).2.2.size = h.size := (near_write s h n).size
  have hlg := does_log h 1 n (boxOf s n) (wrote n (boxOf s n)) fun _ => rfl
  by_cases he : (writeP s h n).1 = 0
  · obtain ⟨hwn, hwz, e⟩ := writeP_zero he
    rw [hw] at hwz
    dsimp only at hwz
    have hl : (writeP s h n).2.2.log = h.log ++ [touchOf h 1 n (boxOf s n)] := by
      rw [e, hw]
      rcases hlg with ⟨_, hx⟩|⟨hx, _⟩
      · rw [hwz] at hx; cases hx
      · exact hx
    refine ⟨?_, ?_, ?_, ?_, ho'⟩
    · rw [hz, hl, e]; exact hi.heads.snoc hent
    · intro _; rw [hlw _ hl, hnow, e]; rfl
    · left; rw [hlw _ hl, hnow, e]; rfl
    · intro m pl hm
      rw [hl]
      by_cases em : m = n
      · exact ⟨touchOf h 1 n (boxOf s n), by simp, by rw [htouch], by rw [htouch, em]⟩
      · rw [e] at hm
        have : (wroteP s n).last m = s.last m := by unfold wroteP setF; simp [em]
        dsimp only at hm
        rw [this] at hm
        obtain ⟨u, u1, u2⟩ := hi.last m pl hm
        exact ⟨u, List.mem_append_left _ u1, u2⟩
  · obtain ⟨_, e⟩ := writeP_errs s h n he
    have hlast : ∀ L : List HostS.Touch, (∀ u ∈ h.log, u ∈ L) → ∀ m pl, (writeP s h n).2.1.last m = some pl → ∃ u ∈ L, u.op = 1 ∧ u.page = m := by
      intro L hL m pl hm
      rw [e] at hm
      obtain ⟨u, u1, u2⟩ := hi.last m pl hm
      exact ⟨u, hL u u1, u2⟩
    have hwr : (writeP s h n).2.1.writes = s.writes := by rw [e]; rfl
    have herr : (writeP s h n).2.1.err = (writeP s h n).1 := by rw [e]; rfl
    have hro : (writeP s h n).2.1.round = s.round ∧ (writeP s h n).2.1.pages = s.pages := by rw [e]; exact ⟨rfl, rfl⟩
    have hcase : ((writeP s h n).2.2.log = h.log) ∨ ((writeP s h n).2.2.log = h.log ++ [touchOf h 1 n (boxOf s n)] ∧ (writeP s h n).1 = 110) := by
      by_cases hwn : s.writes = 4294967295
      · left
        unfold writeP
        rw [if_pos hwn]
      · have e3 : writeP s h n = if (writeR h n (boxOf s n)).1 = 0 then (0, wroteP s n, (writeR h n (boxOf s n)).2) else ((writeR h n (boxOf s n)).1, die s (writeR h n (boxOf s n)).1, (writeR h n (boxOf s n)).2) := by
          unfold writeP
          rw [if_neg hwn]
        rw [e3] at he ⊢
        rw [hw] at he ⊢
        dsimp only at he ⊢
        split at he
        · exact absurd rfl he
        · rename_i hne
          rw [if_neg hne]
          rcases hlg with ⟨hx, _⟩|⟨hx, hy⟩
          · exact .inl hx
          · rcases hy with hy|hy
            · exact absurd hy hne
            · exact .inr ⟨hx, hy⟩
    rcases hcase with hl|⟨hl, h110⟩
    · refine ⟨by rw [hz, hl, hro.1, hro.2]; exact hi.heads, fun hh => absurd (herr ▸ hh) he, .inl (by rw [hl, hwr]; exact hnow), by rw [hl]; exact hlast _ fun _ h => h, ho'⟩
    · refine ⟨by rw [hz, hl, hro.1, hro.2]; exact hi.heads.snoc hent, fun hh => absurd (herr ▸ hh) he, .inr ⟨by rw [hlw _ hl, hwr, hnow], by rw [herr]; exact h110⟩, by rw [hl]; exact hlast _ fun _ h => List.mem_append_left _ h, ho'⟩
theorem HI.held (hi : HI s h) (l : List Fr) (m : Nat) : HI { s with held := l, most := m } h := ⟨hi.heads, hi.now, hi.then_, hi.last, ⟨hi.over.pages, hi.over.size⟩⟩
theorem HI.room (hi : HI s h) (hk : Ok s) (h0 : s.err = 0) : HI (roomP s h).2.1 (roomP s h).2.2 := by
  unfold roomP
  split
  · exact hi
  · dsimp only
    split
    · rename_i hc
      have hn : (s.held.head?.map Fr.page).getD 0 ∈ numbers s := by
        by_cases hh : (s.held.head?.map Fr.page).getD 0 ∈ numbers s
        · exact hh
        · rw [changed_no hh] at hc; cases hc
      have hw := hi.write hk h0 hn
      split
      · exact hw.held _ _
      · exact hw
    · exact hi.held _ _
theorem readR_log (h : HS) (n : Int) (ht : HostS.there h n) : (readR h n).2.2.log = h.log ∨ (readR h n).2.2.log = h.log ++ [⟨0, n, h.size, List.replicate 12 0#8⟩] := by
  have e : (readR h n).2.2 = (does h 0 n [] id).1 := by
    unfold readR
    rw [if_pos ht]
    dsimp only
    split <;> rfl
  rw [e]
  rcases does_log h 0 n [] id fun _ => rfl with ⟨hx, _⟩|⟨hx, _⟩
  · exact .inl hx
  · exact .inr hx
theorem HI.read (hi : HI s h) {n : Int} (h0 : 0 ≤ n) (h1 : n < s.pages) {pl : Plc} (hl : s.last n = some pl) : HI s (readR h n).2.2 := by
  have hs := readR_same h n
  have ho : Over s (readR h n).2.2 := ⟨hs.1.trans hi.over.pages, hs.2.trans hi.over.size⟩
  rcases readR_log h n (hi.there h0 h1) with e|e
  · exact ⟨by rw [e, hs.2]; exact hi.heads, by rw [e]; exact hi.now, by rw [e]; exact hi.then_, by rw [e]; exact hi.last, ho⟩
  · have hw : wrs (h.log ++ [⟨0, n, h.size, List.replicate 12 0#8⟩]) = wrs h.log := by unfold wrs; rw [List.countP_append]; simp
    refine ⟨?_, by rw [e, hw]; exact hi.now, by rw [e, hw]; exact hi.then_, ?_, ho⟩
    · rw [e, hs.2]
      exact hi.heads.snoc ⟨rfl, h0, h1, .inl ⟨rfl, rfl, hi.last n pl hl⟩⟩
    · intro m pl hm
      rw [e]
      obtain ⟨u, u1, u2⟩ := hi.last m pl hm
      exact ⟨u, List.mem_append_left _ u1, u2⟩
theorem HI.die (hi : HI s h) (h0 : s.err = 0) (e : Nat) : HI (die s e) h := by
  exact ⟨hi.heads, fun _ => hi.now h0, .inl (hi.now h0), hi.last, ⟨hi.over.pages, hi.over.size⟩⟩
theorem HI.use (hi : HI s h) (f : Fr) : HI (useP s f) h := hi.held _ _
theorem HI.fetch (hi : HI s h) (h0 : s.err = 0) {n : Int} (hp : 0 ≤ n ∧ n < s.pages) : HI (fetchP s h n).2.1 (fetchP s h n).2.2 := by
  unfold fetchP
  split
  · rename_i pl hl
    have hr := hi.read hp.1 hp.2 hl
    dsimp only
    split
    · split
      · exact hr.use _
      · exact hr.die h0 _
    · exact hr.die h0 _
  · exact hi.use _
theorem HI.load (hi : HI s h) (hk : Ok s) (n : Int) : HI (loadP s h n).2.1 (loadP s h n).2.2 := by
  unfold loadP
  split
  · rename_i hr
    obtain ⟨h0, hp⟩ := right_zero hr
    split
    · exact hi.use _
    · have a := hi.room hk h0
      dsimp only
      split
      · rename_i hz
        exact a.fetch (room_err hk h0 hz) (by rw [(near_room s h).spages]; exact hp)
      · exact a
  · exact hi
theorem HI.save (hi : HI s h) (hk : Ok s) (n : Int) (t : Bytes) : HI (saveP s h n t).2.1 (saveP s h n t).2.2 := by
  unfold saveP
  split
  · rename_i hr
    obtain ⟨h0, hp⟩ := right_zero hr
    split
    · split
      · exact hi.use _
      · have a := hi.room hk h0
        dsimp only
        split
        · exact a.use _
        · exact a
    · exact hi
  · exact hi
theorem HI.flushL : ∀ (l : List Int) (s : PS) (h : HS), HI s h → Ok s → s.err = 0 → HI (flushL l s h).2.1 (flushL l s h).2.2
  | [], s, h, hi, _, _ => hi
  | n :: r, s, h, hi, hk, h0 => by
    unfold PagerS.flushL
    split
    · rename_i hc
      have hn : n ∈ numbers s := by
        by_cases hh : n ∈ numbers s
        · exact hh
        · rw [changed_no hh] at hc; cases hc
      have a := hi.write hk h0 hn
      dsimp only
      split
      · rename_i hz
        obtain ⟨_, _, e⟩ := writeP_zero hz
        exact HI.flushL r _ _ a (ok_write hk n) (by rw [e]; exact h0)
      · exact a
    · exact HI.flushL r s h hi hk h0
theorem HI.flush (hi : HI s h) (hk : Ok s) : HI (flushP s h).2.1 (flushP s h).2.2 := by
  unfold flushP
  split
  · rename_i h0; exact HI.flushL _ s h hi hk h0
  · exact hi
end
end Go.Sl.PagerS

/- pager: two pagers that are asked alike are seen alike, whatever stands on their pages. No program in sight. -/
set_option linter.unusedVariables false
set_option linter.unusedSimpArgs false
namespace Go.Sl.PagerS
open Go Go.Sl Go.Sl.HostS
attribute [local irreducible] pgSealB pgOpenR
structure HRel (h g : HS) : Prop where
  pages : h.pages = g.pages
  size : h.size = g.size
  ops : h.ops = g.ops
  log : h.log = g.log
  down : h.down = g.down
  coming : ∀ k, before (h.coming k) = before (g.coming k) ∧ behind (h.coming k) = behind (g.coming k)
abbrev pi (f : Fr) : Int × Nat := (f.page, f.is)
structure SRel (s t : PS) : Prop where
  held : s.held.map pi = t.held.map pi
  round : s.round = t.round
  window : s.window = t.window
  pages : s.pages = t.pages
  text : s.text = t.text
  most : s.most = t.most
  writes : s.writes = t.writes
  err : s.err = t.err
  last : s.last = t.last
section
variable {s t : PS} {h g : HS}
theorem SRel.len (r : SRel s t) : s.held.length = t.held.length := by
  have := congrArg List.length r.held
  rwa [List.length_map, List.length_map] at this
theorem SRel.numbers (r : SRel s t) : numbers s = numbers t := by
  have := congrArg (List.map Prod.fst) r.held
  rw [List.map_map, List.map_map] at this
  exact this
theorem find_pi (l : List Fr) (n : Int) : (l.find? fun f => f.page == n).map pi = (l.map pi).find? fun x => x.1 == n := by
  rw [List.find?_map]; rfl
theorem changed_pi (s : PS) (n : Int) : changedAt s n = ((((s.held.map pi).find? fun x => x.1 == n).map Prod.snd).getD 0 == 2) := by
  unfold changedAt frOf
  rw [← find_pi, Option.map_map]
  rfl
theorem SRel.changed (r : SRel s t) (n : Int) : changedAt s n = changedAt t n := by rw [changed_pi, changed_pi, r.held]
theorem SRel.right (r : SRel s t) (n : Int) : rightP s n = rightP t n := by unfold rightP; rw [r.err, r.pages]
theorem SRel.frOf (r : SRel s t) (n : Int) : (frOf s n).map pi = (frOf t n).map pi := by unfold PagerS.frOf; rw [find_pi, find_pi, r.held]
theorem SRel.next (r : SRel s t) (n : Int) : nextPl s n = nextPl t n := by
  unfold nextPl verOf
  rw [r.round, r.writes, r.last]
theorem cleaned_pi (l : List Fr) (n : Int) : (cleaned l n).map pi = (l.map pi).map fun x => if x.1 = n then (x.1, 1) else x := by
  unfold cleaned
  rw [List.map_map, List.map_map]
  apply List.map_congr_left
  intro f _
  simp only [Function.comp]
  split
  · rename_i e; rfl
  · rfl
theorem SRel.wrote (r : SRel s t) (n : Int) : SRel (wroteP s n) (wroteP t n) :=
  ⟨by show (cleaned s.held n).map pi = (cleaned t.held n).map pi; rw [cleaned_pi, cleaned_pi, r.held], r.round, r.window, r.pages, r.text, r.most, by show s.writes + 1 = t.writes + 1; rw [r.writes], r.err,
    by show setF s.last n (some (nextPl s n)) = setF t.last n (some (nextPl t n)); rw [r.next, r.last]⟩
theorem SRel.die (r : SRel s t) (e : Nat) : SRel (die s e) (die t e) := ⟨r.held, r.round, r.window, r.pages, r.text, r.most, r.writes, rfl, r.last⟩
theorem filter_pi (l : List Fr) (n : Int) : (l.filter fun f => !(f.page == n)).map pi = (l.map pi).filter fun x => !(x.1 == n) := by
  rw [List.filter_map]; rfl
theorem SRel.use (r : SRel s t) {f f' : Fr} (e : pi f = pi f') : SRel (useP s f) (useP t f') := by
  have e1 : f.page = f'.page := congrArg Prod.fst e
  have hh : ((s.held.filter fun g => !(g.page == f.page)) ++ [f]).map pi = ((t.held.filter fun g => !(g.page == f'.page)) ++ [f']).map pi := by
    rw [List.map_append, List.map_append, filter_pi, filter_pi, r.held, e1]
    simp only [List.map_cons, List.map_nil, e]
  have hl := congrArg List.length hh
  rw [List.length_map, List.length_map] at hl
  exact ⟨hh, r.round, r.window, r.pages, r.text, by show max s.most _ = max t.most _; rw [r.most, hl], r.writes, r.err, r.last⟩
theorem SRel.tail (r : SRel s t) : SRel { s with held := s.held.tail } { t with held := t.held.tail } :=
  ⟨by show s.held.tail.map pi = t.held.tail.map pi; rw [List.map_tail, List.map_tail, r.held], r.round, r.window, r.pages, r.text, r.most, r.writes, r.err, r.last⟩
end
section
variable {s t : PS} {h g : HS} {b : Int → Bytes}
end
end Go.Sl.PagerS

/- trystlaw13.Life opened. -/
set_option linter.unusedVariables false
set_option linter.unusedSimpArgs false
set_option maxHeartbeats 2000000
namespace Go.Sl
open Go Go.Proofs Go.ChangeShapes Go.WideShapes Go.ChangeAt Go.RowKit
structure FaultV where
  at_ : Int
  kind_ : Int
  page_ : Int
  byte_ : Int
  by_ : BitVec 8
  back_ : Int
def FaultV.cells (x : FaultV) : List Value := [.int .i64 x.at_] ++ ([.int .i64 x.kind_] ++ ([.int .i64 x.page_] ++ ([.int .i64 x.byte_] ++ ([u8b x.by_] ++ ([.int .i64 x.back_])))))
structure FaultVOk (w : World) (x : FaultV) : Prop where
  triv : True
  at_ : -9223372036854775808 ≤ x.at_ ∧ x.at_ ≤ 9223372036854775807
  kind_ : -9223372036854775808 ≤ x.kind_ ∧ x.kind_ ≤ 9223372036854775807
  page_ : -9223372036854775808 ≤ x.page_ ∧ x.page_ ≤ 9223372036854775807
  byte_ : -9223372036854775808 ≤ x.byte_ ∧ x.byte_ ≤ 9223372036854775807
  back_ : -9223372036854775808 ≤ x.back_ ∧ x.back_ ≤ 9223372036854775807
theorem FaultV.len {w : World} {x : FaultV} (h : FaultVOk w x) : x.cells.length = 6 := by
  simp [FaultV.cells]
section
variable {H : Type} {enc : TypeId × Value → H} {w : World} {base : Nat} {spare : Nat → Bool} {held : Bool}
theorem open_FaultV {n : Nat} {cs : List Value} {y : DataW H × List MemPlace} (h : DataW.trod enc Tryz.prog w base spare held n 70 cs = some y) (hs : Small Tryz.prog 70 y.1) : ∃ x : FaultV, cs = x.cells ∧ FaultVOk w x := by
  obtain ⟨xs, m, _, hx, hl, hn, hf⟩ := DataW.trod_struct Tryz.underlying70 h
  rw [show Tryz.prog.cellsOf 70 = 6 by kernel_rfl] at hl
  have hn : xs.length = 6 := hn
  have g : ∀ i (hi : i < xs.length), xs[i]? = some xs[i] := fun i hi => List.getElem?_eq_getElem hi
  rw [hx] at hs
  have e0 : DataW.trod enc Tryz.prog w base spare held m 3 ((cs.drop 0).take (Tryz.prog.cellsOf 3)) = some (xs[0]'(by omega)) := (hf 0 _ rfl).trans (g 0 (by omega))
  rw [show Tryz.prog.cellsOf 3 = 1 by kernel_rfl] at e0
  obtain ⟨n0, c0, _, wf0⟩ := DataW.trod_int Tryz.underlying3 e0
  have e1 : DataW.trod enc Tryz.prog w base spare held m 3 ((cs.drop 1).take (Tryz.prog.cellsOf 3)) = some (xs[1]'(by omega)) := (hf 1 _ rfl).trans (g 1 (by omega))
  rw [show Tryz.prog.cellsOf 3 = 1 by kernel_rfl] at e1
  obtain ⟨n1, c1, _, wf1⟩ := DataW.trod_int Tryz.underlying3 e1
  have e2 : DataW.trod enc Tryz.prog w base spare held m 3 ((cs.drop 2).take (Tryz.prog.cellsOf 3)) = some (xs[2]'(by omega)) := (hf 2 _ rfl).trans (g 2 (by omega))
  rw [show Tryz.prog.cellsOf 3 = 1 by kernel_rfl] at e2
  obtain ⟨n2, c2, _, wf2⟩ := DataW.trod_int Tryz.underlying3 e2
  have e3 : DataW.trod enc Tryz.prog w base spare held m 3 ((cs.drop 3).take (Tryz.prog.cellsOf 3)) = some (xs[3]'(by omega)) := (hf 3 _ rfl).trans (g 3 (by omega))
  rw [show Tryz.prog.cellsOf 3 = 1 by kernel_rfl] at e3
  obtain ⟨n3, c3, _, wf3⟩ := DataW.trod_int Tryz.underlying3 e3
  have e4 : DataW.trod enc Tryz.prog w base spare held m 5 ((cs.drop 4).take (Tryz.prog.cellsOf 5)) = some (xs[4]'(by omega)) := (hf 4 _ rfl).trans (g 4 (by omega))
  rw [show Tryz.prog.cellsOf 5 = 1 by kernel_rfl] at e4
  obtain ⟨n4, c4, _, wf4⟩ := DataW.trod_int Tryz.underlying5 e4
  obtain ⟨b4, hb4⟩ := u8_of wf4
  rw [hb4] at c4
  have e5 : DataW.trod enc Tryz.prog w base spare held m 3 ((cs.drop 5).take (Tryz.prog.cellsOf 3)) = some (xs[5]'(by omega)) := (hf 5 _ rfl).trans (g 5 (by omega))
  rw [show Tryz.prog.cellsOf 3 = 1 by kernel_rfl] at e5
  obtain ⟨n5, c5, _, wf5⟩ := DataW.trod_int Tryz.underlying3 e5
  refine ⟨⟨n0, n1, n2, n3, b4, n5⟩, ?_, ⟨trivial, i64_of wf0, i64_of wf1, i64_of wf2, i64_of wf3, i64_of wf5⟩⟩
  have d0 : cs.drop 0 = (cs.drop 0).take 1 ++ cs.drop 1 := by
    have := (List.take_append_drop 1 (cs.drop 0)).symm
    rwa [List.drop_drop] at this
  have d1 : cs.drop 1 = (cs.drop 1).take 1 ++ cs.drop 2 := by
    have := (List.take_append_drop 1 (cs.drop 1)).symm
    rwa [List.drop_drop] at this
  have d2 : cs.drop 2 = (cs.drop 2).take 1 ++ cs.drop 3 := by
    have := (List.take_append_drop 1 (cs.drop 2)).symm
    rwa [List.drop_drop] at this
  have d3 : cs.drop 3 = (cs.drop 3).take 1 ++ cs.drop 4 := by
    have := (List.take_append_drop 1 (cs.drop 3)).symm
    rwa [List.drop_drop] at this
  have d4 : cs.drop 4 = (cs.drop 4).take 1 ++ cs.drop 5 := by
    have := (List.take_append_drop 1 (cs.drop 4)).symm
    rwa [List.drop_drop] at this
  have d5 : cs.drop 5 = (cs.drop 5).take 1 := by rw [List.take_of_length_le (by simp; omega)]
  show cs = _ ++ (_ ++ (_ ++ (_ ++ (_ ++ (_)))))
  have dz : cs = cs.drop 0 := rfl
  rw [dz, d0, d1, d2, d3, d4, d5, c0, c1, c2, c3, c4, c5] <;> rfl
end
/-- A slice of them that comes in. -/
structure InFaultV (W : World) (v : Value) (l : List FaultV) : Prop where
  sl : SlW W 6 v l.length (l.flatMap FaultV.cells)
  sh : ∃ a c, v = .slice a l.length c ∧ l.length ≤ c ∧ c ≤ 9223372036854775807
  el : ∀ x ∈ l, FaultVOk W x
  len : l.length * 48 ≤ 140737488351232
abbrev FaultVS (w : World) := {x : FaultV // FaultVOk w x}
theorem InFaultV.sub {w : World} {v : Value} {l : List FaultV} (h : InFaultV w v l) : ∃ l2 : List (FaultVS w), l2.map (·.1) = l ∧ SlW w 6 v l2.length (l2.flatMap fun x => x.1.cells) := by
  have e : (l.attach.map fun x => (⟨x.1, h.el x.1 x.2⟩ : FaultVS w)).map (·.1) = l := by rw [List.map_map]; exact List.attach_map_subtype_val l
  refine ⟨_, e, ?_⟩
  have h2 := h.sl
  rw [← e, List.flatMap_map] at h2
  rw [List.length_map] at h2
  exact h2
section
variable {H : Type} {enc : TypeId × Value → H} {w : World} {base : Nat} {spare : Nat → Bool} {held : Bool}
theorem opens_FaultV {n : Nat} {cs : List Value} {y : DataW H × List MemPlace} (h : DataW.trod enc Tryz.prog w base spare held n 55 cs = some y) (hs : Small Tryz.prog 55 y.1) : ∃ (v : Value) (l : List FaultV), cs = [v] ∧ InFaultV w v l := by
  obtain ⟨v, l, h1, h2, h3, h4⟩ := open_sls (encd := fun x : FaultVS w => x.1.cells) (good := fun _ => True) Tryz.underlying55 (by kernel_rfl) (by decide) (by kernel_rfl : Tryz.prog.bytesOf 70 = 48) (fun x => FaultV.len x.2) (fun n cs y hy hsm => by
    obtain ⟨x, hx, ok⟩ := open_FaultV hy hsm
    exact ⟨⟨x, ok⟩, hx, trivial⟩) h hs
  obtain ⟨a, len, cap, h5, h6, h7⟩ := slice_shape Tryz.underlying55 h
  rw [h1] at h5
  simp only [List.cons.injEq, and_true] at h5
  obtain ⟨a', k', hv⟩ := h2.len
  rw [h5] at hv
  simp only [Value.slice.injEq] at hv
  obtain ⟨rfl, rfl, rfl⟩ := hv
  have e : (l.map (·.1)).flatMap FaultV.cells = l.flatMap fun x => x.1.cells := by rw [List.flatMap_map]
  refine ⟨v, l.map (·.1), h1, ⟨?_, ?_, ?_, ?_⟩⟩
  · rw [e, List.length_map]; exact h2
  · rw [List.length_map]; exact ⟨_, _, h5, h6, h7⟩
  · intro x hx
    obtain ⟨z, _, rfl⟩ := List.mem_map.1 hx
    exact z.2
  · rw [List.length_map]; exact h4
end
structure OpV where
  kind_ : Int
  page_ : Int
  text_V : Value
  text_ : List Byte
def OpV.cells (x : OpV) : List Value := [.int .i64 x.kind_] ++ ([.int .i64 x.page_] ++ ([x.text_V]))
structure OpVOk (w : World) (x : OpV) : Prop where
  triv : True
  kind_ : -9223372036854775808 ≤ x.kind_ ∧ x.kind_ ≤ 9223372036854775807
  page_ : -9223372036854775808 ≤ x.page_ ∧ x.page_ ≤ 9223372036854775807
  text_ : InB w x.text_V x.text_
theorem OpV.len {w : World} {x : OpV} (h : OpVOk w x) : x.cells.length = 3 := by
  simp [OpV.cells]
section
variable {H : Type} {enc : TypeId × Value → H} {w : World} {base : Nat} {spare : Nat → Bool} {held : Bool}
theorem open_OpV {n : Nat} {cs : List Value} {y : DataW H × List MemPlace} (h : DataW.trod enc Tryz.prog w base spare held n 75 cs = some y) (hs : Small Tryz.prog 75 y.1) : ∃ x : OpV, cs = x.cells ∧ OpVOk w x := by
  obtain ⟨xs, m, _, hx, hl, hn, hf⟩ := DataW.trod_struct Tryz.underlying75 h
  rw [show Tryz.prog.cellsOf 75 = 3 by kernel_rfl] at hl
  have hn : xs.length = 3 := hn
  have g : ∀ i (hi : i < xs.length), xs[i]? = some xs[i] := fun i hi => List.getElem?_eq_getElem hi
  rw [hx] at hs
  have e0 : DataW.trod enc Tryz.prog w base spare held m 3 ((cs.drop 0).take (Tryz.prog.cellsOf 3)) = some (xs[0]'(by omega)) := (hf 0 _ rfl).trans (g 0 (by omega))
  rw [show Tryz.prog.cellsOf 3 = 1 by kernel_rfl] at e0
  obtain ⟨n0, c0, _, wf0⟩ := DataW.trod_int Tryz.underlying3 e0
  have e1 : DataW.trod enc Tryz.prog w base spare held m 3 ((cs.drop 1).take (Tryz.prog.cellsOf 3)) = some (xs[1]'(by omega)) := (hf 1 _ rfl).trans (g 1 (by omega))
  rw [show Tryz.prog.cellsOf 3 = 1 by kernel_rfl] at e1
  obtain ⟨n1, c1, _, wf1⟩ := DataW.trod_int Tryz.underlying3 e1
  have e2 : DataW.trod enc Tryz.prog w base spare held m 33 ((cs.drop 2).take (Tryz.prog.cellsOf 33)) = some (xs[2]'(by omega)) := (hf 2 _ rfl).trans (g 2 (by omega))
  rw [show Tryz.prog.cellsOf 33 = 1 by kernel_rfl] at e2
  have hs2 := Small.part (j := 2) Tryz.underlying75 hs rfl (by rw [List.getElem?_map, g 2 (by omega)]; rfl)
  obtain ⟨v2, l2, c2, ok2⟩ := open_bs Tryz.underlying33 Tryz.underlying5 (by kernel_rfl) (by kernel_rfl) e2 hs2
  refine ⟨⟨n0, n1, v2, l2⟩, ?_, ⟨trivial, i64_of wf0, i64_of wf1, ok2⟩⟩
  have d0 : cs.drop 0 = (cs.drop 0).take 1 ++ cs.drop 1 := by
    have := (List.take_append_drop 1 (cs.drop 0)).symm
    rwa [List.drop_drop] at this
  have d1 : cs.drop 1 = (cs.drop 1).take 1 ++ cs.drop 2 := by
    have := (List.take_append_drop 1 (cs.drop 1)).symm
    rwa [List.drop_drop] at this
  have d2 : cs.drop 2 = (cs.drop 2).take 1 := by rw [List.take_of_length_le (by simp; omega)]
  show cs = _ ++ (_ ++ (_))
  have dz : cs = cs.drop 0 := rfl
  rw [dz, d0, d1, d2, c0, c1, c2] <;> rfl
end
/-- A slice of them that comes in. -/
structure InOpV (W : World) (v : Value) (l : List OpV) : Prop where
  sl : SlW W 3 v l.length (l.flatMap OpV.cells)
  sh : ∃ a c, v = .slice a l.length c ∧ l.length ≤ c ∧ c ≤ 9223372036854775807
  el : ∀ x ∈ l, OpVOk W x
  len : l.length * 40 ≤ 140737488351232
abbrev OpVS (w : World) := {x : OpV // OpVOk w x}
theorem InOpV.sub {w : World} {v : Value} {l : List OpV} (h : InOpV w v l) : ∃ l2 : List (OpVS w), l2.map (·.1) = l ∧ SlW w 3 v l2.length (l2.flatMap fun x => x.1.cells) := by
  have e : (l.attach.map fun x => (⟨x.1, h.el x.1 x.2⟩ : OpVS w)).map (·.1) = l := by rw [List.map_map]; exact List.attach_map_subtype_val l
  refine ⟨_, e, ?_⟩
  have h2 := h.sl
  rw [← e, List.flatMap_map] at h2
  rw [List.length_map] at h2
  exact h2
section
variable {H : Type} {enc : TypeId × Value → H} {w : World} {base : Nat} {spare : Nat → Bool} {held : Bool}
theorem opens_OpV {n : Nat} {cs : List Value} {y : DataW H × List MemPlace} (h : DataW.trod enc Tryz.prog w base spare held n 56 cs = some y) (hs : Small Tryz.prog 56 y.1) : ∃ (v : Value) (l : List OpV), cs = [v] ∧ InOpV w v l := by
  obtain ⟨v, l, h1, h2, h3, h4⟩ := open_sls (encd := fun x : OpVS w => x.1.cells) (good := fun _ => True) Tryz.underlying56 (by kernel_rfl) (by decide) (by kernel_rfl : Tryz.prog.bytesOf 75 = 40) (fun x => OpV.len x.2) (fun n cs y hy hsm => by
    obtain ⟨x, hx, ok⟩ := open_OpV hy hsm
    exact ⟨⟨x, ok⟩, hx, trivial⟩) h hs
  obtain ⟨a, len, cap, h5, h6, h7⟩ := slice_shape Tryz.underlying56 h
  rw [h1] at h5
  simp only [List.cons.injEq, and_true] at h5
  obtain ⟨a', k', hv⟩ := h2.len
  rw [h5] at hv
  simp only [Value.slice.injEq] at hv
  obtain ⟨rfl, rfl, rfl⟩ := hv
  have e : (l.map (·.1)).flatMap OpV.cells = l.flatMap fun x => x.1.cells := by rw [List.flatMap_map]
  refine ⟨v, l.map (·.1), h1, ⟨?_, ?_, ?_, ?_⟩⟩
  · rw [e, List.length_map]; exact h2
  · rw [List.length_map]; exact ⟨_, _, h5, h6, h7⟩
  · intro x hx
    obtain ⟨z, _, rfl⟩ := List.mem_map.1 hx
    exact z.2
  · rw [List.length_map]; exact h4
end
structure PLifeV where
  pages_ : Int
  size_ : Int
  window_ : Int
  key_ : List Byte
  round_ : BitVec 64
  faults_V : Value
  faults_ : List FaultV
  script_V : Value
  script_ : List OpV
def PLifeV.cells (x : PLifeV) : List Value := [.int .i64 x.pages_] ++ ([.int .i64 x.size_] ++ ([.int .i64 x.window_] ++ (x.key_.map u8b ++ ([u64b x.round_] ++ ([x.faults_V] ++ ([x.script_V]))))))
structure PLifeVOk (w : World) (x : PLifeV) : Prop where
  triv : True
  pages_ : -9223372036854775808 ≤ x.pages_ ∧ x.pages_ ≤ 9223372036854775807
  size_ : -9223372036854775808 ≤ x.size_ ∧ x.size_ ≤ 9223372036854775807
  window_ : -9223372036854775808 ≤ x.window_ ∧ x.window_ ≤ 9223372036854775807
  key_ : x.key_.length = 32
  faults_ : InFaultV w x.faults_V x.faults_
  script_ : InOpV w x.script_V x.script_
theorem PLifeV.len {w : World} {x : PLifeV} (h : PLifeVOk w x) : x.cells.length = 38 := by
  simp [PLifeV.cells, h.key_]
section
variable {H : Type} {enc : TypeId × Value → H} {w : World} {base : Nat} {spare : Nat → Bool} {held : Bool}
theorem open_PLifeV {n : Nat} {cs : List Value} {y : DataW H × List MemPlace} (h : DataW.trod enc Tryz.prog w base spare held n 58 cs = some y) (hs : Small Tryz.prog 58 y.1) : ∃ x : PLifeV, cs = x.cells ∧ PLifeVOk w x := by
  obtain ⟨xs, m, _, hx, hl, hn, hf⟩ := DataW.trod_struct Tryz.underlying58 h
  rw [show Tryz.prog.cellsOf 58 = 38 by kernel_rfl] at hl
  have hn : xs.length = 7 := hn
  have g : ∀ i (hi : i < xs.length), xs[i]? = some xs[i] := fun i hi => List.getElem?_eq_getElem hi
  rw [hx] at hs
  have e0 : DataW.trod enc Tryz.prog w base spare held m 3 ((cs.drop 0).take (Tryz.prog.cellsOf 3)) = some (xs[0]'(by omega)) := (hf 0 _ rfl).trans (g 0 (by omega))
  rw [show Tryz.prog.cellsOf 3 = 1 by kernel_rfl] at e0
  obtain ⟨n0, c0, _, wf0⟩ := DataW.trod_int Tryz.underlying3 e0
  have e1 : DataW.trod enc Tryz.prog w base spare held m 3 ((cs.drop 1).take (Tryz.prog.cellsOf 3)) = some (xs[1]'(by omega)) := (hf 1 _ rfl).trans (g 1 (by omega))
  rw [show Tryz.prog.cellsOf 3 = 1 by kernel_rfl] at e1
  obtain ⟨n1, c1, _, wf1⟩ := DataW.trod_int Tryz.underlying3 e1
  have e2 : DataW.trod enc Tryz.prog w base spare held m 3 ((cs.drop 2).take (Tryz.prog.cellsOf 3)) = some (xs[2]'(by omega)) := (hf 2 _ rfl).trans (g 2 (by omega))
  rw [show Tryz.prog.cellsOf 3 = 1 by kernel_rfl] at e2
  obtain ⟨n2, c2, _, wf2⟩ := DataW.trod_int Tryz.underlying3 e2
  have e3 : DataW.trod enc Tryz.prog w base spare held m 23 ((cs.drop 3).take (Tryz.prog.cellsOf 23)) = some (xs[3]'(by omega)) := (hf 3 _ rfl).trans (g 3 (by omega))
  rw [show Tryz.prog.cellsOf 23 = 32 by kernel_rfl] at e3
  obtain ⟨l3, c3, ok3⟩ := open_ba e3
  have e4 : DataW.trod enc Tryz.prog w base spare held m 24 ((cs.drop 35).take (Tryz.prog.cellsOf 24)) = some (xs[4]'(by omega)) := (hf 4 _ rfl).trans (g 4 (by omega))
  rw [show Tryz.prog.cellsOf 24 = 1 by kernel_rfl] at e4
  obtain ⟨n4, c4, _, wf4⟩ := DataW.trod_int Tryz.underlying24 e4
  obtain ⟨b4, hb4⟩ := u64_of wf4
  rw [hb4] at c4
  have e5 : DataW.trod enc Tryz.prog w base spare held m 55 ((cs.drop 36).take (Tryz.prog.cellsOf 55)) = some (xs[5]'(by omega)) := (hf 5 _ rfl).trans (g 5 (by omega))
  rw [show Tryz.prog.cellsOf 55 = 1 by kernel_rfl] at e5
  have hs5 := Small.part (j := 5) Tryz.underlying58 hs rfl (by rw [List.getElem?_map, g 5 (by omega)]; rfl)
  obtain ⟨v5, l5, c5, ok5⟩ := opens_FaultV e5 hs5
  have e6 : DataW.trod enc Tryz.prog w base spare held m 56 ((cs.drop 37).take (Tryz.prog.cellsOf 56)) = some (xs[6]'(by omega)) := (hf 6 _ rfl).trans (g 6 (by omega))
  rw [show Tryz.prog.cellsOf 56 = 1 by kernel_rfl] at e6
  have hs6 := Small.part (j := 6) Tryz.underlying58 hs rfl (by rw [List.getElem?_map, g 6 (by omega)]; rfl)
  obtain ⟨v6, l6, c6, ok6⟩ := opens_OpV e6 hs6
  refine ⟨⟨n0, n1, n2, l3, b4, v5, l5, v6, l6⟩, ?_, ⟨trivial, i64_of wf0, i64_of wf1, i64_of wf2, ok3, ok5, ok6⟩⟩
  have d0 : cs.drop 0 = (cs.drop 0).take 1 ++ cs.drop 1 := by
    have := (List.take_append_drop 1 (cs.drop 0)).symm
    rwa [List.drop_drop] at this
  have d1 : cs.drop 1 = (cs.drop 1).take 1 ++ cs.drop 2 := by
    have := (List.take_append_drop 1 (cs.drop 1)).symm
    rwa [List.drop_drop] at this
  have d2 : cs.drop 2 = (cs.drop 2).take 1 ++ cs.drop 3 := by
    have := (List.take_append_drop 1 (cs.drop 2)).symm
    rwa [List.drop_drop] at this
  have d3 : cs.drop 3 = (cs.drop 3).take 32 ++ cs.drop 35 := by
    have := (List.take_append_drop 32 (cs.drop 3)).symm
    rwa [List.drop_drop] at this
  have d4 : cs.drop 35 = (cs.drop 35).take 1 ++ cs.drop 36 := by
    have := (List.take_append_drop 1 (cs.drop 35)).symm
    rwa [List.drop_drop] at this
  have d5 : cs.drop 36 = (cs.drop 36).take 1 ++ cs.drop 37 := by
    have := (List.take_append_drop 1 (cs.drop 36)).symm
    rwa [List.drop_drop] at this
  have d6 : cs.drop 37 = (cs.drop 37).take 1 := by rw [List.take_of_length_le (by simp; omega)]
  show cs = _ ++ (_ ++ (_ ++ (_ ++ (_ ++ (_ ++ (_))))))
  have dz : cs = cs.drop 0 := rfl
  rw [dz, d0, d1, d2, d3, d4, d5, d6, c0, c1, c2, c3, c4, c5, c6] <;> rfl
end
end Go.Sl

/- trystlaw13: a life's cells; made, right, walked; lists of ints compared. -/
set_option maxHeartbeats 4000000
set_option maxRecDepth 10000
set_option linter.unusedVariables false
set_option linter.unusedSimpArgs false
namespace Go.Sl
open Go Go.Proofs
attribute [local irreducible] cl pt own old pur ex all den denOps denS xOps xC cX CX xthen xblk xcut xloop xgo xng retX resX Calls PV Rd Con
attribute [local irreducible] hostA pgA
open PagerS (PS Over)
def pF (x : FaultV) : HostS.Fault := ⟨x.at_, x.kind_, x.page_, x.byte_, x.by_, x.back_⟩
def flts (x : PLifeV) : List HostS.Fault := x.faults_.map pF
/-- A life's cells. -/
def pcs (x : PLifeV) : Array Value := x.cells.toArray
section
variable {x : PLifeV}
theorem pcs_pages : (pcs x)[0]? = some (.int .i64 x.pages_) := by unfold pcs; simp [PLifeV.cells]
theorem pcs_size : (pcs x)[1]? = some (.int .i64 x.size_) := by unfold pcs; simp [PLifeV.cells]
theorem pcs_window : (pcs x)[2]? = some (.int .i64 x.window_) := by unfold pcs; simp [PLifeV.cells]
theorem pcs_key (hk : x.key_.length = 32) : (pcs x).extract 3 (3 + 32) = (x.key_.map u8b).toArray := by
  unfold pcs
  apply Array.ext'
  simp [PLifeV.cells, List.extract_eq_take_drop, List.drop_append, List.take_append, List.take_of_length_le, hk]
theorem pcs_round (hk : x.key_.length = 32) : (pcs x)[35]? = some (u64b x.round_) := by unfold pcs; simp [PLifeV.cells, List.getElem?_append, List.getElem?_cons, hk]
theorem pcs_faults (hk : x.key_.length = 32) : (pcs x)[36]? = some x.faults_V := by unfold pcs; simp [PLifeV.cells, List.getElem?_append, List.getElem?_cons, hk]
theorem pcs_script (hk : x.key_.length = 32) : (pcs x)[37]? = some x.script_V := by unfold pcs; simp [PLifeV.cells, List.getElem?_append, List.getElem?_cons, hk]
theorem pcs_len (hk : x.key_.length = 32) : (pcs x).size = 38 := by unfold pcs; simp [PLifeV.cells, hk]
end
structure OpsIn (L : List Asrt) (sv : Value) (st : List OpV) : Prop where
  rd : Rd L 3 sv st.length (st.flatMap OpV.cells)
  el : ∀ o ∈ st, Bs L o.text_V o.text_ ∧ o.text_.length ≤ 140737488351232
  len : st.length * 40 ≤ 140737488351232
theorem opv_len (o : OpV) : o.cells.length = 3 := rfl
structure PIn (L : List Asrt) (x : PLifeV) : Prop where
  key : x.key_.length = 32
  flt : FaultsIn L x.faults_V (flts x)
  ops : OpsIn L x.script_V x.script_
/-- The host, and the pager, of a life. -/
def hs0 (x : PLifeV) : HostS.HS := HostS.fresh x.pages_ x.size_.toNat (flts x)
def ps0 (x : PLifeV) : PS := PagerS.freshP x.key_ x.round_ x.window_.toNat x.pages_ (x.size_.toNat - 28)
/-- May there be a pager? -/
def Made (x : PLifeV) : Prop := HostS.mayBe x.pages_ x.size_ (flts x) ∧ newR (hs0 x) x.window_ = 0
theorem made_facts {x : PLifeV} (hk : x.key_.length = 32) (h : Made x) : PagerS.Ok (ps0 x) ∧ Over (ps0 x) (hs0 x) ∧ PagerS.pot (ps0 x) (hs0 x) ≤ 1 ∧ (2 ≤ x.window_ ∧ x.window_ ≤ 16) ∧ (29 ≤ x.size_ ∧ x.size_ ≤ 4124) ∧ 0 ≤ x.pages_ ∧ x.pages_ ≤ 65536 := by
  obtain ⟨⟨h1, h2⟩, h3⟩ := h
  have hsz : (hs0 x).size = x.size_.toNat := rfl
  unfold newR at h3
  split at h3
  · cases h3
  · split at h3
    · cases h3
    · refine ⟨PagerS.ok_fresh hk (by omega) (by omega) (by omega), ⟨rfl, ?_⟩, Nat.le_refl _, by omega, by omega, by omega, by omega⟩
      show x.size_.toNat = x.size_.toNat - 28 + 28
      omega
section
variable {L : List Asrt} {x : PLifeV}
theorem made_ok (hi : PIn L x) (hm : Made x) : Con Tryz.prog 24 [.agg (pcs x)] L (fun r M => ∃ ph p, r = .tuple #[hp ph, hp p, .bool true] ∧ M = pgA p ph (ps0 x) :: hostA ph (hs0 x) :: L) := by
  refine Con.get (fun w0 w F H => hi.flt.rd.len H) ?_
  rintro ⟨fa, fc, hfv⟩
  have hk := hi.key
  have hfl := hi.flt.len
  have hnw := new_ok (L := L) x.pages_ x.size_ (by omega) hi.flt.ok hi.flt.rd hm.1
  have hpn := fun ph => pnew_ok (ph := ph) (h := hs0 x) hk x.round_ hm.2
  have hlen := pcs_len hk
  rw [hfv] at hnw
  have hflt := pcs_faults hk
  rw [hfv] at hflt
  refine fn_x Tryz.func24 rfl rfl rfl Tryz.mixed (by kernel_rfl) ?_
  intro w0
  refine Y1 ?_
  refine Zh5 rfl ?_; intro b1
  refine Y6 ?_
  refine Zhp rfl qH (pcs_pages) ?_
  refine Y1 ?_
  refine Zhp rfl qH (pcs_size) ?_
  refine Y1 ?_
  refine Zhp rfl qH (hflt) ?_
  refine Zh8 rfl (by kernel_rfl) (hnw) rfl qT ?_
  rintro _ _ ⟨ph, rfl, rfl⟩
  refine Y10 ?_
  refine Zhn 19 rfl (decide_eq_false (fun hh => hh rfl)) ?_
  refine V6 ?_
  refine Zgp (Imp.arr (N := hostA ph (hs0 x) :: cl b1 (pcs x) 58 :: L) qV) ?_
  refine Y2 ?_
  refine Zhg (Zol rfl) ?_
  refine Y1 ?_
  refine Zhq (n := 32) rfl qH qZ (pcs_key hk) ?_
  refine Y1 ?_
  refine Zhp rfl qH (pcs_round hk) ?_
  refine Y1 ?_
  refine Zhp rfl qH (pcs_window) ?_
  refine Zh8 rfl (by kernel_rfl) (hpn ph) rfl qT ?_
  rintro _ _ ⟨p, rfl, rfl⟩
  refine Y12 ?_
  refine Zhm 39 rfl (decide_eq_true (rfl)) ?_
  refine Y3 ?_
  refine Zhm 42 rfl (rfl) ?_
  refine V5 ?_
  refine rx3 (Zhb rfl (Zhb rfl (Zha rfl (Zg7)))) ?_
  exact ⟨_, ⟨ph, p, rfl, rfl⟩, qI⟩
theorem made_no (hi : PIn L x) (hm : ¬ Made x) : Con Tryz.prog 24 [.agg (pcs x)] L (fun r M => ∃ hv, r = .tuple #[.pointer hv, .pointer none, .bool false] ∧ M = L) := by
  refine Con.get (fun w0 w F H => hi.flt.rd.len H) ?_
  rintro ⟨fa, fc, hfv⟩
  have hk := hi.key
  have hfl := hi.flt.len
  have hlen := pcs_len hk
  have hflt := pcs_faults hk
  rw [hfv] at hflt
  by_cases hmb : HostS.mayBe x.pages_ x.size_ (flts x)
  · have hnw := new_ok (L := L) x.pages_ x.size_ (by omega) hi.flt.ok hi.flt.rd hmb
    have hz : newR (hs0 x) x.window_ ≠ 0 := fun hh => hm ⟨hmb, hh⟩
    have hpn := fun ph => pnew_no (ph := ph) (h := hs0 x) hk x.round_ hz
    rw [hfv] at hnw
    refine fn_x Tryz.func24 rfl rfl rfl Tryz.mixed (by kernel_rfl) ?_
    intro w0
    refine Y1 ?_
    refine Zh5 rfl ?_; intro b1
    refine Y6 ?_
    refine Zhp rfl qH (pcs_pages) ?_
    refine Y1 ?_
    refine Zhp rfl qH (pcs_size) ?_
    refine Y1 ?_
    refine Zhp rfl qH (hflt) ?_
    refine Zh8 rfl (by kernel_rfl) (hnw) rfl qT ?_
    rintro _ _ ⟨ph, rfl, rfl⟩
    refine Y10 ?_
    refine Zhn 19 rfl (decide_eq_false (fun hh => hh rfl)) ?_
    refine V6 ?_
    refine Zgp (Imp.arr (N := hostA ph (hs0 x) :: cl b1 (pcs x) 58 :: L) qV) ?_
    refine Y2 ?_
    refine Zhg (Zol rfl) ?_
    refine Y1 ?_
    refine Zhq (n := 32) rfl qH qZ (pcs_key hk) ?_
    refine Y1 ?_
    refine Zhp rfl qH (pcs_round hk) ?_
    refine Y1 ?_
    refine Zhp rfl qH (pcs_window) ?_
    refine Zh8 rfl (by kernel_rfl) (hpn ph) rfl qT ?_
    rintro _ _ ⟨rfl, rfl⟩
    refine Y12 ?_
    refine Zhn 39 rfl (decide_eq_false (hz)) ?_
    refine V8 ?_
    refine rx3 (Zhb rfl (Zhb rfl (Zha rfl (Zg7)))) ?_
    exact ⟨_, ⟨_, rfl, rfl⟩, qI⟩
  · have hnw := new_no (L := L) x.pages_ x.size_ (by omega) hi.flt.ok hi.flt.rd hmb
    rw [hfv] at hnw
    refine fn_x Tryz.func24 rfl rfl rfl Tryz.mixed (by kernel_rfl) ?_
    intro w0
    refine Y1 ?_
    refine Zh5 rfl ?_; intro b1
    refine Y6 ?_
    refine Zhp rfl qH (pcs_pages) ?_
    refine Y1 ?_
    refine Zhp rfl qH (pcs_size) ?_
    refine Y1 ?_
    refine Zhp rfl qH (hflt) ?_
    refine Zh8 rfl (by kernel_rfl) (hnw) rfl qT ?_
    rintro _ _ ⟨rfl, rfl⟩
    refine Y10 ?_
    refine Zhm 19 rfl (decide_eq_true ((show (2 : Nat) ≠ 0 by omega))) ?_
    refine V11 ?_
    refine rx3 (Zhb rfl (Zhb rfl (Zha rfl (Zg7)))) ?_
    exact ⟨_, ⟨none, rfl, rfl⟩, qI⟩
end
end Go.Sl

/- trystlaw13: play, walked; two logs compared. -/
set_option maxHeartbeats 4000000
set_option maxRecDepth 10000
set_option linter.unusedVariables false
set_option linter.unusedSimpArgs false
namespace Go.Sl
open Go Go.Proofs
attribute [local irreducible] cl pt own old pur ex all den denOps denS xOps xC cX CX xthen xblk xcut xloop xgo xng retX resX Calls PV Rd Con
attribute [local irreducible] hostA pgA PagerS.loadP PagerS.saveP PagerS.flushP pcs
open PagerS (PS Over)
section
variable {L : List Asrt} {x : PLifeV} {p ph : Nat} {s : PS} {h : HostS.HS}
end
end Go.Sl

/- trystlaw13: works, walked. -/
set_option maxHeartbeats 4000000
set_option maxRecDepth 10000
set_option linter.unusedVariables false
set_option linter.unusedSimpArgs false
namespace Go.Sl
open Go Go.Proofs
attribute [local irreducible] cl pt own old pur ex all den denOps denS xOps xC cX CX xthen xblk xcut xloop xgo xng retX resX Calls PV Rd Con
attribute [local irreducible] hostA pgSealB pgOpenR
open PagerS (PS Over)
theorem writeP_is {s : PS} {h : HostS.HS} {b : Int → List Byte} (hq : PagerS.Quiet s h b) (hw : s.writes < 4294967295) {n : Int} (hn : n ∈ PagerS.numbers s) : PagerS.writeP s h n = (0, PagerS.wroteP s n, HostS.wrote n (PagerS.boxOf s n) (HostS.logged h 1 n (PagerS.boxOf s n))) := by
  obtain ⟨h0, _⟩ := hq.write hw hn
  obtain ⟨_, hz, e⟩ := PagerS.writeP_zero h0
  rw [e, PagerS.writeR_zero hz]
theorem fetchP_is {s : PS} {h : HostS.HS} {b : Int → List Byte} (hq : PagerS.Quiet s h b) {n : Int} (hn : n ∉ PagerS.numbers s) (hp : 0 ≤ n ∧ n < s.pages) {pl : Plc} (hl : s.last n = some pl) : PagerS.fetchP s h n = ((b n, 0), PagerS.useP s ⟨n, b n, 1⟩, HostS.logged h 0 n []) := by
  have hrd := PagerS.readR_calm hq.calm (n := n) ⟨hp.1, by rw [hq.sound.over.pages]; exact hp.2⟩
  obtain ⟨_, l2⟩ := (hq.sound.right hq.err n).2 (PagerS.changed_no hn)
  have hbl := hq.sound.len n
  have ht1 := hq.sound.ok.t1
  unfold PagerS.fetchP
  rw [hl]
  dsimp only
  rw [hrd]
  dsimp only
  rw [if_pos rfl, l2 pl hl, pg_back _ _ _ (by omega)]
  rfl
namespace PlW
def k5 : List Byte := 5#8 :: List.replicate 31 0#8
def s0 : PS := PagerS.freshP k5 9#64 2 4 2
def h0 : HostS.HS := HostS.fresh 4 30 []
def s1 : PS := PagerS.useP s0 ⟨1, [5#8, 6#8], 2⟩
def s2 : PS := PagerS.useP s1 ⟨2, [7#8, 8#8], 2⟩
def cut (s : PS) : PS := { s with held := s.held.tail }
def s3 : PS := PagerS.useP (cut (PagerS.wroteP s2 1)) ⟨3, [9#8, 9#8], 2⟩
def h3 : HostS.HS := HostS.wrote 1 (PagerS.boxOf s2 1) (HostS.logged h0 1 1 (PagerS.boxOf s2 1))
def s4 : PS := PagerS.useP (cut (PagerS.wroteP s3 2)) ⟨1, [5#8, 6#8], 1⟩
def h4 : HostS.HS := HostS.logged (HostS.wrote 2 (PagerS.boxOf s3 2) (HostS.logged h3 1 2 (PagerS.boxOf s3 2))) 0 1 []
def b0 : Int → List Byte := fun _ => List.replicate 2 0#8
def b1 := HostS.setF b0 1 [5#8, 6#8]
def b2 := HostS.setF b1 2 [7#8, 8#8]
def b3 := HostS.setF b2 3 [9#8, 9#8]
theorem q0 : PagerS.Quiet s0 h0 b0 := PagerS.quiet_fresh (PagerS.ok_fresh rfl (by omega) (by omega) (by omega)) rfl rfl (PagerS.calm_fresh 4 30)
theorem e1 : PagerS.saveP s0 h0 1 [5#8, 6#8] = (0, s1, h0) := rfl
theorem q1 : PagerS.Quiet s1 h0 b1 := (q0.save (n := 1) (t := [5#8, 6#8]) (by decide) (by decide) (by decide) rfl).2
theorem e2 : PagerS.saveP s1 h0 2 [7#8, 8#8] = (0, s2, h0) := rfl
theorem q2 : PagerS.Quiet s2 h0 b2 := (q1.save (n := 2) (t := [7#8, 8#8]) (by decide) (by decide) (by decide) rfl).2
theorem e3 : PagerS.saveP s2 h0 3 [9#8, 9#8] = (0, s3, h3) := by
  have hw := writeP_is q2 (by decide) (n := 1) (by decide)
  have hr : PagerS.roomP s2 h0 = (0, cut (PagerS.wroteP s2 1), h3) := by
    have : PagerS.roomP s2 h0 = (if (PagerS.writeP s2 h0 1).1 = 0 then (0, cut (PagerS.writeP s2 h0 1).2.1, (PagerS.writeP s2 h0 1).2.2) else PagerS.writeP s2 h0 1) := rfl
    rw [this, hw]; rfl
  have : PagerS.saveP s2 h0 3 [9#8, 9#8] = (if (PagerS.roomP s2 h0).1 = 0 then (0, PagerS.useP (PagerS.roomP s2 h0).2.1 ⟨3, [9#8, 9#8], 2⟩, (PagerS.roomP s2 h0).2.2) else PagerS.roomP s2 h0) := rfl
  rw [this, hr]; rfl
theorem q3 : PagerS.Quiet s3 h3 b3 := by
  have := (q2.save (n := 3) (t := [9#8, 9#8]) (by decide) (by decide) (by decide) rfl).2
  rw [e3] at this; exact this
theorem e4 : PagerS.loadP s3 h3 1 = (([5#8, 6#8], 0), s4, h4) := by
  have hw := writeP_is q3 (by decide) (n := 2) (by decide)
  have hr : PagerS.roomP s3 h3 = (0, cut (PagerS.wroteP s3 2), HostS.wrote 2 (PagerS.boxOf s3 2) (HostS.logged h3 1 2 (PagerS.boxOf s3 2))) := by
    have : PagerS.roomP s3 h3 = (if (PagerS.writeP s3 h3 2).1 = 0 then (0, cut (PagerS.writeP s3 h3 2).2.1, (PagerS.writeP s3 h3 2).2.2) else PagerS.writeP s3 h3 2) := rfl
    rw [this, hw]; rfl
  have q4 := (q3.room (by decide)).2
  rw [hr] at q4
  have hf := fetchP_is q4 (n := 1) (by decide) (by decide) (pl := PagerS.nextPl s2 1) rfl
  have : PagerS.loadP s3 h3 1 = (if (PagerS.roomP s3 h3).1 = 0 then PagerS.fetchP (PagerS.roomP s3 h3).2.1 (PagerS.roomP s3 h3).2.2 1 else (([], (PagerS.roomP s3 h3).1), (PagerS.roomP s3 h3).2)) := rfl
  rw [this, hr, if_pos rfl, hf]; rfl
theorem may : HostS.mayBe 4 30 [] := ⟨⟨by decide, by decide, by decide, by decide⟩, rfl⟩
end PlW
attribute [local irreducible] PagerS.saveP PagerS.loadP PlW.s0 PlW.s1 PlW.s2 PlW.s3 PlW.s4 PlW.h0 PlW.h3 PlW.h4
open PlW in
theorem plWorks_x : Con Tryz.prog 25 [] [] (fun r M => r = .bool true ∧ M = []) := by
  have hs1 := fun p q b => save_x (p := q) (ph := p) (L := [cl b #[u8b 5#8, u8b 6#8] 5]) q0.sound.over (by with_unfolding_all decide) 1 (bs_full (l := [5#8, 6#8]) (n := 2) qH rfl (by omega))
  have hs2 := fun p q b => save_x (p := q) (ph := p) (L := [cl b #[u8b 7#8, u8b 8#8] 5]) q1.sound.over (by with_unfolding_all decide) 2 (bs_full (l := [7#8, 8#8]) (n := 2) qH rfl (by omega))
  have hs3 := fun p q b => save_x (p := q) (ph := p) (L := [cl b #[u8b 9#8, u8b 9#8] 5]) q2.sound.over (by with_unfolding_all decide) 3 (bs_full (l := [9#8, 9#8]) (n := 2) qH rfl (by omega))
  have hl := fun p q => load_x (p := q) (ph := p) q3.sound.over (by with_unfolding_all decide) 1
  rw [e1] at hs1
  rw [e2] at hs2
  rw [e3] at hs3
  rw [e4] at hl
  dsimp only at hs1 hs2 hs3 hl
  have hz : newR h0 2 = 0 := by with_unfolding_all rfl
  have hf : PagerS.freshP k5 9#64 (2 : Int).toNat h0.pages (h0.size - 28) = s0 := by with_unfolding_all rfl
  have hn := fun p => pnew_ok (ph := p) (h := h0) (key := k5) rfl 9#64 hz
  rw [hf] at hn
  have hh : HostS.fresh 4 (30 : Int).toNat [] = h0 := by with_unfolding_all rfl
  have hnw := new_ok (L := []) 4 30 (fv := .slice none 0 0) (fl := []) (by simp) (by simp) Rd.nil may
  rw [hh] at hnw
  have hw4 : s4.writes = 2 := by with_unfolding_all rfl
  have hl4 : h4.log.length = 3 := by with_unfolding_all rfl
  have hwx := fun p q => writes_p (p := q) (ph := p) (s := s4)
  rw [hw4] at hwx
  have hlx := fun p => log_x (p := p) (s := h4) (by with_unfolding_all decide)
  rw [hl4] at hlx
  refine fn_x Tryz.func25 rfl rfl rfl Tryz.mixed (by kernel_rfl) ?_
  intro w0
  refine Y4 ?_
  refine Zh8 rfl (by kernel_rfl) (hnw) rfl qT ?_
  rintro _ _ ⟨p, rfl, rfl⟩
  refine Y10 ?_
  refine Zhn 10 rfl (decide_eq_false (fun hh => hh rfl)) ?_
  refine Y8 ?_
  refine Zhg (Zol rfl) ?_
  refine Zhg (Zdn (cs := (k5.map u8b).toArray) (by kernel_rfl)) ?_
  refine Zh8 rfl (by kernel_rfl) (hn p) rfl qT ?_
  rintro _ _ ⟨q, rfl, rfl⟩
  refine Y10 ?_
  refine Zhn 23 rfl (decide_eq_false ((fun hh => hh rfl))) ?_
  refine Y6 ?_
  first|refine Y0 ?_|(refine Zhh rfl ?_; (refine Zh7 (cs := #[u8b 5#8, u8b 6#8]) (by omega) (by omega) (by kernel_rfl) ?_; intro b30))
  first|refine Y0 ?_|(refine Zhh rfl ?_; (refine Zh8 rfl (by kernel_rfl) (hs1 p q b30) rfl qT ?_); (rintro _ _ ⟨rfl, rfl⟩); (refine Zg2 qA ?_))
  refine Y1 ?_
  refine Zhn 32 rfl (decide_eq_false ((fun hh => hh rfl))) ?_
  refine Y3 ?_
  first|refine Y0 ?_|(refine Zhh rfl ?_; (refine Zh7 (cs := #[u8b 7#8, u8b 8#8]) (by omega) (by omega) (by kernel_rfl) ?_; intro b36))
  first|refine Y0 ?_|(refine Zhh rfl ?_; (refine Zh8 rfl (by kernel_rfl) (hs2 p q b36) rfl qT ?_); (rintro _ _ ⟨rfl, rfl⟩); (refine Zg2 qA ?_))
  refine Y1 ?_
  refine Zhn 38 rfl (decide_eq_false ((fun hh => hh rfl))) ?_
  refine Y3 ?_
  first|refine Y0 ?_|(refine Zhh rfl ?_; (refine Zh7 (cs := #[u8b 9#8, u8b 9#8]) (by omega) (by omega) (by kernel_rfl) ?_; intro b42))
  first|refine Y0 ?_|(refine Zhh rfl ?_; (refine Zh8 rfl (by kernel_rfl) (hs3 p q b42) rfl qT ?_); (rintro _ _ ⟨rfl, rfl⟩); (refine Zg2 qA ?_))
  refine Y1 ?_
  refine Zhn 44 rfl (decide_eq_false ((fun hh => hh rfl))) ?_
  refine Y5 ?_
  refine Zh8 rfl (by kernel_rfl) (hl p q) rfl qT ?_
  rintro _ _ ⟨a, c, rfl, rfl⟩
  refine Y10 ?_
  refine Zhm 52 rfl (decide_eq_true (rfl)) ?_
  refine Y2 ?_
  first|refine Y0 ?_|(refine Zhh rfl ?_; (refine Zh7 (cs := #[u8b 5#8, u8b 6#8]) (by omega) (by omega) (by kernel_rfl) ?_; intro b55))
  first|refine Y0 ?_|(refine Zhh rfl ?_; (refine Zh8 rfl (by kernel_rfl) (eqBytes_x (L := [ownB a c [5#8, 6#8], cl b55 #[u8b 5#8, u8b 6#8] 5]) (a := [5#8, 6#8]) (b := [5#8, 6#8]) (Bs.own qH) (bs_full (l := [5#8, 6#8]) (n := 2) qH rfl (by omega))) rfl qT ?_); (rintro _ _ ⟨rfl, rfl⟩); (refine Zg2 qA ?_))
  refine Zhm 56 rfl (decide_eq_true (rfl)) ?_
  refine Y3 ?_
  first|refine Y0 ?_|(refine Zhh rfl ?_; (refine Zh8 rfl (by kernel_rfl) (hwx p q) rfl qT ?_); (rintro _ _ ⟨rfl, rfl⟩); (refine Zg2 qA ?_))
  first|refine Y0 ?_|(refine Zhh rfl ?_; (refine Zhg (Zky (x := 2#32) (y := 2#32) rfl rfl) ?_))
  refine Zhm 61 rfl (decide_eq_true (rfl)) ?_
  refine Y3 ?_
  first|refine Y0 ?_|(refine Zhh rfl ?_; (refine Zh8 rfl (by kernel_rfl) (hlx p) rfl qT ?_); (rintro _ _ ⟨la, lc, rfl, rfl⟩); (refine Zg2 qA ?_))
  refine Y2 ?_
  refine Zhm 67 rfl (decide_eq_true (rfl)) ?_
  refine V3 ?_
  refine rx1 (Zha rfl (Zg7)) ?_
  exact ⟨_, ⟨rfl, rfl⟩, qI⟩
end Go.Sl

/- trystlaw13: PagerSees, walked. -/
set_option maxHeartbeats 4000000
set_option maxRecDepth 10000
set_option linter.unusedVariables false
set_option linter.unusedSimpArgs false
namespace Go.Sl
open Go Go.Proofs
attribute [local irreducible] cl pt own old pur ex all den denOps denS xOps xC cX CX xthen xblk xcut xloop xgo xng retX resX Calls PV Rd Con
attribute [local irreducible] hostA pgA PagerS.loadP PagerS.saveP PagerS.flushP pcs
open PagerS (PS Over)
def noF (x : PLifeV) : PLifeV := { x with faults_V := .slice none 0 0, faults_ := [] }
theorem set_mid (A B : List Value) (v w : Value) (n : Nat) (hn : A.length = n) : (A ++ ([v] ++ B)).set n w = A ++ ([w] ++ B) := by
  subst hn
  simp
theorem pcs_noF {x : PLifeV} (hk : x.key_.length = 32) : (pcs x).setIfInBounds 36 (.slice none 0 0) = pcs (noF x) := by
  with_unfolding_all unfold pcs
  apply Array.ext'
  rw [Array.toList_setIfInBounds]
  have := set_mid ([.int .i64 x.pages_] ++ ([.int .i64 x.size_] ++ ([.int .i64 x.window_] ++ (x.key_.map u8b ++ [u64b x.round_])))) [x.script_V] x.faults_V (.slice none 0 0) 36 (by simp [hk])
  simpa [PLifeV.cells, noF] using this
theorem pcs_one {x : PLifeV} {fa sa : Option Addr} {fn fc sn sc : Nat} (hf : x.faults_V = .slice fa fn fc) (hs : x.script_V = .slice sa sn sc) : (pcs x).toList.all oneC = true := by
  with_unfolding_all unfold pcs
  simp [PLifeV.cells, hf, hs, oneC]
theorem pin_noF {L : List Asrt} {x : PLifeV} (h : PIn L x) : PIn L (noF x) := ⟨h.key, ⟨Rd.nil, fun f hf => (by cases hf), by show 0 * 48 ≤ _; omega⟩, h.ops⟩
theorem PIn.mono {L M : List Asrt} {x : PLifeV} (h : PIn L x) (hi : Imp M L) : PIn M x := ⟨h.key, ⟨h.flt.rd.imp hi, h.flt.ok, h.flt.len⟩, ⟨h.ops.rd.imp hi, fun o ho => ⟨(h.ops.el o ho).1.imp hi, (h.ops.el o ho).2⟩, h.ops.len⟩⟩
section
variable {L : List Asrt} {x : PLifeV}
end
end Go.Sl

/- trystlaw13: lives that come in. -/
set_option maxHeartbeats 4000000
set_option maxRecDepth 10000
set_option linter.unusedVariables false
set_option linter.unusedSimpArgs false
namespace Go.Sl
open Go Go.Proofs
attribute [local irreducible] cl pt own old pur ex all den denOps denS xOps xC cX CX xthen xblk xcut xloop xgo xng retX resX Calls PV Rd Con
open PagerS (PS Over)
theorem pf_cells (l : List FaultV) : (l.map pF).flatMap fcells = l.flatMap FaultV.cells := by
  rw [List.flatMap_map]; rfl
theorem pin_of {W : World} {x : PLifeV} (ok : PLifeVOk W x) : PIn [old W] x := by
  have hf := ok.faults_
  have ho := ok.script_
  refine ⟨ok.key_, ⟨?_, ?_, ?_⟩, ⟨Rd.old .here ho.sl, fun o h => ⟨(ho.el o h).text_.bs .here, (ho.el o h).text_.len⟩, ho.len⟩⟩
  · unfold flts
    rw [pf_cells, List.length_map]
    exact Rd.old .here hf.sl
  · intro f hff
    obtain ⟨y, hy, rfl⟩ := List.mem_map.1 hff
    exact ⟨(hf.el y hy).back_.1, (hf.el y hy).back_.2⟩
  · unfold flts; rw [List.length_map]; exact hf.len
end Go.Sl

/- trystlaw13: right, last, PagerKeeps, walked. -/
set_option maxHeartbeats 4000000
set_option maxRecDepth 10000
set_option linter.unusedVariables false
set_option linter.unusedSimpArgs false
namespace Go.Sl
open Go Go.Proofs
attribute [local irreducible] cl pt own old pur ex all den denOps denS xOps xC cX CX xthen xblk xcut xloop xgo xng retX resX Calls PV Rd Con
attribute [local irreducible] hostA pgA PagerS.loadP PagerS.saveP PagerS.flushP pcs
open PagerS (PS Over)
/-- May there be a pager, by the numbers alone? -/
def rightL (x : PLifeV) : Prop := 0 ≤ x.pages_ ∧ x.pages_ ≤ 65536 ∧ 29 ≤ x.size_ ∧ x.size_ ≤ 4124 ∧ 2 ≤ x.window_ ∧ x.window_ ≤ 16
instance (x : PLifeV) : Decidable (rightL x) := inferInstanceAs (Decidable (_ ∧ _))
theorem right_made {x : PLifeV} : rightL (noF x) ↔ Made (noF x) := by
  have e : (noF x).pages_ = x.pages_ ∧ (noF x).size_ = x.size_ ∧ (noF x).window_ = x.window_ := ⟨rfl, rfl, rfl⟩
  have hz : (hs0 (noF x)).size = x.size_.toNat := rfl
  unfold rightL Made HostS.mayBe newR
  rw [hz, e.1, e.2.1, e.2.2]
  constructor
  · rintro ⟨h1, h2, h3, h4, h5, h6⟩
    refine ⟨⟨⟨h1, h2, by omega, h4⟩, rfl⟩, ?_⟩
    rw [if_neg (by omega), if_neg (by omega)]
  · rintro ⟨⟨⟨h1, h2, h3, h4⟩, _⟩, h5⟩
    split at h5
    · cases h5
    · split at h5
      · cases h5
      · exact ⟨h1, h2, by omega, h4, by omega, by omega⟩
section
variable {L : List Asrt} {x : PLifeV}
theorem right_l (hk : x.key_.length = 32) : Con Tryz.prog 32 [.agg (pcs x)] [] (fun r M => r = .bool (decide (rightL x)) ∧ M = []) := by
  have hlen := pcs_len hk
  by_cases h1 : 0 ≤ x.pages_
  · by_cases h2 : x.pages_ ≤ 65536
    · by_cases h3 : 29 ≤ x.size_
      · by_cases h4 : x.size_ ≤ 4124
        · by_cases h5 : 2 ≤ x.window_
          · by_cases h6 : x.window_ ≤ 16
            · rw [decide_eq_true (show rightL x from ⟨h1, h2, h3, h4, h5, h6⟩)]
              refine fn_x Tryz.func32 rfl rfl rfl Tryz.mixed (by kernel_rfl) ?_
              intro w0
              refine Y1 ?_
              refine Zh5 rfl ?_; intro b1
              refine Y4 ?_
              refine Zhp rfl qH (pcs_pages) ?_
              refine Zhg (Zbq (b := 0) rfl rfl) ?_
              refine Zhm 5 rfl (decide_eq_true (h1)) ?_
              refine Y2 ?_
              first|refine Y0 ?_|(refine Zhh rfl ?_; (refine Zhp rfl qH (pcs_pages) ?_))
              first|refine Y0 ?_|(refine Zhh rfl ?_; (refine Zhg (Zbo (b := 65536) rfl rfl) ?_))
              refine Zhm 9 rfl (decide_eq_true (h2)) ?_
              refine Y3 ?_
              first|refine Y0 ?_|(refine Zhh rfl ?_; (refine Zhp rfl qH (pcs_size) ?_))
              first|refine Y0 ?_|(refine Zhh rfl ?_; (refine Zhg (Zbq (b := 29) rfl rfl) ?_))
              refine Zhm 14 rfl (decide_eq_true (h3)) ?_
              refine Y3 ?_
              first|refine Y0 ?_|(refine Zhh rfl ?_; (refine Zhp rfl qH (pcs_size) ?_))
              first|refine Y0 ?_|(refine Zhh rfl ?_; (refine Zhg (Zbo (b := 4124) rfl rfl) ?_))
              refine Zhm 19 rfl (decide_eq_true (h4)) ?_
              refine Y3 ?_
              first|refine Y0 ?_|(refine Zhh rfl ?_; (refine Zhp rfl qH (pcs_window) ?_))
              first|refine Y0 ?_|(refine Zhh rfl ?_; (refine Zhg (Zbq (b := 2) rfl rfl) ?_))
              refine Zhm 24 rfl (decide_eq_true (h5)) ?_
              refine Y3 ?_
              first|refine Y0 ?_|(refine Zhh rfl ?_; (refine Zhp rfl qH (pcs_window) ?_))
              first|refine Y0 ?_|(refine Zhh rfl ?_; (refine Zhg (Zbo (b := 16) rfl rfl) ?_))
              refine Zhm 29 rfl (decide_eq_true (h6)) ?_
              refine V3 ?_
              refine rx1 (Zha rfl (Zg7)) ?_
              exact ⟨_, ⟨rfl, rfl⟩, qI⟩
            · rw [decide_eq_false (show ¬ rightL x from fun h => h6 h.2.2.2.2.2)]
              refine fn_x Tryz.func32 rfl rfl rfl Tryz.mixed (by kernel_rfl) ?_
              intro w0
              refine Y1 ?_
              refine Zh5 rfl ?_; intro b1
              refine Y4 ?_
              refine Zhp rfl qH (pcs_pages) ?_
              refine Zhg (Zbq (b := 0) rfl rfl) ?_
              refine Zhm 5 rfl (decide_eq_true (h1)) ?_
              refine Y2 ?_
              first|refine Y0 ?_|(refine Zhh rfl ?_; (refine Zhp rfl qH (pcs_pages) ?_))
              first|refine Y0 ?_|(refine Zhh rfl ?_; (refine Zhg (Zbo (b := 65536) rfl rfl) ?_))
              refine Zhm 9 rfl (decide_eq_true (h2)) ?_
              refine Y3 ?_
              first|refine Y0 ?_|(refine Zhh rfl ?_; (refine Zhp rfl qH (pcs_size) ?_))
              first|refine Y0 ?_|(refine Zhh rfl ?_; (refine Zhg (Zbq (b := 29) rfl rfl) ?_))
              refine Zhm 14 rfl (decide_eq_true (h3)) ?_
              refine Y3 ?_
              first|refine Y0 ?_|(refine Zhh rfl ?_; (refine Zhp rfl qH (pcs_size) ?_))
              first|refine Y0 ?_|(refine Zhh rfl ?_; (refine Zhg (Zbo (b := 4124) rfl rfl) ?_))
              refine Zhm 19 rfl (decide_eq_true (h4)) ?_
              refine Y3 ?_
              first|refine Y0 ?_|(refine Zhh rfl ?_; (refine Zhp rfl qH (pcs_window) ?_))
              first|refine Y0 ?_|(refine Zhh rfl ?_; (refine Zhg (Zbq (b := 2) rfl rfl) ?_))
              refine Zhm 24 rfl (decide_eq_true (h5)) ?_
              refine Y3 ?_
              first|refine Y0 ?_|(refine Zhh rfl ?_; (refine Zhp rfl qH (pcs_window) ?_))
              first|refine Y0 ?_|(refine Zhh rfl ?_; (refine Zhg (Zbo (b := 16) rfl rfl) ?_))
              refine Zhn 29 rfl (decide_eq_false (h6)) ?_
              refine V3 ?_
              refine rx1 (Zha rfl (Zg7)) ?_
              exact ⟨_, ⟨rfl, rfl⟩, qI⟩
          · rw [decide_eq_false (show ¬ rightL x from fun h => h5 h.2.2.2.2.1)]
            refine fn_x Tryz.func32 rfl rfl rfl Tryz.mixed (by kernel_rfl) ?_
            intro w0
            refine Y1 ?_
            refine Zh5 rfl ?_; intro b1
            refine Y4 ?_
            refine Zhp rfl qH (pcs_pages) ?_
            refine Zhg (Zbq (b := 0) rfl rfl) ?_
            refine Zhm 5 rfl (decide_eq_true (h1)) ?_
            refine Y2 ?_
            first|refine Y0 ?_|(refine Zhh rfl ?_; (refine Zhp rfl qH (pcs_pages) ?_))
            first|refine Y0 ?_|(refine Zhh rfl ?_; (refine Zhg (Zbo (b := 65536) rfl rfl) ?_))
            refine Zhm 9 rfl (decide_eq_true (h2)) ?_
            refine Y3 ?_
            first|refine Y0 ?_|(refine Zhh rfl ?_; (refine Zhp rfl qH (pcs_size) ?_))
            first|refine Y0 ?_|(refine Zhh rfl ?_; (refine Zhg (Zbq (b := 29) rfl rfl) ?_))
            refine Zhm 14 rfl (decide_eq_true (h3)) ?_
            refine Y3 ?_
            first|refine Y0 ?_|(refine Zhh rfl ?_; (refine Zhp rfl qH (pcs_size) ?_))
            first|refine Y0 ?_|(refine Zhh rfl ?_; (refine Zhg (Zbo (b := 4124) rfl rfl) ?_))
            refine Zhm 19 rfl (decide_eq_true (h4)) ?_
            refine Y3 ?_
            first|refine Y0 ?_|(refine Zhh rfl ?_; (refine Zhp rfl qH (pcs_window) ?_))
            first|refine Y0 ?_|(refine Zhh rfl ?_; (refine Zhg (Zbq (b := 2) rfl rfl) ?_))
            refine Zhn 24 rfl (decide_eq_false (h5)) ?_
            refine V8 ?_
            refine rx1 (Zha rfl (Zg7)) ?_
            exact ⟨_, ⟨rfl, rfl⟩, qI⟩
        · rw [decide_eq_false (show ¬ rightL x from fun h => h4 h.2.2.2.1)]
          refine fn_x Tryz.func32 rfl rfl rfl Tryz.mixed (by kernel_rfl) ?_
          intro w0
          refine Y1 ?_
          refine Zh5 rfl ?_; intro b1
          refine Y4 ?_
          refine Zhp rfl qH (pcs_pages) ?_
          refine Zhg (Zbq (b := 0) rfl rfl) ?_
          refine Zhm 5 rfl (decide_eq_true (h1)) ?_
          refine Y2 ?_
          first|refine Y0 ?_|(refine Zhh rfl ?_; (refine Zhp rfl qH (pcs_pages) ?_))
          first|refine Y0 ?_|(refine Zhh rfl ?_; (refine Zhg (Zbo (b := 65536) rfl rfl) ?_))
          refine Zhm 9 rfl (decide_eq_true (h2)) ?_
          refine Y3 ?_
          first|refine Y0 ?_|(refine Zhh rfl ?_; (refine Zhp rfl qH (pcs_size) ?_))
          first|refine Y0 ?_|(refine Zhh rfl ?_; (refine Zhg (Zbq (b := 29) rfl rfl) ?_))
          refine Zhm 14 rfl (decide_eq_true (h3)) ?_
          refine Y3 ?_
          first|refine Y0 ?_|(refine Zhh rfl ?_; (refine Zhp rfl qH (pcs_size) ?_))
          first|refine Y0 ?_|(refine Zhh rfl ?_; (refine Zhg (Zbo (b := 4124) rfl rfl) ?_))
          refine Zhn 19 rfl (decide_eq_false (h4)) ?_
          refine V13 ?_
          refine rx1 (Zha rfl (Zg7)) ?_
          exact ⟨_, ⟨rfl, rfl⟩, qI⟩
      · rw [decide_eq_false (show ¬ rightL x from fun h => h3 h.2.2.1)]
        refine fn_x Tryz.func32 rfl rfl rfl Tryz.mixed (by kernel_rfl) ?_
        intro w0
        refine Y1 ?_
        refine Zh5 rfl ?_; intro b1
        refine Y4 ?_
        refine Zhp rfl qH (pcs_pages) ?_
        refine Zhg (Zbq (b := 0) rfl rfl) ?_
        refine Zhm 5 rfl (decide_eq_true (h1)) ?_
        refine Y2 ?_
        first|refine Y0 ?_|(refine Zhh rfl ?_; (refine Zhp rfl qH (pcs_pages) ?_))
        first|refine Y0 ?_|(refine Zhh rfl ?_; (refine Zhg (Zbo (b := 65536) rfl rfl) ?_))
        refine Zhm 9 rfl (decide_eq_true (h2)) ?_
        refine Y3 ?_
        first|refine Y0 ?_|(refine Zhh rfl ?_; (refine Zhp rfl qH (pcs_size) ?_))
        first|refine Y0 ?_|(refine Zhh rfl ?_; (refine Zhg (Zbq (b := 29) rfl rfl) ?_))
        refine Zhn 14 rfl (decide_eq_false (h3)) ?_
        refine V18 ?_
        refine rx1 (Zha rfl (Zg7)) ?_
        exact ⟨_, ⟨rfl, rfl⟩, qI⟩
    · rw [decide_eq_false (show ¬ rightL x from fun h => h2 h.2.1)]
      refine fn_x Tryz.func32 rfl rfl rfl Tryz.mixed (by kernel_rfl) ?_
      intro w0
      refine Y1 ?_
      refine Zh5 rfl ?_; intro b1
      refine Y4 ?_
      refine Zhp rfl qH (pcs_pages) ?_
      refine Zhg (Zbq (b := 0) rfl rfl) ?_
      refine Zhm 5 rfl (decide_eq_true (h1)) ?_
      refine Y2 ?_
      first|refine Y0 ?_|(refine Zhh rfl ?_; (refine Zhp rfl qH (pcs_pages) ?_))
      first|refine Y0 ?_|(refine Zhh rfl ?_; (refine Zhg (Zbo (b := 65536) rfl rfl) ?_))
      refine Zhn 9 rfl (decide_eq_false (h2)) ?_
      refine V23 ?_
      refine rx1 (Zha rfl (Zg7)) ?_
      exact ⟨_, ⟨rfl, rfl⟩, qI⟩
  · rw [decide_eq_false (show ¬ rightL x from fun h => h1 h.1)]
    refine fn_x Tryz.func32 rfl rfl rfl Tryz.mixed (by kernel_rfl) ?_
    intro w0
    refine Y1 ?_
    refine Zh5 rfl ?_; intro b1
    refine Y4 ?_
    refine Zhp rfl qH (pcs_pages) ?_
    refine Zhg (Zbq (b := 0) rfl rfl) ?_
    refine Zhn 5 rfl (decide_eq_false (h1)) ?_
    refine V27 ?_
    refine rx1 (Zha rfl (Zg7)) ?_
    exact ⟨_, ⟨rfl, rfl⟩, qI⟩
abbrev svc (o : OpV) : List Value := [.int .i64 o.page_, o.text_V]
/-- A page's text, as it was saved last. -/
def savedB (bk : List OpV) (n : Int) (z : Nat) : List Byte := match bk.reverse.find? (fun o => o.page_ == n) with|some o => o.text_|none => List.replicate z 0#8
theorem savedB_snoc (bk : List OpV) (o : OpV) (n : Int) (z : Nat) : savedB (bk ++ [o]) n z = if n = o.page_ then o.text_ else savedB bk n z := by
  unfold savedB
  rw [List.reverse_append]
  show (match (o :: bk.reverse).find? _ with|some o => o.text_|none => _) = _
  by_cases h : n = o.page_
  · rw [if_pos h, List.find?_cons_of_pos (by simp [h])]
  · rw [if_neg h, List.find?_cons_of_neg (by simp; exact fun hh => h hh.symm)]
theorem savedB_drop (bk : List OpV) (n : Int) {k : Nat} (hk : k < bk.length) (h : ∀ j (hj : j < bk.length), k < j → bk[j].page_ ≠ n) : (bk[k].page_ = n → bk.reverse.find? (fun o => o.page_ == n) = some bk[k]) := by
  intro he
  have e : bk = bk.take k ++ (bk[k] :: bk.drop (k + 1)) := by rw [← List.drop_eq_getElem_cons hk, List.take_append_drop]
  conv => lhs; rw [e]
  rw [List.reverse_append, List.reverse_cons, List.append_assoc, List.find?_append, List.find?_eq_none.2 (by
    intro o ho
    rw [List.mem_reverse] at ho
    obtain ⟨j, hj, rfl⟩ := List.mem_iff_getElem.1 ho
    rw [List.getElem_drop]
    have hj2 : j < bk.length - (k + 1) := by simpa using hj
    have := h (k + 1 + j) (by omega) (by omega)
    simpa using this)]
  simp [he]
theorem last_l {bv : Value} {bk : List OpV} (hb : Rd L 2 bv bk.length (bk.flatMap svc)) (hbl : bk.length ≤ 1048576) (hs : ∀ o ∈ bk, ∃ a c, o.text_V = .slice a o.text_.length c) (n : Int) (z : Nat) (hz : z ≤ 4096) :
    Con Tryz.prog 33 [bv, .int .i64 n, nvv z] L (fun r M => (∃ o ∈ bk, o.text_ = savedB bk n z ∧ r = o.text_V ∧ M = L) ∨ (savedB bk n z = List.replicate z 0#8 ∧ ∃ b, r = .slice (some ⟨b, 0, none⟩) z z ∧ M = cl b ((List.replicate z 0#8).map u8b).toArray 5 :: L)) := by
  refine Con.get (fun w0 w F H => hb.len H) ?_
  rintro ⟨ba, bc, rfl⟩
  refine fn_x Tryz.func33 rfl rfl rfl Tryz.mixed (by kernel_rfl) ?_
  intro w0
  refine Y6 ?_
  refine Zhg (Zbh (a := (bk.length : Int)) (b := 1) rfl rfl (by omega)) ?_
  refine V2 ?_
  refine Zgo [(6, 7), (11, 26)] (by kernel_rfl) (fun i : Nat => i ≤ bk.length ∧ ∀ j (hj : j < bk.length), bk.length - i ≤ j → bk[j].page_ ≠ n) (fun _ => L) (fun i => [(7, .int .i64 ((bk.length : Int) - 1 - i))]) (fun i => bk.length - i) 0 ⟨Nat.zero_le _, fun j hj hh => by omega⟩ qI ⟨by show Value.int .i64 _ = Value.int .i64 _; congr 1; omega, trivial⟩ ?_
  rintro i u ⟨hi, hno⟩
  by_cases hB : i < bk.length
  · have hB2 : ((bk.length : Int) - 1 - i) ≥ 0 := by omega
    have hk : bk.length - 1 - i < bk.length := by omega
    have ei : ((bk.length : Int) - 1 - i) = ((bk.length - 1 - i : Nat) : Int) := by omega
    refine Zgt (fun F w H => hb.someAt (by omega) H) ?_
    rintro ⟨s1, s2, rfl⟩
    refine Y2 ?_
    refine Zhg (Zbq (b := 0) rfl rfl) ?_
    refine Zhm 12 rfl (decide_eq_true (hB2)) ?_
    refine V2 ?_
    by_cases he : bk[bk.length - 1 - i].page_ = n
    · have hf := savedB_drop bk n hk (fun j hj hh => hno j hj (by omega)) he
      have hl : savedB bk n z = bk[bk.length - 1 - i].text_ := by unfold savedB; rw [hf]
      obtain ⟨ta, tc, htv⟩ := hs _ (List.getElem_mem hk)
      refine Y3 ?_
      refine Zhg (Zcg (n := bk.length - 1 - i) rfl (by rw [← ei]; rfl) hk) ?_
      refine Y1 ?_
      refine Zff rfl ((hb.atF (fun _ => rfl) hk (by omega) rfl)) ?_
      refine Y1 ?_
      refine Zhg (Zbr (b := n) rfl rfl) ?_
      refine Zhm 21 rfl (decide_eq_true (he)) ?_
      refine Y5 ?_
      refine Zhg (Zcg (n := bk.length - 1 - i) rfl (by rw [← ei]; rfl) hk) ?_
      refine Y1 ?_
      refine Zff rfl ((hb.atN (j := 1) (fun _ => rfl) hk (by omega) (v := .slice ta bk[bk.length - 1 - i].text_.length tc) (by rw [← htv]; rfl))) ?_
      refine V2 ?_
      refine rx1 (Zhc rfl (Zg7)) ?_
      exact ⟨_, .inl ⟨_, List.getElem_mem hk, hl.symm, htv.symm, rfl⟩, qI⟩
    · refine Y3 ?_
      refine Zhg (Zcg (n := bk.length - 1 - i) rfl (by rw [← ei]; rfl) hk) ?_
      refine Y1 ?_
      refine Zff rfl ((hb.atF (fun _ => rfl) hk (by omega) rfl)) ?_
      refine Y1 ?_
      refine Zhg (Zbr (b := n) rfl rfl) ?_
      refine Zhn 21 rfl (decide_eq_false (he)) ?_
      refine Y4 ?_
      refine Zhg (Zbh (a := (bk.length : Int) - 1 - i) (b := 1) rfl rfl (by omega)) ?_
      refine V2 ?_
      refine Zgl (i + 1) qO ⟨by omega, fun j hj hh => ?_⟩ qI ⟨by show Value.int .i64 _ = Value.int .i64 _; congr 1; omega, trivial⟩
      by_cases e : j = bk.length - 1 - i
      · subst e; exact he
      · exact hno j hj (by omega)
  · have hie : i = bk.length := by omega
    subst hie
    have hl : savedB bk n z = List.replicate z 0#8 := by
      unfold savedB
      rw [List.find?_eq_none.2]
      intro o ho
      rw [List.mem_reverse] at ho
      obtain ⟨j, hj, rfl⟩ := List.mem_iff_getElem.1 ho
      simpa using hno j hj (by omega)
    refine Y2 ?_
    refine Zhg (Zbq (b := 0) rfl rfl) ?_
    refine Zhn 12 rfl (decide_eq_false ((by omega))) ?_
    refine Y4 ?_
    refine Zm3 (f := u8b) (a := 0#8) rfl rfl rfl qS qS qS ?_; intro b28
    refine V2 ?_
    refine rx1 (Zhc rfl (Zg7)) ?_
    exact ⟨_, .inr ⟨hl, b28, rfl, rfl⟩, qI⟩
theorem last_x {bv : Value} {bk : List OpV} (hb : Rd L 2 bv bk.length (bk.flatMap svc)) (hbl : bk.length ≤ 1048576) (hs : ∀ o ∈ bk, ∃ a c, o.text_V = .slice a o.text_.length c) (he : ∀ o ∈ bk, Bs L o.text_V o.text_) (n : Int) (z : Nat) (hz : z ≤ 4096) :
    Con Tryz.prog 33 [bv, .int .i64 n, nvv z] L (fun r M => ∃ A, M = A :: L ∧ Bs (A :: L) r (savedB bk n z)) :=
  (last_l hb hbl hs n z hz).mono fun r M hh => by
    rcases hh with ⟨o, ho, h1, h2, h3⟩|⟨h1, b, h2, h3⟩
    · subst h2 h3
      rw [← h1]
      exact ⟨all [] :: M, Imp.app (L := []) (M := M), all [], rfl, (he o ho).imp Imp.tail⟩
    · subst h2 h3
      rw [h1]
      exact ⟨_, Imp.refl _, _, rfl, bs_full (n := z) .here (List.length_replicate ..) (by omega)⟩
end
end Go.Sl

/- the statements' small helpers: lists with marked room behind them. -/
set_option maxHeartbeats 4000000
set_option maxRecDepth 10000
set_option linter.unusedVariables false
set_option linter.unusedSimpArgs false
namespace Go.Sl
open Go Go.Proofs
attribute [local irreducible] cl pt own old pur ex all den denOps denS xOps xC cX CX xthen xblk xcut xloop xgo xng retX resX Calls PV Rd Con
end Go.Sl

/- the statements' small helpers: numbers as bytes, the lowest first; a list copied into noughts. -/
set_option maxHeartbeats 4000000
set_option maxRecDepth 10000
set_option linter.unusedVariables false
set_option linter.unusedSimpArgs false
namespace Go.Sl
open Go Go.Proofs
attribute [local irreducible] cl pt own old pur ex all den denOps denS xOps xC cX CX xthen xblk xcut xloop xgo xng retX resX Calls PV Rd Con
end Go.Sl

/- trystlaw13: PagerHeads, walked. -/
set_option maxHeartbeats 4000000
set_option maxRecDepth 10000
set_option linter.unusedVariables false
set_option linter.unusedSimpArgs false
namespace Go.Sl
open Go Go.Proofs
attribute [local irreducible] cl pt own old pur ex all den denOps denS xOps xC cX CX xthen xblk xcut xloop xgo xng retX resX Calls PV Rd Con
attribute [local irreducible] hostA pgA PagerS.loadP PagerS.saveP PagerS.flushP pcs
open PagerS (PS Over)
/-- What a play leaves as it is. -/
structure Stays (s t : PS) (h g : HostS.HS) : Prop where
  round : t.round = s.round
  pages : t.pages = s.pages
  size : g.size = h.size
attribute [local irreducible] PagerS.wrs
section
variable {L : List Asrt} {x : PLifeV}
end
end Go.Sl

/- trystlaw13: PagerKeeps, walked. -/
set_option maxHeartbeats 4000000
set_option maxRecDepth 10000
set_option linter.unusedVariables false
set_option linter.unusedSimpArgs false
namespace Go.Sl
open Go Go.Proofs
attribute [local irreducible] cl pt own old pur ex all den denOps denS xOps xC cX CX xthen xblk xcut xloop xgo xng retX resX Calls PV Rd Con
attribute [local irreducible] hostA pgA PagerS.loadP PagerS.saveP PagerS.flushP pcs
open PagerS (PS Over)
theorem numbers_le {s : PS} (hk : PagerS.Ok s) : (PagerS.numbers s).length ≤ s.window := by
  have := hk.many
  unfold PagerS.numbers; rw [List.length_map]; exact this
theorem svc_app (bk : List OpV) (o : OpV) : bk.flatMap svc ++ [.int .i64 o.page_, o.text_V] = (bk ++ [o]).flatMap svc := by rw [List.flatMap_append]; simp
/-- A quiet pager and what was saved. -/
structure KP (x : PLifeV) (i : Nat) (bk : List OpV) (s : PS) (h : HostS.HS) : Prop where
  quiet : PagerS.Quiet s h fun n => savedB bk n (x.size_.toNat - 28)
  pages : s.pages = x.pages_
  text : s.text = x.size_.toNat - 28
  window : (s.window : Int) = x.window_
  writes : s.writes ≤ 16 * i
  ops : h.ops ≤ 16 * i
  len : bk.length ≤ i
  sub : ∀ o ∈ bk, o ∈ x.script_
theorem KP.near {x : PLifeV} {i : Nat} {bk : List OpV} {s s' : PS} {h h' : HostS.HS} {k m : Nat} (kp : KP x i bk s h) (n : PagerS.Near k m s h s' h') (hk : k ≤ 16) (hm : m ≤ 16) {bk' : List OpV} (q : PagerS.Quiet s' h' fun n => savedB bk' n (x.size_.toNat - 28)) (hl : bk'.length ≤ i + 1) (hs : ∀ o ∈ bk', o ∈ x.script_) : KP x (i + 1) bk' s' h' :=
  ⟨q, n.spages.trans kp.pages, n.text.trans kp.text, by rw [n.window]; exact kp.window, by have := n.writes; have := kp.writes; omega, by have := n.ops; have := kp.ops; omega, hl, hs⟩
theorem right_ok {s : PS} {n : Int} (h0 : s.err = 0) (h1 : 0 ≤ n) (h2 : n < s.pages) : PagerS.rightP s n = 0 := by
  unfold PagerS.rightP
  rw [if_neg (by omega), if_neg (by omega)]
theorem right_no {s : PS} {n : Int} (h0 : s.err = 0) (h : ¬ (0 ≤ n ∧ n < s.pages)) : PagerS.rightP s n = 2 := by
  unfold PagerS.rightP
  rw [if_neg (by omega), if_pos (by omega)]
theorem load_right2 {s : PS} {h : HostS.HS} {n : Int} (hr : PagerS.rightP s n = 2) : PagerS.loadP s h n = (([], 2), s, h) := by
  with_unfolding_all unfold PagerS.loadP
  rw [hr]; rfl
theorem save_right2 {s : PS} {h : HostS.HS} {n : Int} {t : List Byte} (hr : PagerS.rightP s n = 2) : PagerS.saveP s h n t = (2, s, h) := by
  with_unfolding_all unfold PagerS.saveP
  rw [hr]; rfl
theorem save_len4 {s : PS} {h : HostS.HS} {n : Int} {t : List Byte} (hr : PagerS.rightP s n = 0) (hl : ¬ t.length = s.text) : PagerS.saveP s h n t = (4, s, h) := by
  with_unfolding_all unfold PagerS.saveP
  rw [if_pos hr, if_neg hl]
attribute [local irreducible] savedB
section
variable {L : List Asrt} {x : PLifeV}
theorem keeps_x (hi : PIn L x) (hup : x.script_.length ≤ 1048576) : Con Tryz.prog 7 [.agg (pcs x)] L (fun r M => r = .bool true ∧ L = M) := by
  refine Con.get (fun w0 w F H => hi.flt.rd.len H) ?_
  rintro ⟨fa, fc, hfv⟩
  refine Con.get (fun w0 w F H => hi.ops.rd.len H) ?_
  rintro ⟨sa, sc, hsv⟩
  refine Con.get (fun w0 w F H => fun o (ho : o ∈ x.script_) => (hi.ops.el o ho).1.sh _ _ _ H) ?_
  intro hshp
  have hiy := pin_noF hi
  have hky := hiy.key
  have hlen := pcs_len hi.key
  have hlen2 := pcs_len hky
  have h36 : 36 < (pcs x).size := by omega
  have hone := pcs_one (x := noF x) (fa := none) (fn := 0) (fc := 0) rfl hsv
  by_cases hr : rightL (noF x)
  · have hm := right_made.1 hr
    obtain ⟨m1, m2, m3, m4, m5, m6, m7⟩ := made_facts hky hm
    have hrt : decide (rightL (noF x)) = true := decide_eq_true hr
    refine fn_x Tryz.func7 rfl rfl rfl Tryz.mixed (by kernel_rfl) ?_
    intro w0
    refine Y1 ?_
    refine Zh5 rfl ?_; intro b1
    refine Y4 ?_
    refine Zhw rfl rfl qR h36 (pcs_noF hi.key) ?_
    refine Y3 ?_
    refine Zh8 rfl (by kernel_rfl) (made_ok hiy hm) rfl qT ?_
    rintro _ _ ⟨ph, p, rfl, rfl⟩
    refine Y11 ?_
    refine Zh8 rfl (by kernel_rfl) (right_l hky) rfl qT ?_
    rintro _ _ ⟨rfl, rfl⟩
    refine Y1 ?_
    refine Zhg (Zb0 rfl) ?_
    refine Zhn 22 rfl ((by rw [hrt]; rfl)) ?_
    refine Y2 ?_
    first|refine Y0 ?_|(refine Zhh rfl ?_; (refine Zhg (Zb0 rfl) ?_))
    refine Zhn 25 rfl (rfl) ?_
    refine V3 ?_
    have hscr := pcs_script hky
    have hsv2 : (noF x).script_V = .slice sa x.script_.length sc := hsv
    rw [hsv2] at hscr
    have hops := hi.ops
    rw [hsv] at hops
    have e1 : (noF x).pages_ = x.pages_ := rfl
    have e2 : (noF x).size_ = x.size_ := rfl
    have e3 : (noF x).window_ = x.window_ := rfl
    have hq0 : PagerS.Quiet (ps0 (noF x)) (hs0 (noF x)) (fun n => savedB [] n (x.size_.toNat - 28)) := by with_unfolding_all exact PagerS.quiet_fresh m1 rfl m2.size (PagerS.calm_fresh _ _)
    have kp0 : KP x 0 [] (ps0 (noF x)) (hs0 (noF x)) := ⟨hq0, rfl, rfl, by show ((x.window_.toNat : Nat) : Int) = x.window_; omega, Nat.zero_le _, Nat.zero_le _, Nat.zero_le _, fun o ho => (by cases ho)⟩
    have hsz : x.size_ - 28 = ((x.size_.toNat - 28 : Nat) : Int) := by omega
    rw [e1] at m6 m7
    rw [e2] at m5
    rw [e3] at m4
    have hz4 : x.size_.toNat - 28 ≤ 4096 := by omega
    generalize ps0 (noF x) = s0 at *
    generalize hs0 (noF x) = h0 at *
    clear m1 m2 m3 hrt hm hq0
    refine V6 ?_
    refine Zgp (Imp.own_nil (E := 78) (size := 2)) ?_
    refine Zgo [(2, 2), (6, 12), (37, 167)] (by kernel_rfl) (fun z : Nat × (List OpV × Option Addr × Nat) × PS × HostS.HS => z.1 ≤ x.script_.length ∧ KP x z.1 z.2.1.1 z.2.2.1 z.2.2.2)
      (fun z => own 78 2 (.slice z.2.1.2.1 z.2.1.1.length z.2.1.2.2) z.2.1.1.length (z.2.1.1.flatMap svc) :: pgA p ph z.2.2.1 :: hostA ph z.2.2.2 :: cl b1 (pcs (noF x)) 58 :: L) (fun z => [(7, nvv z.1), (6, .slice z.2.1.2.1 z.2.1.1.length z.2.1.2.2)]) (fun z => x.script_.length - z.1) (0, ([], none, 0), s0, h0) ⟨Nat.zero_le _, kp0⟩ qI ⟨rfl, rfl, trivial⟩ ?_
    clear kp0
    rintro ⟨i, ⟨bk, oa, oc⟩, s1, h1⟩ u ⟨hil, kp⟩
    dsimp only at hil kp ⊢
    refine Y3 ?_
    refine Zhp rfl qH (hscr) ?_
    refine V3 ?_
    refine Zgg rfl (fun hB => ?_) (fun hB => ?_)
    · refine Zgt (fun F w H => (hops.rd.imp (Imp.arr (M := _) qV)).someAt (by omega) H) ?_
      rintro ⟨b, o, rfl⟩
      obtain ⟨hel, hell⟩ := hops.el _ (List.getElem_mem hB)
      have hmem : x.script_[i] ∈ x.script_ := List.getElem_mem hB
      refine Zgt (fun F w H => (hel.imp (Imp.arr (M := _) qV)).sh _ _ _ H) ?_
      rintro ⟨ta, tc, htv, htc, htcm⟩
      have hone2 : x.script_[i].cells.toArray.toList.all oneC = true := by simp [OpV.cells, oneC, htv]
      have hsl : ∀ o ∈ bk, ∃ a c, o.text_V = .slice a o.text_.length c := fun o ho => by
        obtain ⟨a, c, e, _⟩ := hshp o (kp.sub o ho)
        exact ⟨a, c, e⟩
      have hq := kp.quiet
      have hov := hq.sound.over
      have hko := hq.sound.ok
      have hkw := kp.writes
      have hkl := kp.len
      have hkp := kp.ops
      have hkt := kp.text
      have hkg := kp.pages
      have hwl : s1.writes < 4294967295 := by omega
      have hcell : (x.script_[i].cells.toArray)[2]? = some (.slice ta x.script_[i].text_.length tc) := by rw [← htv]; rfl
      refine Y2 ?_
      refine Zhp rfl qH (hscr) ?_
      refine Y2 ?_
      refine Zfg rfl ((hops.rd.imp qI).agN opv_len (by omega) hB) ?_
      refine Zhz (cs := #[.int .i64 0, .int .i64 0, .slice none 0 0]) rfl ?_; intro b8
      first|refine Zhy rfl rfl qR qZ (by first|rfl|exact oneM_u8 _|exact oneL_u8 _|assumption|(simp [oneC]; done)) qZ ?_|refine Zhx rfl rfl qR qZ (by first|rfl|exact oneM_u8 _|exact oneL_u8 _|assumption|(simp [oneC]; done)) qZ rfl ?_
      refine V1 ?_
      have hpg : (x.script_[i].cells.toArray)[1]? = some (.int .i64 x.script_[i].page_) := rfl
      have hpgs : (pcs (noF x))[0]? = some (.int .i64 x.pages_) := pcs_pages
      have hzx : (pcs (noF x))[1]? = some (.int .i64 x.size_) := pcs_size
      have hwx : (pcs (noF x))[2]? = some (.int .i64 x.window_) := pcs_window
      by_cases ht : 0 ≤ x.script_[i].page_ ∧ x.script_[i].page_ < x.pages_
      · refine Y2 ?_
        refine Zhp rfl qH (hpg) ?_
        refine Zhg (Zbq (b := 0) rfl rfl) ?_
        refine Zhm 51 rfl (decide_eq_true (ht.1)) ?_
        refine Y2 ?_
        first|refine Y0 ?_|(refine Zhh rfl ?_; (refine Zhp rfl qH (hpg) ?_))
        refine Y1 ?_
        first|refine Y0 ?_|(refine Zhh rfl ?_; (refine Zhp rfl qH (hpgs) ?_))
        first|refine Y0 ?_|(refine Zhh rfl ?_; (refine Zhg (Zbn (b := x.pages_) rfl rfl) ?_))
        refine Zhm 57 rfl (decide_eq_true (ht.2)) ?_
        refine Y7 ?_
        repeat (first|refine zA ?_|refine zB ?_|refine zD ?_|refine zE ?_|refine zF ?_|refine zG ?_|refine zH ?_|refine zI ?_|refine zJ ?_|refine zK ?_|refine zL ?_|refine zM rfl ?_|refine zN ?_|refine zO ?_|refine zP ?_|refine zQ ?_)
        refine Zgn [(2, 2), (6, 6), (10, 12), (61, 149)] (by kernel_rfl) (fun z : (List OpV × Option Addr × Nat) × PS × HostS.HS => KP x (i + 1) z.1.1 z.2.1 z.2.2) (fun z => own 78 2 (.slice z.1.2.1 z.1.1.length z.1.2.2) z.1.1.length (z.1.1.flatMap svc) :: pgA p ph z.2.1 :: hostA ph z.2.2 :: cl b1 (pcs (noF x)) 58 :: L) (fun z => [(6, .slice z.1.2.1 z.1.1.length z.1.2.2)]) ?_ ?_
        · refine Ct.o ?_
          by_cases k0 : x.script_[i].kind_ = 0
          · obtain ⟨q1, q2⟩ := hq.load hwl ht.1 (by rw [hkg]; exact ht.2)
            have hld := load_x (p := p) (ph := ph) hov (by omega) x.script_[i].page_
            rw [q1] at hld
            dsimp only at hld
            have hla := last_x (L := own 78 2 (.slice oa bk.length oc) bk.length (bk.flatMap svc) :: L) (Rd.own .here) (by omega) hsl (fun o ho => (hops.el o (kp.sub o ho)).1.imp Imp.tail) x.script_[i].page_ (x.size_.toNat - 28) hz4
            refine Y1 ?_
            refine Zhg (Zbr (b := 0) rfl rfl) ?_
            refine Zhm 62 rfl (decide_eq_true (k0)) ?_
            refine Y6 ?_
            refine Zhp rfl qH (hpg) ?_
            refine Zh8 rfl (by kernel_rfl) (hld) rfl qT ?_
            rintro _ _ ⟨la, lc, rfl, rfl⟩
            refine Y10 ?_
            refine Zhm 71 rfl (rfl) ?_
            refine Y2 ?_
            refine Zhn 73 rfl (decide_eq_false ((fun hh => hh rfl))) ?_
            refine Y4 ?_
            first|refine Y0 ?_|(refine Zhh rfl ?_; (refine Zhp rfl qH (hpg) ?_))
            refine Y1 ?_
            first|refine Y0 ?_|(refine Zhh rfl ?_; (refine Zhp rfl qH (hzx) ?_))
            first|refine Y0 ?_|(refine Zhh rfl ?_; (refine Zhg (Zbh (a := x.size_) (b := 28) rfl rfl (by omega)) ?_))
            first|refine Y0 ?_|(refine Zhh rfl ?_; refine Zh8 rfl (by kernel_rfl) (by rw [hsz]; exact hla) rfl qT ?_); rintro _ _ ⟨A, rfl, hA⟩; refine Zg2 qA ?_
            first|refine Y0 ?_|(refine Zhh rfl ?_; (refine Zh8 rfl (by kernel_rfl) (eqBytes_x (L := ownB la lc (savedB bk x.script_[i].page_ (x.size_.toNat - 28)) :: A :: own 78 2 (.slice oa bk.length oc) bk.length (bk.flatMap svc) :: L) (a := savedB bk x.script_[i].page_ (x.size_.toNat - 28)) (b := savedB bk x.script_[i].page_ (x.size_.toNat - 28)) (Bs.own .here) (hA.imp Imp.tail)) rfl qT ?_); (rintro _ _ ⟨rfl, rfl⟩); (refine Zg2 qA ?_))
            refine Zhm 83 rfl (decide_eq_true (rfl)) ?_
            first|refine Y0 ?_|(refine Zhh rfl ?_; (refine Zhg (Zb0 rfl) ?_))
            refine Zhn 84 rfl (rfl) ?_
            refine Y4 ?_
            first|refine Y0 ?_|(refine Zhh rfl ?_; (refine Zhg (Zb0 rfl) ?_))
            refine Zhn 89 rfl (rfl) ?_
            refine V7 ?_
            exact Zgk ((bk, oa, oc), (PagerS.loadP s1 h1 x.script_[i].page_).2.1, (PagerS.loadP s1 h1 x.script_[i].page_).2.2) (kp.near (PagerS.near_load s1 h1 _) (by omega) (by omega) q2 (show bk.length ≤ i + 1 by omega) kp.sub) qI ⟨rfl, trivial⟩
          refine Y1 ?_
          refine Zhg (Zbr (b := 0) rfl rfl) ?_
          refine Zhn 62 rfl (decide_eq_false (k0)) ?_
          refine V3 ?_
          by_cases k1 : x.script_[i].kind_ = 1
          · have hsv9 := save_x (p := p) (ph := ph) (L := L) hov (by omega) x.script_[i].page_ hel
            rw [htv] at hsv9
            by_cases hlq : x.script_[i].text_.length = s1.text
            · obtain ⟨q1, q2⟩ := hq.save hwl ht.1 (by rw [hkg]; exact ht.2) hlq
              rw [q1] at hsv9
              have hbk : (fun n => savedB (bk ++ [x.script_[i]]) n (x.size_.toNat - 28)) = HostS.setF (fun n => savedB bk n (x.size_.toNat - 28)) x.script_[i].page_ x.script_[i].text_ := by
                funext n
                unfold HostS.setF
                rw [savedB_snoc]
              rw [← hbk] at q2
              have hln : x.script_[i].text_.length = x.size_.toNat - 28 := hlq.trans hkt
              refine Y1 ?_
              refine Zhg (Zbr (b := 1) rfl rfl) ?_
              refine Zhm 96 rfl (decide_eq_true (k1)) ?_
              refine Y6 ?_
              refine Zhp rfl qH (hpg) ?_
              refine Y1 ?_
              refine Zhp rfl qH (hcell) ?_
              refine Zh8 rfl (by kernel_rfl) (hsv9) rfl qT ?_
              rintro _ _ ⟨rfl, rfl⟩
              refine Y5 ?_
              refine Zhg (Zb0 rfl) ?_
              refine Zhn 104 rfl (rfl) ?_
              refine Y7 ?_
              refine Zhm 111 rfl (rfl) ?_
              refine Y2 ?_
              refine Zhm 113 rfl (decide_eq_true (rfl)) ?_
              refine Y1 ?_
              first|refine Y0 ?_|(refine Zhh rfl ?_; (refine Zhp rfl qH (hcell) ?_))
              refine Y2 ?_
              first|refine Y0 ?_|(refine Zhh rfl ?_; (refine Zhp rfl qH (hzx) ?_))
              first|refine Y0 ?_|(refine Zhh rfl ?_; (refine Zhg (Zbh (a := x.size_) (b := 28) rfl rfl (by omega)) ?_))
              first|refine Y0 ?_|(refine Zhh rfl ?_; (refine Zhg (Zbr (a := (x.script_[i].text_.length : Int)) (b := x.size_ - 28) rfl rfl) ?_))
              refine Zhm 120 rfl (decide_eq_true ((by omega))) ?_
              refine Y1 ?_
              refine Zhn 121 rfl (rfl) ?_
              refine Y5 ?_
              refine Zhm 126 rfl (rfl) ?_
              refine Y2 ?_
              refine Zhn 128 rfl (decide_eq_false ((fun hh => hh rfl))) ?_
              refine Y11 ?_
              refine Zhm 136 rfl (decide_eq_true (rfl)) ?_
              refine Y5 ?_
              refine Zhp rfl qH (hpg) ?_
              refine Y1 ?_
              refine Zhp rfl qH (hcell) ?_
              refine Zhg (Zdm (cs := #[.int .i64 x.script_[i].page_, .slice ta x.script_[i].text_.length tc]) rfl) ?_
              refine Zh7 (cs := #[.int .i64 x.script_[i].page_, .slice ta x.script_[i].text_.length tc]) (by omega) (by omega) qF ?_; intro b143
              refine Zia rfl rfl qH (Rd.cl (xs := [.int .i64 x.script_[i].page_, .slice ta x.script_[i].text_.length tc]) qH rfl qZ rfl) (by first|rfl|exact oneM_u8 _|exact oneL_u8 _|assumption|(simp [oneC]; done)) (by omega) qS ?_; intro a3 c3
              refine V2 ?_
              rw [← htv, svc_app, show bk.length + 1 = (bk ++ [x.script_[i]]).length by simp]
              refine Zgk ((bk ++ [x.script_[i]], a3, c3), (PagerS.saveP s1 h1 x.script_[i].page_ x.script_[i].text_).2.1, (PagerS.saveP s1 h1 x.script_[i].page_ x.script_[i].text_).2.2) (kp.near (PagerS.near_save s1 h1 _ _) (by omega) (by omega) q2 (by simp; omega) ?_) qI ⟨rfl, trivial⟩
              intro o ho
              rcases List.mem_append.1 ho with ho|ho
              · exact kp.sub o ho
              · rw [List.mem_singleton] at ho; rw [ho]; exact hmem
            · have hs4 : PagerS.saveP s1 h1 x.script_[i].page_ x.script_[i].text_ = (4, s1, h1) := save_len4 (right_ok hq.err ht.1 (by rw [hkg]; exact ht.2)) hlq
              rw [hs4] at hsv9
              refine Y1 ?_
              refine Zhg (Zbr (b := 1) rfl rfl) ?_
              refine Zhm 96 rfl (decide_eq_true (k1)) ?_
              refine Y6 ?_
              refine Zhp rfl qH (hpg) ?_
              refine Y1 ?_
              refine Zhp rfl qH (hcell) ?_
              refine Zh8 rfl (by kernel_rfl) (hsv9) rfl qT ?_
              rintro _ _ ⟨rfl, rfl⟩
              refine Y5 ?_
              refine Zhg (Zb0 rfl) ?_
              refine Zhn 104 rfl (rfl) ?_
              refine Y7 ?_
              refine Zhm 111 rfl (rfl) ?_
              refine Y1 ?_
              first|refine Y0 ?_|(refine Zhh rfl ?_; (refine Zhg (Zmj (a := 4) (b := 0) rfl rfl) ?_))
              refine Zhn 113 rfl (decide_eq_false ((by omega))) ?_
              refine Y1 ?_
              first|refine Y0 ?_|(refine Zhh rfl ?_; (refine Zhp rfl qH (hcell) ?_))
              refine Y2 ?_
              first|refine Y0 ?_|(refine Zhh rfl ?_; (refine Zhp rfl qH (hzx) ?_))
              first|refine Y0 ?_|(refine Zhh rfl ?_; (refine Zhg (Zbh (a := x.size_) (b := 28) rfl rfl (by omega)) ?_))
              first|refine Y0 ?_|(refine Zhh rfl ?_; (refine Zhg (Zbr (a := (x.script_[i].text_.length : Int)) (b := x.size_ - 28) rfl rfl) ?_))
              refine Zhn 120 rfl (decide_eq_false ((by omega))) ?_
              refine Y1 ?_
              refine Zhn 121 rfl (rfl) ?_
              refine Y5 ?_
              refine Zhm 126 rfl (rfl) ?_
              refine Y1 ?_
              first|refine Y0 ?_|(refine Zhh rfl ?_; (refine Zhg (Zmk (a := 4) (b := 0) rfl rfl) ?_))
              refine Zhm 128 rfl (decide_eq_true ((by omega))) ?_
              refine Y2 ?_
              refine Zhm 130 rfl (rfl) ?_
              refine Y1 ?_
              first|refine Y0 ?_|(refine Zhh rfl ?_; (refine Zhg (Zmk (a := 4) (b := 4) rfl rfl) ?_))
              refine Zhn 132 rfl (decide_eq_false ((fun hh => hh rfl))) ?_
              refine Y6 ?_
              refine Zhg (Zmj (a := 4) (b := 0) rfl rfl) ?_
              refine Zhn 136 rfl (decide_eq_false ((by omega))) ?_
              refine V2 ?_
              exact Zgk ((bk, oa, oc), s1, h1) (kp.near (PagerS.Near.refl 0 0 s1 h1) (by omega) (by omega) hq (show bk.length ≤ i + 1 by omega) kp.sub) qI ⟨rfl, trivial⟩
          refine Y1 ?_
          refine Zhg (Zbr (b := 1) rfl rfl) ?_
          refine Zhn 96 rfl (decide_eq_false (k1)) ?_
          refine V3 ?_
          by_cases k2 : x.script_[i].kind_ = 2
          · obtain ⟨q1, q2⟩ := hq.flush (by omega)
            have hfx := flush_x (p := p) (ph := ph) hov (by omega)
            rw [q1] at hfx
            refine Y1 ?_
            refine Zhg (Zbr (b := 2) rfl rfl) ?_
            refine Zhm 146 rfl (decide_eq_true (k2)) ?_
            refine Y5 ?_
            refine Zh8 rfl (by kernel_rfl) (hfx) rfl qT ?_
            rintro _ _ ⟨rfl, rfl⟩
            refine Y2 ?_
            refine Zhn 149 rfl (decide_eq_false ((fun hh => hh rfl))) ?_
            refine V2 ?_
            exact Zgk ((bk, oa, oc), (PagerS.flushP s1 h1).2.1, (PagerS.flushP s1 h1).2.2) (kp.near (PagerS.near_flush hko h1) (by omega) (by omega) q2 (show bk.length ≤ i + 1 by omega) kp.sub) qI ⟨rfl, trivial⟩
          refine Y1 ?_
          refine Zhg (Zbr (b := 2) rfl rfl) ?_
          refine Zhn 146 rfl (decide_eq_false (k2)) ?_
          refine V3 ?_
          exact Zgk ((bk, oa, oc), s1, h1) (kp.near (PagerS.Near.refl 0 0 s1 h1) (by omega) (by omega) hq (show bk.length ≤ i + 1 by omega) kp.sub) qI ⟨rfl, trivial⟩
        · rintro ⟨⟨bk2, oa2, oc2⟩, s2, h2⟩ u2 kp2
          dsimp only at kp2 ⊢
          have hk2 := kp2.quiet.sound.ok
          have hnl := numbers_le hk2
          have hmo := hk2.most
          have hw2 := kp2.window
          have he2 := kp2.quiet.err
          refine Ct.o ?_
          refine Zij ([pgA p ph s2, cl b1 (pcs (noF x)) 58]) [1, 2, 8] (.q 0 (.q 3 (.r 4 (.e 1 true (.r 2 (.q 5 (.q 6 (.q 7 (.q 9 (.r 10 (.e 8 true (.q 11 (.q 12 (.q 13 (.q 14 (.e 15 false (.q 16 (.q 17 .nil)))))))))))))))))) (by kernel_rfl) (by kernel_rfl) (Imp.arr qV) ?_
          refine W2 ?_
          refine Ziv rfl rfl qH (hwx) ?_
          refine Ziq rfl ?_
          refine Zh8 rfl (by kernel_rfl) (held_x) rfl qT ?_
          rintro _ _ ⟨ha, hc, rfl, rfl⟩
          refine Y1 ?_
          refine Zg3 ⟨fun _ => Imp.arr qV, ?_⟩
          refine W1 ?_
          refine Zim rfl (Zbp (a := ((PagerS.numbers s2).length : Int)) (b := x.window_) rfl rfl) ?_
          refine Zi6 155 rfl (decide_eq_false ((by omega))) ?_
          refine W3 ?_
          first|refine Zi1 rfl rfl ?_|refine Zi2 rfl rfl ?_|refine Ziw rfl rfl rfl qH (hwx) ?_
          refine Ziq rfl ?_
          first|refine Y0 ?_|(refine Zhh rfl ?_; (refine Zh8 rfl (by kernel_rfl) (most_p) rfl qT ?_); (rintro _ _ ⟨rfl, rfl⟩); (refine Zg2 qA ?_))
          refine Zg3 ⟨fun _ => Imp.arr qV, ?_⟩
          first|refine Zio rfl rfl ?_|refine Zip rfl rfl ?_|refine Zin rfl rfl (Zbp (a := (s2.most : Int)) (b := x.window_) rfl rfl) ?_
          refine Zi6 161 rfl (decide_eq_false ((by omega))) ?_
          refine W3 ?_
          refine Ziq rfl ?_
          first|refine Y0 ?_|(refine Zhh rfl ?_; (refine Zh8 rfl (by kernel_rfl) (err_p) rfl qT ?_); (rintro _ _ ⟨rfl, rfl⟩); (refine Zg2 qA ?_))
          refine Zg3 ⟨(fun hh => Bool.noConfusion hh), ?_⟩
          first|refine Zio rfl rfl ?_|refine Zip rfl rfl ?_|refine Zin rfl rfl (Zmk (a := s2.err) (b := 0) rfl rfl) ?_
          refine Zi6 166 rfl (decide_eq_false ((fun hh => hh he2))) ?_
          refine W2 ?_
          refine V6 ?_
          exact Zgl (i + 1, (bk2, oa2, oc2), s2, h2) qO ⟨by dsimp only; omega, kp2⟩ qI ⟨rfl, rfl, trivial⟩
      · have hr2 : PagerS.rightP s1 x.script_[i].page_ = 2 := right_no hq.err (by rw [hkg]; omega)
        by_cases ht0 : 0 ≤ x.script_[i].page_
        · have ht1 : ¬ x.script_[i].page_ < x.pages_ := fun hh => ht ⟨ht0, hh⟩
          refine Y2 ?_
          refine Zhp rfl qH (hpg) ?_
          refine Zhg (Zbq (b := 0) rfl rfl) ?_
          refine Zhm 51 rfl (decide_eq_true (ht0)) ?_
          refine Y2 ?_
          first|refine Y0 ?_|(refine Zhh rfl ?_; (refine Zhp rfl qH (hpg) ?_))
          refine Y1 ?_
          first|refine Y0 ?_|(refine Zhh rfl ?_; (refine Zhp rfl qH (hpgs) ?_))
          first|refine Y0 ?_|(refine Zhh rfl ?_; (refine Zhg (Zbn (b := x.pages_) rfl rfl) ?_))
          refine Zhn 57 rfl (decide_eq_false (ht1)) ?_
          refine Y7 ?_
          repeat (first|refine zA ?_|refine zB ?_|refine zD ?_|refine zE ?_|refine zF ?_|refine zG ?_|refine zH ?_|refine zI ?_|refine zJ ?_|refine zK ?_|refine zL ?_|refine zM rfl ?_|refine zN ?_|refine zO ?_|refine zP ?_|refine zQ ?_)
          refine Zgn [(2, 2), (6, 6), (10, 12), (61, 149)] (by kernel_rfl) (fun z : (List OpV × Option Addr × Nat) × PS × HostS.HS => KP x (i + 1) z.1.1 z.2.1 z.2.2) (fun z => own 78 2 (.slice z.1.2.1 z.1.1.length z.1.2.2) z.1.1.length (z.1.1.flatMap svc) :: pgA p ph z.2.1 :: hostA ph z.2.2 :: cl b1 (pcs (noF x)) 58 :: L) (fun z => [(6, .slice z.1.2.1 z.1.1.length z.1.2.2)]) ?_ ?_
          · refine Ct.o ?_
            by_cases k0 : x.script_[i].kind_ = 0
            · have hld := load_x (p := p) (ph := ph) hov (by omega) x.script_[i].page_
              rw [load_right2 hr2] at hld
              dsimp only at hld
              refine Y1 ?_
              refine Zhg (Zbr (b := 0) rfl rfl) ?_
              refine Zhm 62 rfl (decide_eq_true (k0)) ?_
              refine Y6 ?_
              refine Zhp rfl qH (hpg) ?_
              refine Zh8 rfl (by kernel_rfl) (hld) rfl qT ?_
              rintro _ _ ⟨la, lc, rfl, rfl⟩
              refine Y10 ?_
              refine Zhn 71 rfl (rfl) ?_
              refine Y17 ?_
              first|refine Y0 ?_|(refine Zhh rfl ?_; (refine Zhg (Zb0 rfl) ?_))
              refine Zhm 89 rfl (rfl) ?_
              refine Y2 ?_
              first|refine Y0 ?_|(refine Zhh rfl ?_; (refine Zhg (Zmk (a := 2) (b := 2) rfl rfl) ?_))
              refine Zhn 92 rfl (decide_eq_false ((fun hh => hh rfl))) ?_
              refine V4 ?_
              exact Zgk ((bk, oa, oc), s1, h1) (kp.near (PagerS.Near.refl 0 0 s1 h1) (by omega) (by omega) hq (show bk.length ≤ i + 1 by omega) kp.sub) qI ⟨rfl, trivial⟩
            refine Y1 ?_
            refine Zhg (Zbr (b := 0) rfl rfl) ?_
            refine Zhn 62 rfl (decide_eq_false (k0)) ?_
            refine V3 ?_
            by_cases k1 : x.script_[i].kind_ = 1
            · have hsv9 := save_x (p := p) (ph := ph) (L := L) hov (by omega) x.script_[i].page_ hel
              rw [htv] at hsv9
              rw [save_right2 hr2] at hsv9
              refine Y1 ?_
              refine Zhg (Zbr (b := 1) rfl rfl) ?_
              refine Zhm 96 rfl (decide_eq_true (k1)) ?_
              refine Y6 ?_
              refine Zhp rfl qH (hpg) ?_
              refine Y1 ?_
              refine Zhp rfl qH (hcell) ?_
              refine Zh8 rfl (by kernel_rfl) (hsv9) rfl qT ?_
              rintro _ _ ⟨rfl, rfl⟩
              refine Y5 ?_
              refine Zhg (Zb0 rfl) ?_
              refine Zhm 104 rfl (rfl) ?_
              refine Y2 ?_
              first|refine Y0 ?_|(refine Zhh rfl ?_; (refine Zhg (Zmk (a := 2) (b := 2) rfl rfl) ?_))
              refine Zhn 107 rfl (decide_eq_false ((fun hh => hh rfl))) ?_
              refine Y4 ?_
              refine Zhn 111 rfl (rfl) ?_
              refine Y15 ?_
              refine Zhn 126 rfl (rfl) ?_
              refine Y12 ?_
              refine Zhg (Zmj (a := 2) (b := 0) rfl rfl) ?_
              refine Zhn 136 rfl (decide_eq_false ((by omega))) ?_
              refine V2 ?_
              exact Zgk ((bk, oa, oc), s1, h1) (kp.near (PagerS.Near.refl 0 0 s1 h1) (by omega) (by omega) hq (show bk.length ≤ i + 1 by omega) kp.sub) qI ⟨rfl, trivial⟩
            refine Y1 ?_
            refine Zhg (Zbr (b := 1) rfl rfl) ?_
            refine Zhn 96 rfl (decide_eq_false (k1)) ?_
            refine V3 ?_
            by_cases k2 : x.script_[i].kind_ = 2
            · obtain ⟨q1, q2⟩ := hq.flush (by omega)
              have hfx := flush_x (p := p) (ph := ph) hov (by omega)
              rw [q1] at hfx
              refine Y1 ?_
              refine Zhg (Zbr (b := 2) rfl rfl) ?_
              refine Zhm 146 rfl (decide_eq_true (k2)) ?_
              refine Y5 ?_
              refine Zh8 rfl (by kernel_rfl) (hfx) rfl qT ?_
              rintro _ _ ⟨rfl, rfl⟩
              refine Y2 ?_
              refine Zhn 149 rfl (decide_eq_false ((fun hh => hh rfl))) ?_
              refine V2 ?_
              exact Zgk ((bk, oa, oc), (PagerS.flushP s1 h1).2.1, (PagerS.flushP s1 h1).2.2) (kp.near (PagerS.near_flush hko h1) (by omega) (by omega) q2 (show bk.length ≤ i + 1 by omega) kp.sub) qI ⟨rfl, trivial⟩
            refine Y1 ?_
            refine Zhg (Zbr (b := 2) rfl rfl) ?_
            refine Zhn 146 rfl (decide_eq_false (k2)) ?_
            refine V3 ?_
            exact Zgk ((bk, oa, oc), s1, h1) (kp.near (PagerS.Near.refl 0 0 s1 h1) (by omega) (by omega) hq (show bk.length ≤ i + 1 by omega) kp.sub) qI ⟨rfl, trivial⟩
          · rintro ⟨⟨bk2, oa2, oc2⟩, s2, h2⟩ u2 kp2
            dsimp only at kp2 ⊢
            have hk2 := kp2.quiet.sound.ok
            have hnl := numbers_le hk2
            have hmo := hk2.most
            have hw2 := kp2.window
            have he2 := kp2.quiet.err
            refine Ct.o ?_
            refine Zij ([pgA p ph s2, cl b1 (pcs (noF x)) 58]) [1, 2, 8] (.q 0 (.q 3 (.r 4 (.e 1 true (.r 2 (.q 5 (.q 6 (.q 7 (.q 9 (.r 10 (.e 8 true (.q 11 (.q 12 (.q 13 (.q 14 (.e 15 false (.q 16 (.q 17 .nil)))))))))))))))))) (by kernel_rfl) (by kernel_rfl) (Imp.arr qV) ?_
            refine W2 ?_
            refine Ziv rfl rfl qH (hwx) ?_
            refine Ziq rfl ?_
            refine Zh8 rfl (by kernel_rfl) (held_x) rfl qT ?_
            rintro _ _ ⟨ha, hc, rfl, rfl⟩
            refine Y1 ?_
            refine Zg3 ⟨fun _ => Imp.arr qV, ?_⟩
            refine W1 ?_
            refine Zim rfl (Zbp (a := ((PagerS.numbers s2).length : Int)) (b := x.window_) rfl rfl) ?_
            refine Zi6 155 rfl (decide_eq_false ((by omega))) ?_
            refine W3 ?_
            first|refine Zi1 rfl rfl ?_|refine Zi2 rfl rfl ?_|refine Ziw rfl rfl rfl qH (hwx) ?_
            refine Ziq rfl ?_
            first|refine Y0 ?_|(refine Zhh rfl ?_; (refine Zh8 rfl (by kernel_rfl) (most_p) rfl qT ?_); (rintro _ _ ⟨rfl, rfl⟩); (refine Zg2 qA ?_))
            refine Zg3 ⟨fun _ => Imp.arr qV, ?_⟩
            first|refine Zio rfl rfl ?_|refine Zip rfl rfl ?_|refine Zin rfl rfl (Zbp (a := (s2.most : Int)) (b := x.window_) rfl rfl) ?_
            refine Zi6 161 rfl (decide_eq_false ((by omega))) ?_
            refine W3 ?_
            refine Ziq rfl ?_
            first|refine Y0 ?_|(refine Zhh rfl ?_; (refine Zh8 rfl (by kernel_rfl) (err_p) rfl qT ?_); (rintro _ _ ⟨rfl, rfl⟩); (refine Zg2 qA ?_))
            refine Zg3 ⟨(fun hh => Bool.noConfusion hh), ?_⟩
            first|refine Zio rfl rfl ?_|refine Zip rfl rfl ?_|refine Zin rfl rfl (Zmk (a := s2.err) (b := 0) rfl rfl) ?_
            refine Zi6 166 rfl (decide_eq_false ((fun hh => hh he2))) ?_
            refine W2 ?_
            refine V6 ?_
            exact Zgl (i + 1, (bk2, oa2, oc2), s2, h2) qO ⟨by dsimp only; omega, kp2⟩ qI ⟨rfl, rfl, trivial⟩
        · refine Y2 ?_
          refine Zhp rfl qH (hpg) ?_
          refine Zhg (Zbq (b := 0) rfl rfl) ?_
          refine Zhn 51 rfl (decide_eq_false (ht0)) ?_
          refine Y13 ?_
          repeat (first|refine zA ?_|refine zB ?_|refine zD ?_|refine zE ?_|refine zF ?_|refine zG ?_|refine zH ?_|refine zI ?_|refine zJ ?_|refine zK ?_|refine zL ?_|refine zM rfl ?_|refine zN ?_|refine zO ?_|refine zP ?_|refine zQ ?_)
          refine Zgn [(2, 2), (6, 6), (10, 12), (61, 149)] (by kernel_rfl) (fun z : (List OpV × Option Addr × Nat) × PS × HostS.HS => KP x (i + 1) z.1.1 z.2.1 z.2.2) (fun z => own 78 2 (.slice z.1.2.1 z.1.1.length z.1.2.2) z.1.1.length (z.1.1.flatMap svc) :: pgA p ph z.2.1 :: hostA ph z.2.2 :: cl b1 (pcs (noF x)) 58 :: L) (fun z => [(6, .slice z.1.2.1 z.1.1.length z.1.2.2)]) ?_ ?_
          · refine Ct.o ?_
            by_cases k0 : x.script_[i].kind_ = 0
            · have hld := load_x (p := p) (ph := ph) hov (by omega) x.script_[i].page_
              rw [load_right2 hr2] at hld
              dsimp only at hld
              refine Y1 ?_
              refine Zhg (Zbr (b := 0) rfl rfl) ?_
              refine Zhm 62 rfl (decide_eq_true (k0)) ?_
              refine Y6 ?_
              refine Zhp rfl qH (hpg) ?_
              refine Zh8 rfl (by kernel_rfl) (hld) rfl qT ?_
              rintro _ _ ⟨la, lc, rfl, rfl⟩
              refine Y10 ?_
              refine Zhn 71 rfl (rfl) ?_
              refine Y17 ?_
              first|refine Y0 ?_|(refine Zhh rfl ?_; (refine Zhg (Zb0 rfl) ?_))
              refine Zhm 89 rfl (rfl) ?_
              refine Y2 ?_
              first|refine Y0 ?_|(refine Zhh rfl ?_; (refine Zhg (Zmk (a := 2) (b := 2) rfl rfl) ?_))
              refine Zhn 92 rfl (decide_eq_false ((fun hh => hh rfl))) ?_
              refine V4 ?_
              exact Zgk ((bk, oa, oc), s1, h1) (kp.near (PagerS.Near.refl 0 0 s1 h1) (by omega) (by omega) hq (show bk.length ≤ i + 1 by omega) kp.sub) qI ⟨rfl, trivial⟩
            refine Y1 ?_
            refine Zhg (Zbr (b := 0) rfl rfl) ?_
            refine Zhn 62 rfl (decide_eq_false (k0)) ?_
            refine V3 ?_
            by_cases k1 : x.script_[i].kind_ = 1
            · have hsv9 := save_x (p := p) (ph := ph) (L := L) hov (by omega) x.script_[i].page_ hel
              rw [htv] at hsv9
              rw [save_right2 hr2] at hsv9
              refine Y1 ?_
              refine Zhg (Zbr (b := 1) rfl rfl) ?_
              refine Zhm 96 rfl (decide_eq_true (k1)) ?_
              refine Y6 ?_
              refine Zhp rfl qH (hpg) ?_
              refine Y1 ?_
              refine Zhp rfl qH (hcell) ?_
              refine Zh8 rfl (by kernel_rfl) (hsv9) rfl qT ?_
              rintro _ _ ⟨rfl, rfl⟩
              refine Y5 ?_
              refine Zhg (Zb0 rfl) ?_
              refine Zhm 104 rfl (rfl) ?_
              refine Y2 ?_
              first|refine Y0 ?_|(refine Zhh rfl ?_; (refine Zhg (Zmk (a := 2) (b := 2) rfl rfl) ?_))
              refine Zhn 107 rfl (decide_eq_false ((fun hh => hh rfl))) ?_
              refine Y4 ?_
              refine Zhn 111 rfl (rfl) ?_
              refine Y15 ?_
              refine Zhn 126 rfl (rfl) ?_
              refine Y12 ?_
              refine Zhg (Zmj (a := 2) (b := 0) rfl rfl) ?_
              refine Zhn 136 rfl (decide_eq_false ((by omega))) ?_
              refine V2 ?_
              exact Zgk ((bk, oa, oc), s1, h1) (kp.near (PagerS.Near.refl 0 0 s1 h1) (by omega) (by omega) hq (show bk.length ≤ i + 1 by omega) kp.sub) qI ⟨rfl, trivial⟩
            refine Y1 ?_
            refine Zhg (Zbr (b := 1) rfl rfl) ?_
            refine Zhn 96 rfl (decide_eq_false (k1)) ?_
            refine V3 ?_
            by_cases k2 : x.script_[i].kind_ = 2
            · obtain ⟨q1, q2⟩ := hq.flush (by omega)
              have hfx := flush_x (p := p) (ph := ph) hov (by omega)
              rw [q1] at hfx
              refine Y1 ?_
              refine Zhg (Zbr (b := 2) rfl rfl) ?_
              refine Zhm 146 rfl (decide_eq_true (k2)) ?_
              refine Y5 ?_
              refine Zh8 rfl (by kernel_rfl) (hfx) rfl qT ?_
              rintro _ _ ⟨rfl, rfl⟩
              refine Y2 ?_
              refine Zhn 149 rfl (decide_eq_false ((fun hh => hh rfl))) ?_
              refine V2 ?_
              exact Zgk ((bk, oa, oc), (PagerS.flushP s1 h1).2.1, (PagerS.flushP s1 h1).2.2) (kp.near (PagerS.near_flush hko h1) (by omega) (by omega) q2 (show bk.length ≤ i + 1 by omega) kp.sub) qI ⟨rfl, trivial⟩
            refine Y1 ?_
            refine Zhg (Zbr (b := 2) rfl rfl) ?_
            refine Zhn 146 rfl (decide_eq_false (k2)) ?_
            refine V3 ?_
            exact Zgk ((bk, oa, oc), s1, h1) (kp.near (PagerS.Near.refl 0 0 s1 h1) (by omega) (by omega) hq (show bk.length ≤ i + 1 by omega) kp.sub) qI ⟨rfl, trivial⟩
          · rintro ⟨⟨bk2, oa2, oc2⟩, s2, h2⟩ u2 kp2
            dsimp only at kp2 ⊢
            have hk2 := kp2.quiet.sound.ok
            have hnl := numbers_le hk2
            have hmo := hk2.most
            have hw2 := kp2.window
            have he2 := kp2.quiet.err
            refine Ct.o ?_
            refine Zij ([pgA p ph s2, cl b1 (pcs (noF x)) 58]) [1, 2, 8] (.q 0 (.q 3 (.r 4 (.e 1 true (.r 2 (.q 5 (.q 6 (.q 7 (.q 9 (.r 10 (.e 8 true (.q 11 (.q 12 (.q 13 (.q 14 (.e 15 false (.q 16 (.q 17 .nil)))))))))))))))))) (by kernel_rfl) (by kernel_rfl) (Imp.arr qV) ?_
            refine W2 ?_
            refine Ziv rfl rfl qH (hwx) ?_
            refine Ziq rfl ?_
            refine Zh8 rfl (by kernel_rfl) (held_x) rfl qT ?_
            rintro _ _ ⟨ha, hc, rfl, rfl⟩
            refine Y1 ?_
            refine Zg3 ⟨fun _ => Imp.arr qV, ?_⟩
            refine W1 ?_
            refine Zim rfl (Zbp (a := ((PagerS.numbers s2).length : Int)) (b := x.window_) rfl rfl) ?_
            refine Zi6 155 rfl (decide_eq_false ((by omega))) ?_
            refine W3 ?_
            first|refine Zi1 rfl rfl ?_|refine Zi2 rfl rfl ?_|refine Ziw rfl rfl rfl qH (hwx) ?_
            refine Ziq rfl ?_
            first|refine Y0 ?_|(refine Zhh rfl ?_; (refine Zh8 rfl (by kernel_rfl) (most_p) rfl qT ?_); (rintro _ _ ⟨rfl, rfl⟩); (refine Zg2 qA ?_))
            refine Zg3 ⟨fun _ => Imp.arr qV, ?_⟩
            first|refine Zio rfl rfl ?_|refine Zip rfl rfl ?_|refine Zin rfl rfl (Zbp (a := (s2.most : Int)) (b := x.window_) rfl rfl) ?_
            refine Zi6 161 rfl (decide_eq_false ((by omega))) ?_
            refine W3 ?_
            refine Ziq rfl ?_
            first|refine Y0 ?_|(refine Zhh rfl ?_; (refine Zh8 rfl (by kernel_rfl) (err_p) rfl qT ?_); (rintro _ _ ⟨rfl, rfl⟩); (refine Zg2 qA ?_))
            refine Zg3 ⟨(fun hh => Bool.noConfusion hh), ?_⟩
            first|refine Zio rfl rfl ?_|refine Zip rfl rfl ?_|refine Zin rfl rfl (Zmk (a := s2.err) (b := 0) rfl rfl) ?_
            refine Zi6 166 rfl (decide_eq_false ((fun hh => hh he2))) ?_
            refine W2 ?_
            refine V6 ?_
            exact Zgl (i + 1, (bk2, oa2, oc2), s2, h2) qO ⟨by dsimp only; omega, kp2⟩ qI ⟨rfl, rfl, trivial⟩
    · refine Y2 ?_
      refine Zh8 rfl (by kernel_rfl) (down_x (p := ph)) rfl qT ?_
      rintro _ _ ⟨rfl, rfl⟩
      refine Y1 ?_
      refine Zhg (Zb0 rfl) ?_
      refine Zhm 170 rfl ((by rw [kp.quiet.calm.up]; rfl)) ?_
      refine Y1 ?_
      first|refine Y0 ?_|(refine Zhh rfl ?_; (refine Zh8 rfl (by kernel_rfl) (plWorks_x) rfl qT ?_); (rintro _ _ ⟨rfl, rfl⟩); (refine Zg2 qA ?_))
      refine V3 ?_
      refine rx1 (Zha rfl (Zg7)) ?_
      exact ⟨_, ⟨rfl, rfl⟩, qI⟩
  · have hm : ¬ Made (noF x) := fun h => hr (right_made.2 h)
    have hrt : decide (rightL (noF x)) = false := decide_eq_false hr
    refine fn_x Tryz.func7 rfl rfl rfl Tryz.mixed (by kernel_rfl) ?_
    intro w0
    refine Y1 ?_
    refine Zh5 rfl ?_; intro b1
    refine Y4 ?_
    refine Zhw rfl rfl qR h36 (pcs_noF hi.key) ?_
    refine Y3 ?_
    refine Zh8 rfl (by kernel_rfl) (made_no hiy hm) rfl qT ?_
    rintro _ _ ⟨hv, rfl, rfl⟩
    refine Y11 ?_
    refine Zh8 rfl (by kernel_rfl) (right_l hky) rfl qT ?_
    rintro _ _ ⟨rfl, rfl⟩
    refine Y1 ?_
    refine Zhg (Zb0 rfl) ?_
    refine Zhm 22 rfl ((by rw [hrt]; rfl)) ?_
    refine Y8 ?_
    refine Zh8 rfl (by kernel_rfl) (right_l hky) rfl qT ?_
    rintro _ _ ⟨rfl, rfl⟩
    refine Y1 ?_
    refine Zhg (Zb0 rfl) ?_
    refine Zhm 29 rfl ((by rw [hrt]; rfl)) ?_
    refine Y2 ?_
    first|refine Y0 ?_|(refine Zhh rfl ?_; (refine Zhg (Zb0 rfl) ?_))
    refine Zhm 32 rfl (rfl) ?_
    refine Y2 ?_
    first|refine Y0 ?_|(refine Zhh rfl ?_; (refine Zh8 rfl (by kernel_rfl) (plWorks_x) rfl qT ?_); (rintro _ _ ⟨rfl, rfl⟩); (refine Zg2 qA ?_))
    refine V3 ?_
    refine rx1 (Zha rfl (Zg7)) ?_
    exact ⟨_, ⟨rfl, rfl⟩, qI⟩
end
end Go.Sl

/- trystlaw13: PagerKeeps over lives that come in, of a bounded bulk. -/
set_option linter.unusedVariables false
set_option linter.unusedSimpArgs false
namespace Go.Sl
open Go Go.Proofs Go.ChangeShapes Go.WideShapes Go.ChangeAt Go.RowKit
section
variable {H : Type} {enc : TypeId × Value → H} {P : Program} {w : World} {base : Nat} {spare : Nat → Bool} {held : Bool}
/-- A slice that comes in is not longer than its bulk. -/
theorem bulk_slice {t e fuel len cap : Nat} {a : Option Addr} {x : DataW H × List MemPlace} (ht : P.underlying t = some (.slice e)) (h : DataW.trod enc P w base spare held fuel t [.slice a len cap] = some x) : len ≤ YthodgeekgpkieaaGreat.Rows.uptoBulk x.1 := by
  rcases DataW.trod_slice ht h with ⟨hv, hx⟩|⟨a', len', cap', elems, rest, n, _, hv, hx, _, _, _, hlen, _⟩
  · simp only [List.cons.injEq, Value.slice.injEq, and_true] at hv
    omega
  · simp only [List.cons.injEq, Value.slice.injEq, and_true] at hv
    obtain ⟨_, hl, _⟩ := hv
    rw [hx]
    have := bulk_len (elems.map (·.1))
    simp only [YthodgeekgpkieaaGreat.Rows.uptoBulk]
    simp at this
    omega
theorem bulk_mem : ∀ (l : List (DataW H)) (j : Nat) (h : j < l.length), YthodgeekgpkieaaGreat.Rows.uptoBulk l[j] ≤ YthodgeekgpkieaaGreat.Rows.uptoBulkAll l
  | [], _, h => by simp at h
  | d :: r, 0, _ => by simp only [YthodgeekgpkieaaGreat.Rows.uptoBulkAll, List.getElem_cons_zero]; omega
  | d :: r, j + 1, h => by
    have := bulk_mem r j (by simpa using h)
    simp only [YthodgeekgpkieaaGreat.Rows.uptoBulkAll, List.getElem_cons_succ]; omega
/-- A part of a struct has no greater bulk. -/
theorem bulk_part {d : DataW H} {xs : List (DataW H × List MemPlace)} (hd : d = .agg (xs.map (·.1))) (j : Nat) (h : j < xs.length) : YthodgeekgpkieaaGreat.Rows.uptoBulk xs[j].1 ≤ YthodgeekgpkieaaGreat.Rows.uptoBulk d := by
  rw [hd]
  have := bulk_mem (xs.map (·.1)) j (by simpa using h)
  rw [List.getElem_map] at this
  simp only [YthodgeekgpkieaaGreat.Rows.uptoBulk]
  omega
theorem bulk_plife {n : Nat} {cs : List Value} {y : DataW H × List MemPlace} {x : PLifeV} (h : DataW.trod enc Tryz.prog w base spare held n 58 cs = some y) (hx : cs = x.cells) (ok : PLifeVOk w x) : x.script_.length ≤ YthodgeekgpkieaaGreat.Rows.uptoBulk y.1 := by
  obtain ⟨xs, m, _, hx', hl, hn, hf⟩ := DataW.trod_struct Tryz.underlying58 h
  have hn : xs.length = 7 := hn
  have e6 : DataW.trod enc Tryz.prog w base spare held m 56 ((cs.drop 37).take (Tryz.prog.cellsOf 56)) = some (xs[6]'(by omega)) := (hf 6 _ rfl).trans (List.getElem?_eq_getElem (by omega))
  rw [show Tryz.prog.cellsOf 56 = 1 by kernel_rfl] at e6
  obtain ⟨a, c, hv, _⟩ := ok.script_.sh
  have hk := ok.key_
  have hc : (cs.drop 37).take 1 = [.slice a x.script_.length c] := by
    rw [hx, ← hv]
    simp [PLifeV.cells, List.drop_append, hk, List.drop_of_length_le]
  rw [hc] at e6
  exact Nat.le_trans (bulk_slice Tryz.underlying56 e6) (bulk_part (d := y.1) (xs := xs) (by rw [hx']) 6 (by omega))
end
theorem keeps_w (W : World) (x : PLifeV) (ok : PLifeVOk W x) (hup : x.script_.length ≤ 1048576) : Con Tryz.prog 7 [.agg x.cells.toArray] [old W] (fun r M => r = .bool true ∧ [old W] = M) := keeps_x (pin_of ok) hup
end Go.Sl
