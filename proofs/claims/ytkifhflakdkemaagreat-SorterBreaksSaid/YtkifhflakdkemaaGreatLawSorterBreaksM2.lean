/- Parts of the proof. -/
import Derived.Test.YtkifhflakdkemaaGreatLawSorterBreaksM0
import Derived.Test.YtkifhflakdkemaaGreatLawSorterBreaksM1
import Derived.RangeFuncBox
import Derived.RangeFuncLeaves
import Derived.Shelf.Abstract
import Derived.WalkKit
import Derived.OwnWalkIn
import Derived.TacticsInMore
import Derived.LoopNIn
import Derived.LoopIn
import Derived.Maps.AppendAt
import Derived.Shelf.SlIterI.Sorted
import Derived.Shelf.SortM.Plain
import Derived.Shelf.SortM.SortNone
import Derived.Ground.SlgmProg
import Derived.Test.YtkifhflakdkemaaGreatChecked
import Derived.Below
import Derived.Stop.Asserts
import Derived.Stop.IfaceNil
import Derived.Lib.IfaceEq
import Derived.Laws.Externs
set_option maxHeartbeats 4000000
set_option maxRecDepth 10000
set_option linter.unusedVariables false
set_option linter.unusedSimpArgs false
namespace Go.Sl.SlotS
open Go Go.Sl Go.Sl.HostS Go.Sl.PagerS
attribute [local irreducible] pgSealB pgOpenR PagerS.loadP PagerS.saveP
def zb (n : Nat) : Bytes := List.replicate n 0#8
theorem zb_len (n : Nat) : (zb n).length = n := by simp [zb]
def slv (s0 : SL) (log : List Acc) : SL := { s0 with log := log }
def ghost1 (s0 : SL) (tg : PS × HS) (a : Acc) : PS × HS :=
  if a.1 = 0 then (getS s0 tg.1 tg.2 a.2.1).2.2
  else if a.1 = 1 then (setS s0 tg.1 tg.2 a.2.1 (zb s0.size)).2.2
  else if (pairL s0 tg.1 tg.2 a.2.1.toNat a.2.2.toNat).1.1 = 0 then
    (pairE s0 (pairL s0 tg.1 tg.2 a.2.1.toNat a.2.2.toNat).2.1 (pairL s0 tg.1 tg.2 a.2.1.toNat a.2.2.toNat).2.2 a.2.1.toNat a.2.2.toNat (pairL s0 tg.1 tg.2 a.2.1.toNat a.2.2.toNat).1.2.1 (pairL s0 tg.1 tg.2 a.2.1.toNat a.2.2.toNat).1.2.2 (zb s0.size) (zb s0.size)).2
  else (pairL s0 tg.1 tg.2 a.2.1.toNat a.2.2.toNat).2
def ghost (s0 : SL) (tg : PS × HS) (log : List Acc) : PS × HS := log.foldl (ghost1 s0) tg
theorem ghost_snoc (s0 : SL) (tg : PS × HS) (log : List Acc) (a : Acc) : ghost s0 tg (log ++ [a]) = ghost1 s0 (ghost s0 tg log) a := by unfold ghost; rw [List.foldl_append]; rfl
theorem getS_slv (s0 : SL) (log : List Acc) (p : PS) (h : HS) (i : Int) : (getS (slv s0 log) p h i).2.2 = (getS s0 p h i).2.2 := by
  unfold getS
  have e : has (slv s0 log) i ↔ has s0 i := Iff.rfl
  by_cases hh : has s0 i
  · rw [if_pos hh, if_pos (e.2 hh)]; rfl
  · rw [if_neg hh, if_neg (fun h => hh (e.1 h))]
theorem setS_slv (s0 : SL) (log : List Acc) (p : PS) (h : HS) (i : Int) (b : Bytes) : (setS (slv s0 log) p h i b).2.2 = (setS s0 p h i b).2.2 := by
  unfold setS
  have e : has (slv s0 log) i ↔ has s0 i := Iff.rfl
  by_cases hh : has s0 i
  · rw [if_pos hh, if_pos (e.2 hh)]
    by_cases hb : b.length = s0.size
    · rw [if_pos hb, if_pos (show b.length = (slv s0 log).size from hb)]
      show (if (loadP p h (pg s0 i.toNat)).1.2 = 0 then _ else _ : Nat × St3).2.2 = _
      dsimp only
      split <;> rfl
    · rw [if_neg hb, if_neg (show ¬ b.length = (slv s0 log).size from hb)]
  · rw [if_neg hh, if_neg (fun h => hh (e.1 h))]
structure QI (s0 : SL) (tg : PS × HS) (rows : List Bytes) (log : List Acc) (p : PS) (h : HS) (b : Int → Bytes) : Prop where
  quiet : Quiet p h b
  two : Two p (ghost s0 tg log).1 h (ghost s0 tg log).2
  fit : Fit (slv s0 log) p
  len : rows.length = s0.n
  row : ∀ k, k < s0.n → rows.getD k [] = slotB s0 b k
  wr : p.writes ≤ 4 * log.length
  ops : h.ops ≤ 6 * log.length
section
variable {s0 : SL} {tg : PS × HS} {rows : List Bytes} {log : List Acc} {p : PS} {h : HS} {b : Int → Bytes}
theorem QI.fit0 (k : QI s0 tg rows log p h b) : Fit s0 p := ⟨k.fit.size, k.fit.le, k.fit.per, k.fit.room⟩
theorem QI.rlen (k : QI s0 tg rows log p h b) {m : Nat} (hm : m < s0.n) : (rows.getD m []).length = s0.size := by rw [k.row m hm]; exact slotB_len k.fit0 k.quiet.sound.len m
theorem snoc_len {α : Type} (l : List α) (a : α) : (l ++ [a]).length = l.length + 1 := by simp
theorem QI.get (k : QI s0 tg rows log p h b) (hl : log.length ≤ 2000000) {m : Nat} (hm : m < s0.n) : (getS (slv s0 log) p h m).1 = (rows.getD m [], 0) ∧ (getS (slv s0 log) p h m).2.1 = slv s0 (log ++ [(0, (m : Int), 0)]) ∧ QI s0 tg rows (log ++ [(0, (m : Int), 0)]) (getS (slv s0 log) p h m).2.2.1 (getS (slv s0 log) p h m).2.2.2 b := by
  have hw := k.wr
  obtain ⟨a1, a2, a3⟩ := get_q k.quiet k.fit (i := m) hm (by omega)
  obtain ⟨_, _, t1, _⟩ := k.two.get (s := slv s0 log) (i := m) hm
  have nr := get_near (slv s0 log) p h (m : Int)
  have h1 := nr.writes; have h2 := nr.ops; have h3 := k.ops
  have e := snoc_len log ((0, (m : Int), 0) : Acc)
  refine ⟨by rw [a1, k.row m hm]; rfl, a2, a3, ?_, ?_, k.len, k.row, by omega, by omega⟩
  · rw [ghost_snoc]
    have : ghost1 s0 (ghost s0 tg log) (0, (m : Int), 0) = (getS (slv s0 log) (ghost s0 tg log).1 (ghost s0 tg log).2 m).2.2 := by rw [getS_slv]; rfl
    rw [this]
    exact t1
  · exact (k.fit.touch 0 m 0).same nr.text nr.spages
theorem QI.set (k : QI s0 tg rows log p h b) (hl : log.length ≤ 2000000) {m : Nat} (hm : m < s0.n) {v : Bytes} (hv : v.length = s0.size) : (setS (slv s0 log) p h m v).1 = 0 ∧ (setS (slv s0 log) p h m v).2.1 = slv s0 (log ++ [(1, (m : Int), 0)]) ∧ QI s0 tg (rows.set m v) (log ++ [(1, (m : Int), 0)]) (setS (slv s0 log) p h m v).2.2.1 (setS (slv s0 log) p h m v).2.2.2 (putB s0 b m v) := by
  have hw := k.wr
  obtain ⟨a1, a2, a3⟩ := set_q k.quiet k.fit (i := m) hm (by omega) hv
  obtain ⟨_, _, t1, _⟩ := k.two.set (s := slv s0 log) k.fit (i := m) hm hv (zb_len s0.size)
  have nr := set_near (slv s0 log) p h (m : Int) v
  have h1 := nr.writes; have h2 := nr.ops; have h3 := k.ops
  have e := snoc_len log ((1, (m : Int), 0) : Acc)
  refine ⟨a1, a2, a3, ?_, ?_, by rw [List.length_set]; exact k.len, ?_, by omega, by omega⟩
  · rw [ghost_snoc]
    have : ghost1 s0 (ghost s0 tg log) (1, (m : Int), 0) = (setS (slv s0 log) (ghost s0 tg log).1 (ghost s0 tg log).2 m (zb s0.size)).2.2 := by rw [setS_slv]; rfl
    rw [this]
    exact t1
  · exact (k.fit.touch 1 m 0).same nr.text nr.spages
  · intro j hj
    rw [putB_at k.fit0 k.quiet.sound.len hv, List.getD_eq_getElem?_getD, List.getElem?_set]
    by_cases e : m = j
    · subst e; rw [if_pos rfl, if_pos (by rw [k.len]; exact hm), if_pos rfl]; rfl
    · rw [if_neg e, if_neg (fun hh => e hh.symm), ← List.getD_eq_getElem?_getD]; exact k.row j hj
theorem QI.pair (k : QI s0 tg rows log p h b) (hl : log.length ≤ 2000000) {m j : Nat} (hm : m < s0.n) (hj : j < s0.n) (hmj : m ≠ j) {v w : Bytes} (hv : v.length = s0.size) (hw' : w.length = s0.size) :
    (pairL (slv s0 log) p h m j).1.1 = 0 ∧ part (pairL (slv s0 log) p h m j).1.2.1 (fr s0 m) s0.size = rows.getD m [] ∧ part (pairL (slv s0 log) p h m j).1.2.2 (fr s0 j) s0.size = rows.getD j [] ∧
    (pairE (slv s0 log) (pairL (slv s0 log) p h m j).2.1 (pairL (slv s0 log) p h m j).2.2 m j (pairL (slv s0 log) p h m j).1.2.1 (pairL (slv s0 log) p h m j).1.2.2 v w).1 = 0 ∧
    QI s0 tg ((rows.set m v).set j w) (log ++ [(2, (m : Int), (j : Int))]) (pairE (slv s0 log) (pairL (slv s0 log) p h m j).2.1 (pairL (slv s0 log) p h m j).2.2 m j (pairL (slv s0 log) p h m j).1.2.1 (pairL (slv s0 log) p h m j).1.2.2 v w).2.1 (pairE (slv s0 log) (pairL (slv s0 log) p h m j).2.1 (pairL (slv s0 log) p h m j).2.2 m j (pairL (slv s0 log) p h m j).1.2.1 (pairL (slv s0 log) p h m j).1.2.2 v w).2.2 (putB s0 (putB s0 b m v) j w) := by
  have hw := k.wr
  obtain ⟨a1, a2, n1⟩ := pairL_q k.quiet k.fit (i := m) (j := j) hm hj (by omega)
  have hpl := k.two.pairL (s := slv s0 log) m j
  have f1 : Fit (slv s0 log) (pairL (slv s0 log) p h m j).2.1 := k.fit.same n1.text n1.spages
  have w1 := n1.writes
  have e1 : (pairL (slv s0 log) p h m j).1.1 = 0 := by rw [a1]
  have e2 : (pairL (slv s0 log) p h m j).1.2.1 = b (pg s0 m) := by rw [a1]; rfl
  have e3 : (pairL (slv s0 log) p h m j).1.2.2 = b (pg s0 j) := by rw [a1]; rfl
  obtain ⟨c1, c2⟩ := pairE_q a2 f1 (i := m) (j := j) hm hj (by omega) hv hw'
  obtain ⟨l1, l2, l3, l4, l5⟩ := hpl.lens e1
  obtain ⟨t1, _, _⟩ := hpl.two.pairE f1 (i := m) hm (j := j) l5 (l1.trans n1.text.symm) (l2.trans n1.text.symm) (l3.trans n1.text.symm) (l4.trans n1.text.symm) hv hw' (zb_len s0.size) (zb_len s0.size)
  have n2 := pairE_near (slv s0 log) (pairL (slv s0 log) p h m j).2.1 (pairL (slv s0 log) p h m j).2.2 m j (pairL (slv s0 log) p h m j).1.2.1 (pairL (slv s0 log) p h m j).1.2.2 v w
  have w2 := n2.writes; have o1 := n1.ops; have o2 := n2.ops; have h3 := k.ops
  have e := snoc_len log ((2, (m : Int), (j : Int)) : Acc)
  have hg : ghost s0 tg (log ++ [(2, (m : Int), (j : Int))]) = (pairE (slv s0 log) (pairL (slv s0 log) (ghost s0 tg log).1 (ghost s0 tg log).2 m j).2.1 (pairL (slv s0 log) (ghost s0 tg log).1 (ghost s0 tg log).2 m j).2.2 m j (pairL (slv s0 log) (ghost s0 tg log).1 (ghost s0 tg log).2 m j).1.2.1 (pairL (slv s0 log) (ghost s0 tg log).1 (ghost s0 tg log).2 m j).1.2.2 (zb s0.size) (zb s0.size)).2 := by
    rw [ghost_snoc]
    have e0 : (pairL s0 (ghost s0 tg log).1 (ghost s0 tg log).2 ((m : Int).toNat) ((j : Int).toNat)).1.1 = 0 := by
      show (pairL (slv s0 log) (ghost s0 tg log).1 (ghost s0 tg log).2 m j).1.1 = 0
      rw [← hpl.eq, e1]
    unfold ghost1
    rw [if_neg (show ¬ ((2 : Int) = 0) by decide), if_neg (show ¬ ((2 : Int) = 1) by decide), if_pos e0]
    rfl
  refine ⟨e1, ?_, ?_, ?_, ?_, ?_, ?_, by rw [List.length_set, List.length_set]; exact k.len, ?_, by omega, by omega⟩
  · rw [e2, k.row m hm]; rfl
  · rw [e3, k.row j hj]; rfl
  · rw [e2, e3]; exact c1
  · rw [e2, e3]; exact c2
  · rw [hg]; exact t1
  · exact (f1.touch 2 m j).same n2.text n2.spages
  · intro y hy
    have hb1 := putB_len k.fit0 k.quiet.sound.len hv m
    rw [putB_at k.fit0 hb1 hw', putB_at k.fit0 k.quiet.sound.len hv, List.getD_eq_getElem?_getD, List.getElem?_set, List.getElem?_set]
    by_cases e : j = y
    · subst e; rw [if_pos rfl, if_pos (by rw [List.length_set, k.len]; exact hj), if_pos rfl]; rfl
    · rw [if_neg e, if_neg (show ¬ y = j from fun hh => e hh.symm)]
      by_cases e' : m = y
      · subst e'; rw [if_pos rfl, if_pos (show m < rows.length by rw [k.len]; exact hm), if_pos rfl]; rfl
      · rw [if_neg e', if_neg (show ¬ y = m from fun hh => e' hh.symm), ← List.getD_eq_getElem?_getD]; exact k.row y hy
end
theorem qi_fresh {key : Bytes} {round : BitVec 64} {window text n size : Nat} {pages : Int} (hk : key.length = 32) (hw : 2 ≤ window ∧ window ≤ 16) (hp : 0 ≤ pages ∧ pages ≤ 65536) (ht : 1 ≤ text ∧ text ≤ 4096)
    (hs : newS 0 n size (freshP key round window pages text) = 0) :
    QI (freshS 0 n size (freshP key round window pages text)) (freshP (zb 32) round window pages text, fresh pages (text + 28) []) (List.replicate n (zb size)) [] (freshP key round window pages text) (fresh pages (text + 28) []) (fun _ => List.replicate text 0#8) := by
  have hok := fun (key : Bytes) (hk : key.length = 32) => PagerS.ok_fresh (round := round) hk hw hp ht
  have hq := fun (key : Bytes) (hk : key.length = 32) => PagerS.quiet_fresh (hok key hk) (h := fresh pages (text + 28) []) rfl rfl (PagerS.calm_fresh _ _)
  have hf := fit_fresh hs
  have h1 := hq key hk
  have h2 := hq (zb 32) (zb_len 32)
  refine ⟨h1, ⟨⟨_, h1.sound⟩, ⟨_, h2.sound⟩, ⟨rfl, rfl, rfl, rfl, rfl, rfl, rfl, rfl, rfl⟩, ⟨rfl, rfl, rfl, rfl, rfl, fun _ => ⟨rfl, rfl⟩⟩, PagerS.hi_fresh rfl h1.sound.over⟩, ⟨hf.size, hf.le, hf.per, hf.room⟩, by rw [List.length_replicate]; rfl, ?_, Nat.zero_le _, Nat.zero_le _⟩
  intro k hk2
  have hk2 : k < n := hk2
  rw [List.getD_eq_getElem?_getD, List.getElem?_eq_getElem (by rw [List.length_replicate]; exact hk2), List.getElem_replicate]
  show zb size = _
  unfold slotB part zb
  have hfr := hf.from k
  have e : (freshS 0 n size (freshP key round window pages text)).size = size := rfl
  have e2 : (freshP key round window pages text).text = text := rfl
  rw [e, e2] at hfr
  rw [List.drop_replicate, List.take_replicate, e]
  congr 1
  omega
end Go.Sl.SlotS
namespace Go.Sl.SlotS
open Go Go.Sl Go.Sl.HostS Go.Sl.PagerS
attribute [local irreducible] pgSealB pgOpenR
structure Cut (f : Fault) (F : Nat) : Prop where
  at_ : f.at_ = (F : Int)
  kind : f.kind = 3 ∨ f.kind = 4
def brk (f : Fault) (h : HS) : HS := { h with coming := comes [f] }
structure Grow (h g : HS) : Prop where
  log : h.log <+: g.log
  ops : h.ops ≤ g.ops
theorem Grow.refl (h : HS) : Grow h h := ⟨List.prefix_refl _, Nat.le_refl _⟩
theorem Grow.trans {h g k : HS} (a : Grow h g) (b : Grow g k) : Grow h k := ⟨a.log.trans b.log, Nat.le_trans a.ops b.ops⟩
theorem grow_does (h : HS) (op n : Int) (b : Bytes) (act : HS → HS) (ha : ∀ g, (act g).log = g.log ∧ (act g).ops = g.ops) : Grow h (does h op n b act).1 := by
  have h1 : Grow h (act (logged h op n b)) := ⟨by rw [(ha _).1]; exact List.prefix_append _ _, by rw [(ha _).2]; exact Nat.le_succ _⟩
  unfold does
  split
  · exact Grow.refl _
  · dsimp only
    split
    · exact ⟨List.prefix_refl _, Nat.le_succ _⟩
    · split
      · exact ⟨h1.log, h1.ops⟩
      · exact h1
theorem grow_read (h : HS) (n : Int) : Grow h (readR h n).2.2 := by
  have := grow_does h 0 n [] id fun g => ⟨rfl, rfl⟩
  unfold readR
  split
  · dsimp only
    split <;> exact this
  · exact Grow.refl _
theorem grow_writeR (h : HS) (n : Int) (b : Bytes) : Grow h (writeR h n b).2 := by
  have := grow_does h 1 n b (wrote n b) fun g => ⟨rfl, rfl⟩
  unfold writeR
  split
  · split
    · exact this
    · exact Grow.refl _
  · exact Grow.refl _
theorem grow_write (s : PS) (h : HS) (n : Int) : Grow h (writeP s h n).2.2 := by
  have := grow_writeR h n (boxOf s n)
  unfold writeP
  split
  · exact Grow.refl _
  · dsimp only
    split <;> exact this
theorem grow_room (s : PS) (h : HS) : Grow h (roomP s h).2.2 := by
  unfold roomP
  split
  · exact Grow.refl _
  · dsimp only
    split
    · have := grow_write s h ((s.held.head?.map Fr.page).getD 0)
      split <;> exact this
    · exact Grow.refl _
theorem grow_fetch (s : PS) (h : HS) (n : Int) : Grow h (fetchP s h n).2.2 := by
  have := grow_read h n
  unfold fetchP
  split
  · dsimp only
    split
    · split <;> exact this
    · exact this
  · exact Grow.refl _
theorem grow_load (s : PS) (h : HS) (n : Int) : Grow h (loadP s h n).2.2 := by
  unfold loadP
  split
  · split
    · exact Grow.refl _
    · dsimp only
      split
      · exact (grow_room s h).trans (grow_fetch _ _ n)
      · exact grow_room s h
  · exact Grow.refl _
theorem grow_save (s : PS) (h : HS) (n : Int) (t : Bytes) : Grow h (saveP s h n t).2.2 := by
  unfold saveP
  split
  · split
    · split
      · exact Grow.refl _
      · dsimp only
        split <;> exact grow_room s h
    · exact Grow.refl _
  · exact Grow.refl _
theorem grow_get (s : SL) (p : PS) (h : HS) (i : Int) : Grow h (getS s p h i).2.2.2 := by
  unfold getS
  split
  · exact grow_load ..
  · exact Grow.refl _
theorem grow_set (s : SL) (p : PS) (h : HS) (i : Int) (b : Bytes) : Grow h (setS s p h i b).2.2.2 := by
  unfold setS
  split
  · split
    · dsimp only
      split
      · exact (grow_load ..).trans (grow_save ..)
      · exact grow_load ..
    · exact Grow.refl _
  · exact Grow.refl _
theorem grow_pairL (s : SL) (p : PS) (h : HS) (i j : Nat) : Grow h (pairL s p h i j).2.2 := by
  unfold pairL
  dsimp only
  split
  · split
    · exact grow_load ..
    · split <;> exact (grow_load ..).trans (grow_load ..)
  · exact grow_load ..
theorem grow_pairE (s : SL) (p : PS) (h : HS) (i j : Nat) (tI tJ a b : Bytes) : Grow h (pairE s p h i j tI tJ a b).2.2 := by
  unfold pairE
  split
  · exact grow_save ..
  · dsimp only
    split
    · exact (grow_save ..).trans (grow_save ..)
    · exact grow_save ..
theorem grow_ghost1 (s0 : SL) (tg : PS × HS) (a : Acc) : Grow tg.2 (ghost1 s0 tg a).2 := by
  unfold ghost1
  split
  · exact grow_get ..
  · split
    · exact grow_set ..
    · split
      · exact (grow_pairL ..).trans (grow_pairE ..)
      · exact grow_pairL ..
theorem grow_ghost (s0 : SL) (tg : PS × HS) (l : List Acc) : ∀ r : List Acc, Grow (ghost s0 tg l).2 (ghost s0 tg (l ++ r)).2
  | [] => by rw [List.append_nil]; exact Grow.refl _
  | a :: r => by
    have h1 := grow_ghost1 s0 (ghost s0 tg l) a
    rw [← ghost_snoc] at h1
    have h2 := grow_ghost s0 tg (l ++ [a]) r
    rw [List.append_assoc] at h2
    exact h1.trans h2
theorem ghost_pre (s0 : SL) (tg : PS × HS) {l m : List Acc} (h : l <+: m) : Grow (ghost s0 tg l).2 (ghost s0 tg m).2 := by
  obtain ⟨r, rfl⟩ := h
  exact grow_ghost s0 tg l r
section
variable {f : Fault} {F : Nat} {h : HS} {s : PS}
theorem comes_ne (c : Cut f F) {k : Int} (hk : k ≠ (F : Int)) : comes [f] k = [] := by
  unfold comes
  rw [List.filter_cons, if_neg (by rw [c.at_]; simp; exact fun e => hk e.symm)]; rfl
theorem comes_at (c : Cut f F) : comes [f] (F : Int) = [f] := by
  unfold comes
  rw [List.filter_cons, if_pos (by rw [c.at_]; simp)]; rfl
theorem brk_logged (c : Cut f F) {op n : Int} {b : Bytes} (hne : h.ops ≠ F) : logged (brk f h) op n b = brk f (logged h op n b) := by
  have e : setF (comes [f]) (h.ops : Int) [] = comes [f] := by
    funext k
    unfold setF
    split
    · rename_i hk; subst hk; exact (comes_ne c (by omega)).symm
    · rfl
  show ({ h with coming := setF (comes [f]) (h.ops : Int) [], ops := h.ops + 1, log := h.log ++ [touchOf h op n b] } : HS) = _
  rw [e]
  rfl
theorem does_out (c : Cut f F) (hc : PagerS.Calm h) (hF : h.ops ≤ F) (op n : Int) (b : Bytes) (act : HS → HS) (ha : ∀ x, act (brk f x) = brk f (act x)) (hl : ∀ g, (act g).log = g.log ∧ (act g).ops = g.ops) :
    (does (brk f h) op n b act = (brk f (act (logged h op n b)), 0) ∧ h.ops < F) ∨ ((does (brk f h) op n b act).2 = 110 ∧ (does (brk f h) op n b act).1.log <+: (act (logged h op n b)).log ∧ F < (act (logged h op n b)).ops) := by
  have hd : (brk f h).down = false := hc.up
  have hlo : (act (logged h op n b)).log = h.log ++ [touchOf h op n b] := (hl _).1
  by_cases e : h.ops = F
  · right
    have hcm : (brk f h).coming (brk f h).ops = [f] := by show comes [f] (h.ops : Int) = _; rw [e]; exact comes_at c
    have ho : F < (act (logged h op n b)).ops := by rw [(hl _).2]; show F < h.ops + 1; omega
    unfold does
    rw [if_neg (by rw [hd]; simp)]
    dsimp only
    rw [hcm]
    by_cases h3 : f.kind = 3
    · have e1 : before [f] = true := by simp [before, h3]
      rw [if_pos e1]
      exact ⟨rfl, by rw [hlo]; exact List.prefix_append _ _, ho⟩
    · have e1 : before [f] = false := by simp [before, h3]
      have e2 : behind [f] = true := by simp [behind, c.kind.resolve_left h3]
      rw [if_neg (by rw [e1]; simp), if_pos e2]
      refine ⟨rfl, ?_, ho⟩
      show (act (logged (brk f h) op n b)).log <+: _
      rw [hlo, (hl _).1]
      exact List.prefix_refl _
  · left
    have hcm : (brk f h).coming (brk f h).ops = [] := comes_ne c (by show (h.ops : Int) ≠ _; omega)
    refine ⟨?_, by omega⟩
    unfold does
    rw [if_neg (by rw [hd]; simp)]
    dsimp only
    rw [hcm, brk_logged c e, ha]
    rfl
def Out {α : Type} (f : Fault) (F : Nat) (er : α → Nat) (r r' : α × PH) : Prop := (r' = (r.1, r.2.1, brk f r.2.2) ∧ PagerS.Calm r.2.2 ∧ r.2.2.ops ≤ F) ∨ (er r'.1 = 110 ∧ r'.2.2.log <+: r.2.2.log ∧ F < r.2.2.ops)
theorem read_out (c : Cut f F) (hc : PagerS.Calm h) (hF : h.ops ≤ F) (n : Int) : (readR (brk f h) n = ((readR h n).1, (readR h n).2.1, brk f (readR h n).2.2) ∧ PagerS.Calm (readR h n).2.2 ∧ (readR h n).2.2.ops ≤ F) ∨ ((readR (brk f h) n).2.1 = 110 ∧ (readR (brk f h) n).2.2.log <+: (readR h n).2.2.log ∧ F < (readR h n).2.2.ops) := by
  by_cases ht : there h n
  · rw [readR_calm hc ht]
    unfold readR
    rw [if_pos (show there (brk f h) n from ht)]
    dsimp only
    rcases does_out c hc hF 0 n [] id (fun _ => rfl) (fun _ => ⟨rfl, rfl⟩) with ⟨e, e2⟩|⟨e, e2, e3⟩
    · rw [e]
      dsimp only
      rw [if_pos rfl]
      have hcm : (brk f h).coming (brk f h).ops = [] := comes_ne c (by show (h.ops : Int) ≠ _; omega)
      rw [hcm]
      exact .inl ⟨rfl, calm_logged hc _ _ _, e2⟩
    · rw [if_neg (by rw [e]; decide)]
      exact .inr ⟨e, e2, e3⟩
  · unfold readR
    rw [if_neg ht, if_neg (show ¬ there (brk f h) n from ht)]
    exact .inl ⟨rfl, hc, hF⟩
theorem write_out (c : Cut f F) (hc : PagerS.Calm h) (hF : h.ops ≤ F) (n : Int) : Out f F id (writeP s h n) (writeP s (brk f h) n) := by
  unfold writeP
  by_cases hw : s.writes = 4294967295
  · rw [if_pos hw, if_pos hw]
    exact .inl ⟨rfl, hc, hF⟩
  rw [if_neg hw, if_neg hw]
  dsimp only
  by_cases ht : there h n ∧ (boxOf s n).length = h.size
  · rw [writeR_calm hc ht.1 ht.2]
    have e0 : writeR (brk f h) n (boxOf s n) = ((does (brk f h) 1 n (boxOf s n) (wrote n (boxOf s n))).2, (does (brk f h) 1 n (boxOf s n) (wrote n (boxOf s n))).1) := by
      unfold writeR
      rw [if_pos (show there (brk f h) n from ht.1), if_pos (show (boxOf s n).length = (brk f h).size from ht.2)]
    rw [e0]
    rcases does_out c hc hF 1 n (boxOf s n) (wrote n (boxOf s n)) (fun _ => rfl) (fun _ => ⟨rfl, rfl⟩) with ⟨e, e2⟩|⟨e, e2, e3⟩
    · rw [e]
      have := calm_logged hc 1 n (boxOf s n)
      exact .inl ⟨rfl, ⟨this.up, this.calm⟩, e2⟩
    · have hne : ¬ (does (brk f h) 1 n (boxOf s n) (wrote n (boxOf s n))).2 = 0 := by rw [e]; decide
      dsimp only
      rw [if_neg hne, if_pos rfl]
      exact .inr ⟨e, e2, e3⟩
  · have e0 : ∀ g : HS, g.pages = h.pages → g.size = h.size → writeR g n (boxOf s n) = ((writeR h n (boxOf s n)).1, g) ∧ (writeR h n (boxOf s n)).2 = h := fun g h1 h2 => by
      unfold writeR
      by_cases h3 : there h n
      · have h4 : ¬ (boxOf s n).length = h.size := fun hh => ht ⟨h3, hh⟩
        have h5 : there g n := ⟨h3.1, by rw [h1]; exact h3.2⟩
        rw [if_pos h3, if_pos h5, if_neg h4, if_neg (by rw [h2]; exact h4)]
        exact ⟨rfl, rfl⟩
      · have h5 : ¬ there g n := fun hh => h3 ⟨hh.1, by rw [← h1]; exact hh.2⟩
        rw [if_neg h3, if_neg h5]
        exact ⟨rfl, rfl⟩
    obtain ⟨e1, e2⟩ := e0 (brk f h) rfl rfl
    rw [e1, e2]
    dsimp only
    split <;> exact .inl ⟨rfl, hc, hF⟩
theorem room_out (c : Cut f F) (hc : PagerS.Calm h) (hF : h.ops ≤ F) : Out f F id (roomP s h) (roomP s (brk f h)) := by
  unfold roomP
  by_cases hl : s.held.length < s.window
  · rw [if_pos hl, if_pos hl]
    exact .inl ⟨rfl, hc, hF⟩
  rw [if_neg hl, if_neg hl]
  dsimp only
  by_cases hch : changedAt s ((s.held.head?.map Fr.page).getD 0) = true
  · rw [if_pos hch, if_pos hch]
    rcases write_out (s := s) c hc hF ((s.held.head?.map Fr.page).getD 0) with ⟨e, e2, e3⟩|⟨e, e2, e3⟩
    · rw [e]
      dsimp only
      by_cases hz : (writeP s h ((s.held.head?.map Fr.page).getD 0)).1 = 0
      · rw [if_pos hz, if_pos hz]
        exact .inl ⟨rfl, e2, e3⟩
      · rw [if_neg hz, if_neg hz]
        exact .inl ⟨rfl, e2, e3⟩
    · rw [if_neg (show ¬ (writeP s (brk f h) _).1 = 0 from fun hh => by rw [show (writeP s (brk f h) _).1 = 110 from e] at hh; cases hh)]
      refine .inr ⟨e, ?_⟩
      split <;> exact ⟨e2, e3⟩
  · rw [if_neg hch, if_neg hch]
    exact .inl ⟨rfl, hc, hF⟩
theorem fetch_out (c : Cut f F) (hc : PagerS.Calm h) (hF : h.ops ≤ F) (n : Int) : Out f F (·.2) (fetchP s h n) (fetchP s (brk f h) n) := by
  unfold fetchP
  cases hl : s.last n with
  | none => exact .inl ⟨rfl, hc, hF⟩
  | some pl =>
    dsimp only
    rcases read_out c hc hF n with ⟨e, e2, e3⟩|⟨e, e2, e3⟩
    · rw [e]
      dsimp only
      by_cases hz : (readR h n).2.1 = 0
      · rw [if_pos hz, if_pos hz]
        split <;> exact .inl ⟨rfl, e2, e3⟩
      · rw [if_neg hz, if_neg hz]
        exact .inl ⟨rfl, e2, e3⟩
    · rw [if_neg (show ¬ (readR (brk f h) n).2.1 = 0 by rw [e]; decide)]
      refine .inr ⟨e, ?_⟩
      split
      · split <;> exact ⟨e2, e3⟩
      · exact ⟨e2, e3⟩
theorem load_out (c : Cut f F) (hc : PagerS.Calm h) (hF : h.ops ≤ F) (n : Int) : Out f F (·.2) (loadP s h n) (loadP s (brk f h) n) := by
  unfold loadP
  by_cases hr : rightP s n = 0
  · rw [if_pos hr, if_pos hr]
    cases hf : frOf s n with
    | some fr => exact .inl ⟨rfl, hc, hF⟩
    | none =>
      dsimp only
      rcases room_out (s := s) c hc hF with ⟨e, e2, e3⟩|⟨e, e2, e3⟩
      · rw [e]
        dsimp only
        by_cases hz : (roomP s h).1 = 0
        · rw [if_pos hz, if_pos hz]
          exact fetch_out c e2 e3 n
        · rw [if_neg hz, if_neg hz]
          exact .inl ⟨rfl, e2, e3⟩
      · have e' : (roomP s (brk f h)).1 = 110 := e
        rw [if_neg (show ¬ (roomP s (brk f h)).1 = 0 by rw [e']; decide)]
        refine .inr ⟨e', ?_⟩
        split
        · have g := grow_fetch (roomP s h).2.1 (roomP s h).2.2 n
          exact ⟨e2.trans g.log, Nat.lt_of_lt_of_le e3 g.ops⟩
        · exact ⟨e2, e3⟩
  · rw [if_neg hr, if_neg hr]
    exact .inl ⟨rfl, hc, hF⟩
theorem save_out (c : Cut f F) (hc : PagerS.Calm h) (hF : h.ops ≤ F) (n : Int) (t : Bytes) : Out f F id (saveP s h n t) (saveP s (brk f h) n t) := by
  unfold saveP
  by_cases hr : rightP s n = 0
  · rw [if_pos hr, if_pos hr]
    by_cases ht : t.length = s.text
    · rw [if_pos ht, if_pos ht]
      cases hf : frOf s n with
      | some fr => exact .inl ⟨rfl, hc, hF⟩
      | none =>
        dsimp only
        rcases room_out (s := s) c hc hF with ⟨e, e2, e3⟩|⟨e, e2, e3⟩
        · rw [e]
          dsimp only
          by_cases hz : (roomP s h).1 = 0
          · rw [if_pos hz, if_pos hz]
            exact .inl ⟨rfl, e2, e3⟩
          · rw [if_neg hz, if_neg hz]
            exact .inl ⟨rfl, e2, e3⟩
        · have e' : (roomP s (brk f h)).1 = 110 := e
          rw [if_neg (show ¬ (roomP s (brk f h)).1 = 0 by rw [e']; decide)]
          refine .inr ⟨e', ?_⟩
          split <;> exact ⟨e2, e3⟩
    · rw [if_neg ht, if_neg ht]
      exact .inl ⟨rfl, hc, hF⟩
  · rw [if_neg hr, if_neg hr]
    exact .inl ⟨rfl, hc, hF⟩
end
section
variable {f : Fault} {F : Nat} {h : HS} {s : SL} {p : PS}
attribute [local irreducible] PagerS.loadP PagerS.saveP
theorem set_out (c : Cut f F) (hc : PagerS.Calm h) (hF : h.ops ≤ F) (i : Int) (b : Bytes) : (setS s p (brk f h) i b = ((setS s p h i b).1, (setS s p h i b).2.1, (setS s p h i b).2.2.1, brk f (setS s p h i b).2.2.2)) ∨ F < (setS s p h i b).2.2.2.ops := by
  unfold setS
  split
  · split
    · dsimp only
      rcases load_out (s := p) c hc hF (pg s i.toNat) with ⟨e, e2, e3⟩|⟨e, e2, e3⟩
      · rw [e]
        dsimp only
        by_cases hz : (loadP p h (pg s i.toNat)).1.2 = 0
        · rw [if_pos hz, if_pos hz]
          rcases save_out (s := (loadP p h (pg s i.toNat)).2.1) c e2 e3 (pg s i.toNat) (lay (loadP p h (pg s i.toNat)).1.1 (fr s i.toNat) b) with ⟨d, d2, d3⟩|⟨d, d2, d3⟩
          · rw [d]; exact .inl rfl
          · exact .inr d3
        · rw [if_neg hz, if_neg hz]
          exact .inl rfl
      · right
        split
        · exact Nat.lt_of_lt_of_le e3 (grow_save ..).ops
        · exact e3
    · exact .inl rfl
  · exact .inl rfl
theorem pairL_near (s : SL) (p : PS) (h : HS) (i j : Nat) : Near 4 2 p h (pairL s p h i j).2.1 (pairL s p h i j).2.2 := by
  have n1 := near_load p h ((pg s i : Nat) : Int)
  unfold pairL
  dsimp only
  split
  · split
    · exact n1.trans (Near.refl 2 1 _ _) (by omega) (by omega)
    · have n2 := near_load (loadP p h (pg s i)).2.1 (loadP p h (pg s i)).2.2 ((pg s j : Nat) : Int)
      split <;> exact n1.trans n2 (by omega) (by omega)
  · exact n1.trans (Near.refl 2 1 _ _) (by omega) (by omega)
theorem pairL_out (c : Cut f F) (hc : PagerS.Calm h) (hF : h.ops ≤ F) (i j : Nat) : Out f F (·.1) (pairL s p h i j) (pairL s p (brk f h) i j) := by
  unfold pairL
  dsimp only
  rcases load_out (s := p) c hc hF (pg s i) with ⟨e, e2, e3⟩|⟨e, e2, e3⟩
  · rw [e]
    dsimp only
    by_cases hz : (loadP p h (pg s i)).1.2 = 0
    · rw [if_pos hz, if_pos hz]
      by_cases hp : pg s j = pg s i
      · rw [if_pos hp, if_pos hp]
        exact .inl ⟨rfl, e2, e3⟩
      · rw [if_neg hp, if_neg hp]
        rcases load_out (s := (loadP p h (pg s i)).2.1) c e2 e3 (pg s j) with ⟨d, d2, d3⟩|⟨d, d2, d3⟩
        · rw [d]
          dsimp only
          split <;> exact .inl ⟨rfl, d2, d3⟩
        · rw [if_neg (show ¬ (loadP (loadP p h (pg s i)).2.1 (brk f (loadP p h (pg s i)).2.2) (pg s j)).1.2 = 0 from fun hh => by have := d.symm.trans hh; cases this)]
          refine .inr ⟨d, ?_⟩
          split <;> exact ⟨d2, d3⟩
    · rw [if_neg hz, if_neg hz]
      exact .inl ⟨rfl, e2, e3⟩
  · rw [if_neg (show ¬ (loadP p (brk f h) (pg s i)).1.2 = 0 from fun hh => by have := e.symm.trans hh; cases this)]
    refine .inr ⟨e, ?_⟩
    split
    · split
      · exact ⟨e2, e3⟩
      · have g := grow_load (loadP p h (pg s i)).2.1 (loadP p h (pg s i)).2.2 (pg s j)
        split <;> exact ⟨e2.trans g.log, Nat.lt_of_lt_of_le e3 g.ops⟩
    · exact ⟨e2, e3⟩
theorem pairE_out (c : Cut f F) (hc : PagerS.Calm h) (hF : h.ops ≤ F) (i j : Nat) (tI tJ a b : Bytes) : Out f F id (pairE s p h i j tI tJ a b) (pairE s p (brk f h) i j tI tJ a b) := by
  unfold pairE
  by_cases hp : pg s j = pg s i
  · rw [if_pos hp, if_pos hp]
    exact save_out c hc hF _ _
  · rw [if_neg hp, if_neg hp]
    dsimp only
    rcases save_out (s := p) c hc hF (pg s i) (lay tI (fr s i) a) with ⟨e, e2, e3⟩|⟨e, e2, e3⟩
    · rw [e]
      dsimp only
      by_cases hz : (saveP p h (pg s i) (lay tI (fr s i) a)).1 = 0
      · rw [if_pos hz, if_pos hz]
        exact save_out c e2 e3 _ _
      · rw [if_neg hz, if_neg hz]
        exact .inl ⟨rfl, e2, e3⟩
    · have e' : (saveP p (brk f h) (pg s i) (lay tI (fr s i) a)).1 = 110 := e
      rw [if_neg (show ¬ (saveP p (brk f h) (pg s i) (lay tI (fr s i) a)).1 = 0 by rw [e']; decide)]
      refine .inr ⟨e', ?_⟩
      split
      · have g := grow_save (saveP p h (pg s i) (lay tI (fr s i) a)).2.1 (saveP p h (pg s i) (lay tI (fr s i) a)).2.2 (pg s j) (lay tJ (fr s j) b)
        exact ⟨e2.trans g.log, Nat.lt_of_lt_of_le e3 g.ops⟩
      · exact ⟨e2, e3⟩
end
end Go.Sl.SlotS
namespace Go.Sl
open Go Go.Proofs Go.RowKit Go.Shelf
attribute [local go_sem] Oper.semAt_some
end Go.Sl
namespace Go.Proofs
open Go.Shelf
end Go.Proofs
namespace Go.Sl
open Go Go.Proofs
instance : TyBA Tryz.prog 42 32 := ⟨⟨5, by kernel_rfl, by kernel_rfl, by kernel_rfl⟩, by kernel_rfl, by kernel_rfl, by kernel_rfl⟩
end Go.Sl
namespace Go.Sl
open Go
theorem Zm9 {P : Program} {ρ : Env} {x : Operand} {S E by' bb n : Nat} {z : Value} {lo hi : Option Operand} {l h : Nat} [hs : TyArr P S n E] [hi' : TyI P E 1 by' z] (hx : ev ρ x = .pointer (some ⟨bb, 0, none⟩))
    (hl : optB ρ 0 lo = some (l : Int)) (hh : optB ρ n hi = some (h : Int)) (hle : l ≤ h := by first|omega|exact Nat.le_of_ble_eq_true rfl|(simp; done)|(simp; omega)|decide) (hc : h ≤ n := by first|omega|exact Nat.le_of_ble_eq_true rfl|(simp; done)|(simp; omega)|decide) (hn : l < n := by first|omega|exact Nat.le_of_ble_eq_true rfl|(simp; done)|(simp; omega)|decide) : PV P (.slice S x lo hi none) ρ (.slice (some ⟨bb, l, none⟩) (h - l) (n - l)) := by
  have := Zmx (P := P) (S := S) hx hl hh hle hc hn
  rwa [Nat.zero_add] at this
theorem Zna {P : Program} {ρ : Env} {x : Operand} {S E by' bb n c : Nat} {z : Value} {lo hi : Option Operand} {l h : Nat} [hs : TySlice P S E] [hi' : TyI P E 1 by' z] (hx : ev ρ x = .slice (some ⟨bb, 0, none⟩) n c)
    (hl : optB ρ 0 lo = some (l : Int)) (hh : optB ρ n hi = some (h : Int)) (hle : l ≤ h := by first|omega|exact Nat.le_of_ble_eq_true rfl|(simp; done)|(simp; omega)|decide) (hc : h ≤ c := by first|omega|exact Nat.le_of_ble_eq_true rfl|(simp; done)|(simp; omega)|decide) (hn : l < c := by first|omega|exact Nat.le_of_ble_eq_true rfl|(simp; done)|(simp; omega)|decide) : PV P (.slice S x lo hi none) ρ (.slice (some ⟨bb, l, none⟩) (h - l) (c - l)) := by
  have := Zmz (P := P) (S := S) hx hl hh hle hc hn
  rwa [Nat.zero_add] at this
theorem Znb {P : Program} {ρ : Env} {x y : Operand} {k : IntKind} {S n E by' i : Nat} {z v : Value} {cs : Array Value} [hs : TyArr P S n E] [he : TyScal P E] [hi : TyI P E 1 by' z] (hx : ev ρ x = .agg cs) (hy : ev ρ y = .int k (i : Int)) (hv : cs[i]? = some v) (h : i < n := by first|omega|exact Nat.le_of_ble_eq_true rfl|(simp; done)|(simp; omega)|decide) : PV P (.index S x y) ρ v :=
  Zcn hx hy ⟨by omega, by omega⟩ (by simpa using hv)
theorem fill_part {pl : Nat → Option (Nat × Nat)} {z z' cs : Array Value} {i o n : Nat} {v : Value} {rest : List (Nat × Value)} (hp : pl i = some (o, n)) (hv : v.cells.size = n) (hz : o + n ≤ z.size) (hw : wr z o v.cells.toList = z') (k : Instr.fill pl z' rest = some cs) : Instr.fill pl z ((i, v) :: rest) = some cs := by
  unfold Instr.fill
  rw [hp]
  show (if v.cells.size ≠ n || o + v.cells.size > z.size then none else Instr.fill pl (v.cells.zipIdx.foldl (fun cs (p : Value × Nat) => cs.setIfInBounds (o + p.2) p.1) z) rest) = _
  rw [if_neg (by simp [hv]; omega), ← Array.foldl_toList, Array.toList_zipIdx, fold_wr o v.cells.toList 0 z, Nat.add_zero, hw]
  exact k
theorem fill_end {pl : Nat → Option (Nat × Nat)} {z : Array Value} : Instr.fill pl z [] = some z := rfl
theorem Zno {P : Program} {w0 : World} {c : Code} {ρ : Env} {M : List Asrt} {Q : XQ} (hm : P.follows .mixedOrders = true) (h : xC P w0 c ρ M (xng Q)) : xC P w0 (.scope c) ρ M Q := by
  intro F w H ds n a hfr hc
  refine wp_scope_straight (wp_mono (Zaa hm c ρ w _ a hfr hc (h F w H)) ?_)
  rintro e a' w' ⟨ρ', hfr', M', H', hq⟩
  cases e with
  | goto l => exact hq.elim
  | _ => exact ⟨ρ', hfr', M', H', hq⟩
theorem bs_drop {M : List Asrt} {b o c k : Nat} {l : List Byte} (h : Bs M (.slice (some ⟨b, o, none⟩) l.length c) l) (hk : k ≤ l.length) (hkc : k < c) : Bs M (.slice (some ⟨b, o + k, none⟩) (l.length - k) (c - k)) (l.drop k) := by
  have hl : (l.drop k).length = l.length - k := by simp
  refine ⟨?_, ?_⟩
  · rw [hl]
    intro w0 F w H
    obtain ⟨a', c', hv, h1, h2⟩ := h.sh w0 F w H
    simp only [Value.slice.injEq] at hv
    obtain ⟨rfl, _, rfl⟩ := hv
    have h3 := h.rd.cut hk h1 w0 F w H
    rw [if_neg (by omega)] at h3
    rw [List.map_drop]
    have e : Option.map (fun x : Addr => x.add (k * 1)) (some ⟨b, o, none⟩) = some ⟨b, o + k, none⟩ := by simp [Option.map, addr_add]
    rw [e] at h3
    exact h3
  · intro w0 F w H
    obtain ⟨a', c', hv, h1, h2⟩ := h.sh w0 F w H
    simp only [Value.slice.injEq] at hv
    obtain ⟨_, _, rfl⟩ := hv
    exact ⟨_, _, by rw [hl], by rw [hl]; omega, by omega⟩
theorem rx4 {P : Program} {w0 : World} {ρ : Env} {M : List Asrt} {Φ : Value → List Asrt → Prop} {r r' r2 r3 : ResultVar} {v v' v2 v3 : Value} (hr : resX P w0 ρ M [r, r', r2, r3] [v, v', v2, v3]) (h : ∃ N, Φ (.tuple #[v, v', v2, v3]) N ∧ Imp M N) : retX P w0 [r, r', r2, r3] Φ .ret ρ M := by
  obtain ⟨N, h, hM⟩ := h; exact ⟨[v, v', v2, v3], N, hr, h, hM⟩
theorem PV.eq {P : Program} {op : Op} {ρ : Env} {v v' : Value} (h : PV P op ρ v) (e : v = v') : PV P op ρ v' := e ▸ h
theorem wr_pre {α : Type} {f : α → Value} (l z : List α) (h : l.length ≤ z.length) : wr ((z.map f).toArray) 0 (l.map f) = ((l ++ z.drop l.length).map f).toArray := by
  apply Array.ext'
  rw [wr_toList _ _ _ (by simp; omega)]
  simp
theorem copy_pre (l : List Byte) (k : Nat) : wr (((List.replicate (l.length + k) 0#8).map u8b).toArray) 0 ((l.map u8b).take (min l.length l.length * 1)) = ((l ++ List.replicate k 0#8).map u8b).toArray := by
  rw [Nat.min_self, Nat.mul_one, List.take_of_length_le (by simp), wr_pre l (List.replicate (l.length + k) 0#8) (by simp)]
  simp
def RdAt (M : List Asrt) (b o : Nat) (v : Value) : Prop := ∀ w0 F w, St w0 w (F :: M) → ∃ c E fr, w.heap[b]? = some (.cells c E fr) ∧ c[o]? = some v
def RdAg (M : List Asrt) (b o n : Nat) (cs : Array Value) : Prop := ∀ w0 F w, St w0 w (F :: M) → ∃ c E fr, w.heap[b]? = some (.cells c E fr) ∧ o + n ≤ c.size ∧ c.extract o (o + n) = cs
section
variable {M M' : List Asrt} {b o : Nat}
theorem RdAg.imp {n : Nat} {cs : Array Value} (h : RdAg M b o n cs) (hi : Imp M' M) : RdAg M' b o n cs := fun _ _ _ H => h _ _ _ (H.enx hi)
theorem RdAg.cl {c cs : Array Value} {E n : Nat} (hm : Has M (Sl.cl b c E) M') (hv : o + n ≤ c.size) (hc : c.extract o (o + n) = cs) : RdAg M b o n cs := fun _ _ _ H => ⟨c, E, (0, 0), (H.pick (.there hm)).cl_get, hv, hc⟩
theorem Rd.at {m k j : Nat} {xs : List Value} {v : Value} (h : Rd M 1 (.slice (some ⟨b, o, none⟩) m k) m xs) (hj : j < m) (hv : xs[j]? = some v) : RdAt M b (o + j) v := fun _ _ _ H => by
  obtain ⟨c, E, fr, hb, hc⟩ := (h _ _ _ H).cellAt hj
  exact ⟨c, E, fr, hb, hc.trans hv⟩
theorem Rd.at0 {m k j : Nat} {xs : List Value} {v : Value} (h : Rd M 1 (.slice (some ⟨b, 0, none⟩) m k) m xs) (hj : j < m) (hv : xs[j]? = some v) : RdAt M b j v := by
  have := h.at hj hv; rwa [Nat.zero_add] at this
theorem Rd.agN {α : Type} {enc : α → List Value} {l : List α} {sz k i : Nat} (h : Rd M sz (.slice (some ⟨b, o, none⟩) l.length k) l.length (l.flatMap enc)) (he : ∀ a, (enc a).length = sz) (hsz : 0 < sz) (hi : i < l.length) : RdAg M b (o + i * sz) sz (enc l[i]).toArray := fun _ _ _ H => by
  obtain ⟨c, E, fr, hb, hle, hc⟩ := (h _ _ _ H).cellsAt he hsz hi
  exact ⟨c, E, fr, hb, hle, hc⟩
theorem Rd.ag0 {m k : Nat} {xs : List Value} (h : Rd M 1 (.slice (some ⟨b, 0, none⟩) m k) m xs) (hm : 0 < m) : RdAg M b 0 m xs.toArray := fun _ _ _ H => by
  obtain ⟨hx, h2⟩ := h _ _ _ H
  rcases h2 with ⟨a, k', _, h0⟩|⟨b', o', k', c, E, fr, hv, hb, hle, he⟩
  · omega
  · simp only [Value.slice.injEq, Option.some.injEq, Addr.mk.injEq] at hv
    obtain ⟨⟨rfl, rfl, _⟩, _, rfl⟩ := hv
    refine ⟨c, E, fr, hb, by omega, ?_⟩
    apply Array.ext'
    rw [← he, Nat.mul_one]
end
section
variable {P : Program} {w0 : World} {ops : Array Oper} {dst : Option Nat} {ty T : TypeId} {pos : String} {after : Array Edge} {rest : List Oper} {ρ : Env} {K : XK} {M SM : List Asrt} {x : Operand} {b o i j n by' : Nat} {z v : Value} {cs : Array Value} {r : Ord} {t : Bool}
theorem run_ldc {oo : Oper} {w : World} [hs : TyScal P T] (hoo : oo.op = .load T x) (hx : ev ρ x = .pointer (some ⟨b, o, none⟩)) (h : RdAt SM b o v) {F : Asrt} (H : St w0 w (F :: SM)) : (execOp (ev ρ) oo).run P w = .ok (.value v) w := by
  obtain ⟨c, E, fr, hb, hc⟩ := h _ _ _ H
  have hr : (Instr.loadAt T (ev ρ x)).run P w = .ok v w := by
    rw [hx]; unfold Instr.loadAt
    rw [run_bind P _ _ w w _ rfl]; unfold loadVar
    rw [run_bind P _ _ w w _ (run_isAgg hs.h)]
    exact run_load1 hb hc
  unfold execOp; rw [hoo]
  exact op_run_value hr
theorem run_ldg {oo : Oper} {w : World} [hs : TyAggr P T] [hi : TyI P T n by' z] (hoo : oo.op = .load T x) (hx : ev ρ x = .pointer (some ⟨b, o, none⟩)) (h : RdAg SM b o n cs) {F : Asrt} (H : St w0 w (F :: SM)) : (execOp (ev ρ) oo).run P w = .ok (.value (.agg cs)) w := by
  obtain ⟨c, E, fr, hb, hv, hc⟩ := h _ _ _ H
  have hr := run_loadAgg (P := P) (ρ := ρ) (x := x) (T := T) (n := n) hb hv hx
  rw [hc] at hr
  unfold execOp; rw [hoo]
  exact op_run_value hr
theorem Zff [hs : TyScal P T] (hx : ev ρ x = .pointer (some ⟨b, o, none⟩)) (h : RdAt M b o v) (kk : xOps P w0 ops rest (put ρ dst v) M K) : xOps P w0 ops (⟨dst, .load T x, ty, pos, after, none⟩ :: rest) ρ M K := fun F w H => by
  obtain ⟨c, E, fr, hb, hc⟩ := h _ _ _ H
  exact Zfs hx hb hc (kk F w H)
theorem Zfg [hs : TyAggr P T] [hi : TyI P T n by' z] (hx : ev ρ x = .pointer (some ⟨b, o, none⟩)) (h : RdAg M b o n cs) (kk : xOps P w0 ops rest (put ρ dst (.agg cs)) M K) : xOps P w0 ops (⟨dst, .load T x, ty, pos, after, none⟩ :: rest) ρ M K := fun F w H => by
  obtain ⟨c, E, fr, hb, hv, hc⟩ := h _ _ _ H
  exact Zft hx hb hv hc (kk F w H)
theorem Zfh [hs : TyScal P T] (ho : ops[i]? = some ⟨dst, .load T x, ty, pos, after, none⟩) (hx : ev ρ x = .pointer (some ⟨b, o, none⟩)) (h : RdAt SM b o v) (k : cX P w0 ops SM r (put ρ dst v) M K) : cX P w0 ops SM (.r i r) ρ M K :=
  Zit ho (fun F w H => run_ldc rfl hx h H) k
theorem Zfj [hs : TyAggr P T] [hi : TyI P T n by' z] (ho : ops[i]? = some ⟨dst, .load T x, ty, pos, after, none⟩) (hx : ev ρ x = .pointer (some ⟨b, o, none⟩)) (h : RdAg SM b o n cs) (k : cX P w0 ops SM r (put ρ dst (.agg cs)) M K) : cX P w0 ops SM (.r i r) ρ M K :=
  Zit ho (fun F w H => run_ldg rfl hx h H) k
end
end Go.Sl
namespace Go.Sl
open Go Go.RowKit
end Go.Sl
namespace Go.Sl
open Go Go.Proofs
attribute [local irreducible] pt old pur ex all den denOps denS xOps xC cX CX xthen xblk xcut xloop xng retX resX Calls PV Rd Con
open Go.RowKit Go.Maps Go.Sort Go.Shelf
abbrev ownI (a : Option Addr) (c : Nat) (zs : List Int) : Asrt := own 3 1 (.slice a zs.length c) zs.length (zs.map (Value.int .i64))
end Go.Sl
namespace Go.Sl
open Go
def Keys1 (es : List Ent) : Prop := (es.map (·.1)).Nodup
theorem esGet_none {es : List Ent} {k : Int} : esGet es k = none ↔ k ∉ es.map (·.1) := by
  induction es with
  | nil => simp [esGet]
  | cons e r ih =>
    unfold esGet
    by_cases h : e.1 = k
    · simp [h]
    · rw [if_neg h, ih]; simp only [List.map_cons, List.mem_cons, not_or]
      exact ⟨fun hh => ⟨fun hk => h hk.symm, hh⟩, fun hh => hh.2⟩
theorem esSet_get {es : List Ent} {k : Int} {v : Value} {c : Nat} (k' : Int) : esGet (esSet es k v c) k' = if k' = k then some v else esGet es k' := by
  induction es with
  | nil =>
    simp only [esSet, esGet]
    by_cases h : k' = k
    · rw [if_pos h, if_pos h.symm]
    · rw [if_neg h, if_neg (fun hh => h hh.symm)]
  | cons e r ih =>
    unfold esSet
    by_cases h : e.1 = k
    · rw [if_pos h]
      simp only [esGet]
      by_cases h2 : k' = k
      · rw [if_pos h2.symm, if_pos h2]
      · rw [if_neg (fun hh => h2 hh.symm), if_neg h2, if_neg (fun hh => h2 (by rw [← hh, h]))]
    · rw [if_neg h]
      simp only [esGet]
      by_cases h2 : e.1 = k'
      · rw [if_pos h2, if_neg (fun hh => h (h2.trans hh)), if_pos h2]
      · rw [if_neg h2, ih, if_neg h2]
theorem esSet_keys {es : List Ent} {k : Int} {v : Value} {c : Nat} : (esSet es k v c).map (·.1) = if k ∈ es.map (·.1) then es.map (·.1) else es.map (·.1) ++ [k] := by
  induction es with
  | nil => simp [esSet]
  | cons e r ih =>
    unfold esSet
    by_cases h : e.1 = k
    · rw [if_pos h]; simp [h]
    · rw [if_neg h]
      simp only [List.map_cons, List.mem_cons, ih]
      by_cases h2 : k ∈ r.map (·.1)
      · rw [if_pos h2, if_pos (.inr h2)]
      · rw [if_neg h2, if_neg (fun hh => hh.elim (fun hk => h hk.symm) h2)]; rfl
theorem esSet_nodup {es : List Ent} {k : Int} {v : Value} {c : Nat} (h : Keys1 es) : Keys1 (esSet es k v c) := by
  unfold Keys1
  rw [esSet_keys]
  by_cases h2 : k ∈ es.map (·.1)
  · rw [if_pos h2]; exact h
  · rw [if_neg h2, List.nodup_append]
    refine ⟨h, by simp, ?_⟩
    intro a ha b hb
    simp only [List.mem_singleton] at hb
    subst hb
    exact fun e => h2 (e ▸ ha)
theorem esDel_get {es : List Ent} {k : Int} (h : Keys1 es) (k' : Int) : esGet (esDel es k) k' = if k' = k then none else esGet es k' := by
  induction es with
  | nil => simp [esDel, esGet]
  | cons e r ih =>
    have hn : Keys1 r := (List.nodup_cons.1 h).2
    have hk : e.1 ∉ r.map (·.1) := (List.nodup_cons.1 h).1
    unfold esDel
    by_cases h1 : e.1 = k
    · rw [if_pos h1]
      by_cases h2 : k' = k
      · rw [if_pos h2, h2, esGet_none, ← h1]; exact hk
      · rw [if_neg h2]; simp only [esGet]; rw [if_neg (fun hh => h2 (by rw [← hh, h1]))]
    · rw [if_neg h1]
      simp only [esGet]
      by_cases h2 : e.1 = k'
      · rw [if_pos h2, if_pos h2, if_neg (fun hh => h1 (h2.trans hh))]
      · rw [if_neg h2, if_neg h2, ih hn]
theorem esDel_sub {es : List Ent} {k : Int} : (esDel es k).map (·.1) = (es.map (·.1)).erase k := by
  induction es with
  | nil => rfl
  | cons e r ih =>
    unfold esDel
    by_cases h : e.1 = k
    · rw [if_pos h]; simp [h]
    · rw [if_neg h, List.map_cons, List.map_cons, List.erase_cons_tail (by simpa using h), ih]
theorem esDel_nodup {es : List Ent} {k : Int} (h : Keys1 es) : Keys1 (esDel es k) := by
  unfold Keys1; rw [esDel_sub]; exact h.erase k
def fmA (b : Nat) (f : Int → Option Value) : Asrt := ex fun es : List Ent => ex fun c : Nat => all [pur (Keys1 es ∧ ∀ k, esGet es k = f k), pt b (.map (mapE es) c)]
def fput (f : Int → Option Value) (k : Int) (o : Option Value) : Int → Option Value := fun k' => if k' = k then o else f k'
section
variable {w0 w : World} {L M M' M2 : List Asrt} {b : Nat} {f : Int → Option Value} {k : Int}
theorem St.fm_get (H : St w0 w (fmA b f :: L)) : ∃ es c, Keys1 es ∧ (∀ k, esGet es k = f k) ∧ St w0 w (pt b (.map (mapE es) c) :: L) := by
  unfold fmA at H
  obtain ⟨es, H⟩ := H.ex_get; obtain ⟨c, H⟩ := H.ex_get
  have H := H.all_get
  have hp := H.pur_get
  exact ⟨es, c, hp.1, hp.2, H.drop⟩
theorem St.fm_mk {es : List Ent} {c : Nat} (h1 : Keys1 es) (h2 : ∀ k, esGet es k = f k) (H : St w0 w (pt b (.map (mapE es) c) :: L)) : St w0 w (fmA b f :: L) := by
  unfold fmA
  exact St.ex_mk es (St.ex_mk c (St.all_mk [pur (Keys1 es ∧ ∀ k, esGet es k = f k), pt b (.map (mapE es) c)] (H.pur_mk ⟨h1, h2⟩)))
end
section
variable {P : Program} {w0 : World} {ops : Array Oper} {dst : Option Nat} {ty : TypeId} {pos : String} {after : Array Edge} {rest : List Oper} {ρ : Env} {K : XK} {M M' M2 SM : List Asrt}
variable {x y z' : Operand} {T Kt E b : Nat} {f : Int → Option Value} {k : Int} {v : Value}
theorem run_fm {n by' : Nat} {z : Value} {w : World} {F : Asrt} [hm : TyMap P T Kt E] [hk : TyInt P Kt .i64] [hz : TyI P E n by' z] (hh : Has M (fmA b f) M') (hv : (f k).getD z = v) (H : St w0 w (F :: M)) :
    (Instr.lookup T (.map (some b)) (.int .i64 k) false).run P w = .ok v w := by
  obtain ⟨es, c, _, h2, H1⟩ := (H.pick (.there hh)).fm_get
  rw [run_lookup (Kt := Kt) (E := E) (z := z) H1.pt_get, h2, hv]
theorem Zoc {n by' : Nat} {z : Value} [hm : TyMap P T Kt E] [hk : TyInt P Kt .i64] [hz : TyI P E n by' z] (hx : ev ρ x = .map (some b)) (hy : ev ρ y = .int .i64 k) (hh : Has M (fmA b f) M') (hv : (f k).getD z = v)
    (kk : xOps P w0 ops rest (put ρ dst v) M K) : xOps P w0 ops (⟨dst, .lookup T x y false, ty, pos, after, none⟩ :: rest) ρ M K := by
  intro F w H
  refine Zcy ?_
  have : (execOp (ev ρ) ⟨dst, .lookup T x y false, ty, pos, after, none⟩).run P w = .ok (.value v) w := op_run_value (by rw [hx, hy]; exact run_fm (Kt := Kt) (E := E) hh hv H)
  rw [this]; exact kk F w H
theorem Zod {r : Ord} {i n by' : Nat} {z : Value} [hm : TyMap P T Kt E] [hk : TyInt P Kt .i64] [hz : TyI P E n by' z] (ho : ops[i]? = some ⟨dst, .lookup T x y false, ty, pos, after, none⟩) (hx : ev ρ x = .map (some b)) (hy : ev ρ y = .int .i64 k) (hh : Has SM (fmA b f) M') (hv : (f k).getD z = v)
    (kk : cX P w0 ops SM r (put ρ dst v) M K) : cX P w0 ops SM (.r i r) ρ M K :=
  Zit ho (fun F w H => op_run_value (by rw [hx, hy]; exact run_fm (Kt := Kt) (E := E) hh hv H)) kk
theorem Zoe {n by' : Nat} {z : Value} {t : Bool} [hm : TyMap P T Kt E] [hk : TyInt P Kt .i64] [hz : TyI P E n by' z] (hx : ev ρ x = .map (some b)) (hy : ev ρ y = .int .i64 k) (hh : Has M (fmA b f) M') (hv : (f k).getD z = v) (ht : (f k).isSome = t)
    (kk : xOps P w0 ops rest (put ρ dst (.tuple #[v, .bool t])) M K) : xOps P w0 ops (⟨dst, .lookup T x y true, ty, pos, after, none⟩ :: rest) ρ M K := by
  intro F w H
  refine Zcy ?_
  obtain ⟨es, c, _, h2, H1⟩ := (H.pick (.there hh)).fm_get
  have : (execOp (ev ρ) ⟨dst, .lookup T x y true, ty, pos, after, none⟩).run P w = .ok (.value (.tuple #[v, .bool t])) w := op_run_value (by rw [hx, hy, run_lookup2 (Kt := Kt) (E := E) (z := z) H1.pt_get, h2, hv, ht])
  rw [this]; exact kk F w H
theorem Zof [hm : TyMap P T Kt E] [hk : TyInt P Kt .i64] (hx : ev ρ x = .map (some b)) (hy : ev ρ y = .int .i64 k) (hz : ev ρ z' = v) (hh : Repl M (fmA b f) (fmA b (fput f k (some v))) M2) (kk : xOps P w0 ops rest (put ρ dst undef) M2 K) :
    xOps P w0 ops (⟨dst, .mapUpdate T x y z', ty, pos, after, none⟩ :: rest) ρ M K := by
  intro F w H
  refine Zcy ?_
  obtain ⟨R, h1, h2⟩ := hh.has
  obtain ⟨es, c, g1, g2, H1⟩ := (H.pick (.there h1)).fm_get
  have : (execOp (ev ρ) ⟨dst, .mapUpdate T x y z', ty, pos, after, none⟩).run P w = .ok .skip _ := op_run_unit (by rw [hx, hy, hz]; exact run_mapUpdate (Kt := Kt) (E := E) H1.pt_get)
  rw [this]
  refine kk F _ (St.unpick (St.fm_mk (es := esSet es k v c) (c := esClock es k c) (esSet_nodup g1) (fun k' => ?_) (H1.set _)) (.there h2))
  rw [esSet_get, g2]; rfl
theorem Zog {K2 : Nat} [hm : TyMap P T Kt E] [hk : TyInt P Kt .i64] (hx : ev ρ x = .map (some b)) (hy : ev ρ y = .int .i64 k) (hh : Repl M (fmA b f) (fmA b (fput f k none)) M2) (kk : xOps P w0 ops rest (put ρ dst (.tuple #[])) M2 K) :
    xOps P w0 ops (⟨dst, .call { callee := .builtin .delete, args := #[x, y], argTypes := #[T, K2] }, ty, pos, after, none⟩ :: rest) ρ M K := by
  intro F w H
  refine Zcy ?_
  obtain ⟨R, h1, h2⟩ := hh.has
  obtain ⟨es, c, g1, g2, H1⟩ := (H.pick (.there h1)).fm_get
  have : (execOp (ev ρ) ⟨dst, .call { callee := .builtin .delete, args := #[x, y], argTypes := #[T, K2] }, ty, pos, after, none⟩).run P w = .ok (.value (.tuple #[])) { w with heap := w.heap.setIfInBounds b (.map (mapE (esDel es k)) c) } := by
    refine op_run_value ?_
    simp only [List.map_toArray, List.map_cons, List.map_nil, hx, hy]
    exact run_delete (Kt := Kt) (E := E) H1.pt_get
  rw [this]
  refine kk F _ (St.unpick (St.fm_mk (es := esDel es k) (c := c) (esDel_nodup g1) (fun k' => ?_) (H1.set _)) (.there h2))
  rw [esDel_get g1, g2]; rfl
theorem Zoh (kk : ∀ b, xOps P w0 ops rest (put ρ dst (.map (some b))) (fmA b (fun _ => none) :: M) K) :
    xOps P w0 ops (⟨dst, .makeMap T none, ty, pos, after, none⟩ :: rest) ρ M K := by
  intro F w H
  refine Zcy ?_
  have : (execOp (ev ρ) ⟨dst, .makeMap T none, ty, pos, after, none⟩).run P w = .ok (.value (.map (some w.heap.size))) { w with heap := w.heap.push (.map #[] 0) } := rfl
  rw [this]
  exact kk w.heap.size F _ (St.swap (St.fm_mk (es := []) (c := 0) (by simp [Keys1]) (fun _ => rfl) (H.alloc (.map #[] 0))))
theorem run_bounds3i {len cap : Nat} {lo y m : Operand} {k1 k2 k3 : IntKind} {l h mx : Nat} {w : World} (hl : ev ρ lo = .int k1 (l : Int)) (hh : ev ρ y = .int k2 (h : Int)) (hm : ev ρ m = .int k3 (mx : Int)) (h1 : l ≤ h) (h2 : h ≤ mx) (hc : mx ≤ cap) :
    (Instr.sliceBounds true len cap (some (ev ρ lo)) (some (ev ρ y)) (some (ev ρ m))).run P w = .ok (l, h, mx) w := by
  unfold Instr.sliceBounds
  simp only []
  rw [run_bind P _ _ w w _ (run_bound hm ⟨by omega, by omega⟩), Int.toNat_natCast, run_bind P _ _ w w _ (run_bound hh ⟨by omega, by omega⟩), Int.toNat_natCast, run_bind P _ _ w w _ (run_bound hl ⟨by omega, by omega⟩), Int.toNat_natCast]
  rfl
theorem Zok {lo m : Operand} {S sz by' bb o len cap : Nat} {z : Value} {k1 k2 k3 : IntKind} {l h mx : Nat} [hs : TySlice P S E] [hi' : TyI P E sz by' z] (hx : ev ρ x = .slice (some ⟨bb, o, none⟩) len cap)
    (hl : ev ρ lo = .int k1 (l : Int)) (hh : ev ρ y = .int k2 (h : Int)) (hm : ev ρ m = .int k3 (mx : Int)) (h1 : l ≤ h) (h2 : h ≤ mx) (hc : mx ≤ cap) :
    PV P (.slice S x (some lo) (some y) (some m)) ρ (.slice (some ⟨bb, cutOff o l mx sz, none⟩) (h - l) (mx - l)) := by
  intro oo w ho; unfold execOp; rw [ho]; refine op_run_value ?_; rw [hx]
  unfold Instr.sliceAt
  rw [run_bind P _ _ w w _ (run_under hs.h)]
  simp only []
  unfold Instr.slice
  rw [run_bind P _ _ w w _ (run_under hs.h)]
  simp only [Option.map_some]
  rw [run_bind P _ _ w w _ (run_bounds3i hl hh hm h1 h2 hc), run_bind P _ _ w w _ (run_size hi')]
  show (Result.ok (Value.slice _ _ _) w : Result Value) = _
  unfold cutOff
  split
  · rfl
  · simp only [Option.map_some, addr_add]
theorem Zoi {size by' n m T' E' g cap : Nat} {z sv : Value} {cur cur' : Array Value} {news : List Value} [hs : TySlice P T E] [hi : TyI P E size by' z] [ht : TySlice P T' E']
    (hx : ev ρ x = .slice (some ⟨g, 0, none⟩) n cap) (hy : ev ρ y = sv) (hsl : Rd M size sv m news) (hm : Repl M (cl g cur E) (cl g cur' E) M2) (h1 : news.all oneC = true) (hroom : n + m ≤ cap) (hsz : cur.size = cap * size) (hc : wr cur (n * size) news = cur')
    (k : xOps P w0 ops rest (put ρ dst (.slice (some ⟨g, 0, none⟩) (n + m) cap)) M2 K) :
    xOps P w0 ops (⟨dst, .call { callee := .builtin .append, args := #[x, y], argTypes := #[T, T'] }, ty, pos, after, none⟩ :: rest) ρ M K := by
  intro F w H
  have hsl := hsl _ _ _ H
  refine Zcy ?_
  obtain ⟨R, hh1, hh2⟩ := hm.has
  have H1 := H.pick (.there hh1)
  have hr : (Builtin.append_ #[T, T'] ty #[.slice (some ⟨g, 0, none⟩) n cap, sv]).run P w = .ok (.slice (some ⟨g, 0, none⟩) (n + m) cap) { w with heap := w.heap.setIfInBounds g (.cells (wr cur (n * size) news) E (0, 0)) } :=
    run_append_room ht.h hsl.lenOf (by
      have := hsl.first (P := P) m (Nat.le_refl _)
      rwa [← hsl.1, List.take_length] at this) hsl.1 h1 hroom H1.cl_get hsz
  have : (execOp (ev ρ) ⟨dst, .call { callee := .builtin .append, args := #[x, y], argTypes := #[T, T'] }, ty, pos, after, none⟩).run P w = .ok (.value (.slice (some ⟨g, 0, none⟩) (n + m) cap)) { w with heap := w.heap.setIfInBounds g (.cells (wr cur (n * size) news) E (0, 0)) } := by
    refine op_run_value ?_
    simp only [List.map_toArray, List.map_cons, List.map_nil, hx, hy]
    exact hr
  rw [this]
  subst hc
  exact k F _ (St.unpick (H1.set (.cells (wr cur (n * size) news) E (0, 0))) (.there hh2))
theorem Zoj {by' n g o cap : Nat} {z : Value} {cur cur' : Array Value} [hs : TySlice P T E] [hi : TyI P E 1 by' z] (hz : z.cells = #[z]) (h1 : oneC z = true)
    (hx : ev ρ x = .slice (some ⟨g, o, none⟩) (n + 1) cap) (hm : Repl M (cl g cur E) (cl g cur' E) M2) (hle : o + (n + 1) ≤ cur.size) (hc : wr cur o (List.replicate (n + 1) z) = cur')
    (k : xOps P w0 ops rest (put ρ dst (.tuple #[])) M2 K) :
    xOps P w0 ops (⟨dst, .call { callee := .builtin .clear, args := #[x], argTypes := #[T] }, ty, pos, after, none⟩ :: rest) ρ M K := by
  intro F w H
  refine Zcy ?_
  obtain ⟨R, hh1, hh2⟩ := hm.has
  have H1 := H.pick (.there hh1)
  have hzc : (Builtin.zeroCells z.cells (n + 1)).toList = List.replicate (n + 1) z := by
    rw [hz]; simp [Builtin.zeroCells, Nat.mod_one, List.map_const']
  have hr : (Builtin.clear_ #[T] ty #[.slice (some ⟨g, o, none⟩) (n + 1) cap]).run P w = .ok (.tuple #[]) { w with heap := w.heap.setIfInBounds g (.cells (wr cur o (List.replicate (n + 1) z)) E (0, 0)) } := by
    simp only [Builtin.clear_, List.getElem?_toArray, List.getElem?_cons_zero]
    rw [run_bind P _ _ w w _ (run_under hs.h)]
    simp only []
    rw [run_bind P _ _ w w _ (run_zero hi), hzc]
    have := run_storeCells (P := P) (List.replicate (n + 1) z) H1.cl_get o 0 (by simpa using hle) (by simp [h1])
    rw [run_bind P _ _ w _ () this]
    rfl
  have : (execOp (ev ρ) ⟨dst, .call { callee := .builtin .clear, args := #[x], argTypes := #[T] }, ty, pos, after, none⟩).run P w = .ok (.value (.tuple #[])) { w with heap := w.heap.setIfInBounds g (.cells (wr cur o (List.replicate (n + 1) z)) E (0, 0)) } := by
    refine op_run_value ?_
    simp only [List.map_toArray, List.map_cons, List.map_nil, hx]
    exact hr
  rw [this]
  subst hc
  exact k F _ (St.unpick (H1.set (.cells (wr cur o (List.replicate (n + 1) z)) E (0, 0))) (.there hh2))
end
end Go.Sl
namespace Go.Sl
open Go
theorem run_bounds3 {P : Program} {ρ : Env} {len cap : Nat} {y m : Operand} {k k' : IntKind} {h : Nat} {w : World} (hh : ev ρ y = .int k (h : Int)) (hm : ev ρ m = .int k' (h : Int)) (hc : h ≤ cap) :
    (Instr.sliceBounds true len cap none (some (ev ρ y)) (some (ev ρ m))).run P w = .ok (0, h, h) w := by
  unfold Instr.sliceBounds
  simp only []
  rw [run_bind P _ _ w w _ (run_bound hm ⟨by omega, by omega⟩), Int.toNat_natCast, run_bind P _ _ w w _ (run_bound hh ⟨by omega, by omega⟩), Int.toNat_natCast]
  rfl
theorem Zns {P : Program} {ρ : Env} {x y m : Operand} {S E sz by' bb o len cap : Nat} {z : Value} {k k' : IntKind} {h : Nat} [hs : TySlice P S E] [hi' : TyI P E sz by' z] (hx : ev ρ x = .slice (some ⟨bb, o, none⟩) len cap)
    (hh : ev ρ y = .int k (h : Int)) (hm : ev ρ m = .int k' (h : Int)) (hc : h ≤ cap) (h0 : 0 < h) :
    PV P (.slice S x none (some y) (some m)) ρ (.slice (some ⟨bb, o, none⟩) h h) := by
  intro oo w ho; unfold execOp; rw [ho]; refine op_run_value ?_; rw [hx]
  unfold Instr.sliceAt
  rw [run_bind P _ _ w w _ (run_under hs.h)]
  simp only []
  unfold Instr.slice
  rw [run_bind P _ _ w w _ (run_under hs.h)]
  simp only [Option.map_none, Option.map_some]
  rw [run_bind P _ _ w w _ (run_bounds3 hh hm hc), run_bind P _ _ w w _ (run_size hi')]
  show (Result.ok (Value.slice _ _ _) w : Result Value) = _
  rw [if_neg (show ¬ h = 0 from by omega)]
  simp [Option.map, addr_add]
theorem getE0 (v : Value) (l : Array Value) : (#[v] ++ l)[0]? = some v := by
  rw [← Array.getElem?_toList, Array.toList_append]; rfl
theorem getE1 (v : Value) (l : Array Value) : (#[v] ++ l).extract 1 (#[v] ++ l).size = l := by
  apply Array.ext'
  rw [Array.toList_extract, Array.toList_append, Array.size_append]
  simp only [List.extract_eq_take_drop, List.cons_append, List.nil_append, List.drop_succ_cons, List.drop_zero]
  exact List.take_of_length_le (by simp)
def Met (P : Program) (t : TypeId) (v : Value) (name : String) (F : FuncId) (rv : Value) : Prop := ∀ w, (Go.method (P.types.size + Made.depth) t v name).run P w = .ok (F, rv) w
section
variable {P : Program} {w0 : World} {ops : Array Oper} {dst : Option Nat} {ty : TypeId} {pos : String} {after : Array Edge} {rest : List Oper} {ρ : Env} {K : XK} {M : List Asrt}
theorem run_callMethod {w : World} {t : TypeId} {v rv : Value} {name : String} {F : FuncId} {args : Array Value} (hm : Met P t v name F rv) : (callMethod (.iface t v) name args).run P w = (callFunc F (#[rv] ++ args)).run P w := by
  unfold callMethod
  simp only []
  show ((program >>= fun p => method (p.types.size + Made.depth) t v name >>= _) : Sem Next).run P w = _
  rw [run_bind P _ _ w w P rfl, run_bind P _ _ w w _ (hm w)]
theorem Znt {F : FuncId} {r : Operand} {name : String} {ars : Array Operand} {ts : Array TypeId} {t : TypeId} {v rv : Value} {vs : List Value} {M1 R : List Asrt} {Φ : Value → List Asrt → Prop} (hr : ev ρ r = .iface t v) (hm : Met P t v name F rv) (hb : callable P F = true)
    (hc : Con P F (rv :: vs) M1 Φ) (ha : (ars.toList.map (ev ρ)) = vs) (hs : Take M M1 R) (k : ∀ v M', Φ v M' → xOps P w0 ops rest (put ρ dst v) (M' ++ R) K) :
    xOps P w0 ops (⟨dst, .call { callee := .invoke r name, args := ars, argTypes := ts }, ty, pos, after, none⟩ :: rest) ρ M K := by
  intro F' w H
  have H1 : St w0 w (F' :: (M1 ++ R)) := H.enx hs.ent
  have H2 : St w0 w (all (F' :: R) :: M1) := by
    refine H1.ent (Imp.trans (Imp.cons Imp.app) (Imp.trans Imp.swap ?_))
    have h3 : Imp (all M1 :: (F' :: R)) ((F' :: R) ++ [all M1]) := Imp.comm (L := [all M1]) (M := F' :: R)
    refine h3.trans (Imp.app.trans (Imp.cons ?_))
    have := Imp.unapp (L := M1) (M := [])
    rwa [List.append_nil] at this
  refine Zcy ?_
  subst ha
  have : (execOp (ev ρ) ⟨dst, .call { callee := .invoke r name, args := ars, argTypes := ts }, ty, pos, after, none⟩).run P w = .ok (.enter F (rv :: ars.toList.map (ev ρ)).toArray) w := by
    unfold execOp
    simp only [resolve, hr, pure_bind, invoke]
    have e0 : (#[Value.iface t v] ++ ars.map (ev ρ))[0]? = some (.iface t v) := getE0 _ _
    have e1 : (#[Value.iface t v] ++ ars.map (ev ρ)).extract 1 (#[Value.iface t v] ++ ars.map (ev ρ)).size = ars.map (ev ρ) := getE1 _ _
    rw [e0]
    simp only [e1]
    rw [run_callMethod hm]
    unfold callFunc
    unfold callable at hb
    show ((program >>= _) : Sem Next).run P w = _
    rw [run_bind P _ _ w w P rfl]
    split at hb
    · rename_i fn hfn
      simp only [hfn]
      simp only [Bool.and_eq_true, bne_iff_ne, ne_eq, Option.isSome_iff_ne_none] at hb
      rw [if_neg (by simp [hb.1]), if_neg (by simp [hb.2])]
      have : #[rv] ++ Array.map (ev ρ) ars = (rv :: ars.toList.map (ev ρ)).toArray := by
        apply Array.ext'
        simp
      rw [this]; rfl
    · cases hb
  rw [this]
  refine Calls.mono (hc w0 _ w H2) (Ret.mono fun v w' hq => ?_)
  obtain ⟨M', H', hφ⟩ := hq
  exact k v M' hφ F' w' (H'.ent (Imp.unapp.trans (Imp.cons Imp.comm)))
theorem Znu {F : FuncId} {r : Operand} {name : String} {ars : Array Operand} {ts : Array TypeId} {t : TypeId} {v rv u : Value} {vs : List Value} (hr : ev ρ r = .iface t v) (hm : Met P t v name F rv) (h : extv P F (rv :: vs) u) (ha : (ars.toList.map (ev ρ)) = vs) :
    PV P (.call { callee := .invoke r name, args := ars, argTypes := ts }) ρ u := by
  intro oo w ho
  unfold execOp
  subst ha
  simp only [ho, resolve, hr, pure_bind, invoke]
  have e0 : (#[Value.iface t v] ++ ars.map (ev ρ))[0]? = some (.iface t v) := getE0 _ _
  have e1 : (#[Value.iface t v] ++ ars.map (ev ρ)).extract 1 (#[Value.iface t v] ++ ars.map (ev ρ)).size = ars.map (ev ρ) := getE1 _ _
  rw [e0]
  simp only [e1]
  rw [run_callMethod hm]
  have : #[rv] ++ Array.map (ev ρ) ars = (rv :: ars.toList.map (ev ρ)).toArray := by
    apply Array.ext'
    simp
  rw [this]
  exact h w
theorem extv_of {F : FuncId} {fn : Func} {e : Array Value → Sem Value} {vs : List Value} {v : Value} (hf : P.funcs[F]? = some fn) (hname : (fn.name == "runtime.NumGoroutine") = false)
    (hb : fn.body.isNone = true) (hn : Extern.findNext fn = none) (he : Extern.find fn = some e) (h : ∀ w, (e vs.toArray).run P w = .ok v w) : extv P F vs v := by
  intro w
  rw [run_callFunc_extern hf hname hb hn he, h w]
  rfl
theorem Znv {x : Operand} {X U t : TypeId} {want : Array (String × TypeId)} {v z : Value} (hx : ev ρ x = .iface t v) (hu : P.underlying U = some (.interface want)) (h : (P.info? t).map (fun i => (lacking want i.methods).isEmpty) = some false) (hz : (P.info? U).map (·.zero) = some (some z)) :
    PV P (.typeAssert x X U true) ρ (.tuple #[z, .bool false]) := by
  intro oo w ho; unfold execOp; rw [ho]; refine op_run_value ?_; rw [hx]
  exact run_typeAssert_lacksB hu h hz v X w
theorem Znw {x y : Operand} {T T' t : TypeId} {v : Value} (hT : P.isIface T = true) (hx : ev ρ x = .iface t v) (hy : ev ρ y = .nilIface) : PV P (.binOp .eql T x y T') ρ (.bool false) :=
  Zb9 hx hy (fun w => by unfold eqGuard; rfl) fun w => run_eql_iface_nil w T hT t v
theorem Zny {x y : Operand} {T T' t : TypeId} {ms : Array (String × TypeId)} {k q : IntKind} {a b : Int} (ht : P.underlying T = some (.interface ms)) (hc : (P.info? t).map (·.comparable) = some true) (hq : P.underlying t = some (.int q)) (hx : ev ρ x = .iface t (.int k a)) (hy : ev ρ y = .iface t (.int k b)) : PV P (.binOp .eql T x y T') ρ (.bool (decide (a = b))) :=
  Zb9 hx hy (fun w => by unfold eqGuard; rfl) fun w => Go.Lib.run_eql_iface_int (P := P) w (k := k) a b ht hc hq
end
theorem own_cap {E size n c : Nat} {a : Option Addr} {xs : List Value} {w0 w : World} {F : Asrt} {M M' : List Asrt} (hm : Has M (Sl.own E size (.slice a n c) n xs) M') (H : St w0 w (F :: M)) : n ≤ c ∧ c ≤ 9223372036854775807 := by
  obtain ⟨a', c', hv, h1, h2⟩ := own_shape (H.pick (.there hm))
  simp only [Value.slice.injEq] at hv
  obtain ⟨_, _, rfl⟩ := hv
  exact ⟨h1, h2⟩
theorem own_takeN {E sz n m c : Nat} {a : Option Addr} {xs : List Value} {M : List Asrt} (h : m ≤ n) : Imp (Sl.own E sz (.slice a n c) n xs :: M) (Sl.own E sz (.slice a m c) m (xs.take (m * sz)) :: M) :=
  Imp.head fun h' hg => by
    obtain ⟨hl, hg⟩ := hg
    have hms : m * sz ≤ n * sz := Nat.mul_le_mul_right _ h
    refine ⟨by rw [List.length_take]; omega, ?_⟩
    rcases hg with ⟨hv, rfl⟩|⟨g, cap, cur, hv, hg, h1, h2, h3, h4⟩
    · simp only [Value.slice.injEq] at hv
      obtain ⟨rfl, _, rfl⟩ := hv
      obtain rfl : m = 0 := by omega
      exact .inl ⟨rfl, by simp⟩
    · simp only [Value.slice.injEq] at hv
      obtain ⟨rfl, _, rfl⟩ := hv
      exact .inr ⟨g, c, cur, rfl, hg, by omega, h2, h3, by rw [← h4, List.take_take, Nat.min_eq_left hms]⟩
end Go.Sl
namespace Go.Sl
open Go Go.ChangeShapes Go.WideShapes Go.ChangeAt Go.RowKit
section
variable {H : Type} {enc : TypeId × Value → H} {P : Program} {w : World} {base : Nat} {spare : Nat → Bool} {held : Bool}
end
theorem Znz {P : Program} {w0 : World} {c : Code} {ρ : Env} {Q : XQ} {E sz n cp : Nat} {a : Option Addr} {xs : List Value} {M M' : List Asrt} (hm : Has M (Sl.own E sz (.slice a n cp) n xs) M') (hn : 0 < n)
    (k : ∀ g rest, a = some ⟨g, 0, none⟩ → n ≤ cp → cp ≤ 9223372036854775807 → rest.length + n * sz = cp * sz → xC P w0 c ρ (Sl.cl g (xs ++ rest).toArray E :: M') Q) : xC P w0 c ρ M Q := by
  refine Zgu (α := { p : Nat × List Value // a = some ⟨p.1, 0, none⟩ ∧ n ≤ cp ∧ cp ≤ 9223372036854775807 ∧ p.2.length + n * sz = cp * sz }) (A := fun p => Sl.cl p.val.1 (xs ++ p.val.2).toArray E :: M') ?_ (fun p => k p.val.1 p.val.2 p.property.1 p.property.2.1 p.property.2.2.1 p.property.2.2.2)
  intro F w H
  rcases (H.pick (.there hm)).own_get with ⟨hv, rfl, _⟩|⟨g, cap, cur, hv, h2, h3, h4, h5, h6, H'⟩
  · omega
  · simp only [Value.slice.injEq] at hv
    obtain ⟨rfl, _, rfl⟩ := hv
    have e : cur = (xs ++ cur.toList.drop (n * sz)).toArray := by rw [← h5, List.take_append_drop]
    have hle : n * sz ≤ cp * sz := Nat.mul_le_mul_right _ h2
    refine ⟨⟨(g, cur.toList.drop (n * sz)), rfl, h2, h3, by rw [List.length_drop, Array.length_toList, h4]; omega⟩, ?_⟩
    dsimp only
    rw [← e]
    exact H'.swap
theorem wr_mid (A B C V : List Value) (o : Nat) (ho : o = A.length) (hv : V.length = B.length) : wr (A ++ (B ++ C)).toArray o V = (A ++ (V ++ C)).toArray := by
  subst ho
  apply Array.ext'
  rw [wr_toList _ _ _ (by simp [hv])]
  simp [hv]
theorem own_someN {E sz n c : Nat} {a : Option Addr} {xs : List Value} {w0 w : World} {F : Asrt} {M M' : List Asrt} (hm : Has M (Sl.own E sz (.slice a n c) n xs) M') (hn : 0 < n) (H : St w0 w (F :: M)) : ∃ g, a = some ⟨g, 0, none⟩ := by
  rcases (H.pick (.there hm)).own_get with ⟨hv, rfl, _⟩|⟨g, cap, cur, hv, _⟩
  · omega
  · simp only [Value.slice.injEq] at hv
    exact ⟨g, hv.1⟩
end Go.Sl
namespace Go.Sl
open Go
abbrev nvv (n : Nat) : Value := .int .i64 (n : Int)
end Go.Sl
namespace Go.Sl
open Go Go.Proofs
attribute [local irreducible] pt old pur ex all den denOps denS xOps xC cX CX xthen xblk xcut xloop xng retX resX Calls PV Rd Con
abbrev zv (zs : List Int) : List Value := zs.map (Value.int .i64)
theorem zv_one (zs : List Int) : (zv zs).all oneC = true := by simp [oneC]
theorem index_yes {L : List Asrt} {a : Option Addr} {c : Nat} {zs : List Int} {n : Int} (h : Rd L 1 (.slice a zs.length c) zs.length (zv zs)) (hl : zs.length ≤ 9223372036854775807) (hn : n ∈ zs) : Con Tryz.prog 156 [.slice a zs.length c, .int .i64 n] L (fun v M => (∃ i, ∃ hi : i < zs.length, zs[i] = n ∧ v = nvv i) ∧ L = M) := by
  refine fn_y Tryz.func156 Tryz.mixed ?_
  intro w0
  refine V8 ?_
  refine Zgo [(4, 5), (8, 18)] (by kernel_rfl) (fun i : Nat => i < zs.length ∧ n ∉ zs.take i) (fun _ => L) (fun i => [(8, nvv i)]) (fun i => zs.length - i) 0 ⟨List.length_pos_of_mem hn, by simp⟩ qI ⟨rfl, trivial⟩ ?_
  rintro i u ⟨hi, he⟩
  refine Zgt (fun F w H => h.someAt (by omega) H) ?_
  rintro ⟨s1, s2, rfl⟩
  refine Y2 ?_
  refine Zos 9 rfl (hi) ?_
  refine V6 ?_
  by_cases hz : n = zs[i]
  · refine Y5 ?_
    refine Zff rfl ((h.at hi (by rw [List.getElem?_map, List.getElem?_eq_getElem hi]; rfl))) ?_
    refine Zhg (Zbr (b := zs[i]) rfl rfl) ?_
    refine Zos 16 rfl (hz) ?_
    refine V6 ?_
    refine rx1 (Zg9 rfl (Zg7)) ?_
    exact ⟨_, ⟨⟨i, hi, hz.symm, rfl⟩, rfl⟩, qI⟩
  · refine Y5 ?_
    refine Zff rfl ((h.at hi (by rw [List.getElem?_map, List.getElem?_eq_getElem hi]; rfl))) ?_
    refine Zhg (Zbr (b := zs[i]) rfl rfl) ?_
    refine Zot 16 rfl (hz) ?_
    refine V6 ?_
    have he2 : n ∉ zs.take (i + 1) := by
      rw [List.take_succ_eq_append_getElem hi, List.mem_append, List.mem_singleton]
      exact fun hh => hh.elim he hz
    have hi2 : i + 1 < zs.length := by
      by_cases hh : i + 1 < zs.length
      · exact hh
      · exact absurd (by rw [List.take_of_length_le (by omega)]; exact hn) he2
    exact Zgl (i + 1) qO ⟨hi2, he2⟩ qI ⟨rfl, trivial⟩
theorem index_no {L : List Asrt} {a : Option Addr} {c : Nat} {zs : List Int} {n : Int} (h : Rd L 1 (.slice a zs.length c) zs.length (zv zs)) (hl : zs.length ≤ 9223372036854775807) (hn : n ∉ zs) : Con Tryz.prog 156 [.slice a zs.length c, .int .i64 n] L (fun v M => v = .int .i64 (-1) ∧ L = M) := by
  refine fn_y Tryz.func156 Tryz.mixed ?_
  intro w0
  refine V8 ?_
  refine Zgo [(4, 5), (8, 18)] (by kernel_rfl) (fun i : Nat => i ≤ zs.length) (fun _ => L) (fun i => [(8, nvv i)]) (fun i => zs.length - i) 0 (Nat.zero_le _) qI ⟨rfl, trivial⟩ ?_
  intro i u hi
  refine V3 ?_
  refine Zgg rfl (fun hB => ?_) (fun hB => ?_)
  · refine Zgt (fun F w H => h.someAt (by omega) H) ?_
    rintro ⟨s1, s2, rfl⟩
    refine Y9 ?_
    refine Zff rfl ((h.at hB (by rw [List.getElem?_map, List.getElem?_eq_getElem hB]; rfl))) ?_
    refine Zhg (Zbr (b := zs[i]) rfl rfl) ?_
    refine Zot 16 rfl ((fun hh => hn (hh ▸ List.getElem_mem hB))) ?_
    refine V6 ?_
    exact Zgl (i + 1) qO (by omega) qI ⟨rfl, trivial⟩
  · refine V3 ?_
    refine rx1 (Zg9 rfl (Zg7)) ?_
    exact ⟨_, ⟨rfl, rfl⟩, qI⟩
theorem del_take (xs rest news : List Value) (z : Value) (i n : Nat) (hx : xs.length = n) (hi : i < n) (hl : news.length = n - (i + 1)) : ((wr (wr (xs ++ rest).toArray i news) (n - 1) [z]).toList).take (n - 1) = xs.take i ++ news := by
  have e1 : ((xs ++ rest).take i ++ news ++ (xs ++ rest).drop (i + news.length)).take (n - 1) = xs.take i ++ news := by
    rw [List.take_append_of_le_length (by simp; omega), List.take_append_of_le_length (show i ≤ xs.length by omega), List.take_of_length_le (by simp; omega)]
  have h2 : n - 1 ≤ (((xs ++ rest).take i ++ news ++ (xs ++ rest).drop (i + news.length)).take (n - 1)).length := by rw [e1]; simp; omega
  rw [wr_toList _ _ _ (by rw [wr_size]; simp; omega), wr_toList _ _ _ (by simp; omega), List.append_assoc, List.take_append_of_le_length h2, List.take_take, Nat.min_self, e1]
theorem rd_cut {M M' : List Asrt} {g c i n E : Nat} {xs rest : List Value} (hm : Has M (cl g (xs ++ rest).toArray E) M') (hx : xs.length = n) (hi : i < n) (hnc : n ≤ c) : Rd M 1 (.slice (some ⟨g, cutOff 0 (i + 1) c 1, none⟩) (n - (i + 1)) (c - (i + 1))) (n - (i + 1)) (xs.drop (i + 1)) := by
  by_cases h0 : n = i + 1
  · rw [show n - (i + 1) = 0 by omega, List.drop_of_length_le (by omega)]; exact Rd.nil
  · unfold cutOff
    rw [if_neg (show ¬ c = i + 1 by omega)]
    refine Rd.cl (o := 0 + (i + 1) * 1) hm (by simp; omega) (by simp; omega) ?_
    simp only [Array.toList_extract, List.extract_eq_take_drop]
    rw [show 0 + (i + 1) * 1 = i + 1 by omega, show i + 1 + (n - (i + 1)) * 1 - (i + 1) = n - (i + 1) by omega, List.drop_append_of_le_length (by omega), List.take_append_of_le_length (by simp; omega), List.take_of_length_le (by simp; omega)]
theorem delete_x {g c i : Nat} {zs : List Int} (hi : i < zs.length) (hzl : zs.length ≤ 1000000) : Con Tryz.prog 150 [.slice (some ⟨g, 0, none⟩) zs.length c, nvv i, nvv (i + 1)] [ownI (some ⟨g, 0, none⟩) c zs] (fun v M => v = .slice (some ⟨g, 0, none⟩) (zs.length - 1) c ∧ M = [own 3 1 (.slice (some ⟨g, 0, none⟩) (zs.length - 1) c) (zs.length - 1) (zv (zs.take i ++ zs.drop (i + 1)))]) := by
  refine Con.get (fun w0 w F H => own_cap (n := zs.length) (c := c) .here H) ?_
  rintro ⟨hc, hcm⟩
  refine fn_y Tryz.func150 Tryz.mixed ?_
  intro w0
  refine Y9 ?_
  refine Zhg (Zok (l := i) (h := i + 1) (mx := zs.length) rfl rfl rfl rfl (by omega) (by omega) (by omega)) ?_
  refine Y4 ?_
  refine Zhg (Zmj (a := i) (b := i + 1) rfl rfl) ?_
  refine Zot 16 rfl ((by omega)) ?_
  refine V7 ?_
  refine Znz (n := zs.length) (cp := c) .here (by omega) ?_
  intro g' rest hg _ _ hr
  obtain rfl : g = g' := by simpa using hg
  have hlen : (zv zs).length = zs.length := by simp
  have hdl : (zv (zs.drop (i + 1))).length = zs.length - (i + 1) := by simp
  refine Ct.o ?_
  refine Zij ([]) [] (.q 0 (.q 1 (.q 2 (.q 3 (.q 4 (.q 5 (.e 6 false (.q 7 .nil)))))))) (by kernel_rfl) (by kernel_rfl) (Imp.arr Arr.stop) ?_
  refine W2 ?_
  refine Zim rfl (Zm0 (h := i) rfl rfl (by omega)) ?_
  refine W2 ?_
  refine Zim rfl (Zci (l := ((i + 1 : Nat) : Int)) (h := (zs.length : Int)) rfl rfl rfl (by omega) (by omega)) ?_
  refine Ziq rfl ?_; refine Zoi (n := i) (m := zs.length - (i + 1)) (news := zv (zs.drop (i + 1))) (cap := c) (size := 1) rfl rfl (by rw [zv, List.map_drop]; exact rd_cut qH hlen hi (by omega)) qR (zv_one _) (by omega) (by simp; omega) rfl ?_; refine Zg3 ⟨(fun hh => Bool.noConfusion hh), ?_⟩
  refine W2 ?_
  refine Ct.o ?_
  rw [show i + (zs.length - (i + 1)) = zs.length - 1 by omega]
  refine Y5 ?_
  refine Zhg (Zna (l := zs.length - 1) (h := zs.length) rfl rfl rfl (by omega) (by omega) (by omega)) ?_
  refine Zoj (n := 0) (o := zs.length - 1) (z := .int .i64 0) rfl rfl (by rw [show zs.length - (zs.length - 1) = 0 + 1 by omega]; rfl) qR (by rw [wr_size]; simp; omega) rfl ?_
  refine V1 ?_
  refine Zgp ((Imp.arr (N := [cl g (wr (wr (zv zs ++ rest).toArray (i * 1) (zv (zs.drop (i + 1)))) (zs.length - 1) (List.replicate (0 + 1) (Value.int .i64 0))) 3]) qV).trans (Imp.own_mk (E := 3) (size := 1) (n := zs.length - 1) (cap := c) (xs := zv (zs.take i ++ zs.drop (i + 1))) (by omega) (by omega) (by rw [wr_size, wr_size]; simp; omega) (by
    rw [Nat.mul_one, Nat.mul_one, show zv (zs.take i ++ zs.drop (i + 1)) = (zv zs).take i ++ zv (zs.drop (i + 1)) from by simp]
    exact del_take _ _ _ _ _ _ hlen hi hdl))) ?_
  refine V4 ?_
  refine rx1 (Zhc rfl (Zg7)) ?_
  exact ⟨_, ⟨rfl, rfl⟩, qI⟩
theorem cloneB_x {L : List Asrt} {a : Option Addr} {c : Nat} {b : List Byte} (h : Rd L 1 (.slice a b.length c) b.length (b.map u8b)) (hl : b.length ≤ 1000000) : Con Tryz.prog 121 [.slice a b.length c] L (fun v M => ∃ a' c', v = .slice a' b.length c' ∧ M = own 5 1 (.slice a' b.length c') b.length (b.map u8b) :: L) := by
  cases ha : a.isNone with
  | true =>
    obtain rfl : a = none := by simpa using ha
    by_cases h0 : b.length = 0
    · obtain rfl : b = [] := List.eq_nil_of_length_eq_zero h0
      refine fn_y Tryz.func121 Tryz.mixed ?_
      intro w0
      refine Y6 ?_
      refine Zhm 4 rfl (rfl) ?_
      refine V5 ?_
      refine rx1 (Zhc rfl (Zg7)) ?_
      exact ⟨_, ⟨none, 0, rfl, rfl⟩, (Imp.arr (N := L) qV).trans Imp.own_nil⟩
    · refine Con.get (fun w0 w F H => h.someAt (by omega) H) ?_
      rintro ⟨s1, s2, hh⟩
      cases hh
  | false =>
    refine fn_y Tryz.func121 Tryz.mixed ?_
    intro w0
    refine Y6 ?_
    refine Zhn 4 rfl (ha) ?_
    refine Y3 ?_
    refine Zh7 (cs := #[]) (by omega) (by omega) rfl ?_; intro b5; refine Zgw ((Imp.arr (N := cl b5 #[] 5 :: L) qV).trans (Imp.own_mk (E := 5) (size := 1) (n := 0) (cap := 0) (xs := []) (by omega) (by omega) rfl rfl)) ?_
    refine Y1 ?_
    refine Zia rfl rfl qH (h.imp (Imp.arr qV)) qN (by omega) qS ?_; intro a3 c3
    refine V2 ?_
    rw [Nat.zero_add, List.nil_append]
    refine rx1 (Zhc rfl (Zg7)) ?_
    exact ⟨_, ⟨a3, c3, rfl, rfl⟩, qI⟩
end Go.Sl
namespace Go.Sl
open Go
section
variable {α : Type} {M N : List Asrt}
theorem Imp.exE {β : Type} {A : β → Asrt} (h : ∀ a, Imp (A a :: M) N) : Imp (ex A :: M) N := by
  intro f hs
  obtain ⟨h1, h2, ⟨a, ha⟩, hr⟩ := hs
  exact h a f ⟨h1, h2, ha, hr⟩
theorem Imp.exI {β : Type} {A : β → Asrt} (a : β) : Imp (A a :: M) (ex A :: M) := Imp.head fun _ h => ⟨a, h⟩
theorem Imp.purE {p : Prop} (h : p → Imp M N) : Imp (pur p :: M) N := fun f hs => by
  have hp : p := by obtain ⟨h1, h2, hp, hr⟩ := hs; exact hp
  exact h hp f (hs.tail)
theorem Imp.purI {p : Prop} (hp : p) : Imp M (pur p :: M) := fun h hs => ⟨fun _ => none, h, hp, hs, Frag.none_disj _, Frag.none_sub _, Frag.sub_refl _⟩
variable {b : Nat} {A : Value → α → Asrt} {d : α} {f : Int → α} {k : Int} {v : Value} {x : α}
theorem Imp.oheld_close : Imp (A v x :: oheld b A d f k v :: M) (omap b A d (upd f k x) :: M) := by
  refine Imp.swap.trans (Imp.exE fun l => Imp.exE fun clock => Imp.unapp.trans ?_)
  simp only [List.cons_append]
  refine Imp.purE fun ⟨hn, hf, hg⟩ => ?_
  rcases xGet_esGet (l := l) (k := k) with ⟨v', x', h1, h2, n, pre, post, h3, h4⟩|⟨h1, h2, h3⟩
  · rw [hg] at h1; cases h1
    have hfl : l.filter (·.1 ≠ k) = pre ++ post := by rw [h3]; exact filter_split (h3 ▸ hn)
    rw [hfl]
    have he : ents (pre ++ (k, v, n, x) :: post) = ents l := by rw [h3]; simp [ents]
    refine Imp.trans ?_ ((Imp.exI clock).trans (Imp.exI (A := fun l : List (EntX α) => ex fun clock : Nat => all (pur ((l.map (·.1)).Nodup ∧ (∀ k', upd f k x k' = (xGet l k').getD d)) :: pt b (.map (mapE (ents l)) clock) :: l.map fun e => A e.2.1 e.2.2.2)) (pre ++ (k, v, n, x) :: post)))
    refine Imp.trans ?_ Imp.app
    simp only [List.cons_append]
    rw [he]
    refine Imp.trans ?_ (Imp.purI ⟨by rw [h3] at hn; simpa using hn, fun k' => ?_⟩)
    · have hh : Has ((pre ++ (k, v, n, x) :: post).map (fun e => A e.2.1 e.2.2.2) ++ M) (A v x) ((pre ++ post).map (fun e => A e.2.1 e.2.2.2) ++ M) := by
        simp only [List.map_append, List.map_cons, List.append_assoc, List.cons_append]
        exact Has.mid
      have hh2 : Has ((pre ++ post).map (fun e => A e.2.1 e.2.2.2) ++ A v x :: M) (A v x) ((pre ++ post).map (fun e => A e.2.1 e.2.2.2) ++ M) := Has.mid
      exact Imp.cons ((Imp.has hh2).trans (Imp.unhas hh))
    · unfold upd
      split
      · rename_i e; subst e; rw [xGet_append h4]; simp [xGet]
      · rename_i e; rw [hf k' e, h3, xGet_other e]
  · rw [hg] at h1; cases h1
theorem Imp.omap_close : Imp (A v (f k) :: ohole b A d f k v :: M) (omap b A d f :: M) := by
  refine Imp.swap.trans (Imp.exE fun l => Imp.exE fun clock => Imp.unapp.trans ?_)
  simp only [List.cons_append]
  refine Imp.purE fun ⟨hn, hf, hg⟩ => ?_
  rcases hg with hg|⟨hg, _, hfd⟩
  · have h2 : Imp (A v (f k) :: oheld b A d f k v :: M) (omap b A d f :: M) := by
      have := Imp.oheld_close (M := M) (b := b) (A := A) (d := d) (f := f) (k := k) (v := v) (x := f k)
      rwa [upd_self] at this
    refine Imp.trans ?_ (Imp.swap.trans h2)
    refine Imp.trans ?_ ((Imp.exI clock).trans (Imp.exI (A := fun l : List (EntX α) => ex fun clock : Nat => all (pur ((l.map (·.1)).Nodup ∧ (∀ k', k' ≠ k → f k' = (xGet l k').getD d) ∧ esGet (ents l) k = some v) :: pt b (.map (mapE (ents l)) clock) :: (l.filter (·.1 ≠ k)).map fun e => A e.2.1 e.2.2.2)) l))
    refine Imp.trans ?_ Imp.app
    simp only [List.cons_append]
    exact Imp.purI ⟨hn, hf, hg⟩
  · rcases xGet_esGet (l := l) (k := k) with ⟨v', x', h1, h2, n, pre, post, h3, h4⟩|⟨h1, h2, h3⟩
    · rw [hg] at h1; cases h1
    · have hfl : l.filter (·.1 ≠ k) = l := List.filter_eq_self.2 (by simpa using h3)
      rw [hfl]
      refine Imp.trans ?_ ((Imp.exI clock).trans (Imp.exI (A := fun l : List (EntX α) => ex fun clock : Nat => all (pur ((l.map (·.1)).Nodup ∧ (∀ k, f k = (xGet l k).getD d)) :: pt b (.map (mapE (ents l)) clock) :: l.map fun e => A e.2.1 e.2.2.2)) l))
      refine Imp.trans ?_ Imp.app
      simp only [List.cons_append]
      refine Imp.trans ?_ (Imp.purI ⟨hn, fun k' => ?_⟩)
      · have hh2 : Has (l.map (fun e => A e.2.1 e.2.2.2) ++ A v (f k) :: M) (A v (f k)) (l.map (fun e => A e.2.1 e.2.2.2) ++ M) := Has.mid
        exact Imp.cons ((Imp.has hh2).trans Imp.tail)
      · by_cases e : k' = k
        · subst e; rw [hfd, h2]; rfl
        · exact hf k' e
theorem Zom {P : Program} {w0 : World} {c : Code} {ρ : Env} {Q : XQ} (hd : (A (.slice none 0 0) d).on (fun _ => none)) (k : Int) (h : ∀ v, xC P w0 c ρ (A v (f k) :: ohole b A d f k v :: M) Q) : xC P w0 c ρ (omap b A d f :: M) Q :=
  Zgu (A := fun v => A v (f k) :: ohole b A d f k v :: M) (fun F w H => by
    obtain ⟨v, H1⟩ := St.omap_open hd H.swap k
    exact ⟨v, H1.pick (.there (.there .here))⟩) h
theorem Zon {P : Program} {w0 : World} {ops : Array Oper} {SM : List Asrt} {K : XK} {ρ : Env} {dst : Option Nat} {ty T E Kt : TypeId} {x y : Operand} {pos : String} {after : Array Edge} {r : Ord} {i by' : Nat} {M' : List Asrt} [hm : TyMap P T Kt E] [hk : TyInt P Kt .i64] [hz : TyI P E 1 by' (.slice none 0 0)] (ho : ops[i]? = some ⟨dst, .lookup T x y false, ty, pos, after, none⟩) (hx : ev ρ x = .map (some b)) (hy : ev ρ y = .int .i64 k) (hh : Has SM (ohole b A d f k v) M')
    (kk : cX P w0 ops SM r (put ρ dst v) M K) : cX P w0 ops SM (.r i r) ρ M K :=
  Zit ho (fun F w H => op_run_value (by rw [hx, hy]; exact run_lookupH (Kt := Kt) (E := E) H (.there hh))) kk
end
end Go.Sl
namespace Go.Sl
open Go Go.Proofs
attribute [local irreducible] pt old pur ex all den denOps denS xOps xC cX CX xthen xblk xcut xloop xng retX resX Calls PV Rd Con
theorem bs_piece {M M' : List Asrt} {b E : Nat} {l : List Byte} {o n c : Nat} (hm : Has M (cl b (l.map u8b).toArray E) M') (hl : o + n ≤ l.length) (hc : n ≤ c) (hcm : c ≤ 9223372036854775807) : Bs M (.slice (some ⟨b, o, none⟩) n c) ((l.drop o).take n) := by
  have hn : ((l.drop o).take n).length = n := by simp; omega
  have := Bs.cl (M := M) (b := b) (o := o) (c := c) (l := (l.drop o).take n) hm (by simp [hn]; omega) (by
    rw [hn]; simp only [Array.toList_extract, List.extract_eq_take_drop, Nat.add_sub_cancel_left]
    rw [List.map_take, List.map_drop]) (by omega) hcm
  rwa [hn] at this
theorem bs_full {M M' : List Asrt} {b E : Nat} {l : List Byte} {n : Nat} (hm : Has M (cl b (l.map u8b).toArray E) M') (hn : l.length = n) (hc : n ≤ 9223372036854775807) : Bs M (.slice (some ⟨b, 0, none⟩) n n) l := by
  have := bs_piece (o := 0) (n := n) (c := n) hm (by omega) (by omega) hc
  rwa [List.drop_zero, List.take_of_length_le (by omega)] at this
end Go.Sl
namespace Go.Sl
open Go Go.Proofs
attribute [local irreducible] pt old pur ex all den denOps denS xOps xC cX CX xthen xblk xcut xloop xng retX resX Calls PV Rd Con
abbrev hp (p : Nat) : Value := .pointer (some ⟨p, 0, none⟩)
abbrev ownB (a : Option Addr) (c : Nat) (b : List Byte) : Asrt := own 5 1 (.slice a b.length c) b.length (b.map u8b)
def bytesA (v : Value) (b : HostS.Bytes) : Asrt := own 5 1 v b.length (b.map u8b)
def fcells (f : HostS.Fault) : List Value := [.int .i64 f.at_, .int .i64 f.kind, .int .i64 f.page, .int .i64 f.byte, u8b f.by_, .int .i64 f.back]
def faultsA (v : Value) (l : List HostS.Fault) : Asrt := own 119 6 v l.length (l.flatMap fcells)
def tcells (t : HostS.Touch) : List Value := [.int .i64 t.op, .int .i64 t.page, .int .i64 t.len] ++ t.head.map u8b
abbrev ownLog (a : Option Addr) (c : Nat) (l : List HostS.Touch) : Asrt := own 158 15 (.slice a l.length c) l.length (l.flatMap tcells)
abbrev RV := Value × HostS.Bytes
abbrev rowE (e : RV) : Asrt := bytesA e.1 e.2
def rowsA (v : Value) (l : List HostS.Bytes) : Asrt := ex fun vs : List RV => all [pur (vs.map (·.2) = l), own 66 1 v vs.length (vs.map (·.1)), star rowE vs]
def powerOf (s : HostS.HS) : Int := if s.down then 1 else 0
abbrev HC := Nat × Nat × Option Addr × Nat
abbrev hcl (s : HostS.HS) (c : HC) : Array Value := #[.int .i64 s.pages, nvv s.size, .map (some c.1), u64b s.reg, .map (some c.2.1), nvv s.ops, .slice c.2.2.1 s.log.length c.2.2.2, .int .i64 (powerOf s)]
abbrev hostP (p : Nat) (s : HostS.HS) (c : HC) : List Asrt := [cl p (hcl s c) 141, omap c.1 rowsA [] s.lay, omap c.2.1 faultsA [] s.coming, ownLog c.2.2.1 c.2.2.2 s.log]
def hostQ (p : Nat) (s : HostS.HS) (c : HC) : Asrt := all (pur (HostS.Ok s) :: hostP p s c)
def hostA (p : Nat) (s : HostS.HS) : Asrt := ex (hostQ p s)
section
variable {p : Nat} {s : HostS.HS} {L : List Asrt}
theorem hostA_mk {c : HC} (h : HostS.Ok s) : Imp (hostP p s c ++ L) (hostA p s :: L) :=
  ((Imp.purI h).trans (Imp.app (L := pur (HostS.Ok s) :: hostP p s c))).trans (Imp.head fun f h => by unfold hostA Sl.ex; exact Exists.intro (p := fun x => (hostQ p s x).on f) c h)
theorem Con.hostA {F : FuncId} {args : List Value} {Φ : Value → List Asrt → Prop} (h : ∀ c : HC, HostS.Ok s → Con Tryz.prog F args (hostP p s c ++ L) Φ) : Con Tryz.prog F args (Sl.hostA p s :: L) Φ :=
  Con.ex fun c => Con.pre (Con.pur fun hk => h c hk) (Imp.unapp (L := Sl.pur (HostS.Ok s) :: hostP p s c))
theorem x_hostA {w0 : World} {c : Code} {ρ : Env} {Q : XQ} (h : ∀ t : HC, HostS.Ok s → xC Tryz.prog w0 c ρ (hostP p s t ++ L) Q) : xC Tryz.prog w0 c ρ (hostA p s :: L) Q := by
  unfold hostA
  exact Zgr fun t => Zgs (L := pur (HostS.Ok s) :: hostP p s t) (Zgq fun hk => h t hk)
theorem host_ok {M M' : List Asrt} {F : Asrt} {w0 w : World} (hm : Has M (hostA p s) M') (H : St w0 w (F :: M)) : HostS.Ok s := by
  have H := H.pick (.there hm)
  unfold hostA at H
  obtain ⟨t, H⟩ := H.ex_get
  exact St.pur_get (St.all_get H)
end
end Go.Sl
namespace Go.Sl
open Go Go.Proofs
theorem faults_nil : (faultsA (.slice none 0 0) []).on (fun _ => none) := by
  unfold faultsA own
  exact ⟨rfl, .inl ⟨rfl, rfl⟩⟩
theorem rows_nil : (rowsA (.slice none 0 0) []).on (fun _ => none) := by
  refine ⟨([] : List RV), ?_⟩
  refine ⟨fun _ => none, fun _ => none, rfl, ?_, Frag.none_disj _, Frag.none_sub _, Frag.none_sub _⟩
  refine ⟨fun _ => none, fun _ => none, ?_, ?_, Frag.none_disj _, Frag.none_sub _, Frag.none_sub _⟩
  · unfold own
    exact ⟨rfl, .inl ⟨rfl, rfl⟩⟩
  · exact ⟨fun _ => none, fun _ => none, trivial, trivial, Frag.none_disj _, Frag.none_sub _, Frag.none_sub _⟩
theorem rows_mk {v : Value} {vs : List RV} {l : List HostS.Bytes} {L : List Asrt} (h : vs.map (·.2) = l) : Imp (own 66 1 v vs.length (vs.map (·.1)) :: star rowE vs :: L) (rowsA v l :: L) := by
  have h1 : Imp ([pur (vs.map (·.2) = l), own 66 1 v vs.length (vs.map (·.1)), star rowE vs] ++ L) (all [pur (vs.map (·.2) = l), own 66 1 v vs.length (vs.map (·.1)), star rowE vs] :: L) := Imp.app
  have h2 : Imp (all [pur (vs.map (·.2) = l), own 66 1 v vs.length (vs.map (·.1)), star rowE vs] :: L) (rowsA v l :: L) := Imp.head fun f hf => ⟨vs, hf⟩
  exact ((Imp.purI h).trans h1).trans h2
theorem x_rows {v : Value} {l : List HostS.Bytes} {L : List Asrt} {w0 : World} {c : Code} {ρ : Env} {Q : XQ} (h : ∀ vs : List RV, vs.map (·.2) = l → xC Tryz.prog w0 c ρ (own 66 1 v vs.length (vs.map (·.1)) :: star rowE vs :: L) Q) : xC Tryz.prog w0 c ρ (rowsA v l :: L) Q :=
  Zgr fun vs => Zgs (L := [pur (vs.map (·.2) = l), own 66 1 v vs.length (vs.map (·.1)), star rowE vs]) (Zgq fun hk => h vs hk)
theorem row_shape {vs : List RV} {i : Nat} (hi : i < vs.length) {M M' : List Asrt} {F : Asrt} {w0 w : World} (hm : Has M (star rowE vs) M') (H : St w0 w (F :: M)) : ∃ a c, vs[i].1 = .slice a vs[i].2.length c := by
  obtain ⟨R, hR⟩ := star_has (A := rowE) (List.getElem_mem hi) hm
  have H2 : St w0 w (F :: rowE vs[i] :: R) := H.enx hR
  obtain ⟨a, c, h, _⟩ := own_shape (H2.pick (.there .here))
  exact ⟨a, c, h⟩
theorem fcells_len (f : HostS.Fault) : (fcells f).length = 6 := rfl
theorem back_len {s : HostS.HS} (hs : HostS.Ok s) (page writes : Int) : (HostS.back s page writes).length = s.size := by
  simp only [HostS.back]
  split
  · rename_i h
    have h2 : (((s.lay page).length : Int) - 1 - max writes 0).toNat < (s.lay page).length := by omega
    have : (s.lay page).getD (((s.lay page).length : Int) - 1 - max writes 0).toNat [] = (s.lay page)[(((s.lay page).length : Int) - 1 - max writes 0).toNat]'h2 := by simp [h2]
    rw [this]; exact hs.row page _ (List.getElem_mem _)
  · simp
theorem spoil1_len {s : HostS.HS} (hs : HostS.Ok s) (page : Int) (b : HostS.Bytes) (f : HostS.Fault) (hb : b.length = s.size) : (HostS.spoil1 s page b f).length = s.size := by
  unfold HostS.spoil1
  split
  · split <;> simp [hb]
  · split
    · exact back_len hs _ _
    · split
      · split
        · exact back_len hs _ _
        · exact hb
      · exact hb
theorem spoil_len {s : HostS.HS} (hs : HostS.Ok s) (page : Int) (l : List HostS.Fault) : ∀ (b : HostS.Bytes), b.length = s.size → (l.foldl (HostS.spoil1 s page) b).length = s.size := by
  induction l with
  | nil => exact fun b h => h
  | cons f r ih => exact fun b h => ih _ (spoil1_len hs page b f h)
theorem take_fold {s : HostS.HS} (page : Int) (b : HostS.Bytes) (l : List HostS.Fault) (i : Nat) (hi : i < l.length) : (l.take (i + 1)).foldl (HostS.spoil1 s page) b = HostS.spoil1 s page ((l.take i).foldl (HostS.spoil1 s page) b) l[i] := by
  rw [List.take_succ_eq_append_getElem hi, List.foldl_append]; rfl

theorem tcells_len (t : HostS.Touch) (h : t.head.length = 12) : (tcells t).length = 15 := by simp [tcells, h]
theorem headOf_len (b : HostS.Bytes) : (HostS.headOf b).length = 12 := by simp [HostS.headOf]; omega
theorem touchOf_len (s : HostS.HS) (op page : Int) (b : HostS.Bytes) : (HostS.touchOf s op page b).head.length = 12 := by
  unfold HostS.touchOf
  split
  · exact headOf_len b
  · split <;> simp
theorem tcells_one (t : HostS.Touch) : (tcells t).all oneC = true := by simp [tcells, oneC, u8b]
theorem before_take (l : List HostS.Fault) (i : Nat) (hi : i < l.length) : HostS.before (l.take (i + 1)) = (HostS.before (l.take i) || l[i].kind == 3) := by
  rw [List.take_succ_eq_append_getElem hi]; simp only [HostS.before, List.any_append, List.any_cons, List.any_nil, Bool.or_false]
theorem behind_take (l : List HostS.Fault) (i : Nat) (hi : i < l.length) : HostS.behind (l.take (i + 1)) = (HostS.behind (l.take i) || l[i].kind == 4) := by
  rw [List.take_succ_eq_append_getElem hi]; simp only [HostS.behind, List.any_append, List.any_cons, List.any_nil, Bool.or_false]
theorem ok_taken {s : HostS.HS} (hs : HostS.Ok s) : HostS.Ok (HostS.taken s) :=
  ⟨hs.p0, hs.p1, hs.z0, hs.z1, hs.row, fun p => Nat.le_succ_of_le (hs.many p), Nat.le_succ_of_le hs.log,
    fun k f hf => by
      simp only [HostS.taken, HostS.setF] at hf
      split at hf
      · cases hf
      · exact hs.flt k f hf,
    fun k => by
      simp only [HostS.taken, HostS.setF]
      split
      · simp
      · exact hs.fln k⟩
theorem ok_down {s : HostS.HS} (b : Bool) (hs : HostS.Ok s) : HostS.Ok { s with down := b } := ⟨hs.p0, hs.p1, hs.z0, hs.z1, hs.row, hs.many, hs.log, hs.flt, hs.fln⟩
theorem ok_wrote {s : HostS.HS} (page op : Int) (b : HostS.Bytes) (hb : b.length = s.size) (h0 : HostS.Ok s) (h : HostS.Ok (HostS.logged s op page b)) : HostS.Ok (HostS.wrote page b (HostS.logged s op page b)) := by
  refine ⟨h.p0, h.p1, h.z0, h.z1, ?_, ?_, h.log, h.flt, h.fln⟩
  · intro q r hr
    by_cases e : q = page
    · simp only [HostS.wrote, HostS.setF, e, if_true, List.mem_append, List.mem_singleton] at hr
      rcases hr with hr|rfl
      · exact h.row _ _ hr
      · exact hb
    · simp only [HostS.wrote, HostS.setF, e, if_false] at hr
      exact h.row _ _ hr
  · intro q
    have := h0.many q
    have e2 : (HostS.wrote page b (HostS.logged s op page b)).ops = s.ops + 1 := rfl
    rw [e2]
    by_cases e : q = page
    · subst e
      have e3 : (HostS.wrote q b (HostS.logged s op q b)).lay q = s.lay q ++ [b] := by simp [HostS.wrote, HostS.setF, HostS.logged, HostS.taken]
      rw [e3]; simp; exact this
    · have e3 : (HostS.wrote page b (HostS.logged s op page b)).lay q = s.lay q := by simp [HostS.wrote, HostS.setF, e, HostS.logged, HostS.taken]
      rw [e3]; omega
theorem does_zero {s : HostS.HS} {op page : Int} {b : HostS.Bytes} {act : HostS.HS → HostS.HS} (h : HostS.done s = false) : (HostS.does s op page b act).2 = 110 := by
  simp only [HostS.done] at h
  simp only [HostS.does]
  cases hd : s.down <;> simp [hd] at h ⊢
  simp [h]
theorem log_one (l : List HostS.Touch) (h : l.length ≤ 3518437208880) : (l.flatMap tcells).all oneC = true := by
  rw [List.all_eq_true]
  intro v hv
  obtain ⟨t, _, hv⟩ := List.mem_flatMap.1 hv
  simp only [tcells, List.mem_append, List.mem_map] at hv
  rcases hv with hv|⟨n, _, rfl⟩
  · simp at hv; rcases hv with rfl|rfl|rfl <;> rfl
  · rfl
theorem comes_take (fl : List HostS.Fault) (i : Nat) (hi : i < fl.length) : upd (HostS.comes (fl.take i)) fl[i].at_ (HostS.comes (fl.take i) fl[i].at_ ++ [fl[i]]) = HostS.comes (fl.take (i + 1)) := by
  funext k
  have h2 : fl.take (i + 1) = fl.take i ++ [fl[i]] := by rw [List.take_succ_eq_append_getElem hi]
  unfold upd HostS.comes
  rw [h2, List.filter_append]
  by_cases e : k = fl[i].at_
  · subst e
    simp
  · have e2 : (fl[i].at_ == k) = false := by simp; omega
    simp [e, e2]
theorem kindly_take (fl : List HostS.Fault) (i : Nat) (hi : i < fl.length) : (fl.take (i + 1)).all HostS.kindly = ((fl.take i).all HostS.kindly && HostS.kindly fl[i]) := by
  rw [List.take_succ_eq_append_getElem hi, List.all_append]; simp
theorem kindly_no {fl : List HostS.Fault} (i : Nat) (hi : i < fl.length) (h : HostS.kindly fl[i] = false) : fl.all HostS.kindly = false := by
  rw [Bool.eq_false_iff, Ne, List.all_eq_true]
  intro hh
  have := hh _ (List.getElem_mem hi)
  rw [h] at this; cases this
theorem ok_fresh (pages : Int) (size : Nat) (fl : List HostS.Fault) (hp : 0 ≤ pages ∧ pages ≤ 65536 ∧ 1 ≤ (size : Int) ∧ (size : Int) ≤ 4124) (hfo : ∀ f ∈ fl, HostS.FOk f) (hfl : fl.length ≤ 2932031007401) : HostS.Ok (HostS.fresh pages size fl) := by
  refine ⟨hp.1, hp.2.1, by simp [HostS.fresh]; omega, by simp [HostS.fresh]; omega, fun p r hr => by simp [HostS.fresh] at hr, fun p => by simp [HostS.fresh], by simp [HostS.fresh], ?_, ?_⟩
  · intro k f hf
    exact hfo f (List.mem_filter.1 hf).1
  · intro k
    exact Nat.le_trans (List.length_filter_le _ _) hfl
end Go.Sl
namespace Go.Sl
open Go Go.Proofs
attribute [local irreducible] pt old pur ex all den denOps denS xOps xC cX CX xthen xblk xcut xloop xng retX resX Calls PV Rd Con
attribute [local irreducible] hostA omap ohole oheld rowsA
theorem cpy_full {l : List Byte} {z : Nat} (h : l.length = z) : wr (((List.replicate z 0#8).map u8b).toArray) 0 ((l.map u8b).take (min l.length z * 1)) = (l.map u8b).toArray := by
  subst h
  have := copy_pre l 0
  simpa using this
theorem row_rd {vs : List RV} {i : Nat} (hi : i < vs.length) {M M' : List Asrt} (hm : Has M (star rowE vs) M') : Rd M 1 vs[i].1 vs[i].2.length (vs[i].2.map u8b) := by
  obtain ⟨R, hR⟩ := star_has (A := rowE) (List.getElem_mem hi) hm
  exact (Rd.own (E := 5) .here).imp hR
section
variable {p : Nat} {s : HostS.HS} {L : List Asrt}
theorem host_close {bl bc lc : Nat} {la : Option Addr} {v : Value} {vs : List RV} {page : Int} (hs : HostS.Ok s) (h : vs.map (·.2) = s.lay page) : Imp (own 66 1 v vs.length (vs.map (·.1)) :: star rowE vs :: ohole bl rowsA [] s.lay page v :: cl p (hcl s (bl, bc, la, lc)) 141 :: omap bc faultsA [] s.coming :: ownLog la lc s.log :: L) (hostA p s :: L) :=
  ((rows_mk h).trans Imp.omap_close).trans ((Imp.arr (N := hostP p s (bl, bc, la, lc) ++ L) qV).trans (hostA_mk hs))
theorem pages_x : Con Tryz.prog 291 [hp p] [hostA p s] (fun v M => v = .int .i64 s.pages ∧ M = [hostA p s]) := by
  refine Con.hostA fun c hs => ?_
  simp only [List.cons_append, List.nil_append]
  refine fn_y Tryz.func291 Tryz.mixed ?_
  intro w0
  refine Y6 ?_
  refine Zhn 4 rfl (rfl) ?_
  refine V9 ?_
  refine rx1 (Zg9 rfl (Zg7)) ?_
  exact ⟨_, ⟨rfl, rfl⟩, (Imp.arr (N := hostP p s c ++ []) qV).trans (hostA_mk hs)⟩
theorem size_x : Con Tryz.prog 293 [hp p] [hostA p s] (fun v M => v = nvv s.size ∧ M = [hostA p s]) := by
  refine Con.hostA fun c hs => ?_
  simp only [List.cons_append, List.nil_append]
  refine fn_y Tryz.func293 Tryz.mixed ?_
  intro w0
  refine Y6 ?_
  refine Zhn 4 rfl (rfl) ?_
  refine V9 ?_
  refine rx1 (Zg9 rfl (Zg7)) ?_
  exact ⟨_, ⟨rfl, rfl⟩, (Imp.arr (N := hostP p s c ++ []) qV).trans (hostA_mk hs)⟩
theorem there_x (page : Int) : Con Tryz.prog 295 [hp p, .int .i64 page] [hostA p s] (fun v M => v = .bool (decide (HostS.there s page)) ∧ M = [hostA p s]) := by
  refine Con.hostA fun c hs => ?_
  simp only [List.cons_append, List.nil_append]
  by_cases h0 : 0 ≤ page
  · by_cases h1 : page < s.pages
    · rw [decide_eq_true (show HostS.there s page from ⟨h0, h1⟩)]
      refine fn_y Tryz.func295 Tryz.mixed ?_
      intro w0
      refine Y5 ?_
      refine Zhg (Zbq (b := 0) rfl rfl) ?_
      refine Zos 6 rfl (h0) ?_
      refine Y6 ?_
      first|refine Y0 ?_|(refine Zhh rfl ?_; (refine Zhg (Zbn (b := s.pages) rfl rfl) ?_))
      refine Zos 13 rfl (h1) ?_
      refine V3 ?_
      refine rx1 (Zha rfl (Zg7)) ?_
      exact ⟨_, ⟨rfl, rfl⟩, (Imp.arr (N := hostP p s c ++ []) qV).trans (hostA_mk hs)⟩
    · rw [decide_eq_false (show ¬ HostS.there s page from fun h => h1 h.2)]
      refine fn_y Tryz.func295 Tryz.mixed ?_
      intro w0
      refine Y5 ?_
      refine Zhg (Zbq (b := 0) rfl rfl) ?_
      refine Zos 6 rfl (h0) ?_
      refine Y6 ?_
      first|refine Y0 ?_|(refine Zhh rfl ?_; (refine Zhg (Zbn (b := s.pages) rfl rfl) ?_))
      refine Zot 13 rfl (h1) ?_
      refine V3 ?_
      refine rx1 (Zha rfl (Zg7)) ?_
      exact ⟨_, ⟨rfl, rfl⟩, (Imp.arr (N := hostP p s c ++ []) qV).trans (hostA_mk hs)⟩
  · rw [decide_eq_false (show ¬ HostS.there s page from fun h => h0 h.1)]
    refine fn_y Tryz.func295 Tryz.mixed ?_
    intro w0
    refine Y5 ?_
    refine Zhg (Zbq (b := 0) rfl rfl) ?_
    refine Zot 6 rfl (h0) ?_
    refine V10 ?_
    refine rx1 (Zha rfl (Zg7)) ?_
    exact ⟨_, ⟨rfl, rfl⟩, (Imp.arr (N := hostP p s c ++ []) qV).trans (hostA_mk hs)⟩
theorem back_x (page writes : Int) (hw : -9223372036854775808 ≤ writes ∧ writes ≤ 9223372036854775807) (hops : s.ops ≤ 3518437208880) :
    Con Tryz.prog 301 [hp p, .int .i64 page, .int .i64 writes] [hostA p s] (fun r M => ∃ a c, r = .slice a (HostS.back s page writes).length c ∧ M = [ownB a c (HostS.back s page writes), hostA p s]) := by
  refine Con.hostA fun c hs => ?_
  obtain ⟨bl, bc, la, lc⟩ := c
  simp only [List.cons_append, List.nil_append, List.append_nil]
  have hz1 := hs.z1
  have hmany := hs.many page
  have hbl := back_len hs page writes
  refine fn_y Tryz.func301 Tryz.mixed ?_
  intro w0
  refine Y8 ?_
  refine Zm3 (f := u8b) (a := 0#8) rfl rfl rfl qS qS qS ?_; intro b14
  refine V2 ?_
  refine Zgp (Imp.arr (N := omap bl rowsA [] s.lay :: cl p (hcl s (bl, bc, la, lc)) 141 :: omap bc faultsA [] s.coming :: ownLog la lc s.log :: [cl b14 ((List.replicate s.size 0#8).map u8b).toArray 5]) qV) ?_
  refine Zom rows_nil page ?_
  intro v
  refine x_rows fun vs hvs => ?_
  have hvl : vs.length = (s.lay page).length := by rw [← hvs, List.length_map]
  refine Zgt (fun F w H => own_shape (H.pick (.there .here))) ?_
  rintro ⟨ra, rc, rfl, hrc, hrcm⟩
  refine Y6 ?_
  refine Zig rfl rfl qH ?_
  refine Y5 ?_
  refine Zhg (Zbh (a := (vs.length : Int)) (b := 1) rfl rfl (by omega)) ?_
  refine Y1 ?_
  refine Zhg (Zcv (a := writes) (b := 0) rfl rfl) ?_
  refine Zhg (Zbh (a := (vs.length : Int) - 1) (b := max writes 0) rfl rfl (by omega)) ?_
  refine V2 ?_
  by_cases h0 : (vs.length : Int) - 1 - max writes 0 ≥ 0
  · obtain ⟨n, hn⟩ : ∃ n : Nat, (vs.length : Int) - 1 - max writes 0 = n := ⟨((vs.length : Int) - 1 - max writes 0).toNat, by omega⟩
    have hnl : n < vs.length := by omega
    have e : HostS.back s page writes = vs[n].2 := by
      unfold HostS.back
      dsimp only
      rw [← hvl, if_pos (by omega), hn, ← hvs]
      simp [hnl]
    rw [e] at hbl ⊢
    refine Zgt (fun F w H => own_someN (a := ra) (n := vs.length) qH (by omega) H) ?_
    rintro ⟨g, rfl⟩
    refine Zgt (fun F w H => row_shape hnl qH H) ?_
    rintro ⟨xa, xc, hsh⟩
    have hrr : ∀ {M M' : List Asrt}, Has M (star rowE vs) M' → Rd M 1 (.slice xa vs[n].2.length xc) vs[n].2.length (vs[n].2.map u8b) := fun hm => by rw [← hsh]; exact row_rd hnl hm
    refine Y2 ?_
    refine Zhg (Zbq (b := 0) rfl rfl) ?_
    refine Zos 28 rfl (h0) ?_
    refine Y6 ?_
    refine Zhg (Zl4 (n := n) rfl (int_eq hn) hnl) ?_
    refine Zff rfl (((Rd.own (n := vs.length) qH).at0 hnl (by rw [List.getElem?_map, List.getElem?_eq_getElem hnl]; exact congrArg some hsh))) ?_
    refine Zib rfl rfl (hrr qH) qR qZ (by first|rfl|exact oneM_u8 _|exact oneL_u8 _|assumption|(simp [oneC]; done)) (cpy_full hbl) ?_
    refine V5 ?_
    refine rx1 (Zhc rfl (Zg7)) ?_
    refine ⟨_, ⟨some ⟨b14, 0, none⟩, s.size, by rw [hbl], rfl⟩, ?_⟩
    exact (Imp.arr (N := cl b14 (vs[n].2.map u8b).toArray 5 :: own 66 1 (.slice (some ⟨g, 0, none⟩) vs.length rc) vs.length (vs.map (·.1)) :: star rowE vs :: ohole bl rowsA [] s.lay page (.slice (some ⟨g, 0, none⟩) vs.length rc) :: cl p (hcl s (bl, bc, la, lc)) 141 :: omap bc faultsA [] s.coming :: ownLog la lc s.log :: []) qV).trans ((Imp.own_mk (E := 5) (size := 1) (n := vs[n].2.length) (cap := s.size) (xs := vs[n].2.map u8b) (by omega) (by omega) (by simp [hbl]) (by rw [Nat.mul_one, List.take_of_length_le (by simp)])).trans (Imp.cons (host_close hs hvs)))
  · have e : HostS.back s page writes = List.replicate s.size 0#8 := by
      unfold HostS.back
      dsimp only
      rw [← hvl, if_neg (by omega)]
    rw [e]
    refine Y2 ?_
    refine Zhg (Zbq (b := 0) rfl rfl) ?_
    refine Zot 28 rfl (h0) ?_
    refine V6 ?_
    refine rx1 (Zhc rfl (Zg7)) ?_
    refine ⟨_, ⟨some ⟨b14, 0, none⟩, s.size, by rw [List.length_replicate], rfl⟩, ?_⟩
    exact (Imp.arr (N := cl b14 ((List.replicate s.size 0#8).map u8b).toArray 5 :: own 66 1 (.slice ra vs.length rc) vs.length (vs.map (·.1)) :: star rowE vs :: ohole bl rowsA [] s.lay page (.slice ra vs.length rc) :: cl p (hcl s (bl, bc, la, lc)) 141 :: omap bc faultsA [] s.coming :: ownLog la lc s.log :: []) qV).trans ((Imp.own_mk (E := 5) (size := 1) (n := (List.replicate s.size 0#8).length) (cap := s.size) (xs := (List.replicate s.size 0#8).map u8b) (by simp) (by omega) (by simp) (by simp)).trans (Imp.cons (host_close hs hvs)))
theorem touch_fill (op page len : Int) (b : List Byte) : wr (tcells ⟨op, page, len, List.replicate 12 0#8⟩).toArray 3 ((b.map u8b).take (min b.length 12 * 1)) = (tcells ⟨op, page, len, HostS.headOf b⟩).toArray := by
  apply Array.ext'
  rw [wr_toList _ _ _ (by simp [tcells]; omega)]
  have hd : ∀ (A : List Value) (q : Value) (n : Nat), A.length = 3 → List.drop (3 + n) (A ++ List.replicate 12 q) = List.replicate (12 - n) q := by
    intro A q n hA
    rw [List.drop_append, List.drop_of_length_le (by omega), List.nil_append, hA, List.drop_replicate, Nat.add_sub_cancel_left]
  have ht : ∀ (A B : List Value), A.length = 3 → List.take 3 (A ++ B) = A := fun A B hA => List.take_left' hA
  unfold tcells HostS.headOf
  dsimp only
  rw [List.map_replicate, ht _ _ rfl, hd _ _ _ rfl, List.map_append, List.map_replicate, List.map_take]
  have e1 : (List.map u8b b).take (min b.length 12 * 1) = (List.map u8b b).take 12 := by
    rw [Nat.mul_one]
    by_cases h : b.length ≤ 12
    · rw [Nat.min_eq_left h, List.take_of_length_le (by simp), List.take_of_length_le (by simpa using h)]
    · rw [Nat.min_eq_right (by omega)]
  have e2 : 12 - ((List.map u8b b).take 12).length = 12 - b.length := by simp; omega
  rw [e1, e2, List.append_assoc]
theorem touch_x {bv : Value} {b : List Byte} {c : HC} (op page : Int) (hb : Bs L bv b) (hbl : b.length ≤ 9223372036854775807) :
    Con Tryz.prog 300 [hp p, .int .i64 op, .int .i64 page, bv] (cl p (hcl s c) 141 :: L) (fun r M => r = .agg (tcells (HostS.touchOf s op page b)).toArray ∧ M = cl p (hcl s c) 141 :: L) := by
  refine Con.get (fun w0 w F H => hb.sh _ _ _ (H.enx Imp.tail)) ?_
  rintro ⟨ba, bc, rfl, hbc, hbcm⟩
  have hz : (tcells ⟨op, 0, 8, List.replicate 12 0#8⟩).toArray = #[.int .i64 op, .int .i64 0, .int .i64 8, u8b 0#8, u8b 0#8, u8b 0#8, u8b 0#8, u8b 0#8, u8b 0#8, u8b 0#8, u8b 0#8, u8b 0#8, u8b 0#8, u8b 0#8, u8b 0#8] := rfl
  by_cases h1 : op = 1
  · subst h1
    have e : HostS.touchOf s 1 page b = ⟨1, page, s.size, HostS.headOf b⟩ := rfl
    rw [e]
    have hsz : (tcells ⟨1, 0, 8, HostS.headOf b⟩).toArray.size = 15 := by simp [tcells, HostS.headOf]; omega
    refine fn_y Tryz.func300 Tryz.mixed ?_
    intro w0
    refine Y1 ?_
    refine Zhz (cs := #[.int .i64 0, .int .i64 0, .int .i64 0, u8b 0#8, u8b 0#8, u8b 0#8, u8b 0#8, u8b 0#8, u8b 0#8, u8b 0#8, u8b 0#8, u8b 0#8, u8b 0#8, u8b 0#8, u8b 0#8]) rfl ?_; intro b8
    refine Y3 ?_
    refine Zhg (Zdm (cs := (tcells ⟨1, 0, 8, List.replicate 12 0#8⟩).toArray) (by kernel_rfl)) ?_
    refine Zhz (cs := #[.int .i64 0, .int .i64 0, .int .i64 0, u8b 0#8, u8b 0#8, u8b 0#8, u8b 0#8, u8b 0#8, u8b 0#8, u8b 0#8, u8b 0#8, u8b 0#8, u8b 0#8, u8b 0#8, u8b 0#8]) rfl ?_; intro b9
    first|refine Zhy rfl rfl qR qZ (by first|rfl|exact oneM_u8 _|exact oneL_u8 _|assumption|(simp [oneC]; done)) qZ ?_|refine Zhx rfl rfl qR qZ (by first|rfl|exact oneM_u8 _|exact oneL_u8 _|assumption|(simp [oneC]; done)) qZ rfl ?_
    refine Y5 ?_
    refine Zhg (Zbr (b := 1) rfl rfl) ?_
    refine Zos 14 rfl (rfl) ?_
    refine Y5 ?_
    refine Zhg (Zmx (l := 0) (h := 12) rfl qB qB (by omega) (by omega) (by omega)) ?_
    refine Y1 ?_
    refine Zib rfl rfl ((hb.rd.imp qI)) qR qZ (by first|rfl|exact oneM_u8 _|exact oneL_u8 _|assumption|(simp [oneC]; done)) (touch_fill 1 0 8 b) ?_
    refine Y8 ?_
    refine Zht rfl rfl qR qZ ((by rfl)) ?_
    refine Y1 ?_
    refine Zht rfl rfl qR qZ ((by rfl)) ?_
    refine Y3 ?_
    first|refine Zhy rfl rfl qR qZ (by first|rfl|exact oneM_u8 _|exact oneL_u8 _|assumption|(simp [oneC]; done)) qZ ?_|refine Zhx rfl rfl qR qZ (by first|rfl|exact oneM_u8 _|exact oneL_u8 _|assumption|(simp [oneC]; done)) qZ rfl ?_
    refine V1 ?_
    refine rx1 (Zhe rfl qH qZ (Zg7)) ?_
    exact ⟨_, ⟨rfl, rfl⟩, qI⟩
  · by_cases h0 : op = 0
    · subst h0
      have e : HostS.touchOf s 0 page b = ⟨0, page, s.size, List.replicate 12 0#8⟩ := rfl
      rw [e]
      refine fn_y Tryz.func300 Tryz.mixed ?_
      intro w0
      refine Y1 ?_
      refine Zhz (cs := #[.int .i64 0, .int .i64 0, .int .i64 0, u8b 0#8, u8b 0#8, u8b 0#8, u8b 0#8, u8b 0#8, u8b 0#8, u8b 0#8, u8b 0#8, u8b 0#8, u8b 0#8, u8b 0#8, u8b 0#8]) rfl ?_; intro b8
      refine Y3 ?_
      refine Zhg (Zdm (cs := (tcells ⟨0, 0, 8, List.replicate 12 0#8⟩).toArray) (by kernel_rfl)) ?_
      refine Zhz (cs := #[.int .i64 0, .int .i64 0, .int .i64 0, u8b 0#8, u8b 0#8, u8b 0#8, u8b 0#8, u8b 0#8, u8b 0#8, u8b 0#8, u8b 0#8, u8b 0#8, u8b 0#8, u8b 0#8, u8b 0#8]) rfl ?_; intro b9
      first|refine Zhy rfl rfl qR qZ (by first|rfl|exact oneM_u8 _|exact oneL_u8 _|assumption|(simp [oneC]; done)) qZ ?_|refine Zhx rfl rfl qR qZ (by first|rfl|exact oneM_u8 _|exact oneL_u8 _|assumption|(simp [oneC]; done)) qZ rfl ?_
      refine Y5 ?_
      refine Zhg (Zbr (b := 1) rfl rfl) ?_
      refine Zot 14 rfl (h1) ?_
      refine Y4 ?_
      refine Zhg (Zbr (b := 0) rfl rfl) ?_
      refine Zos 16 rfl (rfl) ?_
      refine Y10 ?_
      refine Zht rfl rfl qR qZ ((by rfl)) ?_
      refine Y1 ?_
      refine Zht rfl rfl qR qZ ((by rfl)) ?_
      refine Y3 ?_
      first|refine Zhy rfl rfl qR qZ (by first|rfl|exact oneM_u8 _|exact oneL_u8 _|assumption|(simp [oneC]; done)) qZ ?_|refine Zhx rfl rfl qR qZ (by first|rfl|exact oneM_u8 _|exact oneL_u8 _|assumption|(simp [oneC]; done)) qZ rfl ?_
      refine V1 ?_
      refine rx1 (Zhe rfl qH qZ (Zg7)) ?_
      exact ⟨_, ⟨rfl, rfl⟩, qI⟩
    · have e : HostS.touchOf s op page b = ⟨op, 0, 8, List.replicate 12 0#8⟩ := by unfold HostS.touchOf; rw [if_neg h1, if_neg h0]
      rw [e]
      refine fn_y Tryz.func300 Tryz.mixed ?_
      intro w0
      refine Y1 ?_
      refine Zhz (cs := #[.int .i64 0, .int .i64 0, .int .i64 0, u8b 0#8, u8b 0#8, u8b 0#8, u8b 0#8, u8b 0#8, u8b 0#8, u8b 0#8, u8b 0#8, u8b 0#8, u8b 0#8, u8b 0#8, u8b 0#8]) rfl ?_; intro b8
      refine Y3 ?_
      refine Zhg (Zdm (cs := (tcells ⟨op, 0, 8, List.replicate 12 0#8⟩).toArray) (by kernel_rfl)) ?_
      refine Zhz (cs := #[.int .i64 0, .int .i64 0, .int .i64 0, u8b 0#8, u8b 0#8, u8b 0#8, u8b 0#8, u8b 0#8, u8b 0#8, u8b 0#8, u8b 0#8, u8b 0#8, u8b 0#8, u8b 0#8, u8b 0#8]) rfl ?_; intro b9
      first|refine Zhy rfl rfl qR qZ (by first|rfl|exact oneM_u8 _|exact oneL_u8 _|assumption|(simp [oneC]; done)) qZ ?_|refine Zhx rfl rfl qR qZ (by first|rfl|exact oneM_u8 _|exact oneL_u8 _|assumption|(simp [oneC]; done)) qZ rfl ?_
      refine Y5 ?_
      refine Zhg (Zbr (b := 1) rfl rfl) ?_
      refine Zot 14 rfl (h1) ?_
      refine Y4 ?_
      refine Zhg (Zbr (b := 0) rfl rfl) ?_
      refine Zot 16 rfl (h0) ?_
      refine Y5 ?_
      first|refine Zhy rfl rfl qR qZ (by first|rfl|exact oneM_u8 _|exact oneL_u8 _|assumption|(simp [oneC]; done)) qZ ?_|refine Zhx rfl rfl qR qZ (by first|rfl|exact oneM_u8 _|exact oneL_u8 _|assumption|(simp [oneC]; done)) qZ rfl ?_
      refine V1 ?_
      refine rx1 (Zhe rfl qH qZ (Zg7)) ?_
      exact ⟨_, ⟨rfl, rfl⟩, qI⟩
end
end Go.Sl
namespace Go.Sl
open Go Go.Proofs
attribute [local irreducible] pt old pur ex all den denOps denS xOps xC cX CX xthen xblk xcut xloop xng retX resX Calls PV Rd Con
attribute [local irreducible] hostA omap ohole oheld rowsA faultsA HostS.before HostS.behind
theorem fault_rd {fv : Value} {fl : List HostS.Fault} {M M' : List Asrt} (hm : Has M (faultsA fv fl) M') : Rd M 6 fv fl.length (fl.flatMap fcells) := by
  unfold faultsA at hm
  exact Rd.own hm
theorem fault_one (f : HostS.Fault) : ((fcells f).toArray).toList.all oneC = true := rfl
theorem faults_len {fv : Value} {fl : List HostS.Fault} {M M' : List Asrt} {F : Asrt} {w0 w : World} (hm : Has M (faultsA fv fl) M') (H : St w0 w (F :: M)) : ∃ a c, fv = .slice a fl.length c := (fault_rd hm).len H
section
variable {p : Nat} {s : HostS.HS} {L L2 : List Asrt} {F : FuncId} {cs : List Value}
theorem does_no {bv : Value} (op page : Int) (b : List Byte) (act : HostS.HS → HostS.HS) (hd : HostS.done s = false) (hops : s.ops < 3518437208880) :
    Con Tryz.prog 296 [hp p, .int .i64 op, .int .i64 page, bv, .func (.func F) #[] cs.toArray] [hostA p s] (fun r M => r = nvv 110 ∧ M = [hostA p (HostS.does s op page b act).1]) := by
  refine Con.hostA fun c hs => ?_
  obtain ⟨bl, bc, la, lc⟩ := c
  simp only [List.cons_append, List.nil_append, List.append_nil]
  cases hdn : s.down with
  | true =>
    have e : HostS.does s op page b act = (s, 110) := by unfold HostS.does; rw [if_pos hdn]
    rw [e]
    have hpw : powerOf s = 1 := by unfold powerOf; rw [if_pos hdn]
    refine fn_y Tryz.func296 Tryz.mixed ?_
    intro w0
    refine Y8 ?_
    refine Zhg (Zbr (a := powerOf s) (b := 1) rfl rfl) ?_
    refine Zos 20 rfl (hpw) ?_
    refine V5 ?_
    refine rx1 (Zg9 rfl (Zg7)) ?_
    exact ⟨_, ⟨rfl, rfl⟩, (Imp.arr (N := hostP p s (bl, bc, la, lc) ++ []) qV).trans (hostA_mk hs)⟩
  | false =>
    have hbf : HostS.before (s.coming s.ops) = true := by
      unfold HostS.done at hd
      rw [hdn] at hd
      simpa using hd
    have e : HostS.does s op page b act = ({ HostS.taken s with down := true }, 110) := by
      unfold HostS.does
      rw [if_neg (by rw [hdn]; simp)]
      dsimp only
      rw [if_pos hbf]
    rw [e]
    have hpw : powerOf s = 0 := by unfold powerOf; rw [if_neg (by rw [hdn]; simp)]
    have hfl := hs.fln s.ops
    generalize hfe : s.coming s.ops = fl at hbf hfl
    refine fn_y Tryz.func296 Tryz.mixed ?_
    intro w0
    refine Y8 ?_
    refine Zhg (Zbr (a := powerOf s) (b := 1) rfl rfl) ?_
    refine Zot 20 rfl ((by rw [hpw]; omega)) ?_
    refine V2 ?_
    refine Zgp (Imp.arr (N := omap bc faultsA [] s.coming :: cl p (hcl s (bl, bc, la, lc)) 141 :: omap bl rowsA [] s.lay :: [ownLog la lc s.log]) qV) ?_
    refine Zom faults_nil (s.ops : Int) ?_
    intro fv
    rw [hfe]
    refine Zgt (fun F w H => faults_len qH H) ?_
    rintro ⟨fa, fc, rfl⟩
    refine Ct.o ?_
    refine Zij ([cl p (hcl s (bl, bc, la, lc)) 141, ohole bc faultsA [] s.coming s.ops (.slice fa fl.length fc)]) [7] (.q 0 (.q 1 (.q 2 (.q 4 (.q 5 (.q 6 (.r 3 (.r 7 (.r 8 (.q 9 .nil)))))))))) (by kernel_rfl) (by kernel_rfl) (Imp.arr qV) ?_
    refine W8 ?_
    refine Zon rfl rfl rfl qH ?_
    refine W2 ?_
    refine Ct.o ?_
    refine Zij ([cl p (hcl s (bl, bc, la, lc)) 141]) [7] (.q 0 (.q 1 (.q 2 (.q 4 (.q 5 (.q 6 (.r 3 (.r 7 (.e 8 false .nil))))))))) (by kernel_rfl) (by kernel_rfl) (Imp.arr qV) ?_
    refine W8 ?_
    refine Ziq rfl ?_; refine Zii rfl rfl qR ?_; refine Zg3 ⟨(fun hh => Bool.noConfusion hh), ?_⟩
    refine Zik ?_
    refine Y8 ?_
    refine Zht rfl rfl qR qZ (rfl) ?_
    refine V1 ?_
    refine Zgp (Imp.arr (N := cl p (hcl (HostS.taken s) (bl, bc, la, lc)) 141 :: omap bl rowsA [] (HostS.taken s).lay :: omap bc faultsA [] (HostS.taken s).coming :: ownLog la lc (HostS.taken s).log :: [faultsA (.slice fa fl.length fc) fl]) qV) ?_
    have hok1 := ok_taken hs
    refine V5 ?_
    refine Zgo [(10, 10), (13, 13), (47, 57)] (by kernel_rfl) (fun i : Nat => i ≤ fl.length ∧ HostS.before (fl.take i) = false) (fun _ => cl p (hcl (HostS.taken s) (bl, bc, la, lc)) 141 :: omap bl rowsA [] (HostS.taken s).lay :: omap bc faultsA [] (HostS.taken s).coming :: ownLog la lc (HostS.taken s).log :: [faultsA (.slice fa fl.length fc) fl]) (fun i => [(47, nvv i)]) (fun i => fl.length - i) 0 ⟨Nat.zero_le _, by with_unfolding_all rfl⟩ qI ⟨rfl, trivial⟩ ?_
    rintro i u ⟨hi, hno⟩
    have hB : i < fl.length := by
      by_cases hh : i < fl.length
      · exact hh
      · rw [List.take_of_length_le (by omega), hbf] at hno; cases hno
    refine Zgt (fun F w H => (fault_rd (M := _) qH).someAt (by omega) H) ?_
    rintro ⟨f1, f2, rfl⟩
    refine Y2 ?_
    refine Zos 48 rfl (hB) ?_
    refine Y4 ?_
    refine Zfg rfl (((fault_rd qH).agN fcells_len (by omega) hB)) ?_
    refine Zhz (cs := #[.int .i64 0, .int .i64 0, .int .i64 0, .int .i64 0, u8b 0#8, .int .i64 0]) rfl ?_; intro b13
    first|refine Zhy rfl rfl qR qZ (by first|rfl|exact oneM_u8 _|exact oneL_u8 _|exact tcells_one _|assumption|(simp [oneC]; done)) qZ ?_|refine Zhx rfl rfl qR qZ (by first|rfl|exact oneM_u8 _|exact oneL_u8 _|exact tcells_one _|assumption|(simp [oneC]; done)) qZ rfl ?_
    refine V1 ?_
    by_cases h3 : fl[i].kind = 3
    · refine Y2 ?_
      refine Zhp rfl qH ((by rfl)) ?_
      refine Zhg (Zbr (a := fl[i].kind) (b := 3) rfl rfl) ?_
      refine Zos 53 rfl (h3) ?_
      refine Y6 ?_
      refine Zht rfl rfl qR qZ (rfl) ?_
      refine V4 ?_
      refine rx1 (Zg9 rfl (Zg7)) ?_
      exact ⟨_, ⟨rfl, rfl⟩, (Imp.arr (N := hostP p { HostS.taken s with down := true } (bl, bc, la, lc) ++ []) qV).trans (hostA_mk (ok_down true hok1))⟩
    · refine Y2 ?_
      refine Zhp rfl qH ((by rfl)) ?_
      refine Zhg (Zbr (a := fl[i].kind) (b := 3) rfl rfl) ?_
      refine Zot 53 rfl (h3) ?_
      refine V6 ?_
      exact Zgl (i + 1) qO ⟨by omega, by rw [before_take fl i hB, hno]; simp [h3]⟩ qI ⟨rfl, trivial⟩
theorem hok_logged {op page : Int} {b : List Byte} (hs : HostS.Ok s) : HostS.Ok (HostS.logged s op page b) := by
  have h := ok_taken hs
  refine ⟨h.p0, h.p1, h.z0, h.z1, h.row, h.many, ?_, h.flt, h.fln⟩
  show (s.log ++ [HostS.touchOf s op page b]).length ≤ s.ops + 1
  rw [List.length_append, List.length_singleton]
  exact Nat.succ_le_succ hs.log
theorem does_yes {bv : Value} {b : List Byte} (op page : Int) (act : HostS.HS → HostS.HS) (hb : Bs L bv b) (hbl : b.length ≤ 9223372036854775807) (hd : HostS.done s = true) (hops : s.ops < 3518437208880) (hF : callable Tryz.prog F = true)
    (hact2 : HostS.Ok s → HostS.Ok (HostS.logged s op page b) → HostS.Ok (act (HostS.logged s op page b))) (hact3 : (act (HostS.logged s op page b)).down = false)
    (hact : ∀ fv : Value, Con Tryz.prog F (fv :: cs) (hostA p (HostS.logged s op page b) :: faultsA fv (s.coming s.ops) :: L) (fun _ M => M = hostA p (act (HostS.logged s op page b)) :: faultsA fv (s.coming s.ops) :: L2)) :
    Con Tryz.prog 296 [hp p, .int .i64 op, .int .i64 page, bv, .func (.func F) #[] cs.toArray] (hostA p s :: L) (fun r M => r = nvv (HostS.does s op page b act).2 ∧ M = hostA p (HostS.does s op page b act).1 :: L2) := by
  refine Con.get (fun w0 w F H => hb.sh _ _ _ (H.enx Imp.tail)) ?_
  rintro ⟨ba, bcp, rfl, hbc, hbcm⟩
  refine Con.hostA fun c hs => ?_
  obtain ⟨bl, bc, la, lc⟩ := c
  simp only [List.cons_append, List.nil_append, List.append_nil]
  have hdn : s.down = false := by
    unfold HostS.done at hd
    cases h : s.down with
    | false => rfl
    | true => rw [h] at hd; simp at hd
  have hbf : HostS.before (s.coming s.ops) = false := by
    unfold HostS.done at hd
    rw [hdn] at hd
    simpa using hd
  have e : HostS.does s op page b act = if HostS.behind (s.coming s.ops) = true then ({ act (HostS.logged s op page b) with down := true }, 110) else (act (HostS.logged s op page b), 0) := by
    unfold HostS.does
    rw [if_neg (by rw [hdn]; simp)]
    dsimp only
    rw [if_neg (by rw [hbf]; simp)]
  rw [e]
  have hpw : powerOf s = 0 := by unfold powerOf; rw [if_neg (by rw [hdn]; simp)]
  have hfl := hs.fln s.ops
  have hlg := hs.log
  generalize hfe : s.coming s.ops = fl at hbf hfl hact ⊢
  refine fn_y Tryz.func296 Tryz.mixed ?_
  intro w0
  refine Y8 ?_
  refine Zhg (Zbr (a := powerOf s) (b := 1) rfl rfl) ?_
  refine Zot 20 rfl ((by rw [hpw]; omega)) ?_
  refine V2 ?_
  refine Zgp (Imp.arr (N := omap bc faultsA [] s.coming :: cl p (hcl s (bl, bc, la, lc)) 141 :: omap bl rowsA [] s.lay :: ownLog la lc s.log :: L) qV) ?_
  refine Zom faults_nil (s.ops : Int) ?_
  intro fv
  rw [hfe]
  refine Zgt (fun F w H => faults_len qH H) ?_
  rintro ⟨fa, fc, rfl⟩
  refine Ct.o ?_
  refine Zij ([cl p (hcl s (bl, bc, la, lc)) 141, ohole bc faultsA [] s.coming s.ops (.slice fa fl.length fc)]) [7] (.q 0 (.q 1 (.q 2 (.q 4 (.q 5 (.q 6 (.r 3 (.r 7 (.r 8 (.q 9 .nil)))))))))) (by kernel_rfl) (by kernel_rfl) (Imp.arr qV) ?_
  refine W8 ?_
  refine Zon rfl rfl rfl qH ?_
  refine W2 ?_
  refine Ct.o ?_
  refine Zij ([cl p (hcl s (bl, bc, la, lc)) 141]) [7] (.q 0 (.q 1 (.q 2 (.q 4 (.q 5 (.q 6 (.r 3 (.r 7 (.e 8 false .nil))))))))) (by kernel_rfl) (by kernel_rfl) (Imp.arr qV) ?_
  refine W8 ?_
  refine Ziq rfl ?_; refine Zii rfl rfl qR ?_; refine Zg3 ⟨(fun hh => Bool.noConfusion hh), ?_⟩
  refine Zik ?_
  refine Y8 ?_
  refine Zht rfl rfl qR qZ (rfl) ?_
  refine V1 ?_
  refine Zgp (Imp.arr (N := cl p (hcl (HostS.taken s) (bl, bc, la, lc)) 141 :: omap bl rowsA [] (HostS.taken s).lay :: omap bc faultsA [] (HostS.taken s).coming :: ownLog la lc (HostS.taken s).log :: faultsA (.slice fa fl.length fc) fl :: L) qV) ?_
  have hok1 := ok_taken hs
  refine V5 ?_
  refine Zgo [(10, 10), (13, 13), (47, 57)] (by kernel_rfl) (fun i : Nat => i ≤ fl.length) (fun _ => cl p (hcl (HostS.taken s) (bl, bc, la, lc)) 141 :: omap bl rowsA [] (HostS.taken s).lay :: omap bc faultsA [] (HostS.taken s).coming :: ownLog la lc (HostS.taken s).log :: faultsA (.slice fa fl.length fc) fl :: L) (fun i => [(47, nvv i)]) (fun i => fl.length - i) 0 (Nat.zero_le _) qI ⟨rfl, trivial⟩ ?_
  intro i u hi
  refine V3 ?_
  refine Zgg rfl (fun hB => ?_) (fun hB => ?_)
  · refine Zgt (fun F w H => (fault_rd (M := _) qH).someAt (by omega) H) ?_
    rintro ⟨f1, f2, rfl⟩
    have h3 : ¬ fl[i].kind = 3 := by
      intro hh
      with_unfolding_all unfold HostS.before at hbf
      rw [List.any_eq_false] at hbf
      exact hbf _ (List.getElem_mem hB) (by simp [hh])
    refine Y2 ?_
    refine Zfg rfl (((fault_rd qH).agN fcells_len (by omega) hB)) ?_
    refine Zhz (cs := #[.int .i64 0, .int .i64 0, .int .i64 0, .int .i64 0, u8b 0#8, .int .i64 0]) rfl ?_; intro b13
    first|refine Zhy rfl rfl qR qZ (by first|rfl|exact oneM_u8 _|exact oneL_u8 _|exact tcells_one _|assumption|(simp [oneC]; done)) qZ ?_|refine Zhx rfl rfl qR qZ (by first|rfl|exact oneM_u8 _|exact oneL_u8 _|exact tcells_one _|assumption|(simp [oneC]; done)) qZ rfl ?_
    refine Y3 ?_
    refine Zhp rfl qH ((by rfl)) ?_
    refine Zhg (Zbr (a := fl[i].kind) (b := 3) rfl rfl) ?_
    refine Zot 53 rfl (h3) ?_
    refine V6 ?_
    exact Zgl (i + 1) qO (by omega) qI ⟨rfl, trivial⟩
  · have htl := tcells_len _ (touchOf_len s op page b)
    have hlg2 : (HostS.taken s).log.length ≤ s.ops := hs.log
    have htc := touch_x (p := p) (s := HostS.taken s) (c := (bl, bc, la, lc)) op page hb hbl
    have htt : HostS.touchOf (HostS.taken s) op page b = HostS.touchOf s op page b := rfl
    rw [htt] at htc
    refine Ct.o ?_
    refine Zij ([cl p (hcl (HostS.taken s) (bl, bc, la, lc)) 141]) [9, 10] (.q 0 (.q 1 (.q 2 (.q 3 (.q 5 (.q 6 (.q 7 (.q 8 (.r 4 (.e 9 true (.e 10 true (.e 11 false (.q 12 (.q 13 (.e 14 false .nil))))))))))))))) (by kernel_rfl) (by kernel_rfl) (Imp.arr qV) ?_
    refine W9 ?_
    refine Ziq rfl ?_
    refine Zor (c := htc) (k := ?_)
    rintro _ _ ⟨rfl, rfl⟩
    refine Y1 ?_
    refine Zg3 ⟨fun _ => Imp.arr qV, ?_⟩
    refine Ziq rfl ?_; refine Zh7 (cs := (tcells (HostS.touchOf s op page b)).toArray) (by omega) (by omega) (by exact fill_one (by show (tcells (HostS.touchOf s op page b)).toArray.size = 15; simp [htl]) rfl) ?_; intro b68; refine Zg3 ⟨fun _ => Imp.arr qV, ?_⟩
    refine Ziq rfl ?_
    refine Zia rfl rfl qH (Rd.cl (xs := tcells (HostS.touchOf s op page b)) qH (by rw [htl]) qZ (by simp [htl, List.extract_eq_take_drop, List.take_of_length_le])) (by first|rfl|exact oneM_u8 _|exact oneL_u8 _|exact tcells_one _|assumption|(simp [oneC]; done)) (by omega) qS ?_; intro a3 c3
    refine Zg3 ⟨(fun hh => Bool.noConfusion hh), ?_⟩
    refine W2 ?_
    refine Ziq rfl ?_
    refine Zhw rfl rfl qR qZ (rfl) ?_
    refine Zg3 ⟨(fun hh => Bool.noConfusion hh), ?_⟩
    refine Zik ?_
    refine Ct.o ?_
    have hll : (HostS.logged s op page b).log.length = (HostS.taken s).log.length + 1 := by simp [HostS.logged, HostS.taken]
    have hq : hcl (HostS.logged s op page b) (bl, bc, a3, c3) = (hcl (HostS.taken s) (bl, bc, la, lc)).setIfInBounds 6 (.slice a3 ((HostS.taken s).log.length + 1) c3) := by
      show (#[_, _, _, _, _, _, .slice a3 (HostS.logged s op page b).log.length c3, _] : Array Value) = _
      rw [hll]; rfl
    have hw : ownLog a3 c3 (HostS.logged s op page b).log = own 158 15 (.slice a3 ((HostS.taken s).log.length + 1) c3) ((HostS.taken s).log.length + 1) ((HostS.taken s).log.flatMap tcells ++ tcells (HostS.touchOf s op page b)) := by
      unfold ownLog
      rw [hll]
      congr 1
      show (s.log ++ [HostS.touchOf s op page b]).flatMap tcells = _
      rw [List.flatMap_append]; simp; rfl
    have hmk := hostA_mk (p := p) (c := (bl, bc, a3, c3)) (L := faultsA (.slice fa fl.length fc) fl :: L) (hok_logged (op := op) (page := page) (b := b) hs)
    simp only [List.cons_append, List.nil_append] at hmk
    rw [hq, hw] at hmk
    refine Zgp ((Imp.arr qV).trans hmk) ?_
    refine Y3 ?_
    refine Zh8 rfl hF (hact (.slice fa fl.length fc)) rfl qT ?_; rintro _ _ rfl; refine Zg2 qA ?_
    refine V1 ?_
    have hok2 := hact2 hs (hok_logged hs)
    generalize act (HostS.logged s op page b) = s2 at *
    refine V5 ?_
    refine Zgo [(10, 10), (15, 15), (77, 87)] (by kernel_rfl) (fun i : Nat => i ≤ fl.length ∧ HostS.behind (fl.take i) = false) (fun _ => hostA p s2 :: faultsA (.slice fa fl.length fc) fl :: L2) (fun i => [(77, nvv i)]) (fun i => fl.length - i) 0 ⟨Nat.zero_le _, by with_unfolding_all rfl⟩ qI ⟨rfl, trivial⟩ ?_
    rintro j u2 ⟨hj, hno⟩
    refine V3 ?_
    refine Zgg rfl (fun hC => ?_) (fun hC => ?_)
    · refine Zgt (fun F w H => (fault_rd (M := _) qH).someAt (by omega) H) ?_
      rintro ⟨f1, f2, rfl⟩
      refine Y2 ?_
      refine Zfg rfl (((fault_rd qH).agN fcells_len (by omega) hC)) ?_
      refine Zhz (cs := #[.int .i64 0, .int .i64 0, .int .i64 0, .int .i64 0, u8b 0#8, .int .i64 0]) rfl ?_; intro b15
      first|refine Zhy rfl rfl qR qZ (by first|rfl|exact oneM_u8 _|exact oneL_u8 _|exact tcells_one _|assumption|(simp [oneC]; done)) qZ ?_|refine Zhx rfl rfl qR qZ (by first|rfl|exact oneM_u8 _|exact oneL_u8 _|exact tcells_one _|assumption|(simp [oneC]; done)) qZ rfl ?_
      refine V1 ?_
      by_cases h4 : fl[j].kind = 4
      · have hbh : HostS.behind fl = true := by
          with_unfolding_all unfold HostS.behind
          exact List.any_eq_true.2 ⟨_, List.getElem_mem hC, by simp [h4]⟩
        rw [if_pos hbh]
        refine Y2 ?_
        refine Zhp rfl qH ((by rfl)) ?_
        refine Zhg (Zbr (a := fl[j].kind) (b := 4) rfl rfl) ?_
        refine Zos 83 rfl (h4) ?_
        refine V2 ?_
        refine Zgp (Imp.arr (N := hostA p s2 :: L2) qV) ?_
        refine x_hostA fun t hs2 => ?_
        obtain ⟨bl', bc', la', lc'⟩ := t
        simp only [List.cons_append, List.nil_append]
        refine Y4 ?_
        refine Zht rfl rfl qR qZ (rfl) ?_
        refine V4 ?_
        refine rx1 (Zg9 rfl (Zg7)) ?_
        exact ⟨_, ⟨rfl, rfl⟩, (Imp.arr (N := hostP p { s2 with down := true } (bl', bc', la', lc') ++ L2) qV).trans (hostA_mk (ok_down true hok2))⟩
      · refine Y2 ?_
        refine Zhp rfl qH ((by rfl)) ?_
        refine Zhg (Zbr (a := fl[j].kind) (b := 4) rfl rfl) ?_
        refine Zot 83 rfl (h4) ?_
        refine V6 ?_
        exact Zgl (j + 1) qO ⟨by omega, by rw [behind_take fl j hC, hno]; simp [h4]⟩ qI ⟨rfl, trivial⟩
    · have hje : j = fl.length := by omega
      subst hje
      rw [List.take_length] at hno
      rw [if_neg (by rw [hno]; simp)]
      refine V3 ?_
      refine rx1 (Zg9 rfl (Zg7)) ?_
      exact ⟨_, ⟨rfl, rfl⟩, qI⟩
end
end Go.Sl
namespace Go.Sl
open Go Go.Proofs
attribute [local irreducible] pt old pur ex all den denOps denS xOps xC cX CX xthen xblk xcut xloop xng retX resX Calls PV Rd Con
attribute [local irreducible] hostA omap ohole oheld rowsA faultsA HostS.spoil1 HostS.back
section
variable {p : Nat} {s : HostS.HS} {L : List Asrt}
theorem spoil_tk (page : Int) (fl : List HostS.Fault) (i : Nat) (hi : i < fl.length) : (fl.take (i + 1)).foldl (HostS.spoil1 s page) (HostS.back s page 0) = HostS.spoil1 s page ((fl.take i).foldl (HostS.spoil1 s page) (HostS.back s page 0)) fl[i] := take_fold page _ fl i hi
theorem own_put {g c n k : Nat} {b : List Byte} {rest : List Value} {v : Byte} {M : List Asrt} (hn : b.length = n) (hk : k < n) (hnc : n ≤ c) (hcm : c ≤ 9223372036854775807) (hr : rest.length + n * 1 = c * 1) : Imp (cl g ((b.map u8b ++ rest).toArray.setIfInBounds k (u8b v)) 5 :: M) (ownB (some ⟨g, 0, none⟩) c (b.set k v) :: M) := by
  have h := Imp.own_mk (E := 5) (size := 1) (n := (b.set k v).length) (cap := c) (g := g) (cur := (b.map u8b ++ rest).toArray.setIfInBounds k (u8b v)) (xs := (b.set k v).map u8b) (M := M) (by simp; omega) hcm (by simp; omega) (by
    simp [List.set_append, hn, hk, List.take_append, List.take_of_length_le, List.map_set])
  exact h
theorem spoilt_x {fv : Value} {fl : List HostS.Fault} (page : Int) (hf : Rd L 6 fv fl.length (fl.flatMap fcells)) (hfo : ∀ f ∈ fl, HostS.FOk f) (hfl : fl.length ≤ 9223372036854775806) (hops : s.ops ≤ 3518437208880) :
    Con Tryz.prog 298 [hp p, .int .i64 page, fv] (hostA p s :: L) (fun r M => ∃ a c, r = .slice a (HostS.spoilt s page fl).length c ∧ M = ownB a c (HostS.spoilt s page fl) :: hostA p s :: L) := by
  refine Con.get (fun w0 w F H => hf.len (H.enx Imp.tail)) ?_
  rintro ⟨fa, fc, rfl⟩
  refine Con.get (fun w0 w F H => host_ok .here H) ?_
  intro hs
  have hz1 := hs.z1
  have hlen := fun i => spoil_len hs page (fl.take i) (HostS.back s page 0) (back_len hs page 0)
  refine fn_y Tryz.func298 Tryz.mixed ?_
  intro w0
  refine Y6 ?_
  refine Zor (c := back_x page 0 (by omega) hops) (k := ?_)
  rintro _ _ ⟨a0, c0, rfl, rfl⟩
  refine V8 ?_
  refine Zgo [(7, 7), (9, 9), (15, 59)] (by kernel_rfl) (fun z : Nat × Option Addr × Nat => z.1 ≤ fl.length) (fun z => ownB z.2.1 z.2.2 ((fl.take z.1).foldl (HostS.spoil1 s page) (HostS.back s page 0)) :: hostA p s :: L) (fun z => [(15, nvv z.1), (7, .slice z.2.1 ((fl.take z.1).foldl (HostS.spoil1 s page) (HostS.back s page 0)).length z.2.2)]) (fun z => fl.length - z.1) (0, a0, c0) (Nat.zero_le _) qI ⟨rfl, rfl, trivial⟩ ?_
  rintro ⟨i, a, c⟩ u hi
  dsimp only at hi ⊢
  refine V3 ?_
  refine Zgg rfl (fun hB => ?_) (fun hB => ?_)
  · have htk := spoil_tk (s := s) page fl i hB
    have hli := hlen i
    have hfi := hfo _ (List.getElem_mem hB)
    generalize (fl.take i).foldl (HostS.spoil1 s page) (HostS.back s page 0) = b at *
    refine Zgt (fun F w H => (hf.imp (Imp.arr (M := _) qV)).someAt (by omega) H) ?_
    rintro ⟨f1, f2, rfl⟩
    have hone := fault_one fl[i]
    refine Y2 ?_
    refine Zfg rfl ((hf.imp qI).agN fcells_len (by omega) hB) ?_
    refine Zhz (cs := #[.int .i64 0, .int .i64 0, .int .i64 0, .int .i64 0, u8b 0#8, .int .i64 0]) rfl ?_; intro b9
    first|refine Zhy rfl rfl qR qZ (by first|rfl|exact oneM_u8 _|exact oneL_u8 _|exact tcells_one _|assumption|(simp [oneC]; done)) qZ ?_|refine Zhx rfl rfl qR qZ (by first|rfl|exact oneM_u8 _|exact oneL_u8 _|exact tcells_one _|assumption|(simp [oneC]; done)) qZ rfl ?_
    refine V1 ?_
    by_cases k0 : fl[i].kind = 0
    · by_cases hby : 0 ≤ fl[i].byte ∧ fl[i].byte < (b.length : Int)
      · obtain ⟨k, hk⟩ : ∃ k : Nat, fl[i].byte = k := ⟨fl[i].byte.toNat, by omega⟩
        have hkl : k < b.length := by omega
        have e : HostS.spoil1 s page b fl[i] = b.set k (b[k] ^^^ fl[i].by_) := by
          with_unfolding_all unfold HostS.spoil1
          rw [if_pos k0, if_pos hby, hk]
          simp [hkl]
        rw [e] at htk
        refine Y2 ?_
        refine Zhp rfl qH ((by rfl)) ?_
        refine Y2 ?_
        refine Zhg (Zbr (a := fl[i].kind) (b := 0) rfl rfl) ?_
        refine Zos 22 rfl (k0) ?_
        refine Y5 ?_
        refine Zhp rfl qH ((by rfl)) ?_
        refine Zhg (Zbq (a := fl[i].byte) (b := 0) rfl rfl) ?_
        refine Zos 25 rfl (hby.1) ?_
        refine Y2 ?_
        first|refine Y0 ?_|(refine Zhh rfl ?_; (refine Zhp rfl qH ((by rfl)) ?_))
        refine Y2 ?_
        first|refine Y0 ?_|(refine Zhh rfl ?_; (refine Zhg (Zbn (a := fl[i].byte) (b := (b.length : Int)) rfl rfl) ?_))
        refine Zos 31 rfl (hby.2) ?_
        refine V3 ?_
        refine Znz (E := 5) (sz := 1) (n := b.length) (a := a) (cp := c) qH (by omega) ?_
        rintro g rest rfl hnc hcm hr
        have hg : (b.map u8b ++ rest).toArray[k]? = some (u8b b[k]) := by simp [List.getElem?_append, hkl]
        have hsz : (b.map u8b ++ rest).toArray.size = c := by simp; omega
        refine Ct.o ?_
        refine Zij ([cl g (b.map u8b ++ rest).toArray 5, cl b9 (fcells fl[i]).toArray 119]) [6] (.q 0 (.q 1 (.q 5 (.r 2 (.q 3 (.r 4 (.r 6 (.q 7 (.q 8 (.e 9 false .nil)))))))))) (by kernel_rfl) (by kernel_rfl) (Imp.arr qV) ?_
        refine W3 ?_
        refine Ziv rfl rfl qH ((by rfl)) ?_
        refine Zim rfl (Zl4 (n := k) rfl (int_eq hk) hkl) ?_
        refine Ziv rfl rfl qH (hg) ?_
        refine Ziv rfl rfl qH ((by rfl)) ?_
        refine W1 ?_
        refine Zim rfl (Zl4 (n := k) rfl (int_eq hk) hkl) ?_
        refine Ziq rfl ?_
        refine Y1 ?_
        refine Zg3 ⟨(fun hh => Bool.noConfusion hh), ?_⟩
        refine Zik ?_
        refine Ct.o ?_
        have hpt := own_put (g := g) (c := c) (n := b.length) (k := k) (b := b) (rest := rest) (v := b[k] ^^^ fl[i].by_) (M := hostA p s :: L) rfl hkl hnc hcm hr
        refine V4 ?_
        refine Zgl (i + 1, some ⟨g, 0, none⟩, c) qO (by dsimp only; omega) ((Imp.arr (N := cl g ((b.map u8b ++ rest).toArray.setIfInBounds k (u8b (b[k] ^^^ fl[i].by_))) 5 :: hostA p s :: L) qV).trans (by dsimp only; rw [htk]; exact hpt)) ⟨rfl, ?_, trivial⟩
        dsimp only
        rw [htk, List.length_set]; rfl
      · have e : HostS.spoil1 s page b fl[i] = b := by
          with_unfolding_all unfold HostS.spoil1
          rw [if_pos k0, if_neg hby]
        rw [e] at htk
        refine Y2 ?_
        refine Zhp rfl qH ((by rfl)) ?_
        refine Y2 ?_
        refine Zhg (Zbr (a := fl[i].kind) (b := 0) rfl rfl) ?_
        refine Zos 22 rfl (k0) ?_
        refine V3 ?_
        by_cases hb0 : 0 ≤ fl[i].byte
        · refine Y2 ?_
          refine Zhp rfl qH ((by rfl)) ?_
          refine Zhg (Zbq (a := fl[i].byte) (b := 0) rfl rfl) ?_
          refine Zos 25 rfl (hb0) ?_
          refine Y2 ?_
          first|refine Y0 ?_|(refine Zhh rfl ?_; (refine Zhp rfl qH ((by rfl)) ?_))
          refine Y2 ?_
          first|refine Y0 ?_|(refine Zhh rfl ?_; (refine Zhg (Zbn (a := fl[i].byte) (b := (b.length : Int)) rfl rfl) ?_))
          refine Zot 31 rfl (fun hh => hby ⟨hb0, hh⟩) ?_
          refine V7 ?_
          exact Zgl (i + 1, a, c) qO (by dsimp only; omega) (by dsimp only; rw [htk]; exact qI) ⟨rfl, by dsimp only; rw [htk]; rfl, trivial⟩
        · refine Y2 ?_
          refine Zhp rfl qH ((by rfl)) ?_
          refine Zhg (Zbq (a := fl[i].byte) (b := 0) rfl rfl) ?_
          refine Zot 25 rfl (hb0) ?_
          refine V13 ?_
          exact Zgl (i + 1, a, c) qO (by dsimp only; omega) (by dsimp only; rw [htk]; exact qI) ⟨rfl, by dsimp only; rw [htk]; rfl, trivial⟩
    by_cases k1 : fl[i].kind = 1
    · have e : HostS.spoil1 s page b fl[i] = HostS.back s page fl[i].back := by
        with_unfolding_all unfold HostS.spoil1
        rw [if_neg k0, if_pos k1]
      rw [e] at htk
      refine Y2 ?_
      refine Zhp rfl qH ((by rfl)) ?_
      refine Y2 ?_
      refine Zhg (Zbr (a := fl[i].kind) (b := 0) rfl rfl) ?_
      refine Zot 22 rfl (k0) ?_
      refine Y4 ?_
      refine Zhg (Zbr (a := fl[i].kind) (b := 1) rfl rfl) ?_
      refine Zos 43 rfl (k1) ?_
      refine Y7 ?_
      refine Zhp rfl qH ((by rfl)) ?_
      refine Zor (c := back_x page fl[i].back ⟨hfi.b0, hfi.b1⟩ hops) (k := ?_)
      rintro _ _ ⟨a2, c2, rfl, rfl⟩
      refine V7 ?_
      exact Zgl (i + 1, a2, c2) qO (by dsimp only; omega) (by dsimp only; rw [htk]; exact qI) ⟨rfl, by dsimp only; rw [htk]; rfl, trivial⟩
    by_cases k2 : fl[i].kind = 2
    · by_cases hth : HostS.there s fl[i].page
      · have e : HostS.spoil1 s page b fl[i] = HostS.back s fl[i].page 0 := by
          with_unfolding_all unfold HostS.spoil1
          rw [if_neg k0, if_neg k1, if_pos k2, if_pos hth]
        rw [e] at htk
        refine Y2 ?_
        refine Zhp rfl qH ((by rfl)) ?_
        refine Y2 ?_
        refine Zhg (Zbr (a := fl[i].kind) (b := 0) rfl rfl) ?_
        refine Zot 22 rfl (k0) ?_
        refine Y4 ?_
        refine Zhg (Zbr (a := fl[i].kind) (b := 1) rfl rfl) ?_
        refine Zot 43 rfl (k1) ?_
        refine Y4 ?_
        refine Zhg (Zbr (a := fl[i].kind) (b := 2) rfl rfl) ?_
        refine Zos 50 rfl (k2) ?_
        refine Y6 ?_
        refine Zhp rfl qH ((by rfl)) ?_
        refine Zor (c := there_x fl[i].page) (k := ?_)
        rintro _ _ ⟨rfl, rfl⟩
        refine Y1 ?_
        refine Zos 54 rfl (hth) ?_
        refine Y5 ?_
        refine Zhp rfl qH ((by rfl)) ?_
        refine Zor (c := back_x fl[i].page 0 (by omega) hops) (k := ?_)
        rintro _ _ ⟨a2, c2, rfl, rfl⟩
        refine V7 ?_
        exact Zgl (i + 1, a2, c2) qO (by dsimp only; omega) (by dsimp only; rw [htk]; exact qI) ⟨rfl, by dsimp only; rw [htk]; rfl, trivial⟩
      · have e : HostS.spoil1 s page b fl[i] = b := by
          with_unfolding_all unfold HostS.spoil1
          rw [if_neg k0, if_neg k1, if_pos k2, if_neg hth]
        rw [e] at htk
        refine Y2 ?_
        refine Zhp rfl qH ((by rfl)) ?_
        refine Y2 ?_
        refine Zhg (Zbr (a := fl[i].kind) (b := 0) rfl rfl) ?_
        refine Zot 22 rfl (k0) ?_
        refine Y4 ?_
        refine Zhg (Zbr (a := fl[i].kind) (b := 1) rfl rfl) ?_
        refine Zot 43 rfl (k1) ?_
        refine Y4 ?_
        refine Zhg (Zbr (a := fl[i].kind) (b := 2) rfl rfl) ?_
        refine Zos 50 rfl (k2) ?_
        refine Y6 ?_
        refine Zhp rfl qH ((by rfl)) ?_
        refine Zor (c := there_x fl[i].page) (k := ?_)
        rintro _ _ ⟨rfl, rfl⟩
        refine Y1 ?_
        refine Zot 54 rfl (hth) ?_
        refine V6 ?_
        exact Zgl (i + 1, a, c) qO (by dsimp only; omega) (by dsimp only; rw [htk]; exact qI) ⟨rfl, by dsimp only; rw [htk]; rfl, trivial⟩
    · have e : HostS.spoil1 s page b fl[i] = b := by
        with_unfolding_all unfold HostS.spoil1
        rw [if_neg k0, if_neg k1, if_neg k2]
      rw [e] at htk
      refine Y2 ?_
      refine Zhp rfl qH ((by rfl)) ?_
      refine Y2 ?_
      refine Zhg (Zbr (a := fl[i].kind) (b := 0) rfl rfl) ?_
      refine Zot 22 rfl (k0) ?_
      refine Y4 ?_
      refine Zhg (Zbr (a := fl[i].kind) (b := 1) rfl rfl) ?_
      refine Zot 43 rfl (k1) ?_
      refine Y4 ?_
      refine Zhg (Zbr (a := fl[i].kind) (b := 2) rfl rfl) ?_
      refine Zot 50 rfl (k2) ?_
      refine V7 ?_
      exact Zgl (i + 1, a, c) qO (by dsimp only; omega) (by dsimp only; rw [htk]; exact qI) ⟨rfl, by dsimp only; rw [htk]; rfl, trivial⟩
  · have hie : i = fl.length := by omega
    subst hie
    rw [List.take_length]
    refine V4 ?_
    refine rx1 (Zhc rfl (Zg7)) ?_
    exact ⟨_, ⟨a, c, rfl, rfl⟩, qI⟩
abbrev readX (p : Nat) (page : Int) (n : Nat) (x : List Byte) (b2 b3 b6 : Nat) (t : Option Addr × Nat) : Asrt := all [cl b6 #[.slice t.1 n t.2] 66, own 5 1 (.slice t.1 n t.2) n (x.map u8b)]
theorem readf_x {page : Int} {b2 b3 b6 : Nat} {fv : Value} {fl : List HostS.Fault} {v0 : Value} (hfo : ∀ f ∈ fl, HostS.FOk f) (hfl : fl.length ≤ 9223372036854775806) (hops : s.ops ≤ 3518437208880) :
    Con Tryz.prog 297 [fv, .pointer (some ⟨b2, 0, none⟩), .pointer (some ⟨b3, 0, none⟩), .pointer (some ⟨b6, 0, none⟩)] (hostA p s :: faultsA fv fl :: [cl b2 #[hp p] 32, cl b3 #[.int .i64 page] 3, cl b6 #[v0] 66])
      (fun _ M => M = hostA p s :: faultsA fv fl :: [cl b2 #[hp p] 32, cl b3 #[.int .i64 page] 3, ex (readX p page (HostS.spoilt s page fl).length (HostS.spoilt s page fl) b2 b3 b6)]) := by
  refine Con.get (fun w0 w F H => faults_len (.there .here) H) ?_
  rintro ⟨fa, fc, rfl⟩
  refine fn_y Tryz.func297 Tryz.mixed ?_
  intro w0
  refine Y4 ?_
  refine Zor (c := spoilt_x (L := [faultsA (.slice fa fl.length fc) fl]) page (fault_rd .here) hfo hfl hops) (k := ?_)
  rintro _ _ ⟨a, c, rfl, rfl⟩
  refine V3 ?_
  refine rx0n ?_
  refine ⟨_, rfl, ?_⟩
  have h1 : Imp ([cl b6 #[.slice a (HostS.spoilt s page fl).length c] 66, ownB a c (HostS.spoilt s page fl)] ++ [hostA p s, faultsA (.slice fa fl.length fc) fl, cl b2 #[hp p] 32, cl b3 #[.int .i64 page] 3]) (ex (readX p page (HostS.spoilt s page fl).length (HostS.spoilt s page fl) b2 b3 b6) :: [hostA p s, faultsA (.slice fa fl.length fc) fl, cl b2 #[hp p] 32, cl b3 #[.int .i64 page] 3]) :=
    (Imp.app (L := [cl b6 #[.slice a (HostS.spoilt s page fl).length c] 66, ownB a c (HostS.spoilt s page fl)])).trans (Imp.exI (A := readX p page (HostS.spoilt s page fl).length (HostS.spoilt s page fl) b2 b3 b6) (a, c))
  simp only [List.cons_append, List.nil_append] at h1
  exact ((Imp.arr qV).trans h1).trans qI
theorem spoilt_lg (op page : Int) (b : HostS.Bytes) (q : Int) (fl : List HostS.Fault) : HostS.spoilt (HostS.logged s op page b) q fl = HostS.spoilt s q fl := by with_unfolding_all rfl
theorem read_x (page : Int) (hops : s.ops < 3518437208880) :
    Con Tryz.prog 292 [hp p, .int .i64 page] [hostA p s] (fun v M => ∃ a c, v = .tuple #[.slice a (HostS.readR s page).1.length c, nvv (HostS.readR s page).2.1] ∧ M = [ownB a c (HostS.readR s page).1, hostA p (HostS.readR s page).2.2]) := by
  refine Con.get (fun w0 w F H => host_ok .here H) ?_
  intro hs
  by_cases ht : HostS.there s page
  · by_cases hd : HostS.done s = true
    · have hy := fun b2 b3 b6 : Nat => does_yes (p := p) (s := s) (L := [cl b2 #[hp p] 32, cl b3 #[.int .i64 page] 3, cl b6 #[.slice none 0 0] 66]) (L2 := [cl b2 #[hp p] 32, cl b3 #[.int .i64 page] 3, ex (readX p page (HostS.spoilt s page (s.coming s.ops)).length (HostS.spoilt s page (s.coming s.ops)) b2 b3 b6)]) (F := 297) (cs := [.pointer (some ⟨b2, 0, none⟩), .pointer (some ⟨b3, 0, none⟩), .pointer (some ⟨b6, 0, none⟩)]) (b := []) (bv := .slice none 0 0) 0 page id Bs.nil (by simp) hd hops (by kernel_rfl) (fun _ h => h) (by
        show s.down = false
        unfold HostS.done at hd
        cases h : s.down with
        | false => rfl
        | true => rw [h] at hd; simp at hd) (fun fv => by
        have hh := readf_x (p := p) (s := HostS.logged s 0 page []) (page := page) (b2 := b2) (b3 := b3) (b6 := b6) (fv := fv) (fl := s.coming s.ops) (v0 := .slice none 0 0) (hs.flt _) (by have := hs.fln s.ops; omega) (by show s.ops + 1 ≤ _; omega)
        rw [spoilt_lg] at hh
        exact hh)
      have er : HostS.readR s page = if (HostS.does s 0 page [] id).2 = 0 then (HostS.spoilt s page (s.coming s.ops), 0, (HostS.does s 0 page [] id).1) else ([], (HostS.does s 0 page [] id).2, (HostS.does s 0 page [] id).1) := by
        unfold HostS.readR
        rw [if_pos ht]
      rw [er]
      generalize HostS.does s 0 page [] id = q at *
      refine fn_y Tryz.func292 Tryz.mixed ?_
      intro w0
      refine Y1 ?_
      refine Zh3 rfl ?_; intro b2
      refine Zh1 rfl ?_; intro b3
      refine Y6 ?_
      refine Zhn 9 rfl (rfl) ?_
      refine Y5 ?_
      refine Zor (c := there_x page) (k := ?_)
      rintro _ _ ⟨rfl, rfl⟩
      refine Y1 ?_
      refine Zhg (Zb0 rfl) ?_
      refine Zhn 13 rfl ((by rw [decide_eq_true ht]; rfl)) ?_
      refine Y3 ?_
      refine Zhz (cs := #[.slice none 0 0]) rfl ?_; intro b6
      refine Y5 ?_
      refine Zor (c := hy b2 b3 b6) (k := ?_)
      rintro _ _ ⟨rfl, rfl⟩
      refine V3 ?_
      by_cases h0 : q.2 = 0
      · rw [if_pos h0]
        refine Y3 ?_
        refine Zot 19 rfl (fun hh => hh h0) ?_
        refine V2 ?_
        refine Zgp (Imp.arr (N := ex (readX p page (HostS.spoilt s page (s.coming s.ops)).length (HostS.spoilt s page (s.coming s.ops)) b2 b3 b6) :: [hostA p q.1]) qV) ?_
        refine Zgr fun t => Zgs (L := [cl b6 #[.slice t.1 (HostS.spoilt s page (s.coming s.ops)).length t.2] 66, own 5 1 (.slice t.1 (HostS.spoilt s page (s.coming s.ops)).length t.2) (HostS.spoilt s page (s.coming s.ops)).length ((HostS.spoilt s page (s.coming s.ops)).map u8b)]) ?_
        simp only [List.cons_append, List.nil_append]
        refine V5 ?_
        refine rx2 (Zhc rfl (Zg9 rfl (Zg7))) ?_
        exact ⟨_, ⟨t.1, t.2, rfl, rfl⟩, qI⟩
      · rw [if_neg h0]
        refine Y3 ?_
        refine Zos 19 rfl (h0) ?_
        refine V7 ?_
        refine rx2 (Zhc rfl (Zg9 rfl (Zg7))) ?_
        exact ⟨_, ⟨none, 0, rfl, rfl⟩, (Imp.arr (N := [hostA p q.1]) qV).trans Imp.own_nil⟩
    · have hd : HostS.done s = false := by simpa using hd
      have hn := fun b2 b3 b6 : Nat => does_no (p := p) (s := s) (F := 297) (cs := [.pointer (some ⟨b2, 0, none⟩), .pointer (some ⟨b3, 0, none⟩), .pointer (some ⟨b6, 0, none⟩)]) (bv := .slice none 0 0) 0 page [] id hd hops
      have hz := does_zero (s := s) (op := 0) (page := page) (b := []) (act := id) hd
      have er : HostS.readR s page = ([], 110, (HostS.does s 0 page [] id).1) := by
        unfold HostS.readR
        rw [if_pos ht]
        dsimp only
        rw [hz]; rfl
      rw [er]
      generalize HostS.does s 0 page [] id = q at *
      refine fn_y Tryz.func292 Tryz.mixed ?_
      intro w0
      refine Y1 ?_
      refine Zh3 rfl ?_; intro b2
      refine Zh1 rfl ?_; intro b3
      refine Y6 ?_
      refine Zhn 9 rfl (rfl) ?_
      refine Y5 ?_
      refine Zor (c := there_x page) (k := ?_)
      rintro _ _ ⟨rfl, rfl⟩
      refine Y1 ?_
      refine Zhg (Zb0 rfl) ?_
      refine Zhn 13 rfl ((by rw [decide_eq_true ht]; rfl)) ?_
      refine Y3 ?_
      refine Zhz (cs := #[.slice none 0 0]) rfl ?_; intro b6
      refine Y5 ?_
      refine Zor (c := hn b2 b3 b6) (k := ?_)
      rintro _ _ ⟨rfl, rfl⟩
      refine Y6 ?_
      refine Zos 19 rfl ((show (110 : Nat) ≠ 0 by omega)) ?_
      refine V7 ?_
      refine rx2 (Zhc rfl (Zg9 rfl (Zg7))) ?_
      exact ⟨_, ⟨none, 0, rfl, rfl⟩, (Imp.arr (N := [hostA p q.1]) qV).trans Imp.own_nil⟩
  · have er : HostS.readR s page = ([], 2, s) := by
      unfold HostS.readR
      rw [if_neg ht]
    rw [er]
    refine fn_y Tryz.func292 Tryz.mixed ?_
    intro w0
    refine Y1 ?_
    refine Zh3 rfl ?_; intro b2
    refine Zh1 rfl ?_; intro b3
    refine Y6 ?_
    refine Zhn 9 rfl (rfl) ?_
    refine Y5 ?_
    refine Zor (c := there_x page) (k := ?_)
    rintro _ _ ⟨rfl, rfl⟩
    refine Y1 ?_
    refine Zhg (Zb0 rfl) ?_
    refine Zhm 13 rfl ((by rw [decide_eq_false ht]; rfl)) ?_
    refine V6 ?_
    refine rx2 (Zhc rfl (Zg9 rfl (Zg7))) ?_
    exact ⟨_, ⟨none, 0, rfl, rfl⟩, (Imp.arr (N := [hostA p s]) qV).trans Imp.own_nil⟩
end
end Go.Sl
namespace Go.Sl
open Go Go.Proofs
attribute [local irreducible] pt old pur ex all den denOps denS xOps xC cX CX xthen xblk xcut xloop xng retX resX Calls PV Rd Con
attribute [local irreducible] hostA omap ohole oheld rowsA faultsA HostS.spoil1 HostS.back
section
variable {p : Nat} {s : HostS.HS} {L : List Asrt}
theorem writef_x {page : Int} {b3 b4 b5 : Nat} {fv bv : Value} {b : List Byte} {fl : List HostS.Fault} (hb : Bs L bv b) (hbl : b.length ≤ 4124) (hops : s.ops ≤ 3518437208880) (hok : HostS.Ok (HostS.wrote page b s)) :
    Con Tryz.prog 299 [fv, .pointer (some ⟨b3, 0, none⟩), .pointer (some ⟨b4, 0, none⟩), .pointer (some ⟨b5, 0, none⟩)] (hostA p s :: faultsA fv fl :: cl b3 #[hp p] 32 :: cl b4 #[.int .i64 page] 3 :: cl b5 #[bv] 66 :: L)
      (fun _ M => M = hostA p (HostS.wrote page b s) :: faultsA fv fl :: cl b3 #[hp p] 32 :: cl b4 #[.int .i64 page] 3 :: cl b5 #[bv] 66 :: L) := by
  refine Con.get (fun w0 w F H => hb.sh _ _ _ (H.enx (Imp.tail.trans (Imp.tail.trans (Imp.tail.trans (Imp.tail.trans Imp.tail)))))) ?_
  rintro ⟨ba, bcp, rfl, hbc, hbcm⟩
  refine Con.hostA fun c hs => ?_
  obtain ⟨bl, bc, la, lc⟩ := c
  simp only [List.cons_append, List.nil_append, List.append_nil]
  have hmany := hs.many page
  refine fn_y Tryz.func299 Tryz.mixed ?_
  intro w0
  refine Zgp (Imp.arr (N := omap bl rowsA [] s.lay :: cl p (hcl s (bl, bc, la, lc)) 141 :: omap bc faultsA [] s.coming :: ownLog la lc s.log :: faultsA fv fl :: cl b3 #[hp p] 32 :: cl b4 #[.int .i64 page] 3 :: cl b5 #[.slice ba b.length bcp] 66 :: L) qV) ?_
  refine Zom rows_nil page ?_
  intro v
  refine x_rows fun vs hvs => ?_
  have hvl : vs.length = (s.lay page).length := by rw [← hvs, List.length_map]
  refine Zgt (fun F w H => own_shape (H.pick (.there .here))) ?_
  rintro ⟨ra, rc, rfl, hrc, hrcm⟩
  refine Zgp (Imp.own_nil (E := 5) (size := 1)) ?_
  refine Ct.o ?_
  refine Zij ([cl p (hcl s (bl, bc, la, lc)) 141, cl b3 #[hp p] 32, cl b4 #[.int .i64 page] 3, cl b5 #[.slice ba b.length bcp] 66, ohole bl rowsA [] s.lay page (.slice ra vs.length rc)]) [4, 5, 6, 7, 8, 9, 10, 11, 12, 13, 14] (.r 0 (.q 1 (.q 2 (.r 3 (.r 4 (.r 5 (.r 6 (.r 7 (.r 8 (.r 9 (.r 10 (.r 11 (.e 12 true (.e 13 true (.e 14 true (.e 15 false .nil)))))))))))))))) (by kernel_rfl) (by kernel_rfl) (Imp.arr qV) ?_
  refine W10 ?_
  refine Zon rfl rfl rfl qH ?_
  refine W1 ?_
  refine Ziq rfl ?_
  refine Zia rfl rfl qH (hb.rd.imp qI) (by first|rfl|exact oneM_u8 _|exact oneL_u8 _|exact tcells_one _|assumption|(simp [oneC]; done)) (by omega) qS ?_; intro a2 c2
  refine Zg3 ⟨fun _ => Imp.arr qV, ?_⟩
  refine Ziq rfl ?_
  refine Zh7 (cs := #[.slice _ _ _]) (by omega) (by omega) rfl ?_; intro b18
  refine Zg3 ⟨fun _ => Imp.arr qV, ?_⟩
  refine Ziq rfl ?_
  refine Zia rfl rfl qH (Rd.cl (xs := [.slice a2 (0 + b.length) c2]) qH rfl qZ rfl) (by first|rfl|exact oneM_u8 _|exact oneL_u8 _|exact tcells_one _|assumption|(simp [oneC]; done)) (by omega) qS ?_; intro a3 c3
  refine Zg3 ⟨fun _ => Imp.arr qV, ?_⟩
  refine Ziq rfl ?_; refine Zih rfl rfl rfl qR ?_; refine Zg3 ⟨(fun hh => Bool.noConfusion hh), ?_⟩
  refine Zik ?_
  refine Ct.o ?_
  rw [Nat.zero_add, List.nil_append]
  refine rx0n ?_
  refine ⟨_, rfl, ?_⟩
  have e1 : (vs ++ [((.slice a2 b.length c2 : Value), b)]).length = vs.length + 1 := by simp
  have e2 : (vs ++ [((.slice a2 b.length c2 : Value), b)]).map (·.1) = vs.map (·.1) ++ [.slice a2 b.length c2] := by simp
  have e3 : (vs ++ [((.slice a2 b.length c2 : Value), b)]).map (·.2) = s.lay page ++ [b] := by simp [hvs]
  have h1 : Imp (rowE ((.slice a2 b.length c2 : Value), b) :: star rowE vs :: own 66 1 (.slice a3 (vs.length + 1) c3) (vs.length + 1) (vs.map (·.1) ++ [.slice a2 b.length c2]) :: oheld bl rowsA [] s.lay page (.slice a3 (vs.length + 1) c3) :: cl p (hcl s (bl, bc, la, lc)) 141 :: omap bc faultsA [] s.coming :: ownLog la lc s.log :: faultsA fv fl :: cl b3 #[hp p] 32 :: cl b4 #[.int .i64 page] 3 :: cl b5 #[.slice ba b.length bcp] 66 :: L) (hostA p (HostS.wrote page b s) :: faultsA fv fl :: cl b3 #[hp p] 32 :: cl b4 #[.int .i64 page] 3 :: cl b5 #[.slice ba b.length bcp] 66 :: L) := by
    refine star_snoc.trans ?_
    have h2 := rows_mk (v := .slice a3 (vs.length + 1) c3) (L := oheld bl rowsA [] s.lay page (.slice a3 (vs.length + 1) c3) :: cl p (hcl s (bl, bc, la, lc)) 141 :: omap bc faultsA [] s.coming :: ownLog la lc s.log :: faultsA fv fl :: cl b3 #[hp p] 32 :: cl b4 #[.int .i64 page] 3 :: cl b5 #[.slice ba b.length bcp] 66 :: L) e3
    rw [e1, e2] at h2
    have h3 := hostA_mk (p := p) (c := (bl, bc, la, lc)) (L := faultsA fv fl :: cl b3 #[hp p] 32 :: cl b4 #[.int .i64 page] 3 :: cl b5 #[.slice ba b.length bcp] 66 :: L) hok
    simp only [List.cons_append, List.nil_append] at h3
    exact (Imp.swap.trans h2).trans (Imp.oheld_close.trans ((Imp.arr qV).trans h3))
  exact (Imp.arr qV).trans h1
theorem write_x (page : Int) {bv : Value} {b : List Byte} (hb : Bs L bv b) (hops : s.ops < 3518437208880) (hlen : b.length < 9223372036854775808) :
    Con Tryz.prog 294 [hp p, .int .i64 page, bv] (hostA p s :: L) (fun v M => v = nvv (HostS.writeR s page b).1 ∧ M = hostA p (HostS.writeR s page b).2 :: L) := by
  refine Con.get (fun w0 w F H => host_ok .here H) ?_
  intro hs
  refine Con.get (fun w0 w F H => hb.sh _ _ _ (H.enx Imp.tail)) ?_
  rintro ⟨ba, bcp, rfl, hbc, hbcm⟩
  by_cases ht : HostS.there s page
  · by_cases hl : b.length = s.size
    · have er : HostS.writeR s page b = ((HostS.does s 1 page b (HostS.wrote page b)).2, (HostS.does s 1 page b (HostS.wrote page b)).1) := by
        unfold HostS.writeR
        rw [if_pos ht, if_pos hl]
      rw [er]
      have hz1 := hs.z1
      by_cases hd : HostS.done s = true
      · have hy := fun b3 b4 b5 : Nat => does_yes (p := p) (s := s) (L := cl b3 #[hp p] 32 :: cl b4 #[.int .i64 page] 3 :: cl b5 #[.slice ba b.length bcp] 66 :: L) (L2 := cl b3 #[hp p] 32 :: cl b4 #[.int .i64 page] 3 :: cl b5 #[.slice ba b.length bcp] 66 :: L) (F := 299) (cs := [.pointer (some ⟨b3, 0, none⟩), .pointer (some ⟨b4, 0, none⟩), .pointer (some ⟨b5, 0, none⟩)]) (b := b) (bv := .slice ba b.length bcp) 1 page (HostS.wrote page b) (hb.imp (Imp.tail.trans (Imp.tail.trans Imp.tail))) (by omega) hd hops (by kernel_rfl) (fun h0 h1 => ok_wrote page 1 b hl h0 h1) (by
          show s.down = false
          unfold HostS.done at hd
          cases h : s.down with
          | false => rfl
          | true => rw [h] at hd; simp at hd) (fun fv => writef_x (p := p) (s := HostS.logged s 1 page b) (page := page) (b3 := b3) (b4 := b4) (b5 := b5) (fv := fv) (fl := s.coming s.ops) hb (by omega) (by show s.ops + 1 ≤ _; omega) (ok_wrote page 1 b hl hs (hok_logged hs)))
        generalize HostS.does s 1 page b (HostS.wrote page b) = q at *
        refine fn_y Tryz.func294 Tryz.mixed ?_
        intro w0
        refine Y1 ?_
        refine Zh3 rfl ?_; intro b3
        refine Zh1 rfl ?_; intro b4
        refine Zh4 rfl ?_; intro b5
        refine Y5 ?_
        refine Zhn 9 rfl (rfl) ?_
        refine Y6 ?_
        refine Zor (c := there_x page) (k := ?_)
        rintro _ _ ⟨rfl, rfl⟩
        refine Y1 ?_
        refine Zhg (Zb0 rfl) ?_
        refine Zhn 14 rfl ((by rw [decide_eq_true ht]; rfl)) ?_
        refine V3 ?_
        refine Zgp (Imp.arr (N := hostA p s :: cl b3 #[hp p] 32 :: cl b4 #[.int .i64 page] 3 :: cl b5 #[.slice ba b.length bcp] 66 :: L) qV) ?_
        refine x_hostA (L := cl b3 #[hp p] 32 :: cl b4 #[.int .i64 page] 3 :: cl b5 #[.slice ba b.length bcp] 66 :: L) fun c hs => ?_
        simp only [List.cons_append, List.nil_append]
        refine Ct.o ?_
        refine Zij ([cl p (hcl s c) 141, cl b3 #[hp p] 32, cl b5 #[.slice ba b.length bcp] 66]) [2, 3, 4, 5] (.r 0 (.q 1 (.r 2 (.r 3 (.r 4 (.r 5 (.q 6 (.q 7 .nil)))))))) (by kernel_rfl) (by kernel_rfl) (Imp.arr qV) ?_
        refine W7 ?_
        refine Zov 22 rfl (fun hh => hh hl) ?_
        refine W2 ?_
        refine V1 ?_
        refine Zgp ((Imp.arr (N := hostP p s c ++ (cl b3 #[hp p] 32 :: cl b4 #[.int .i64 page] 3 :: cl b5 #[.slice ba b.length bcp] 66 :: L)) qV).trans (hostA_mk hs)) ?_
        refine Y5 ?_
        refine Zor (c := hy b3 b4 b5) (k := ?_)
        rintro _ _ ⟨rfl, rfl⟩
        refine V3 ?_
        refine rx1 (Zg9 rfl (Zg7)) ?_
        exact ⟨_, ⟨rfl, rfl⟩, qI⟩
      · have hd : HostS.done s = false := by simpa using hd
        have hn := fun b3 b4 b5 : Nat => does_no (p := p) (s := s) (F := 299) (cs := [.pointer (some ⟨b3, 0, none⟩), .pointer (some ⟨b4, 0, none⟩), .pointer (some ⟨b5, 0, none⟩)]) (bv := .slice ba b.length bcp) 1 page b (HostS.wrote page b) hd hops
        have hz := does_zero (s := s) (op := 1) (page := page) (b := b) (act := HostS.wrote page b) hd
        rw [hz]
        generalize HostS.does s 1 page b (HostS.wrote page b) = q at *
        refine fn_y Tryz.func294 Tryz.mixed ?_
        intro w0
        refine Y1 ?_
        refine Zh3 rfl ?_; intro b3
        refine Zh1 rfl ?_; intro b4
        refine Zh4 rfl ?_; intro b5
        refine Y5 ?_
        refine Zhn 9 rfl (rfl) ?_
        refine Y6 ?_
        refine Zor (c := there_x page) (k := ?_)
        rintro _ _ ⟨rfl, rfl⟩
        refine Y1 ?_
        refine Zhg (Zb0 rfl) ?_
        refine Zhn 14 rfl ((by rw [decide_eq_true ht]; rfl)) ?_
        refine V3 ?_
        refine Zgp (Imp.arr (N := hostA p s :: cl b3 #[hp p] 32 :: cl b4 #[.int .i64 page] 3 :: cl b5 #[.slice ba b.length bcp] 66 :: L) qV) ?_
        refine x_hostA (L := cl b3 #[hp p] 32 :: cl b4 #[.int .i64 page] 3 :: cl b5 #[.slice ba b.length bcp] 66 :: L) fun c hs => ?_
        simp only [List.cons_append, List.nil_append]
        refine Ct.o ?_
        refine Zij ([cl p (hcl s c) 141, cl b3 #[hp p] 32, cl b5 #[.slice ba b.length bcp] 66]) [2, 3, 4, 5] (.r 0 (.q 1 (.r 2 (.r 3 (.r 4 (.r 5 (.q 6 (.q 7 .nil)))))))) (by kernel_rfl) (by kernel_rfl) (Imp.arr qV) ?_
        refine W7 ?_
        refine Zov 22 rfl (fun hh => hh hl) ?_
        refine W2 ?_
        refine V1 ?_
        refine Zgp ((Imp.arr (N := hostP p s c ++ (cl b3 #[hp p] 32 :: cl b4 #[.int .i64 page] 3 :: cl b5 #[.slice ba b.length bcp] 66 :: L)) qV).trans (hostA_mk hs)) ?_
        refine Y5 ?_
        refine Zor (c := hn b3 b4 b5) (k := ?_)
        rintro _ _ ⟨rfl, rfl⟩
        refine V3 ?_
        refine rx1 (Zg9 rfl (Zg7)) ?_
        exact ⟨_, ⟨rfl, rfl⟩, qI⟩
    · have er : HostS.writeR s page b = (4, s) := by
        unfold HostS.writeR
        rw [if_pos ht, if_neg hl]
      rw [er]
      refine fn_y Tryz.func294 Tryz.mixed ?_
      intro w0
      refine Y1 ?_
      refine Zh3 rfl ?_; intro b3
      refine Zh1 rfl ?_; intro b4
      refine Zh4 rfl ?_; intro b5
      refine Y5 ?_
      refine Zhn 9 rfl (rfl) ?_
      refine Y6 ?_
      refine Zor (c := there_x page) (k := ?_)
      rintro _ _ ⟨rfl, rfl⟩
      refine Y1 ?_
      refine Zhg (Zb0 rfl) ?_
      refine Zhn 14 rfl ((by rw [decide_eq_true ht]; rfl)) ?_
      refine V3 ?_
      refine Zgp (Imp.arr (N := hostA p s :: cl b3 #[hp p] 32 :: cl b4 #[.int .i64 page] 3 :: cl b5 #[.slice ba b.length bcp] 66 :: L) qV) ?_
      refine x_hostA (L := cl b3 #[hp p] 32 :: cl b4 #[.int .i64 page] 3 :: cl b5 #[.slice ba b.length bcp] 66 :: L) fun c hs => ?_
      simp only [List.cons_append, List.nil_append]
      refine Ct.o ?_
      refine Zij ([cl p (hcl s c) 141, cl b3 #[hp p] 32, cl b5 #[.slice ba b.length bcp] 66]) [2, 3, 4, 5] (.r 0 (.q 1 (.r 2 (.r 3 (.r 4 (.r 5 (.q 6 (.q 7 .nil)))))))) (by kernel_rfl) (by kernel_rfl) (Imp.arr qV) ?_
      refine W7 ?_
      refine Zou 22 rfl (hl) ?_
      refine W2 ?_
      refine V4 ?_
      refine rx1 (Zg9 rfl (Zg7)) ?_
      exact ⟨_, ⟨rfl, rfl⟩, (Imp.arr (N := hostP p s c ++ L) qV).trans (hostA_mk hs)⟩
  · have er : HostS.writeR s page b = (2, s) := by
      unfold HostS.writeR
      rw [if_neg ht]
    rw [er]
    refine fn_y Tryz.func294 Tryz.mixed ?_
    intro w0
    refine Y1 ?_
    refine Zh3 rfl ?_; intro b3
    refine Zh1 rfl ?_; intro b4
    refine Zh4 rfl ?_; intro b5
    refine Y5 ?_
    refine Zhn 9 rfl (rfl) ?_
    refine Y6 ?_
    refine Zor (c := there_x page) (k := ?_)
    rintro _ _ ⟨rfl, rfl⟩
    refine Y1 ?_
    refine Zhg (Zb0 rfl) ?_
    refine Zhm 14 rfl ((by rw [decide_eq_false ht]; rfl)) ?_
    refine V6 ?_
    refine rx1 (Zg9 rfl (Zg7)) ?_
    exact ⟨_, ⟨rfl, rfl⟩, qI⟩
end
end Go.Sl
namespace Go.Sl
open Go Go.Proofs
attribute [local irreducible] pt old pur ex all den denOps denS xOps xC cX CX xthen xblk xcut xloop xng retX resX Calls PV Rd Con
attribute [local irreducible] hostA omap ohole oheld rowsA faultsA HostS.back
section
variable {p : Nat} {s : HostS.HS}
theorem ops_x : Con Tryz.prog 66 [hp p] [hostA p s] (fun v M => v = nvv s.ops ∧ M = [hostA p s]) := by
  refine Con.hostA fun c hs => ?_
  simp only [List.cons_append, List.nil_append]
  refine fn_y Tryz.func66 Tryz.mixed ?_
  intro w0
  refine Y6 ?_
  refine Zhn 4 rfl (rfl) ?_
  refine V9 ?_
  refine rx1 (Zg9 rfl (Zg7)) ?_
  exact ⟨_, ⟨rfl, rfl⟩, (Imp.arr (N := hostP p s c ++ []) qV).trans (hostA_mk hs)⟩
theorem log_x (hops : s.ops ≤ 3518437208880) : Con Tryz.prog 24 [hp p] [hostA p s] (fun v M => ∃ a c, v = .slice a s.log.length c ∧ M = [ownLog a c s.log, hostA p s]) := by
  refine Con.hostA fun c hs => ?_
  obtain ⟨bl, bc, la, lc⟩ := c
  simp only [List.cons_append, List.nil_append]
  have hll := hs.log
  have hlo := log_one s.log (by omega)
  refine fn_y Tryz.func24 Tryz.mixed ?_
  intro w0
  refine Y6 ?_
  refine Zhn 4 rfl (rfl) ?_
  refine V2 ?_
  refine Zgp (Imp.own_nil (E := 158) (size := 15)) ?_
  refine Y5 ?_
  refine Zia rfl rfl qH ((Rd.own (E := 158) qH)) (by first|rfl|exact oneM_u8 _|exact oneL_u8 _|assumption|(simp [oneC]; done)) (by omega) qS ?_; intro a2 c2
  refine V2 ?_
  refine rx1 (Zhc rfl (Zg7)) ?_
  rw [Nat.zero_add, List.nil_append]
  refine ⟨_, ⟨a2, c2, rfl, rfl⟩, ?_⟩
  exact (Imp.arr (N := ownLog a2 c2 s.log :: (hostP p s (bl, bc, la, lc) ++ [])) qV).trans (Imp.cons (hostA_mk hs))
end
end Go.Sl
namespace Go.Sl
open Go Go.Proofs
attribute [local irreducible] pt old pur ex all den denOps denS xOps xC cX CX xthen xblk xcut xloop xng retX resX Calls PV Rd Con
attribute [local irreducible] hostA omap ohole oheld rowsA
section
variable {L : List Asrt}
abbrev ncl (pages : Int) (sz bl bc : Nat) : Array Value := #[.int .i64 pages, nvv sz, .map (some bl), u64b 0#64, .map (some bc), .int .i64 0, .slice none 0 0, .int .i64 0]
theorem coming_len (fl : List HostS.Fault) (i : Nat) (k : Int) : (HostS.comes (fl.take i) k).length ≤ fl.length := by
  have := List.length_filter_le (fun g : HostS.Fault => g.at_ == k) (fl.take i)
  have h2 := List.length_take_le' i fl
  simp only [HostS.comes]; omega
theorem hold_one {bc : Nat} {cm : Int → List HostS.Fault} {f : HostS.Fault} {a : Option Addr} {c : Nat} {M : List Asrt} : Imp (own 119 6 (.slice a ((cm f.at_).length + 1) c) ((cm f.at_).length + 1) ((cm f.at_).flatMap fcells ++ fcells f) :: oheld bc faultsA [] cm f.at_ (.slice a ((cm f.at_).length + 1) c) :: M) (omap bc faultsA [] (upd cm f.at_ (cm f.at_ ++ [f])) :: M) := by
  have h := Imp.oheld_close (A := faultsA) (d := []) (f := cm) (k := f.at_) (x := cm f.at_ ++ [f]) (v := .slice a ((cm f.at_).length + 1) c) (b := bc) (M := M)
  unfold faultsA at h ⊢
  rw [show (cm f.at_ ++ [f]).length = (cm f.at_).length + 1 by simp, show (cm f.at_ ++ [f]).flatMap fcells = (cm f.at_).flatMap fcells ++ fcells f by simp] at h
  exact h
theorem hnew_c (pages size : Int) {fv : Value} {fl : List HostS.Fault} (hfl : fl.length ≤ 2932031007401) (hfo : ∀ f ∈ fl, HostS.FOk f) (hf : Rd L 6 fv fl.length (fl.flatMap fcells)) :
    Con Tryz.prog 19 [.int .i64 pages, .int .i64 size, fv] L (fun v M => (HostS.mayBe pages size fl ∧ ∃ p, v = .tuple #[hp p, nvv 0] ∧ M = hostA p (HostS.fresh pages size.toNat fl) :: L) ∨ (¬ HostS.mayBe pages size fl ∧ v = .tuple #[.pointer none, nvv 2] ∧ M = L)) := by
  refine Con.get (fun w0 w F H => hf.len H) ?_
  rintro ⟨fa, fc, rfl⟩
  by_cases h0 : pages < 0
  · have hno : ¬ HostS.mayBe pages size fl := fun h => by have := h.1; omega
    refine fn_y Tryz.func19 Tryz.mixed ?_
    intro w0
    refine Y6 ?_
    refine Zhg (Zbn (a := pages) (b := 0) rfl rfl) ?_
    refine Zos 12 rfl (h0) ?_
    refine V18 ?_
    refine rx2 (Zhb rfl (Zg9 rfl (Zg7))) ?_
    exact ⟨_, .inr ⟨hno, rfl, rfl⟩, qI⟩
  by_cases h1 : pages > 65536
  · have hno : ¬ HostS.mayBe pages size fl := fun h => by have := h.1; omega
    refine fn_y Tryz.func19 Tryz.mixed ?_
    intro w0
    refine Y6 ?_
    refine Zhg (Zbn (a := pages) (b := 0) rfl rfl) ?_
    refine Zot 12 rfl (h0) ?_
    refine Y2 ?_
    first|refine Y0 ?_|(refine Zhh rfl ?_; (refine Zhg (Zbp (a := pages) (b := 65536) rfl rfl) ?_))
    refine Zos 15 rfl (h1) ?_
    refine V15 ?_
    refine rx2 (Zhb rfl (Zg9 rfl (Zg7))) ?_
    exact ⟨_, .inr ⟨hno, rfl, rfl⟩, qI⟩
  by_cases h2 : size < 1
  · have hno : ¬ HostS.mayBe pages size fl := fun h => by have := h.1; omega
    refine fn_y Tryz.func19 Tryz.mixed ?_
    intro w0
    refine Y6 ?_
    refine Zhg (Zbn (a := pages) (b := 0) rfl rfl) ?_
    refine Zot 12 rfl (h0) ?_
    refine Y2 ?_
    first|refine Y0 ?_|(refine Zhh rfl ?_; (refine Zhg (Zbp (a := pages) (b := 65536) rfl rfl) ?_))
    refine Zot 15 rfl (h1) ?_
    refine Y3 ?_
    first|refine Y0 ?_|(refine Zhh rfl ?_; (refine Zhg (Zbn (a := size) (b := 1) rfl rfl) ?_))
    refine Zos 19 rfl (h2) ?_
    refine V11 ?_
    refine rx2 (Zhb rfl (Zg9 rfl (Zg7))) ?_
    exact ⟨_, .inr ⟨hno, rfl, rfl⟩, qI⟩
  by_cases h3 : size > 4124
  · have hno : ¬ HostS.mayBe pages size fl := fun h => by have := h.1; omega
    refine fn_y Tryz.func19 Tryz.mixed ?_
    intro w0
    refine Y6 ?_
    refine Zhg (Zbn (a := pages) (b := 0) rfl rfl) ?_
    refine Zot 12 rfl (h0) ?_
    refine Y2 ?_
    first|refine Y0 ?_|(refine Zhh rfl ?_; (refine Zhg (Zbp (a := pages) (b := 65536) rfl rfl) ?_))
    refine Zot 15 rfl (h1) ?_
    refine Y3 ?_
    first|refine Y0 ?_|(refine Zhh rfl ?_; (refine Zhg (Zbn (a := size) (b := 1) rfl rfl) ?_))
    refine Zot 19 rfl (h2) ?_
    refine Y3 ?_
    first|refine Y0 ?_|(refine Zhh rfl ?_; (refine Zhg (Zbp (a := size) (b := 4124) rfl rfl) ?_))
    refine Zos 23 rfl (h3) ?_
    refine V7 ?_
    refine rx2 (Zhb rfl (Zg9 rfl (Zg7))) ?_
    exact ⟨_, .inr ⟨hno, rfl, rfl⟩, qI⟩
  have hfit : 0 ≤ pages ∧ pages ≤ 65536 ∧ 1 ≤ size ∧ size ≤ 4124 := by omega
  obtain ⟨sz, rfl⟩ : ∃ sz : Nat, size = (sz : Int) := ⟨size.toNat, by omega⟩
  refine fn_y Tryz.func19 Tryz.mixed ?_
  intro w0
  refine Y6 ?_
  refine Zhg (Zbn (a := pages) (b := 0) rfl rfl) ?_
  refine Zot 12 rfl (h0) ?_
  refine Y2 ?_
  first|refine Y0 ?_|(refine Zhh rfl ?_; (refine Zhg (Zbp (a := pages) (b := 65536) rfl rfl) ?_))
  refine Zot 15 rfl (h1) ?_
  refine Y3 ?_
  first|refine Y0 ?_|(refine Zhh rfl ?_; (refine Zhg (Zbn (a := (sz : Int)) (b := 1) rfl rfl) ?_))
  refine Zot 19 rfl (h2) ?_
  refine Y3 ?_
  first|refine Y0 ?_|(refine Zhh rfl ?_; (refine Zhg (Zbp (a := (sz : Int)) (b := 4124) rfl rfl) ?_))
  refine Zot 23 rfl (h3) ?_
  refine Y6 ?_
  refine Zif rowsA [] ?_; intro bl
  refine Zif faultsA [] ?_; intro bc
  refine Zhg (Zdm (cs := ncl pages sz bl bc) (by kernel_rfl)) ?_
  refine Zh5 rfl ?_; intro p
  refine V7 ?_
  refine Zgo [(6, 7), (10, 10), (33, 61)] (by kernel_rfl) (fun i : Nat => i ≤ fl.length ∧ (fl.take i).all HostS.kindly = true) (fun i => omap bc faultsA [] (HostS.comes (fl.take i)) :: cl p (ncl pages sz bl bc) 141 :: omap bl rowsA [] (fun _ => []) :: L) (fun i => [(33, nvv i)]) (fun i => fl.length - i) 0 ⟨Nat.zero_le _, rfl⟩ qI ⟨rfl, trivial⟩ ?_
  rintro i u ⟨hi, hk⟩
  refine V3 ?_
  refine Zgg rfl (fun hB => ?_) (fun hB => ?_)
  · have hnext := comes_take fl i hB
    have hkn := kindly_take fl i hB
    have hno := kindly_no i hB
    have hcl := coming_len fl i fl[i].at_
    refine Zgt (fun F w H => (hf.imp (Imp.arr (M := _) qV)).someAt (by omega) H) ?_
    rintro ⟨f1, f2, rfl⟩
    refine Y2 ?_
    refine Zfg rfl ((hf.imp qI).agN fcells_len (by omega) hB) ?_
    refine Zhz (cs := #[.int .i64 0, .int .i64 0, .int .i64 0, .int .i64 0, u8b 0#8, .int .i64 0]) rfl ?_; intro b10
    first|refine Zhy rfl rfl qR qZ (by first|rfl|exact oneM_u8 _|exact oneL_u8 _|assumption|(simp [oneC]; done)) qZ ?_|refine Zhx rfl rfl qR qZ (by first|rfl|exact oneM_u8 _|exact oneL_u8 _|assumption|(simp [oneC]; done)) qZ rfl ?_
    refine V1 ?_
    by_cases k0 : fl[i].kind < 0
    · have hno2 : ¬ HostS.mayBe pages (sz : Int) fl := fun h => by have := h.2; rw [hno (by simp [HostS.kindly]; omega)] at this; cases this
      refine Y2 ?_
      refine Zhp rfl qH ((by rfl)) ?_
      refine Zhg (Zbn (a := fl[i].kind) (b := 0) rfl rfl) ?_
      refine Zos 39 rfl (k0) ?_
      refine V11 ?_
      refine rx2 (Zhb rfl (Zg9 rfl (Zg7))) ?_
      exact ⟨_, .inr ⟨hno2, rfl, rfl⟩, qI⟩
    by_cases k4 : fl[i].kind > 4
    · have hno2 : ¬ HostS.mayBe pages (sz : Int) fl := fun h => by have := h.2; rw [hno (by simp [HostS.kindly]; omega)] at this; cases this
      refine Y2 ?_
      refine Zhp rfl qH ((by rfl)) ?_
      refine Zhg (Zbn (a := fl[i].kind) (b := 0) rfl rfl) ?_
      refine Zot 39 rfl (k0) ?_
      refine Y2 ?_
      first|refine Y0 ?_|(refine Zhh rfl ?_; (refine Zhp rfl qH ((by rfl)) ?_))
      first|refine Y0 ?_|(refine Zhh rfl ?_; (refine Zhg (Zbp (a := fl[i].kind) (b := 4) rfl rfl) ?_))
      refine Zos 43 rfl (k4) ?_
      refine V7 ?_
      refine rx2 (Zhb rfl (Zg9 rfl (Zg7))) ?_
      exact ⟨_, .inr ⟨hno2, rfl, rfl⟩, qI⟩
    have hkf : HostS.kindly fl[i] = true := by simp [HostS.kindly]; omega
    refine Y2 ?_
    refine Zhp rfl qH ((by rfl)) ?_
    refine Zhg (Zbn (a := fl[i].kind) (b := 0) rfl rfl) ?_
    refine Zot 39 rfl (k0) ?_
    refine Y2 ?_
    first|refine Y0 ?_|(refine Zhh rfl ?_; (refine Zhp rfl qH ((by rfl)) ?_))
    first|refine Y0 ?_|(refine Zhh rfl ?_; (refine Zhg (Zbp (a := fl[i].kind) (b := 4) rfl rfl) ?_))
    refine Zot 43 rfl (k4) ?_
    refine V3 ?_
    generalize HostS.comes (fl.take i) = cm at *
    refine Zgp (Imp.arr (N := omap bc faultsA [] cm :: cl b10 (fcells fl[i]).toArray 119 :: cl p (ncl pages sz bl bc) 141 :: omap bl rowsA [] (fun _ => []) :: L) qV) ?_
    refine Zom faults_nil fl[i].at_ ?_
    intro v
    refine Zgt (fun F w H => own_shape (E := 119) (size := 6) (n := (cm fl[i].at_).length) (xs := (cm fl[i].at_).flatMap fcells) (H.pick (.there .here))) ?_
    rintro ⟨ca, ck, rfl, hck, hckm⟩
    show xC Tryz.prog _ _ _ (own 119 6 (.slice ca (cm fl[i].at_).length ck) (cm fl[i].at_).length ((cm fl[i].at_).flatMap fcells) :: _) _
    refine Ct.o ?_
    refine Zij ([cl p (ncl pages sz bl bc) 141, cl b10 (fcells fl[i]).toArray 119, ohole bc faultsA [] cm fl[i].at_ (.slice ca (cm fl[i].at_).length ck)]) [5, 9, 11, 12, 13, 14, 15] (.q 0 (.q 1 (.q 2 (.q 4 (.q 6 (.q 7 (.q 8 (.q 10 (.r 3 (.r 5 (.r 9 (.r 11 (.r 12 (.r 13 (.e 14 true (.e 15 true (.e 16 false .nil))))))))))))))))) (by kernel_rfl) (by kernel_rfl) (Imp.arr qV) ?_
    refine W9 ?_
    refine Ziv rfl rfl qH ((by rfl)) ?_
    refine W1 ?_
    refine Ziv rfl rfl qH ((by rfl)) ?_
    refine Zon rfl rfl rfl qH ?_
    refine W1 ?_
    refine Ziq rfl ?_; refine Zh7 (cs := (fcells fl[i]).toArray) (by omega) (by omega) (by exact fill_one (by rfl) rfl) ?_; intro b14; refine Zg3 ⟨fun _ => Imp.arr qV, ?_⟩
    refine Ziq rfl ?_
    refine Zia rfl rfl qH (Rd.cl (xs := fcells fl[i]) qH (fcells_len _) qZ rfl) (by first|rfl|exact oneM_u8 _|exact oneL_u8 _|assumption|(simp [oneC]; done)) (by omega) qS ?_; intro a3 c3
    refine Zg3 ⟨fun _ => Imp.arr qV, ?_⟩
    refine Ziq rfl ?_; refine Zih rfl rfl rfl qR ?_; refine Zg3 ⟨(fun hh => Bool.noConfusion hh), ?_⟩
    refine Zik ?_
    refine V4 ?_
    refine Zgl (i + 1) qO ⟨by omega, by rw [hkn, hk, hkf]; rfl⟩ ?_ ⟨rfl, trivial⟩
    rw [← hnext]
    exact (Imp.arr (N := own 119 6 (.slice a3 ((cm fl[i].at_).length + 1) c3) ((cm fl[i].at_).length + 1) ((cm fl[i].at_).flatMap fcells ++ fcells fl[i]) :: oheld bc faultsA [] cm fl[i].at_ (.slice a3 ((cm fl[i].at_).length + 1) c3) :: cl p (ncl pages sz bl bc) 141 :: omap bl rowsA [] (fun _ => []) :: L) qV).trans hold_one
  · refine Ct.o ?_
    rw [List.take_of_length_le (by omega)] at hk ⊢
    refine V5 ?_
    refine rx2 (Zhb rfl (Zg9 rfl (Zg7))) ?_
    have hok : HostS.Ok (HostS.fresh pages (Int.toNat sz) fl) := ok_fresh pages sz fl hfit hfo hfl
    refine ⟨_, .inl ⟨⟨hfit, hk⟩, p, rfl, rfl⟩, ?_⟩
    refine (Imp.own_nil (E := 158) (size := 15)).trans ?_
    exact (Imp.arr (N := hostP p (HostS.fresh pages (Int.toNat sz) fl) (bl, bc, none, 0) ++ L) qV).trans (hostA_mk hok)
theorem new_ok (pages size : Int) {fv : Value} {fl : List HostS.Fault} (hfl : fl.length ≤ 2932031007401) (hfo : ∀ f ∈ fl, HostS.FOk f) (hf : Rd L 6 fv fl.length (fl.flatMap fcells)) (h : HostS.mayBe pages size fl) :
    Con Tryz.prog 19 [.int .i64 pages, .int .i64 size, fv] L (fun v M => ∃ p, v = .tuple #[hp p, nvv 0] ∧ M = hostA p (HostS.fresh pages size.toNat fl) :: L) :=
  (hnew_c pages size hfl hfo hf).mono fun v M hh => ⟨M, Imp.refl _, hh.elim (·.2) fun hn => absurd h hn.1⟩
end
end Go.Sl

namespace Go.Sl
open Go Go.Proofs
attribute [local irreducible] pt old pur ex all den denOps denS xOps xC cX CX xthen xblk xcut xloop xng retX resX Calls PV Rd Con
theorem width32_x : Con Tryz.prog 190 [] [] (fun r M => r = nvv 4 ∧ M = []) := by
  refine fn_y Tryz.func190 Tryz.mixed ?_
  intro w0
  refine Y4 ?_
  refine Zhg (Zk6 rfl) ?_
  refine Zhg (Zkw rfl) ?_
  refine V5 ?_
  refine Zgo [(1, 2), (5, 12)] (by kernel_rfl) (fun i : Nat => i ≤ 4) (fun _ => []) (fun i => [(1, u32b ((~~~ (BitVec.ofInt 32 0)) >>> (8 * i))), (2, nvv i)]) (fun i => 4 - i) 0 (by omega) qI ⟨rfl, rfl, trivial⟩ ?_
  intro i u hi
  have hz : ∀ j : Fin (4 + 1), (~~~ (BitVec.ofInt 32 0)) >>> (8 * j.val) = 0#32 ↔ j.val = 4 := by decide
  have hs : ∀ j : Fin 4, (~~~ (BitVec.ofInt 32 0)) >>> (8 * j.val) >>> 7 >>> 1 = (~~~ (BitVec.ofInt 32 0)) >>> (8 * (j.val + 1)) := by decide
  by_cases hB : i = 4
  · subst hB
    refine Y2 ?_
    refine Zhg (Zkz (y := 0#32) rfl rfl) ?_
    refine Zot 6 rfl ((fun h => h ((hz ⟨4, by omega⟩).2 rfl))) ?_
    refine V6 ?_
    refine rx1 (Zg9 rfl (Zg7)) ?_
    exact ⟨_, ⟨rfl, rfl⟩, by exact Imp.arr (by repeat (first|exact Arr.nil|exact Arr.stop|refine Arr.cons (by repeat constructor) ?_|refine Arr.skip ?_))⟩
  · refine Y2 ?_
    refine Zhg (Zkz (y := 0#32) rfl rfl) ?_
    refine Zos 6 rfl ((fun h => hB ((hz ⟨i, by omega⟩).1 h))) ?_
    refine Y4 ?_
    refine Zhg (Zkv (m := 7) rfl rfl) ?_
    refine Y4 ?_
    refine Zhg (Zkv (m := 1) rfl rfl) ?_
    refine V7 ?_
    have e := hs ⟨i, by omega⟩
    dsimp only at e
    exact Zgl (i + 1) qO (by omega) qI ⟨by rw [← e]; rfl, rfl, trivial⟩
theorem put32_x {L : List Asrt} {v : Value} {b : List Byte} (x : BitVec 32) (h : Bs L v b) (hb : b.length ≤ 140737488355000) :
    Con Tryz.prog 157 [v, u32b x] L (fun r M => ∃ a c, r = .slice a (b ++ leB x 4).length c ∧ M = own 5 1 r (b ++ leB x 4).length ((b ++ leB x 4).map u8b) :: L) := by
  refine Con.get (fun w0 w F H => h.sh _ _ _ H) ?_
  rintro ⟨va, vc, rfl, hvc, hvcm⟩
  refine fn_y Tryz.func157 Tryz.mixed ?_
  intro w0
  refine Y4 ?_
  refine Zor (c := width32_x) (k := ?_)
  rintro _ _ ⟨rfl, rfl⟩
  refine Y10 ?_
  refine Zm3 (f := u8b) (a := 0#8) rfl rfl rfl qS qS qS ?_; intro b15
  refine Y5 ?_
  refine Zib rfl rfl (h.rd.imp Imp.tail) qR qZ qN (copy_pre b 4) ?_
  refine V1 ?_
  refine Zgp (Imp.own_mk (n := b.length) (cap := b.length + 4) (size := 1) (xs := b.map u8b) (by omega) (by omega) (by simp) (by simp)) ?_
  refine V4 ?_
  refine Zgo [(6, 7), (20, 31)] (by kernel_rfl) (fun s : Nat × Option Addr × Nat => s.1 ≤ 4) (fun s => own 5 1 (.slice s.2.1 (b ++ leB x s.1).length s.2.2) (b ++ leB x s.1).length ((b ++ leB x s.1).map u8b) :: L)
    (fun s => [(20, nvv s.1), (6, .slice s.2.1 (b ++ leB x s.1).length s.2.2)]) (fun s => 4 - s.1) (0, some ⟨b15, 0, none⟩, b.length + 4) (by show 0 ≤ _; omega) (by show Imp _ (own _ _ (.slice _ (b ++ []).length _) (b ++ []).length ((b ++ []).map u8b) :: L); rw [List.append_nil]; exact qI) ⟨rfl, by show _ = Value.slice _ (b ++ []).length _; rw [List.append_nil]; rfl, trivial⟩ ?_
  rintro ⟨i, a, c⟩ u hi
  dsimp only at hi ⊢
  have hll : (b ++ leB x i).length = b.length + i := by simp [leB_len]
  refine V3 ?_
  refine Zgg rfl (fun hB => ?_) (fun hB => ?_)
  · refine Y8 ?_
    first|refine Zhg (Zmc (a := 8) rfl rfl) ?_|refine Zhg (Zbi rfl rfl) ?_
    refine Zhg (Zkv rfl rfl) ?_
    refine Zhg (Zk8 rfl) ?_
    refine Zh7 (cs := #[.int .u8 _]) (by omega) (by omega) rfl ?_; intro b29
    refine Zia rfl rfl qH (Rd.cl (xs := [u8b ((x >>> (8 * i)).setWidth 8)]) qH rfl qZ rfl) qN (by omega) qS ?_; intro a3 c3
    refine V6 ?_
    have e : (b ++ leB x i) ++ [(x >>> (8 * i)).setWidth 8] = b ++ leB x (i + 1) := by rw [leB_succ, List.append_assoc]
    have e2 : (b ++ leB x i).map u8b ++ [u8b ((x >>> (8 * i)).setWidth 8)] = (b ++ leB x (i + 1)).map u8b := by rw [← e]; simp only [List.map_append, List.map_cons, List.map_nil]
    have e3 : (b ++ leB x i).length + 1 = (b ++ leB x (i + 1)).length := by rw [← e]; simp only [List.length_append, List.length_cons, List.length_nil]
    rw [e2, e3]
    exact Zgl (i + 1, a3, c3) qO qO qI ⟨rfl, rfl, trivial⟩
  · have hie : i = 4 := by omega
    subst hie
    refine V4 ?_
    refine rx1 (Zhc rfl (Zg7)) ?_
    exact ⟨_, ⟨a, c, rfl, rfl⟩, by exact Imp.arr (by repeat (first|exact Arr.nil|exact Arr.stop|refine Arr.cons (by repeat constructor) ?_|refine Arr.skip ?_))⟩
end Go.Sl
namespace Go.Sl
open Go Go.Proofs
attribute [local irreducible] pt old pur ex all den denOps denS xOps xC cX CX xthen xblk xcut xloop xng retX resX Calls PV Rd Con
theorem width64_x : Con Tryz.prog 208 [] [] (fun r M => r = nvv 8 ∧ M = []) := by
  refine fn_y Tryz.func208 Tryz.mixed ?_
  intro w0
  refine Y4 ?_
  refine Zhg (Zlv rfl) ?_
  refine Zhg (Zll rfl) ?_
  refine V5 ?_
  refine Zgo [(1, 2), (5, 12)] (by kernel_rfl) (fun i : Nat => i ≤ 8) (fun _ => []) (fun i => [(1, u64b ((~~~ (BitVec.ofInt 64 0)) >>> (8 * i))), (2, nvv i)]) (fun i => 8 - i) 0 (by omega) qI ⟨rfl, rfl, trivial⟩ ?_
  intro i u hi
  have hz : ∀ j : Fin (8 + 1), (~~~ (BitVec.ofInt 64 0)) >>> (8 * j.val) = 0#64 ↔ j.val = 8 := by decide
  have hs : ∀ j : Fin 8, (~~~ (BitVec.ofInt 64 0)) >>> (8 * j.val) >>> 7 >>> 1 = (~~~ (BitVec.ofInt 64 0)) >>> (8 * (j.val + 1)) := by decide
  by_cases hB : i = 8
  · subst hB
    refine Y2 ?_
    refine Zhg (Zlo (y := 0#64) rfl rfl) ?_
    refine Zot 6 rfl ((fun h => h ((hz ⟨8, by omega⟩).2 rfl))) ?_
    refine V6 ?_
    refine rx1 (Zg9 rfl (Zg7)) ?_
    exact ⟨_, ⟨rfl, rfl⟩, by exact Imp.arr (by repeat (first|exact Arr.nil|exact Arr.stop|refine Arr.cons (by repeat constructor) ?_|refine Arr.skip ?_))⟩
  · refine Y2 ?_
    refine Zhg (Zlo (y := 0#64) rfl rfl) ?_
    refine Zos 6 rfl ((fun h => hB ((hz ⟨i, by omega⟩).1 h))) ?_
    refine Y4 ?_
    refine Zhg (Zlk (m := 7) rfl rfl) ?_
    refine Y4 ?_
    refine Zhg (Zlk (m := 1) rfl rfl) ?_
    refine V7 ?_
    have e := hs ⟨i, by omega⟩
    dsimp only at e
    exact Zgl (i + 1) qO (by omega) qI ⟨by rw [← e]; rfl, rfl, trivial⟩
theorem put64_x {L : List Asrt} {v : Value} {b : List Byte} (x : BitVec 64) (h : Bs L v b) (hb : b.length ≤ 140737488355000) :
    Con Tryz.prog 188 [v, u64b x] L (fun r M => ∃ a c, r = .slice a (b ++ leB x 8).length c ∧ M = own 5 1 r (b ++ leB x 8).length ((b ++ leB x 8).map u8b) :: L) := by
  refine Con.get (fun w0 w F H => h.sh _ _ _ H) ?_
  rintro ⟨va, vc, rfl, hvc, hvcm⟩
  refine fn_y Tryz.func188 Tryz.mixed ?_
  intro w0
  refine Y4 ?_
  refine Zor (c := width64_x) (k := ?_)
  rintro _ _ ⟨rfl, rfl⟩
  refine Y10 ?_
  refine Zm3 (f := u8b) (a := 0#8) rfl rfl rfl qS qS qS ?_; intro b15
  refine Y5 ?_
  refine Zib rfl rfl (h.rd.imp Imp.tail) qR qZ qN (copy_pre b 8) ?_
  refine V1 ?_
  refine Zgp (Imp.own_mk (n := b.length) (cap := b.length + 8) (size := 1) (xs := b.map u8b) (by omega) (by omega) (by simp) (by simp)) ?_
  refine V4 ?_
  refine Zgo [(6, 7), (20, 31)] (by kernel_rfl) (fun s : Nat × Option Addr × Nat => s.1 ≤ 8) (fun s => own 5 1 (.slice s.2.1 (b ++ leB x s.1).length s.2.2) (b ++ leB x s.1).length ((b ++ leB x s.1).map u8b) :: L)
    (fun s => [(20, nvv s.1), (6, .slice s.2.1 (b ++ leB x s.1).length s.2.2)]) (fun s => 8 - s.1) (0, some ⟨b15, 0, none⟩, b.length + 8) (by show 0 ≤ _; omega) (by show Imp _ (own _ _ (.slice _ (b ++ []).length _) (b ++ []).length ((b ++ []).map u8b) :: L); rw [List.append_nil]; exact qI) ⟨rfl, by show _ = Value.slice _ (b ++ []).length _; rw [List.append_nil]; rfl, trivial⟩ ?_
  rintro ⟨i, a, c⟩ u hi
  dsimp only at hi ⊢
  have hll : (b ++ leB x i).length = b.length + i := by simp [leB_len]
  refine V3 ?_
  refine Zgg rfl (fun hB => ?_) (fun hB => ?_)
  · refine Y8 ?_
    first|refine Zhg (Zmc (a := 8) rfl rfl) ?_|refine Zhg (Zbi rfl rfl) ?_
    refine Zhg (Zlk rfl rfl) ?_
    refine Zhg (Zlx rfl) ?_
    refine Zh7 (cs := #[.int .u8 _]) (by omega) (by omega) rfl ?_; intro b29
    refine Zia rfl rfl qH (Rd.cl (xs := [u8b ((x >>> (8 * i)).setWidth 8)]) qH rfl qZ rfl) qN (by omega) qS ?_; intro a3 c3
    refine V6 ?_
    have e : (b ++ leB x i) ++ [(x >>> (8 * i)).setWidth 8] = b ++ leB x (i + 1) := by rw [leB_succ, List.append_assoc]
    have e2 : (b ++ leB x i).map u8b ++ [u8b ((x >>> (8 * i)).setWidth 8)] = (b ++ leB x (i + 1)).map u8b := by rw [← e]; simp only [List.map_append, List.map_cons, List.map_nil]
    have e3 : (b ++ leB x i).length + 1 = (b ++ leB x (i + 1)).length := by rw [← e]; simp only [List.length_append, List.length_cons, List.length_nil]
    rw [e2, e3]
    exact Zgl (i + 1, a3, c3) qO qO qI ⟨rfl, rfl, trivial⟩
  · have hie : i = 8 := by omega
    subst hie
    refine V4 ?_
    refine rx1 (Zhc rfl (Zg7)) ?_
    exact ⟨_, ⟨a, c, rfl, rfl⟩, by exact Imp.arr (by repeat (first|exact Arr.nil|exact Arr.stop|refine Arr.cons (by repeat constructor) ?_|refine Arr.skip ?_))⟩
end Go.Sl
namespace Go.Sl
open Go Go.Proofs
attribute [local irreducible] pt old pur ex all den denOps denS xOps xC cX CX xthen xblk xcut xloop xng retX resX Calls PV Rd Con
theorem fits32_x {L : List Asrt} {v : Value} {b : List Byte} (h : Bs L v b) (hb : b.length = 4) : Con Tryz.prog 159 [v] L (fun r M => r = nvv 0 ∧ L = M) := by
  refine Con.get (fun w0 w F H => h.sh _ _ _ H) ?_
  rintro ⟨va, vc, rfl, hvc, hvcm⟩
  refine fn_y Tryz.func159 Tryz.mixed ?_
  intro w0
  refine Y4 ?_
  refine Zor (c := width32_x) (k := ?_)
  rintro _ _ ⟨rfl, rfl⟩
  refine Y8 ?_
  refine Zot 8 rfl (by omega) ?_
  refine Y7 ?_
  refine Zot 12 rfl (by omega) ?_
  refine V5 ?_
  refine rx1 (Zg9 rfl (Zg7)) ?_
  exact ⟨_, ⟨rfl, rfl⟩, by exact Imp.arr (by repeat (first|exact Arr.nil|exact Arr.stop|refine Arr.cons (by repeat constructor) ?_|refine Arr.skip ?_))⟩
theorem low32_x {L : List Asrt} {v : Value} {b : List Byte} (h : Bs L v b) (hb : b.length ≤ 140737488355000) : Con Tryz.prog 160 [v] L (fun r M => r = u32b (lowB 32 b) ∧ L = M) := by
  refine Con.get (fun w0 w F H => h.sh _ _ _ H) ?_
  rintro ⟨va, vc, rfl, hvc, hvcm⟩
  refine fn_y Tryz.func160 Tryz.mixed ?_
  intro w0
  refine V11 ?_
  refine Zgo [(3, 5), (8, 20)] (by kernel_rfl) (fun i : Nat => i ≤ b.length) (fun _ => L) (fun i => [(3, u32b (lowB 32 (b.take i))), (8, nvv i)]) (fun i => b.length - i) 0 (by omega) qI ⟨by rw [List.take_zero]; rfl, rfl, trivial⟩ ?_
  intro i u hi
  refine V3 ?_
  refine Zgg rfl (fun hB => ?_) (fun hB => ?_)
  · refine Zgt (fun F w H => h.some (by omega) H) ?_
    rintro ⟨a1, a2, rfl⟩
    refine Y3 ?_
    refine Zff rfl (h.rd.at hB (getM hB)) ?_
    refine Y6 ?_
    refine Zhg (Zjw rfl) ?_
    refine Y1 ?_
    first|refine Zhg (Zmc (a := 8) rfl rfl) ?_|refine Zhg (Zbi rfl rfl) ?_
    refine Zhg (Zku rfl rfl) ?_
    refine V7 ?_
    have e : lowB 32 (b.take (i + 1)) = lowB 32 (b.take i) ||| (b[i].setWidth 32) <<< (8 * i) := by
      rw [List.take_succ_eq_append_getElem hB, lowB_snoc, List.length_take, Nat.min_eq_left hi]
    exact Zgl (i + 1) qO (by omega) qI ⟨by rw [e]; rfl, rfl, trivial⟩
  · have hie : i = b.length := by omega
    subst hie
    rw [List.take_length]
    refine V4 ?_
    refine rx1 (Zg9 rfl (Zg7)) ?_
    exact ⟨_, ⟨rfl, rfl⟩, by exact Imp.arr (by repeat (first|exact Arr.nil|exact Arr.stop|refine Arr.cons (by repeat constructor) ?_|refine Arr.skip ?_))⟩
theorem little32_x {L : List Asrt} {v : Value} {b : List Byte} (h : Bs L v b) (hb : b.length = 4) : Con Tryz.prog 125 [v] L (fun r M => r = .tuple #[u32b (lowB 32 b), nvv 0] ∧ L = M) := by
  refine Con.get (fun w0 w F H => h.sh _ _ _ H) ?_
  rintro ⟨va, vc, rfl, hvc, hvcm⟩
  refine fn_y Tryz.func125 Tryz.mixed ?_
  intro w0
  refine Y6 ?_
  refine Zor (c := fits32_x h hb) (k := ?_)
  rintro _ _ ⟨rfl, rfl⟩
  refine Y6 ?_
  refine Zhn 8 rfl (rfl) ?_
  refine Y4 ?_
  refine Zor (c := low32_x h (by omega)) (k := ?_)
  rintro _ _ ⟨rfl, rfl⟩
  refine V4 ?_
  refine rx2 (Zg9 rfl (Zg9 rfl (Zg7))) ?_
  exact ⟨_, ⟨rfl, rfl⟩, by exact Imp.arr (by repeat (first|exact Arr.nil|exact Arr.stop|refine Arr.cons (by repeat constructor) ?_|refine Arr.skip ?_))⟩
theorem bit_x (x : BitVec 64) : Con Tryz.prog 124 [u64b x] [] (fun r M => r = u64b (0#64 - (x &&& 1#64)) ∧ M = []) := by
  refine fn_y Tryz.func124 Tryz.mixed ?_
  intro w0
  refine Y5 ?_
  refine Zhg (Zlf (y := 1#64) rfl rfl) ?_
  refine Zhg (Zld (x := 0#64) rfl rfl) ?_
  refine V2 ?_
  refine rx1 (Zg9 rfl (Zg7)) ?_
  exact ⟨_, ⟨rfl, rfl⟩, by exact Imp.arr (by repeat (first|exact Arr.nil|exact Arr.stop|refine Arr.cons (by repeat constructor) ?_|refine Arr.skip ?_))⟩
def zeroB (x : BitVec 64) : BitVec 64 := 0#64 - ((((x ||| (0#64 - x)) >>> 63) ^^^ 1#64) &&& 1#64)
theorem zero_x (x : BitVec 64) : Con Tryz.prog 158 [u64b x] [] (fun r M => r = u64b (zeroB x) ∧ M = []) := by
  refine fn_y Tryz.func158 Tryz.mixed ?_
  intro w0
  refine Y6 ?_
  refine Zhg (Zld (x := 0#64) rfl rfl) ?_
  refine Y1 ?_
  refine Zhg (Zlk (m := 63) rfl rfl) ?_
  refine Zhg (Zlh (y := 1#64) rfl rfl) ?_
  refine Zor (c := bit_x _) (k := ?_)
  rintro _ _ ⟨rfl, rfl⟩
  refine V3 ?_
  refine rx1 (Zg9 rfl (Zg7)) ?_
  exact ⟨_, ⟨rfl, rfl⟩, by exact Imp.arr (by repeat (first|exact Arr.nil|exact Arr.stop|refine Arr.cons (by repeat constructor) ?_|refine Arr.skip ?_))⟩
def offB (a b : List Byte) : BitVec 64 := (List.zip a b).foldl (fun (d : BitVec 64) (x : Byte × Byte) => d ||| (x.1 ^^^ x.2).setWidth 64) 0#64
theorem offB_take {a b : List Byte} {i : Nat} (ha : i < a.length) (hb : i < b.length) : offB (a.take (i + 1)) (b.take (i + 1)) = offB (a.take i) (b.take i) ||| (a[i] ^^^ b[i]).setWidth 64 := by
  unfold offB
  rw [List.take_succ_eq_append_getElem ha, List.take_succ_eq_append_getElem hb, List.zip_append (by simp; omega), List.foldl_append]
  rfl
theorem zeroB_byte (x : Byte) : zeroB (x.setWidth 64) = if x = 0#8 then 18446744073709551615#64 else 0#64 := by
  have h : ∀ n : Fin 256, zeroB ((BitVec.ofFin n : Byte).setWidth 64) = if (BitVec.ofFin n : Byte) = 0#8 then 18446744073709551615#64 else 0#64 := by decide +kernel
  exact h x.toFin
theorem offB_byte : ∀ (a b : List Byte) (d : Byte), ∃ e : Byte, (List.zip a b).foldl (fun (d : BitVec 64) (x : Byte × Byte) => d ||| (x.1 ^^^ x.2).setWidth 64) (d.setWidth 64) = e.setWidth 64 ∧ (e = 0#8 ↔ d = 0#8 ∧ ∀ x ∈ List.zip a b, x.1 = x.2)
  | [], b, d => ⟨d, by simp, by simp⟩
  | x :: a, [], d => ⟨d, by simp, by simp⟩
  | x :: a, y :: b, d => by
    obtain ⟨e, h1, h2⟩ := offB_byte a b (d ||| (x ^^^ y))
    refine ⟨e, ?_, ?_⟩
    · rw [List.zip_cons_cons, List.foldl_cons, ← h1, BitVec.setWidth_or]
    · rw [h2]
      have e1 : (d ||| (x ^^^ y)) = 0#8 ↔ d = 0#8 ∧ x = y := by
        constructor
        · intro h
          have hd : d = 0#8 := by
            apply BitVec.eq_of_getLsbD_eq
            intro i hi
            have := congrArg (fun z => z.getLsbD i) h
            simp only [BitVec.getLsbD_or, BitVec.getLsbD_zero, Bool.or_eq_false_iff] at this
            rw [this.1]; simp
          rw [hd, BitVec.zero_or] at h
          refine ⟨hd, ?_⟩
          have := congrArg (fun z => z ^^^ y) h
          simp only [BitVec.xor_assoc, BitVec.xor_self, BitVec.xor_zero, BitVec.zero_xor] at this
          exact this
        · rintro ⟨rfl, rfl⟩; simp
      rw [e1, List.zip_cons_cons]
      simp only [List.mem_cons, forall_eq_or_imp]
      constructor
      · rintro ⟨⟨h1, h2⟩, h3⟩; exact ⟨h1, h2, h3⟩
      · rintro ⟨h1, h2, h3⟩; exact ⟨⟨h1, h2⟩, h3⟩
theorem zip_all_eq : ∀ (a b : List Byte), a.length = b.length → ((∀ x ∈ List.zip a b, x.1 = x.2) ↔ a = b)
  | [], [], _ => by simp
  | x :: a, y :: b, h => by
    have ih := zip_all_eq a b (by simpa using h)
    rw [List.zip_cons_cons]
    simp only [List.mem_cons, forall_eq_or_imp, ih, List.cons.injEq]
  | [], _ :: _, h => by simp at h
  | _ :: _, [], h => by simp at h
theorem same_val (a b : List Byte) (h : a.length = b.length) : zeroB (offB a b) = if a = b then 18446744073709551615#64 else 0#64 := by
  obtain ⟨e, h1, h2⟩ := offB_byte a b 0#8
  unfold offB
  rw [show (0#64 : BitVec 64) = (0#8 : Byte).setWidth 64 by decide, h1, zeroB_byte]
  have : e = 0#8 ↔ a = b := by rw [h2, zip_all_eq a b h]; simp
  by_cases hab : a = b
  · rw [if_pos hab, if_pos (this.2 hab)]
  · rw [if_neg hab, if_neg (fun h => hab (this.1 h))]; decide
theorem same_x {L : List Asrt} {va vb : Value} {a b : List Byte} (ha : Bs L va a) (hb : Bs L vb b) (hl : a.length = b.length) : Con Tryz.prog 206 [va, vb] L (fun r M => r = u64b (if a = b then 18446744073709551615#64 else 0#64) ∧ L = M) := by
  rw [← same_val a b hl]
  refine Con.get (fun w0 w F H => ha.sh _ _ _ H) ?_
  rintro ⟨aa, ac, rfl, hac, hacm⟩
  refine Con.get (fun w0 w F H => hb.sh _ _ _ H) ?_
  rintro ⟨ba, bc, rfl, hbc, hbcm⟩
  refine fn_y Tryz.func206 Tryz.mixed ?_
  intro w0
  refine Y9 ?_
  refine Zot 11 rfl ((fun h => h hl)) ?_
  refine V10 ?_
  refine Zgo [(5, 6), (14, 29)] (by kernel_rfl) (fun i : Nat => i ≤ a.length) (fun _ => L) (fun i => [(5, u64b (offB (a.take i) (b.take i))), (14, nvv i)]) (fun i => a.length - i) 0 (by omega) qI ⟨by rw [List.take_zero, List.take_zero]; rfl, rfl, trivial⟩ ?_
  intro i u hi
  refine V3 ?_
  refine Zgg rfl (fun hB => ?_) (fun hB => ?_)
  · refine Zgt (fun F w H => ha.some (by omega) H) ?_
    rintro ⟨a1, a2, rfl⟩
    refine Zgt (fun F w H => hb.some (by omega) H) ?_
    rintro ⟨a3, a4, rfl⟩
    have hB2 : i < b.length := by omega
    refine V4 ?_
    refine Zij (_) [8] (.q 0 (.q 1 (.q 2 (.q 3 (.q 5 (.q 6 (.q 7 (.r 4 (.r 8 (.q 9 (.q 10 (.q 11 (.q 12 .nil))))))))))))) (by kernel_rfl) (by kernel_rfl) (Imp.refl _) ?_
    refine W7 ?_
    refine Zfh rfl rfl (ha.rd.at hB (getM hB)) ?_
    refine Zfh rfl rfl (hb.rd.at hB2 (getM hB2)) ?_
    refine W1 ?_
    refine Zim rfl (Zjx rfl) ?_
    refine W3 ?_
    refine V4 ?_
    exact Zgl (i + 1) qO (by omega) qI ⟨by rw [offB_take hB hB2]; rfl, rfl, trivial⟩
  · have hie : i = a.length := by omega
    rw [List.take_of_length_le (by omega), List.take_of_length_le (by omega)]
    refine Y2 ?_
    refine Zor (c := zero_x _) (k := ?_)
    rintro _ _ ⟨rfl, rfl⟩
    refine V3 ?_
    refine rx1 (Zg9 rfl (Zg7)) ?_
    exact ⟨_, ⟨rfl, rfl⟩, by exact Imp.arr (by repeat (first|exact Arr.nil|exact Arr.stop|refine Arr.cons (by repeat constructor) ?_|refine Arr.skip ?_))⟩
theorem rotl_x (x : Wd) (n : Nat) (hn : n = 7 ∨ n = 8 ∨ n = 12 ∨ n = 16) : Con Tryz.prog 267 [u32b x, nvv n] [] (fun r M => r = u32b (rotW x n) ∧ M = []) := by
  refine fn_y Tryz.func267 Tryz.mixed ?_
  intro w0
  refine Y5 ?_
  refine Zhg (Zlv rfl) ?_
  refine Zhg (Zlf (y := 31#64) rfl rfl) ?_
  refine Y5 ?_
  refine Zhg (Zku rfl rfl) ?_
  refine Y2 ?_
  refine Zhg (Zld (x := 32#64) rfl rfl) ?_
  refine Zhg (Zkv rfl rfl) ?_
  refine V3 ?_
  refine rx1 (Zg9 rfl (Zg7)) ?_
  rcases hn with rfl|rfl|rfl|rfl <;> exact ⟨_, ⟨rfl, rfl⟩, qI⟩
end Go.Sl
namespace Go.Sl
open Go Go.Proofs
attribute [local irreducible] pt old pur ex all den denOps denS xOps xC cX CX xthen xblk xcut xloop xng retX resX Calls PV Rd Con
theorem quarter_x (a b c d : Wd) : Con Tryz.prog 260 [u32b a, u32b b, u32b c, u32b d] [] (fun r M => r = .tuple #[u32b (quarterW a b c d).1, u32b (quarterW a b c d).2.1, u32b (quarterW a b c d).2.2.1, u32b (quarterW a b c d).2.2.2] ∧ M = []) := by
  refine fn_y Tryz.func260 Tryz.mixed ?_
  intro w0
  refine Y20 ?_
  refine Zor (c := rotl_x _ 16 (by omega)) (k := ?_)
  rintro _ _ ⟨rfl, rfl⟩
  refine Y17 ?_
  refine Zor (c := rotl_x _ 12 (by omega)) (k := ?_)
  rintro _ _ ⟨rfl, rfl⟩
  refine Y17 ?_
  refine Zor (c := rotl_x _ 8 (by omega)) (k := ?_)
  rintro _ _ ⟨rfl, rfl⟩
  refine Y17 ?_
  refine Zor (c := rotl_x _ 7 (by omega)) (k := ?_)
  rintro _ _ ⟨rfl, rfl⟩
  refine V13 ?_
  refine rx4 (Zg9 rfl (Zg9 rfl (Zg9 rfl (Zg9 rfl (Zg7))))) ?_
  exact ⟨_, ⟨rfl, rfl⟩, by exact Imp.arr (by repeat (first|exact Arr.nil|exact Arr.stop|refine Arr.cons (by repeat constructor) ?_|refine Arr.skip ?_))⟩
theorem word_x {L : List Asrt} {v : Value} {b : List Byte} (h : Bs L v b) (hb : b.length = 4) : Con Tryz.prog 259 [v] L (fun r M => r = u32b (lowB 32 b) ∧ L = M) := by
  refine Con.get (fun w0 w F H => h.sh _ _ _ H) ?_
  rintro ⟨va, vc, rfl, hvc, hvcm⟩
  refine fn_y Tryz.func259 Tryz.mixed ?_
  intro w0
  refine Y5 ?_
  refine Zor (c := little32_x h hb) (k := ?_)
  rintro _ _ ⟨rfl, rfl⟩
  refine V11 ?_
  refine rx1 (Zg9 rfl (Zg7)) ?_
  exact ⟨_, ⟨rfl, rfl⟩, by exact Imp.arr (by repeat (first|exact Arr.nil|exact Arr.stop|refine Arr.cons (by repeat constructor) ?_|refine Arr.skip ?_))⟩
def st0 : List Wd := [1634760805#32, 857760878#32, 2036477234#32, 1797285236#32]
def stK (key : List Byte) (n : Nat) : List Wd := st0 ++ ((List.range n).map (fun i => lowB 32 ((key.drop (4 * i)).take 4)) ++ List.replicate (12 - n) 0#32)
def stN (key : List Byte) (ctr : Wd) (nonce : List Byte) (n : Nat) : List Wd := st0 ++ ((List.range 8).map (fun i => lowB 32 ((key.drop (4 * i)).take 4)) ++ (ctr :: ((List.range n).map (fun i => lowB 32 ((nonce.drop (4 * i)).take 4)) ++ List.replicate (3 - n) 0#32)))
theorem stK_len (key : List Byte) (n : Nat) (h : n ≤ 8) : (stK key n).length = 16 := by simp [stK, st0]; omega
theorem stN_len (key : List Byte) (ctr : Wd) (nonce : List Byte) (n : Nat) (h : n ≤ 3) : (stN key ctr nonce n).length = 16 := by simp [stN, st0]; omega
theorem stK_set (key : List Byte) (n : Nat) (h : n < 8) : (stK key n).set (4 + n) (lowB 32 ((key.drop (4 * n)).take 4)) = stK key (n + 1) := by
  unfold stK
  rw [List.set_append_right _ _ (by simp [st0]), List.set_append_right _ _ (by simp [st0])]
  simp only [st0, List.length_cons, List.length_nil, List.length_map, List.length_range]
  rw [show 4 + n - (0 + 1 + 1 + 1 + 1) - n = 0 by omega, show 12 - n = (12 - (n + 1)) + 1 by omega, List.replicate_succ, List.set_cons_zero, List.range_succ, List.map_append, List.append_assoc]
  rfl
theorem stK_ctr (key : List Byte) (ctr : Wd) (nonce : List Byte) : (stK key 8).set 12 ctr = stN key ctr nonce 0 := rfl
theorem stN_set (key : List Byte) (ctr : Wd) (nonce : List Byte) (n : Nat) (h : n < 3) : (stN key ctr nonce n).set (13 + n) (lowB 32 ((nonce.drop (4 * n)).take 4)) = stN key ctr nonce (n + 1) := by
  match n, h with
  | 0, _ => rfl
  | 1, _ => rfl
  | 2, _ => rfl
theorem stN_end (key : List Byte) (ctr : Wd) (nonce : List Byte) : stN key ctr nonce 3 = stateW key ctr nonce := rfl
attribute [local irreducible] lowB stK stN
theorem state_x (key : List Byte) (ctr : Wd) (nonce : List Byte) (hk : key.length = 32) (hn : nonce.length = 12) : Con Tryz.prog 242 [.agg (key.map u8b).toArray, u32b ctr, .agg (nonce.map u8b).toArray] [] (fun r M => r = .agg ((stateW key ctr nonce).map u32b).toArray ∧ M = []) := by
  have hk0 : stK key 0 = [1634760805#32, 857760878#32, 2036477234#32, 1797285236#32, 0#32, 0#32, 0#32, 0#32, 0#32, 0#32, 0#32, 0#32, 0#32, 0#32, 0#32, 0#32] := by unfold stK; rfl
  refine fn_y Tryz.func242 Tryz.mixed ?_
  intro w0
  refine Y1 ?_
  refine Zh5 rfl ?_; intro b3
  refine Zh5 rfl ?_; intro b5
  refine Zhz (cs := ((List.replicate 16 0#32).map u32b).toArray) rfl ?_; intro b6
  refine Y2 ?_
  refine Zhg (Zdn (cs := #[u32b 1634760805#32, u32b 857760878#32, u32b 2036477234#32, u32b 1797285236#32, u32b 0#32, u32b 0#32, u32b 0#32, u32b 0#32, u32b 0#32, u32b 0#32, u32b 0#32, u32b 0#32, u32b 0#32, u32b 0#32, u32b 0#32, u32b 0#32]) (by kernel_rfl)) ?_
  refine Zhz (cs := ((List.replicate 16 0#32).map u32b).toArray) rfl ?_; intro b7
  first|refine Zhy rfl rfl qR qZ qN qZ ?_|refine Zhx rfl rfl qR qZ qN qZ rfl ?_
  refine V4 ?_
  refine Zgo [(8, 8), (11, 24)] (by kernel_rfl) (fun i : Nat => i ≤ 8) (fun i => [cl b7 ((stK key i).map u32b).toArray 314, cl b6 ((List.replicate 16 0#32).map u32b).toArray 314, cl b5 (nonce.map u8b).toArray 156, cl b3 (key.map u8b).toArray 42])
    (fun i => [(11, nvv i)]) (fun i => 8 - i) 0 (by omega) (by rw [hk0]; exact qI) ⟨rfl, trivial⟩ ?_
  intro i u hi
  have hkl := stK_len key i hi
  refine V3 ?_
  refine Zgg rfl (fun hB => ?_) (fun hB => ?_)
  · refine Y6 ?_
    first|refine Zhg (Zma (a := 4) rfl rfl) ?_|refine Zhg (Zbg rfl rfl) ?_
    refine Y1 ?_
    first|refine Zhg (Zmc (a := 4) rfl rfl) ?_|refine Zhg (Zbi rfl rfl) ?_
    refine Y1 ?_
    first|refine Zhg (Zmc (a := 4) rfl rfl) ?_|refine Zhg (Zbi rfl rfl) ?_
    refine Y1 ?_
    first|refine Zhg (Zm9 (l := 4 * i) (h := 4 * i + 4) rfl qB qB) ?_|refine Zhg (Zmx (l := 4 * i) (h := 4 * i + 4) rfl qB qB) ?_
    refine Zor (c := word_x (L := [cl b3 (key.map u8b).toArray 42]) (b := (key.drop (4 * i)).take (4 * i + 4 - 4 * i)) (bs_piece (o := 4 * i) (n := 4 * i + 4 - 4 * i) (c := 32 - 4 * i) qH (by omega) (by omega) (by omega)) (by simp; omega)) (k := ?_)
    rintro _ _ ⟨rfl, rfl⟩
    refine Y1 ?_
    first|refine Zhg (Zl5 (n := 4 + i) rfl (int_eq (by push_cast; omega))) ?_|refine Zhg (Zl3 (n := 4 + i) rfl (int_eq (by push_cast; omega))) ?_
    refine Zht rfl rfl qR qZ (setL (f := u32b) (l := stK key i)) ?_
    refine V1 ?_
    rw [show 4 * i + 4 - 4 * i = 4 by omega, stK_set key i hB]
    refine V4 ?_
    exact Zgl (i + 1) qO (by omega) qI ⟨rfl, trivial⟩
  · have hie : i = 8 := by omega
    subst hie
    refine Y2 ?_
    first|refine Zhg (Zl5 (n := 12) rfl rfl) ?_|refine Zhg (Zl3 (n := 12) rfl rfl) ?_
    refine Zht rfl rfl qR qZ (setL (f := u32b) (l := stK key 8)) ?_
    refine V1 ?_
    rw [stK_ctr key ctr nonce]
    refine V3 ?_
    refine Zgo [(9, 9), (27, 40)] (by kernel_rfl) (fun i : Nat => i ≤ 3) (fun i => [cl b7 ((stN key ctr nonce i).map u32b).toArray 314, cl b6 ((List.replicate 16 0#32).map u32b).toArray 314, cl b5 (nonce.map u8b).toArray 156, cl b3 (key.map u8b).toArray 42])
      (fun i => [(27, nvv i)]) (fun i => 3 - i) 0 (by omega) qI ⟨rfl, trivial⟩ ?_
    intro i u2 hi
    have hkl := stN_len key ctr nonce i hi
    refine V3 ?_
    refine Zgg rfl (fun hB => ?_) (fun hB => ?_)
    · refine Y6 ?_
      first|refine Zhg (Zma (a := 13) rfl rfl) ?_|refine Zhg (Zbg rfl rfl) ?_
      refine Y1 ?_
      first|refine Zhg (Zmc (a := 4) rfl rfl) ?_|refine Zhg (Zbi rfl rfl) ?_
      refine Y1 ?_
      first|refine Zhg (Zmc (a := 4) rfl rfl) ?_|refine Zhg (Zbi rfl rfl) ?_
      refine Y1 ?_
      first|refine Zhg (Zm9 (l := 4 * i) (h := 4 * i + 4) rfl qB qB) ?_|refine Zhg (Zmx (l := 4 * i) (h := 4 * i + 4) rfl qB qB) ?_
      refine Zor (c := word_x (L := [cl b5 (nonce.map u8b).toArray 156]) (b := (nonce.drop (4 * i)).take (4 * i + 4 - 4 * i)) (bs_piece (o := 4 * i) (n := 4 * i + 4 - 4 * i) (c := 12 - 4 * i) qH (by omega) (by omega) (by omega)) (by simp; omega)) (k := ?_)
      rintro _ _ ⟨rfl, rfl⟩
      refine Y1 ?_
      first|refine Zhg (Zl5 (n := 13 + i) rfl (int_eq (by push_cast; omega))) ?_|refine Zhg (Zl3 (n := 13 + i) rfl (int_eq (by push_cast; omega))) ?_
      refine Zht rfl rfl qR qZ (setL (f := u32b) (l := stN key ctr nonce i)) ?_
      refine V1 ?_
      rw [show 4 * i + 4 - 4 * i = 4 by omega, stN_set key ctr nonce i hB]
      refine V4 ?_
      exact Zgl (i + 1) qO (by omega) qI ⟨rfl, trivial⟩
    · have hie : i = 3 := by omega
      subst hie
      rw [stN_end]
      have hsl := stateW_len key ctr nonce
      refine Y2 ?_
      first|refine Zhy rfl rfl qR qZ qN qZ ?_|refine Zhx rfl rfl qR qZ qN qZ rfl ?_
      refine V1 ?_
      refine rx1 (Zhe rfl qH qZ (Zg7)) ?_
      exact ⟨_, ⟨rfl, rfl⟩, by exact Imp.arr (by repeat (first|exact Arr.nil|exact Arr.stop|refine Arr.cons (by repeat constructor) ?_|refine Arr.skip ?_))⟩
end Go.Sl
namespace Go.Sl
open Go Go.Proofs
attribute [local irreducible] pt old pur ex all den denOps denS xOps xC cX CX xthen xblk xcut xloop xng retX resX Calls PV Rd Con
theorem low64_x {L : List Asrt} {v : Value} {b : List Byte} (h : Bs L v b) (hb : b.length ≤ 140737488355000) : Con Tryz.prog 203 [v] L (fun r M => r = u64b (lowB 64 b) ∧ L = M) := by
  refine Con.get (fun w0 w F H => h.sh _ _ _ H) ?_
  rintro ⟨va, vc, rfl, hvc, hvcm⟩
  refine fn_y Tryz.func203 Tryz.mixed ?_
  intro w0
  refine V11 ?_
  refine Zgo [(3, 5), (8, 20)] (by kernel_rfl) (fun i : Nat => i ≤ b.length) (fun _ => L) (fun i => [(3, u64b (lowB 64 (b.take i))), (8, nvv i)]) (fun i => b.length - i) 0 (by omega) qI ⟨by rw [List.take_zero]; rfl, rfl, trivial⟩ ?_
  intro i u hi
  refine V3 ?_
  refine Zgg rfl (fun hB => ?_) (fun hB => ?_)
  · refine Zgt (fun F w H => h.some (by omega) H) ?_
    rintro ⟨a1, a2, rfl⟩
    refine Y3 ?_
    refine Zff rfl (h.rd.at hB (getM hB)) ?_
    refine Y6 ?_
    refine Zhg (Zjx rfl) ?_
    refine Y1 ?_
    first|refine Zhg (Zmc (a := 8) rfl rfl) ?_|refine Zhg (Zbi rfl rfl) ?_
    refine Zhg (Zlj rfl rfl) ?_
    refine V7 ?_
    have e : lowB 64 (b.take (i + 1)) = lowB 64 (b.take i) ||| (b[i].setWidth 64) <<< (8 * i) := by
      rw [List.take_succ_eq_append_getElem hB, lowB_snoc, List.length_take, Nat.min_eq_left hi]
    exact Zgl (i + 1) qO (by omega) qI ⟨by rw [e]; rfl, rfl, trivial⟩
  · have hie : i = b.length := by omega
    subst hie
    rw [List.take_length]
    refine V4 ?_
    refine rx1 (Zg9 rfl (Zg7)) ?_
    exact ⟨_, ⟨rfl, rfl⟩, by exact Imp.arr (by repeat (first|exact Arr.nil|exact Arr.stop|refine Arr.cons (by repeat constructor) ?_|refine Arr.skip ?_))⟩
abbrev rdc (g o len c : Nat) : Array Value := #[.slice (some ⟨g, o, none⟩) len c, nvv 0]
theorem newReader_x {L : List Asrt} {v : Value} {b : List Byte} (h : Bs L v b) (hb : b.length ≤ 140737488351232) :
    Con Tryz.prog 183 [v] L (fun r M => ∃ p g, r = .pointer (some ⟨p, 0, none⟩) ∧ M = cl p (rdc g 0 b.length b.length) 265 :: cl g (b.map u8b).toArray 5 :: L) := by
  refine Con.get (fun w0 w F H => h.sh _ _ _ H) ?_
  rintro ⟨va, vc, rfl, hvc, hvcm⟩
  refine fn_y Tryz.func183 Tryz.mixed ?_
  intro w0
  refine Y6 ?_
  refine Zm3 (f := u8b) (a := 0#8) rfl rfl rfl qS qS qS ?_; intro b6
  refine Y5 ?_
  refine Zib rfl rfl (h.rd.imp Imp.tail) qR qZ qN ((by have := copy_pre b 0; simpa using this)) ?_
  refine Y3 ?_
  refine Zhg (Zdm (cs := #[.slice _ _ _, .int .i64 0]) rfl) ?_
  refine Zh5 rfl ?_; intro b12
  refine V2 ?_
  refine rx1 (Zhb rfl (Zg7)) ?_
  exact ⟨_, ⟨b12, b6, rfl, rfl⟩, qI⟩
theorem take_x {p g o len c n : Nat} (hn : n ≤ len) (hc : n < c) (h0 : 0 < n) (hcm : c ≤ 9223372036854775807) (hlc : len ≤ c) :
    Con Tryz.prog 204 [.pointer (some ⟨p, 0, none⟩), nvv n] [cl p (rdc g o len c) 265] (fun r M => r = .slice (some ⟨g, o, none⟩) n n ∧ M = [cl p (rdc g (o + n) (len - n) (c - n)) 265]) := by
  refine fn_y Tryz.func204 Tryz.mixed ?_
  intro w0
  refine Y12 ?_
  refine Zot 13 rfl (by decide) ?_
  refine Y6 ?_
  refine Zot 17 rfl (by omega) ?_
  refine Y11 ?_
  refine Zot 28 rfl (by omega) ?_
  refine Y9 ?_
  refine Zot 36 rfl (by decide) ?_
  refine Y9 ?_
  refine Zhg (Zns (h := n) rfl rfl rfl (by omega) h0) ?_
  refine Y9 ?_
  first|refine Zhg (Zna (l := n) (h := len) rfl qB qB) ?_|refine Zhg (Zmz (l := n) (h := len) rfl qB qB) ?_
  refine V8 ?_
  refine rx1 (Zhc rfl (Zg7)) ?_
  exact ⟨_, ⟨rfl, rfl⟩, qI⟩
theorem u64_x {p g o len c : Nat} (l : List Byte) (hl : o + 8 ≤ l.length) (hn : 8 ≤ len) (hc : 8 < c) (hcm : c ≤ 9223372036854775807) (hlc : len ≤ c) :
    Con Tryz.prog 184 [.pointer (some ⟨p, 0, none⟩)] [cl p (rdc g o len c) 265, cl g (l.map u8b).toArray 5] (fun r M => r = u64b (lowB 64 ((l.drop o).take 8)) ∧ M = [cl p (rdc g (o + 8) (len - 8) (c - 8)) 265, cl g (l.map u8b).toArray 5]) := by
  have hll : ((l.drop o).take 8).length = 8 := by simp; omega
  refine fn_y Tryz.func184 Tryz.mixed ?_
  intro w0
  refine Y5 ?_
  refine Zor (c := take_x (n := 8) hn hc (by omega) hcm hlc) (k := ?_)
  rintro _ _ ⟨rfl, rfl⟩
  refine Y1 ?_
  refine Zor (c := low64_x (L := [cl g (l.map u8b).toArray 5]) (b := (l.drop o).take 8) (bs_piece (o := o) (n := 8) (c := 8) .here hl (by omega) (by omega)) (by omega)) (k := ?_)
  rintro _ _ ⟨rfl, rfl⟩
  refine V3 ?_
  refine rx1 (Zg9 rfl (Zg7)) ?_
  exact ⟨_, ⟨rfl, rfl⟩, qI⟩
theorem u32_x {p g o len c : Nat} (l : List Byte) (hl : o + 4 ≤ l.length) (hn : 4 ≤ len) (hc : 4 < c) (hcm : c ≤ 9223372036854775807) (hlc : len ≤ c) :
    Con Tryz.prog 185 [.pointer (some ⟨p, 0, none⟩)] [cl p (rdc g o len c) 265, cl g (l.map u8b).toArray 5] (fun r M => r = u32b (lowB 32 ((l.drop o).take 4)) ∧ M = [cl p (rdc g (o + 4) (len - 4) (c - 4)) 265, cl g (l.map u8b).toArray 5]) := by
  have hll : ((l.drop o).take 4).length = 4 := by simp; omega
  refine fn_y Tryz.func185 Tryz.mixed ?_
  intro w0
  refine Y5 ?_
  refine Zor (c := take_x (n := 4) hn hc (by omega) hcm hlc) (k := ?_)
  rintro _ _ ⟨rfl, rfl⟩
  refine Y1 ?_
  refine Zor (c := low32_x (L := [cl g (l.map u8b).toArray 5]) (b := (l.drop o).take 4) (bs_piece (o := o) (n := 4) (c := 4) .here hl (by omega) (by omega)) (by omega)) (k := ?_)
  rintro _ _ ⟨rfl, rfl⟩
  refine V3 ?_
  refine rx1 (Zg9 rfl (Zg7)) ?_
  exact ⟨_, ⟨rfl, rfl⟩, qI⟩
theorem rerr_x {p g o len c : Nat} : Con Tryz.prog 186 [.pointer (some ⟨p, 0, none⟩)] [cl p (rdc g o len c) 265] (fun r M => r = nvv 0 ∧ M = [cl p (rdc g o len c) 265]) := by
  refine fn_y Tryz.func186 Tryz.mixed ?_
  intro w0
  refine Y6 ?_
  refine Zhn 4 rfl (rfl) ?_
  refine V9 ?_
  refine rx1 (Zg9 rfl (Zg7)) ?_
  exact ⟨_, ⟨rfl, rfl⟩, qI⟩
end Go.Sl
namespace Go.Sl
open Go Go.Proofs
attribute [local irreducible] pt old pur ex all den denOps denS xOps xC cX CX xthen xblk xcut xloop xng retX resX Calls PV Rd Con
attribute [local irreducible] qAt twiceN quarterW
theorem getW {l : List Wd} (j : Nat) (h : j < l.length) : ((l.map u32b).toArray)[j]? = some (u32b (l.getD j 0#32)) := by
  rw [getL h, List.getD_eq_getElem?_getD, List.getElem?_eq_getElem h]; rfl
theorem qAt_is (s : List Wd) (a b c d : Nat) : qAt s (a, b, c, d) = (((s.set a (quarterW (s.getD a 0#32) (s.getD b 0#32) (s.getD c 0#32) (s.getD d 0#32)).1).set b (quarterW (s.getD a 0#32) (s.getD b 0#32) (s.getD c 0#32) (s.getD d 0#32)).2.1).set c (quarterW (s.getD a 0#32) (s.getD b 0#32) (s.getD c 0#32) (s.getD d 0#32)).2.2.1).set d (quarterW (s.getD a 0#32) (s.getD b 0#32) (s.getD c 0#32) (s.getD d 0#32)).2.2.2 := by
  unfold qAt; rfl
theorem twice_x (s : List Wd) (hs : s.length = 16) : Con Tryz.prog 243 [.agg (s.map u32b).toArray] [] (fun r M => r = .agg ((twiceW s).map u32b).toArray ∧ M = []) := by
  have ht0 : twiceN s 0 = s := by unfold twiceN; rfl
  have hl : ∀ n, (twiceN s n).length = 16 := fun n => by rw [twiceN_len, hs]
  refine fn_y Tryz.func243 Tryz.mixed ?_
  intro w0
  refine Y1 ?_
  refine Zh5 rfl ?_; intro b1
  refine Zhz (cs := ((List.replicate 16 0#32).map u32b).toArray) rfl ?_; intro b2
  refine V4 ?_
  refine Zgo [(3, 58)] (by kernel_rfl) (fun t : Nat => t ≤ 2) (fun t => [cl b1 ((twiceN s (4 * t)).map u32b).toArray 314, cl b2 ((List.replicate 16 0#32).map u32b).toArray 314]) (fun t => [(8, nvv t)]) (fun t => 2 - t) 0 (by omega) (by rw [ht0]; exact qI) ⟨rfl, trivial⟩ ?_
  intro t u ht
  have hlt := hl (4 * t)
  refine V3 ?_
  refine Zgg rfl (fun hA => ?_) (fun hA => ?_)
  · refine V7 ?_
    refine Zgo [(4, 7), (11, 57)] (by kernel_rfl) (fun i : Nat => i ≤ 4) (fun i => [cl b1 ((twiceN s (4 * t + i)).map u32b).toArray 314, cl b2 ((List.replicate 16 0#32).map u32b).toArray 314]) (fun i => [(11, nvv i)]) (fun i => 4 - i) 0 (by omega) qI ⟨rfl, trivial⟩ ?_
    intro i u2 hi
    have hli := hl (4 * t + i)
    refine V3 ?_
    refine Zgg rfl (fun hB => ?_) (fun hB => ?_)
    · have h1 : (i + t) % 4 < 4 := Nat.mod_lt _ (by omega)
      have h2 : (i + 2 * t) % 4 < 4 := Nat.mod_lt _ (by omega)
      have h3 : (i + 3 * t) % 4 < 4 := Nat.mod_lt _ (by omega)
      have hsucc := twiceN_succ s (4 * t + i) (by omega)
      rw [show (4 * t + i) / 4 = t by omega, show (4 * t + i) % 4 = i by omega, quadOf, qAt_is] at hsucc
      generalize twiceN s (4 * t + i) = S at hli hsucc
      refine Y9 ?_
      first|refine Zhg (Zma (a := 4) rfl rfl) ?_|refine Zhg (Zbg rfl rfl) ?_
      refine Y2 ?_
      first|refine Zhg (Zmc (a := 2) rfl rfl) ?_|refine Zhg (Zbi rfl rfl) ?_
      refine Y2 ?_
      first|refine Zhg (Zma (a := 8) rfl rfl) ?_|refine Zhg (Zbg rfl rfl) ?_
      refine Y2 ?_
      first|refine Zhg (Zmc (a := 3) rfl rfl) ?_|refine Zhg (Zbi rfl rfl) ?_
      refine Y2 ?_
      first|refine Zhg (Zma (a := 12) rfl rfl) ?_|refine Zhg (Zbg rfl rfl) ?_
      refine V4 ?_
      refine Zij (_) [9, 12, 15] (.q 0 (.q 1 (.q 2 (.q 3 (.q 4 (.q 5 (.q 7 (.q 8 (.q 10 (.q 11 (.q 13 (.q 14 (.r 6 (.r 9 (.r 12 (.r 15 (.e 16 false (.q 17 (.q 18 (.q 19 (.q 20 (.q 21 (.q 22 (.e 23 false (.q 24 (.e 25 false (.q 26 (.e 27 false (.q 28 (.e 29 false .nil)))))))))))))))))))))))))))))) (by kernel_rfl) (by kernel_rfl) (Imp.refl _) ?_
      refine W5 ?_
      first|refine Zim rfl (Zl5 (n := i) rfl (int_eq (by push_cast; omega))) ?_|refine Zim rfl (Zl3 (n := i) rfl (int_eq (by push_cast; omega))) ?_
      refine W1 ?_
      first|refine Zim rfl (Zl5 (n := 4 + (i + t) % 4) rfl (int_eq (by push_cast; omega))) ?_|refine Zim rfl (Zl3 (n := 4 + (i + t) % 4) rfl (int_eq (by push_cast; omega))) ?_
      refine W1 ?_
      first|refine Zim rfl (Zl5 (n := 8 + (i + 2 * t) % 4) rfl (int_eq (by push_cast; omega))) ?_|refine Zim rfl (Zl3 (n := 8 + (i + 2 * t) % 4) rfl (int_eq (by push_cast; omega))) ?_
      refine W1 ?_
      first|refine Zim rfl (Zl5 (n := 12 + (i + 3 * t) % 4) rfl (int_eq (by push_cast; omega))) ?_|refine Zim rfl (Zl3 (n := 12 + (i + 3 * t) % 4) rfl (int_eq (by push_cast; omega))) ?_
      refine Ziv rfl rfl qH (getW i (by omega)) ?_
      refine Ziv rfl rfl qH (getW _ (by omega)) ?_
      refine Ziv rfl rfl qH (getW _ (by omega)) ?_
      refine Ziv rfl rfl qH (getW _ (by omega)) ?_
      refine Ziq rfl ?_
      refine Zor (c := quarter_x _ _ _ _) (k := ?_)
      rintro _ _ ⟨rfl, rfl⟩
      refine Y1 ?_
      refine Zg3 ⟨(fun hh => Bool.noConfusion hh), ?_⟩
      refine W5 ?_
      first|refine Zim rfl (Zl5 (n := i) rfl (int_eq (by push_cast; omega))) ?_|refine Zim rfl (Zl3 (n := i) rfl (int_eq (by push_cast; omega))) ?_
      refine Ziq rfl ?_
      refine Zht rfl rfl qR qZ (setL (f := u32b)) ?_
      refine Zg3 ⟨(fun hh => Bool.noConfusion hh), ?_⟩
      first|refine Zim rfl (Zl5 (n := 4 + (i + t) % 4) rfl (int_eq (by push_cast; omega))) ?_|refine Zim rfl (Zl3 (n := 4 + (i + t) % 4) rfl (int_eq (by push_cast; omega))) ?_
      refine Ziq rfl ?_
      refine Zht rfl rfl qR qZ (setL (f := u32b)) ?_
      refine Zg3 ⟨(fun hh => Bool.noConfusion hh), ?_⟩
      first|refine Zim rfl (Zl5 (n := 8 + (i + 2 * t) % 4) rfl (int_eq (by push_cast; omega))) ?_|refine Zim rfl (Zl3 (n := 8 + (i + 2 * t) % 4) rfl (int_eq (by push_cast; omega))) ?_
      refine Ziq rfl ?_
      refine Zht rfl rfl qR qZ (setL (f := u32b)) ?_
      refine Zg3 ⟨(fun hh => Bool.noConfusion hh), ?_⟩
      first|refine Zim rfl (Zl5 (n := 12 + (i + 3 * t) % 4) rfl (int_eq (by push_cast; omega))) ?_|refine Zim rfl (Zl3 (n := 12 + (i + 3 * t) % 4) rfl (int_eq (by push_cast; omega))) ?_
      refine Ziq rfl ?_
      refine Zht rfl rfl qR qZ (setL (f := u32b)) ?_
      refine Zg3 ⟨(fun hh => Bool.noConfusion hh), ?_⟩
      refine Zik ?_
      refine Ct.o ?_
      rw [← hsucc]
      refine V4 ?_
      exact Zgl (i + 1) qO (by omega) qI ⟨rfl, trivial⟩
    · have hie : i = 4 := by omega
      subst hie
      refine V4 ?_
      exact Zgl (t + 1) qO (by omega) qI ⟨rfl, trivial⟩
  · have hie : t = 2 := by omega
    subst hie
    refine Y2 ?_
    first|refine Zhy rfl rfl qR qZ qN qZ ?_|refine Zhx rfl rfl qR qZ qN qZ rfl ?_
    refine V1 ?_
    refine rx1 (Zhe rfl qH qZ (Zg7)) ?_
    exact ⟨_, ⟨by unfold twiceW; rfl, rfl⟩, qI⟩
def outK (s f : List Wd) (i : Nat) : List Byte := outW64 s f i ++ List.replicate (64 - 4 * i) 0#8
theorem outK_len (s f : List Wd) (i : Nat) (h : i ≤ 16) : (outK s f i).length = 64 := by simp [outK, outW64_len]; omega
theorem outK_wr (s f : List Wd) (i : Nat) (h : i < 16) (w : Wd) (hw : w = sumW s f i) : wr (((outK s f i).map u8b).toArray) (4 * i) ((([] ++ leB w 4).map u8b).take (min ([] ++ leB w 4).length (64 - 4 * i) * 1)) = ((outK s f (i + 1)).map u8b).toArray := by
  have hl := leB_len w 4
  have ho := outW64_len s f i
  rw [List.nil_append, hl, Nat.min_eq_left (by omega), Nat.mul_one, List.take_of_length_le (by simp [hl])]
  apply Array.ext'
  rw [wr_toList _ _ _ (by simp [hl, outK_len s f i (by omega)]; omega)]
  simp only [outK]
  rw [outW64_succ, ← hw, show 64 - 4 * i = 4 + (64 - 4 * (i + 1)) by omega, ← List.replicate_append_replicate]
  simp only [List.map_append, List.length_map, hl]
  rw [List.take_append_of_le_length (by simp [ho]), List.take_of_length_le (by simp [ho]), List.drop_append, List.drop_of_length_le (by simp [ho])]
  simp [ho, show 4 * i + 4 - 4 * i = 4 by omega]
attribute [local irreducible] outK outW64 stateW twiceW iterW
theorem block_x (key : List Byte) (ctr : Wd) (nonce : List Byte) (hk : key.length = 32) (hn : nonce.length = 12) : Con Tryz.prog 225 [.agg (key.map u8b).toArray, u32b ctr, .agg (nonce.map u8b).toArray] [] (fun r M => r = .agg ((blockB key ctr nonce).map u8b).toArray ∧ M = []) := by
  have hsl := stateW_len key ctr nonce
  have hsc := state_x key ctr nonce hk hn
  obtain ⟨S, hS⟩ : ∃ S, S = stateW key ctr nonce := ⟨_, rfl⟩
  rw [← hS] at hsl hsc
  have hi0 : iterW 0 S = S := by unfold iterW; rfl
  have his : ∀ n, iterW (n + 1) S = twiceW (iterW n S) := fun n => by conv => lhs; unfold iterW
  have hbl : blockB key ctr nonce = outK (iterW 10 S) S 16 := by unfold blockB outK; rw [← hS]; simp
  have hil : ∀ n, (iterW n S).length = 16 := fun n => by rw [iterW_len, hsl]
  have ho0 : outK (iterW 10 S) S 0 = List.replicate 64 0#8 := by unfold outK outW64; simp
  have hol := outK_len (iterW 10 S) S
  refine fn_y Tryz.func225 Tryz.mixed ?_
  intro w0
  refine Y1 ?_
  refine Zh5 rfl ?_; intro b3
  refine Zh5 rfl ?_; intro b5
  refine Zhz (cs := ((List.replicate 64 0#8).map u8b).toArray) rfl ?_; intro b6
  refine Y5 ?_
  refine Zor (c := hsc) (k := ?_)
  rintro _ _ ⟨rfl, rfl⟩
  refine Y1 ?_
  refine Zhz (cs := ((List.replicate 16 0#32).map u32b).toArray) rfl ?_; intro b7
  first|refine Zhy rfl rfl qR qZ qN qZ ?_|refine Zhx rfl rfl qR qZ qN qZ rfl ?_
  refine Y3 ?_
  refine Zhz (cs := ((List.replicate 16 0#32).map u32b).toArray) rfl ?_; intro b8
  first|refine Zhy rfl rfl qR qZ qN qZ ?_|refine Zhx rfl rfl qR qZ qN qZ rfl ?_
  refine V4 ?_
  refine Zgo [(17, 21)] (by kernel_rfl) (fun i : Nat => i ≤ 10) (fun i => [cl b8 ((iterW i S).map u32b).toArray 314, cl b7 (S.map u32b).toArray 314, cl b6 ((List.replicate 64 0#8).map u8b).toArray 285])
    (fun i => [(17, nvv i)]) (fun i => 10 - i) 0 (by omega) (by rw [hi0]; exact qI) ⟨rfl, trivial⟩ ?_
  intro i u hi
  have hli := hil i
  refine V3 ?_
  refine Zgg rfl (fun hB => ?_) (fun hB => ?_)
  · have htl := twiceW_len (iterW i S)
    refine Y2 ?_
    refine Zor (c := twice_x (iterW i S) hli) (k := ?_)
    rintro _ _ ⟨rfl, rfl⟩
    refine Y1 ?_
    first|refine Zhy rfl rfl qR qZ qN qZ ?_|refine Zhx rfl rfl qR qZ qN qZ rfl ?_
    refine V1 ?_
    rw [← his]
    refine V4 ?_
    exact Zgl (i + 1) qO (by omega) qI ⟨rfl, trivial⟩
  · have hie : i = 10 := by omega
    subst hie
    refine Y1 ?_
    refine Zhz (cs := ((List.replicate 64 0#8).map u8b).toArray) rfl ?_; intro b9
    refine V5 ?_
    refine Zgo [(10, 11), (23, 37)] (by kernel_rfl) (fun i : Nat => i ≤ 16) (fun i => [cl b9 ((outK (iterW 10 S) S i).map u8b).toArray 285, cl b7 (S.map u32b).toArray 314, cl b6 ((List.replicate 64 0#8).map u8b).toArray 285])
      (fun i => [(23, nvv i)]) (fun i => 16 - i) 0 (by omega) (by rw [ho0]; exact qI) ⟨rfl, trivial⟩ ?_
    intro i u2 hi
    have hli := hol i hi
    refine V3 ?_
    refine Zgg rfl (fun hB => ?_) (fun hB => ?_)
    · refine Y2 ?_
      refine Zhg (Znb rfl rfl (getW i (by omega))) ?_
      refine V3 ?_
      refine Zij (_) [] (.q 0 (.q 1 (.q 2 (.q 3 (.q 4 (.q 5 (.r 6 (.q 7 (.e 8 false (.e 9 false .nil)))))))))) (by kernel_rfl) (by kernel_rfl) (Imp.refl _) ?_
      refine W1 ?_
      first|refine Zim rfl (Zmc (a := 4) rfl rfl) ?_|refine Zim rfl (Zbi rfl rfl) ?_
      first|refine Zim rfl (Zm9 (l := 4 * i) (h := 64) rfl qB qB) ?_|refine Zim rfl (Zmx (l := 4 * i) (h := 64) rfl qB qB) ?_
      refine W2 ?_
      first|refine Zim rfl (Zl5 (n := i) rfl (int_eq (by push_cast; omega))) ?_|refine Zim rfl (Zl3 (n := i) rfl (int_eq (by push_cast; omega))) ?_
      refine Ziv rfl rfl qH (getW i (by omega)) ?_
      refine W1 ?_
      refine Ziq rfl ?_
      refine Zor (c := put32_x (L := []) _ Bs.nil (by simp)) (k := ?_)
      rintro _ _ ⟨a3, c3, rfl, rfl⟩
      refine Y1 ?_
      refine Zg3 ⟨(fun hh => Bool.noConfusion hh), ?_⟩
      refine Ziq rfl ?_
      refine Zib rfl rfl (Rd.own qH) qR qZ qN (outK_wr (iterW 10 S) S i hB _ rfl) ?_
      refine Zg3 ⟨(fun hh => Bool.noConfusion hh), ?_⟩
      refine Zik ?_
      refine V4 ?_
      exact Zgl (i + 1) qO (by omega) qI ⟨rfl, trivial⟩
    · have hie : i = 16 := by omega
      subst hie
      rw [← hbl]
      have hbll := blockB_len key ctr nonce
      refine Y2 ?_
      first|refine Zhy rfl rfl qR qZ qN qZ ?_|refine Zhx rfl rfl qR qZ qN qZ rfl ?_
      refine V1 ?_
      refine rx1 (Zhe rfl qH qZ (Zg7)) ?_
      exact ⟨_, ⟨rfl, rfl⟩, by exact Imp.arr (by repeat (first|exact Arr.nil|exact Arr.stop|refine Arr.cons (by repeat constructor) ?_|refine Arr.skip ?_))⟩
end Go.Sl
namespace Go.Sl
open Go Go.Proofs
attribute [local irreducible] pt old pur ex all den denOps denS xOps xC cX CX xthen xblk xcut xloop xng retX resX Calls PV Rd Con
attribute [local irreducible] blockB ksB
def scl (key nonce : List Byte) (p : BitVec 64) : Array Value := (key.map u8b ++ (nonce.map u8b ++ [u64b p])).toArray
section
variable {key nonce : List Byte} {p q : BitVec 64} (hk : key.length = 32) (hn : nonce.length = 12)
theorem scl_size (hk : key.length = 32) (hn : nonce.length = 12) : (scl key nonce p).size = 45 := by simp [scl, hk, hn]
theorem scl_key (hk : key.length = 32) : (scl key nonce p).extract 0 32 = (key.map u8b).toArray := by
  apply Array.ext'; simp [scl, List.extract_eq_take_drop, hk]
theorem scl_nonce (hk : key.length = 32) (hn : nonce.length = 12) : (scl key nonce p).extract 32 44 = (nonce.map u8b).toArray := by
  apply Array.ext'; simp [scl, List.extract_eq_take_drop, hk, hn]
theorem scl_p (hk : key.length = 32) (hn : nonce.length = 12) : (scl key nonce p)[44]? = some (u64b p) := by simp [scl, List.getElem?_append, List.getElem?_cons, hk, hn]
theorem scl_set (hk : key.length = 32) (hn : nonce.length = 12) : (scl key nonce p).setIfInBounds 44 (u64b q) = scl key nonce q := by
  apply Array.ext'; simp [scl, List.set_append, hk, hn]
end
def z44 : List Value := List.replicate 44 (Value.int .u8 0)
theorem new_fill {pl : Nat → Option (Nat × Nat)} (key nonce : List Byte) (p : BitVec 64) (hk : key.length = 32) (hn : nonce.length = 12) (h0 : pl 0 = some (0, 32)) (h1 : pl 1 = some (32, 12)) (h2 : pl 2 = some (44, 1)) :
    Instr.fill pl ((z44 ++ [Value.int .u64 0]).toArray) [(0, .agg (key.map u8b).toArray), (1, .agg (nonce.map u8b).toArray), (2, u64b p)] = some (scl key nonce p) := by
  refine fill_part (z' := (key.map u8b ++ (List.replicate 12 (Value.int .u8 0) ++ [Value.int .u64 0])).toArray) h0 (by simp [Value.cells, hk]) (by simp [z44]) ?_ (fill_part (z' := (key.map u8b ++ (nonce.map u8b ++ [Value.int .u64 0])).toArray) h1 (by simp [Value.cells, hn]) (by simp [hk]) ?_ (fill_part (z' := scl key nonce p) h2 (by simp [Value.cells]) (by simp [hk, hn]) ?_ fill_end))
  · apply Array.ext'
    rw [wr_toList _ _ _ (by simp [Value.cells, hk, z44])]
    simp [Value.cells, hk, z44]
  · apply Array.ext'
    rw [wr_toList _ _ _ (by simp [Value.cells, hk, hn])]
    simp [Value.cells, hk, hn, List.drop_append]
  · apply Array.ext'
    rw [wr_toList _ _ _ (by simp [Value.cells, hk, hn])]
    simp only [Value.cells, scl, List.take_append, List.drop_append, List.length_map, hk, hn]
    rw [List.take_of_length_le (l := key.map u8b) (by simp [hk]), List.drop_of_length_le (l := key.map u8b) (by simp [hk]), List.drop_of_length_le (l := nonce.map u8b) (by simp [hn]), List.take_of_length_le (l := nonce.map u8b) (by simp [hn])]
    simp
theorem snew_x (key nonce : List Byte) (ctr : Wd) (hk : key.length = 32) (hn : nonce.length = 12) : Con Tryz.prog 229 [.agg (key.map u8b).toArray, .agg (nonce.map u8b).toArray, u32b ctr] [] (fun r M => ∃ s, r = .pointer (some ⟨s, 0, none⟩) ∧ M = [cl s (scl key nonce (64#64 * ctr.setWidth 64)) 327]) := by
  refine fn_y Tryz.func229 Tryz.mixed ?_
  intro w0
  refine Y1 ?_
  refine Zh5 rfl ?_; intro b3
  refine Zh5 rfl ?_; intro b4
  refine Y6 ?_
  refine Zhg (Zlb rfl) ?_
  refine Zhg (Zle (x := 64#64) rfl rfl) ?_
  refine Zhg (Zdm (cs := scl key nonce (64#64 * ctr.setWidth 64)) (new_fill key nonce _ hk hn rfl rfl rfl)) ?_
  refine Zh5 rfl ?_; intro b13
  refine V2 ?_
  refine rx1 (Zhb rfl (Zg7)) ?_
  exact ⟨_, ⟨b13, rfl, rfl⟩, qI⟩
def xK (key nonce : List Byte) (p : Nat) (b : List Byte) (n : Nat) : List Byte := (List.range b.length).map fun j => if j < n then b.getD j 0#8 ^^^ ksB key nonce (p + j) else 0#8
theorem xK_len (key nonce : List Byte) (p : Nat) (b : List Byte) (n : Nat) : (xK key nonce p b n).length = b.length := by simp [xK]
theorem xK_zero (key nonce : List Byte) (p : Nat) (b : List Byte) : xK key nonce p b 0 = List.replicate b.length 0#8 := by
  apply List.ext_getElem (by simp [xK]); intro j h1 h2; simp [xK]
theorem xK_end (key nonce : List Byte) (p : Nat) (b : List Byte) : xK key nonce p b b.length = xorB key nonce p b := by
  apply List.ext_getElem (by simp [xK, xorB]); intro j h1 h2
  have : j < b.length := by simpa [xK] using h1
  simp [xK, xorB, this]
theorem xK_set (key nonce : List Byte) (p : Nat) (b : List Byte) (n : Nat) (h : n < b.length) (x y : Byte) (hx : x = b[n]) (hy : y = ksB key nonce (p + n)) : (xK key nonce p b n).set n (x ^^^ y) = xK key nonce p b (n + 1) := by
  subst hx; subst hy
  apply List.ext_getElem (by simp [xK])
  intro j h1 h2
  simp only [xK, List.getElem_set, List.getElem_map, List.getElem_range]
  by_cases e : n = j
  · subst e; rw [if_pos rfl, if_pos (by omega), List.getD_eq_getElem?_getD, List.getElem?_eq_getElem h]; rfl
  · rw [if_neg e]
    by_cases h3 : j < n
    · rw [if_pos h3, if_pos (by omega)]
    · rw [if_neg h3, if_neg (by omega)]
theorem ctr_eq (q : Nat) (hq : q < 18446744073709551616) : (BitVec.ofNat 64 q / 64#64).setWidth 32 = BitVec.ofNat 32 (q / 64) := by
  apply BitVec.eq_of_toNat_eq
  rw [BitVec.toNat_setWidth, BitVec.toNat_udiv, BitVec.toNat_ofNat, BitVec.toNat_ofNat, BitVec.toNat_ofNat, Nat.mod_eq_of_lt (show q < 2 ^ 64 by omega)]
theorem rem_eq (q : Nat) (hq : q < 18446744073709551616) : (BitVec.ofNat 64 q % 64#64).toNat = q % 64 := by
  rw [BitVec.toNat_umod, BitVec.toNat_ofNat, BitVec.toNat_ofNat, Nat.mod_eq_of_lt (show q < 2 ^ 64 by omega)]
theorem plus_eq (q n : Nat) : BitVec.ofNat 64 q + BitVec.ofInt 64 ((n : Nat) : Int) = BitVec.ofNat 64 (q + n) := by
  rw [show BitVec.ofInt 64 ((n : Nat) : Int) = BitVec.ofNat 64 n from BitVec.ofInt_natCast .., ← BitVec.ofNat_add]
theorem ks_in (key nonce : List Byte) (q i : Nat) (h : q % 64 + i < 64) : ksB key nonce (q + i) = (blockB key (BitVec.ofNat 32 (q / 64)) nonce).getD (q % 64 + i) 0#8 := by
  unfold ksB
  rw [show (q + i) / 64 = q / 64 by omega, show (q + i) % 64 = q % 64 + i by omega]
attribute [local irreducible] scl xK xorB
theorem sxor_x {L : List Asrt} {s : Nat} (key nonce : List Byte) (hk : key.length = 32) (hn : nonce.length = 12) (p : Nat) (hp : p + 1099511627776 ≤ 18446744073709551616) {v : Value} {b : List Byte} (h : Bs L v b) (hb : b.length + p ≤ 274877906944) :
    Con Tryz.prog 230 [.pointer (some ⟨s, 0, none⟩), v] (cl s (scl key nonce (BitVec.ofNat 64 p)) 327 :: L)
      (fun r M => ∃ g, r = .tuple #[.slice (some ⟨g, 0, none⟩) b.length b.length, nvv 0] ∧ M = cl g ((xorB key nonce p b).map u8b).toArray 5 :: cl s (scl key nonce (BitVec.ofNat 64 (p + b.length))) 327 :: L) := by
  refine Con.get (fun w0 w F H => (h.imp Imp.tail).sh _ _ _ H) ?_
  rintro ⟨va, vc, rfl, hvc, hvcm⟩
  have hsz := fun q => scl_size (p := q) hk hn
  refine fn_y Tryz.func230 Tryz.mixed ?_
  intro w0
  refine V9 ?_
  have hle : ¬ ((274877906944#64 - BitVec.ofNat 64 p).toNat < (BitVec.ofInt 64 ((b.length : Nat) : Int)).toNat) := by
    rw [BitVec.toNat_sub, BitVec.toNat_ofNat, BitVec.toNat_ofNat, BitVec.toNat_ofInt]
    omega
  refine Y3 ?_
  refine Zhg (Zlv rfl) ?_
  refine Y3 ?_
  refine Zhp rfl qH (scl_p hk hn) ?_
  refine Zhg (Zld (x := 274877906944#64) rfl rfl) ?_
  refine Zhg (Zlr rfl rfl) ?_
  refine Zot 22 rfl (hle) ?_
  refine Y5 ?_
  refine Zm3 (f := u8b) (a := 0#8) rfl rfl rfl qS qS qS ?_; intro b25
  refine V5 ?_
  refine Zgo [(7, 11), (26, 90)] (by kernel_rfl) (fun d : Nat => d ≤ b.length) (fun d => cl b25 ((xK key nonce p b d).map u8b).toArray 5 :: cl s (scl key nonce (BitVec.ofNat 64 (p + d))) 327 :: L) (fun d => [(7, nvv d)]) (fun d => b.length - d) 0 (by omega) (by rw [xK_zero]; exact qI) ⟨rfl, trivial⟩ ?_
  intro d u hd
  have hxl := xK_len key nonce p b
  refine V6 ?_
  refine Zgg rfl (fun hA => ?_) (fun hA => ?_)
  · refine Zgt (fun F w H => (h.imp (Imp.arr qV)).some (by omega) H) ?_
    rintro ⟨a1, a2, rfl⟩
    have hbl := fun c => blockB_len key c nonce
    have hs1 := hsz (BitVec.ofNat 64 (p + d))
    have hb1 := hbl ((BitVec.ofNat 64 (p + d) / 64#64).setWidth 32)
    refine Ct.o ?_
    refine Zij (_) [7, 8, 9, 13, 14, 15] (.q 0 (.q 1 (.q 2 (.q 4 (.q 5 (.q 6 (.q 10 (.q 11 (.q 12 (.r 3 (.r 7 (.r 8 (.r 9 (.r 13 (.e 14 true (.a 15 (.e 16 false .nil))))))))))))))))) (by kernel_rfl) (by kernel_rfl) (Imp.refl _) ?_
    refine W9 ?_
    refine Zix (n := 32) rfl rfl qH qZ (scl_key hk) ?_
    refine Ziv rfl rfl qH (scl_p hk hn) ?_
    refine Ziz rfl (Zlt (y := 64#64) rfl rfl) ?_
    refine Ziz rfl (Zlz rfl) ?_
    refine Zfj rfl rfl (RdAg.cl (n := 12) (o := 32) qH (by omega) (scl_nonce hk hn)) ?_
    refine Ziq rfl ?_
    refine Zor (c := block_x key _ nonce hk hn) (k := ?_)
    rintro _ _ ⟨rfl, rfl⟩
    refine Y1 ?_
    refine Zg3 ⟨fun _ => Imp.arr qV, ?_⟩
    refine Zir rfl (cs := ((List.replicate 64 0#8).map u8b).toArray) rfl ?_; intro b8
    refine Ziq rfl ?_
    first|refine Zhy rfl rfl qR qZ qN qZ ?_|refine Zhx rfl rfl qR qZ qN qZ rfl ?_
    refine Zg3 ⟨(fun hh => Bool.noConfusion hh), ?_⟩
    refine Zik ?_
    refine Ct.o ?_
    rw [ctr_eq (p + d) (by omega)]
    generalize hBL : blockB key (BitVec.ofNat 32 ((p + d) / 64)) nonce = BL
    have hBll : BL.length = 64 := by rw [← hBL]; exact hbl _
    have hoff : (p + d) % 64 < 64 := Nat.mod_lt _ (by omega)
    refine Y4 ?_
    refine Zhp rfl qH (scl_p hk hn) ?_
    refine Zhg (PV.eq (v' := .int .u64 (((p + d) % 64 : Nat) : Int)) (Zlu (y := 64#64) rfl rfl) (by rw [rem_eq (p + d) (by omega)])) ?_
    first|refine Zhg (Zm9 (l := (p + d) % 64) (h := 64) rfl qB qB) ?_|refine Zhg (Zmx (l := (p + d) % 64) (h := 64) rfl qB qB) ?_
    refine V2 ?_
    obtain ⟨n, hn0⟩ : ∃ n, n = min (64 - (p + d) % 64) (b.length - d) := ⟨_, rfl⟩
    refine Y7 ?_
    refine Zhg (PV.eq (v' := nvv n) (Zcw rfl rfl) (int_eq (by rw [hn0]; omega))) ?_
    refine V2 ?_
    have hn1 : 0 < n := by omega
    have hn2 : n ≤ b.length - d := by omega
    have hn3 : (p + d) % 64 + n ≤ 64 := by omega
    clear hn0
    refine V4 ?_
    refine Zgo [(11, 11), (59, 78)] (by kernel_rfl) (fun i : Nat => i ≤ n) (fun i => cl b8 (BL.map u8b).toArray 285 :: cl b25 ((xK key nonce p b (d + i)).map u8b).toArray 5 :: cl s (scl key nonce (BitVec.ofNat 64 (p + d))) 327 :: L) (fun i => [(59, nvv i)]) (fun i => n - i) 0 (by omega) qI ⟨rfl, trivial⟩ ?_
    intro i u2 hi
    refine V3 ?_
    refine Zgg rfl (fun hB => ?_) (fun hB => ?_)
    · have hdi : d + i < b.length := by omega
      have hx2 := hxl (d + i)
      have hk2 : BL.getD ((p + d) % 64 + i) 0#8 = ksB key nonce (p + (d + i)) := by rw [← Nat.add_assoc, ks_in key nonce (p + d) i (by omega), hBL]
      have hg : ((BL.map u8b).toArray)[(p + d) % 64 + i]? = some (u8b (BL.getD ((p + d) % 64 + i) 0#8)) := by
        rw [getL (by omega), List.getD_eq_getElem?_getD, List.getElem?_eq_getElem (by omega)]; rfl
      refine V4 ?_
      refine Zij (_) [13] (.q 0 (.q 1 (.q 2 (.q 3 (.q 4 (.q 5 (.q 6 (.q 7 (.q 8 (.q 10 (.q 11 (.q 12 (.r 9 (.r 13 (.q 14 (.q 15 (.e 16 false .nil))))))))))))))))) (by kernel_rfl) (by kernel_rfl) (Imp.refl _) ?_
      refine W8 ?_
      first|refine Zim rfl (Zl4 (n := d + i) rfl (int_eq (by push_cast; omega))) ?_|refine Zim rfl (Zl1 (n := d + i) rfl (int_eq (by push_cast; omega))) ?_
      refine W2 ?_
      first|refine Zim rfl (Zl4 (n := i) rfl (int_eq (by push_cast; omega))) ?_|refine Zim rfl (Zl1 (n := i) rfl (int_eq (by push_cast; omega))) ?_
      refine Zfh rfl rfl (((h.imp (Imp.arr qV)).rd.at hdi (getM hdi))) ?_
      refine Ziv rfl rfl qH (hg) ?_
      refine W1 ?_
      first|refine Zim rfl (Zl4 (n := d + i) rfl (int_eq (by push_cast; omega))) ?_|refine Zim rfl (Zl1 (n := d + i) rfl (int_eq (by push_cast; omega))) ?_
      refine Ziq rfl ?_
      refine Zht rfl rfl qR qZ (setL (f := u8b)) ?_
      refine Zg3 ⟨(fun hh => Bool.noConfusion hh), ?_⟩
      refine Zik ?_
      refine Ct.o ?_
      rw [xK_set key nonce p b (d + i) hdi _ _ rfl hk2, Nat.add_assoc]
      refine V4 ?_
      exact Zgl (i + 1) qO (by omega) qI ⟨rfl, trivial⟩
    · have hie : i = n := by omega
      subst hie
      refine Y10 ?_
      refine Zhp rfl qH (scl_p hk hn) ?_
      refine Y1 ?_
      refine Zhg (Zlv rfl) ?_
      refine Y3 ?_
      refine Zht rfl rfl qR qZ (scl_set hk hn) ?_
      refine V1 ?_
      rw [plus_eq, Nat.add_assoc]
      exact Zgl (d + i) qO (by omega) qI ⟨rfl, trivial⟩
  · have hie : d = b.length := by omega
    subst hie
    rw [xK_end]
    refine V5 ?_
    refine rx2 (Zhc rfl (Zg9 rfl (Zg7))) ?_
    exact ⟨_, ⟨b25, rfl, rfl⟩, qI⟩
theorem xor_x {L : List Asrt} (key nonce : List Byte) (hk : key.length = 32) (hn : nonce.length = 12) {v : Value} {b : List Byte} (h : Bs L v b) (hb : b.length ≤ 274877906880) :
    Con Tryz.prog 207 [.agg (key.map u8b).toArray, .agg (nonce.map u8b).toArray, u32b 1#32, v] L
      (fun r M => ∃ g, r = .tuple #[.slice (some ⟨g, 0, none⟩) b.length b.length, nvv 0] ∧ M = cl g ((xorB key nonce 64 b).map u8b).toArray 5 :: L) := by
  refine Con.get (fun w0 w F H => h.sh _ _ _ H) ?_
  rintro ⟨va, vc, rfl, hvc, hvcm⟩
  have hnew := snew_x key nonce 1#32 hk hn
  rw [show 64#64 * (1#32 : Wd).setWidth 64 = BitVec.ofNat 64 64 by decide] at hnew
  refine fn_y Tryz.func207 Tryz.mixed ?_
  intro w0
  refine Y1 ?_
  refine Zh5 rfl ?_; intro b4
  refine Zh5 rfl ?_; intro b5
  refine Y7 ?_
  refine Zor (c := hnew) (k := ?_)
  rintro _ _ ⟨s, rfl, rfl⟩
  refine Y2 ?_
  refine Zor (c := sxor_x (L := L) (s := s) key nonce hk hn 64 (by omega) h (by omega)) (k := ?_)
  rintro _ _ ⟨g, rfl, rfl⟩
  refine V6 ?_
  refine rx2 (Zhc rfl (Zg9 rfl (Zg7))) ?_
  exact ⟨_, ⟨g, rfl, rfl⟩, qI⟩
end Go.Sl
namespace Go.Sl
open Go Go.Proofs
attribute [local irreducible] pt old pur ex all den denOps denS xOps xC cX CX xthen xblk xcut xloop xng retX resX Calls PV Rd Con
theorem ext_typeOf (e : Int) : extv Tryz.prog 209 [.iface 22 (.int .i64 e)] (.iface 296 (.agg #[.pointer (some ⟨0, 22, none⟩)])) :=
  extv_of Tryz.func209 (by kernel_rfl) (by kernel_rfl) (by kernel_rfl) (e := Extern.ReflectliteType.typeOf) (by kernel_rfl) (by intro w; kernel_rfl)
theorem ext_comparable : extv Tryz.prog 307 [.agg #[.pointer (some ⟨0, 22, none⟩)]] (.bool true) :=
  extv_of Tryz.func307 (by kernel_rfl) (by kernel_rfl) (by kernel_rfl) (e := Extern.ReflectliteType.method fun t => do Extern.Rtype.noPackHeld "Comparable" t; pure (.bool (← typeInfo t).comparable)) (by kernel_rfl) (by intro w; kernel_rfl)
theorem met_comparable : Met Tryz.prog 296 (.agg #[.pointer (some ⟨0, 22, none⟩)]) "Comparable" 307 (.agg #[.pointer (some ⟨0, 22, none⟩)]) := by intro w; kernel_rfl
theorem is2_x (e : Int) : Con Tryz.prog 210 [.iface 22 (.int .i64 e), .iface 22 (.int .i64 0), .bool true] [] (fun r M => r = .bool (decide (e = 0)) ∧ M = []) := by
  refine fn_y Tryz.func210 Tryz.mixed ?_
  intro w0
  refine V3 ?_
  refine Zgo [(0, 0), (6, 10), (12, 53)] (by kernel_rfl) (fun _ : Unit => True) (fun _ => []) (fun _ => [(0, .iface 22 (.int .i64 e))]) (fun _ => 0) () trivial qI ⟨rfl, trivial⟩ ?_
  intro _ u _
  by_cases h : e = 0
  · refine Y5 ?_
    first|refine Y0 ?_|(refine Zhh rfl ?_; (refine Zhg (Zny (q := .i64) rfl (by kernel_rfl) (by kernel_rfl) rfl rfl) ?_))
    refine Zos 18 rfl (h) ?_
    refine V6 ?_
    refine rx1 (Zha rfl (Zg7)) ?_
    exact ⟨_, ⟨by simp [h], rfl⟩, qI⟩
  · refine Y5 ?_
    first|refine Y0 ?_|(refine Zhh rfl ?_; (refine Zhg (Zny (q := .i64) rfl (by kernel_rfl) (by kernel_rfl) rfl rfl) ?_))
    refine Zot 18 rfl (h) ?_
    refine Y5 ?_
    refine Zhg (Znv rfl rfl (by kernel_rfl) rfl) ?_
    refine Y11 ?_
    refine Zhi rfl ?_
    refine Y7 ?_
    refine Zhg (Znv rfl rfl (by kernel_rfl) rfl) ?_
    refine Y5 ?_
    refine Zhg (Znv rfl rfl (by kernel_rfl) rfl) ?_
    refine V10 ?_
    refine rx1 (Zha rfl (Zg7)) ?_
    exact ⟨_, ⟨by simp [h], rfl⟩, qI⟩
theorem is_x (e : Int) : Con Tryz.prog 189 [.iface 22 (.int .i64 e), .iface 22 (.int .i64 0)] [] (fun r M => r = .bool (decide (e = 0)) ∧ M = []) := by
  refine fn_y Tryz.func189 Tryz.mixed ?_
  intro w0
  refine Y5 ?_
  refine Zhg (Znw (by kernel_rfl) rfl rfl) ?_
  refine Y2 ?_
  first|refine Y0 ?_|(refine Zhh rfl ?_; (refine Zhg (Znw (by kernel_rfl) rfl rfl) ?_))
  refine Y5 ?_
  refine Zhg (Zh9 rfl (ext_typeOf 0) rfl) ?_
  refine Zhg (Znu rfl met_comparable ext_comparable rfl) ?_
  refine Y6 ?_
  refine Zor (c := is2_x e) (k := ?_)
  rintro _ _ ⟨rfl, rfl⟩
  refine V3 ?_
  refine rx1 (Zha rfl (Zg7)) ?_
  exact ⟨_, ⟨rfl, rfl⟩, qI⟩
theorem fails_x (e : Int) : Con Tryz.prog 155 [.iface 22 (.int .i64 e)] [] (fun r M => r = .bool (!decide (e = 0)) ∧ M = []) := by
  refine fn_y Tryz.func155 Tryz.mixed ?_
  intro w0
  refine Y6 ?_
  refine Zor (c := is_x e) (k := ?_)
  rintro _ _ ⟨rfl, rfl⟩
  refine Y1 ?_
  refine Zhg (Zb0 rfl) ?_
  refine V2 ?_
  refine rx1 (Zha rfl (Zg7)) ?_
  exact ⟨_, ⟨rfl, rfl⟩, qI⟩
end Go.Sl
namespace Go.Sl
open Go Go.Proofs
attribute [local irreducible] pt old pur ex all den denOps denS xOps xC cX CX xthen xblk xcut xloop xng retX resX Calls PV Rd Con
abbrev plc (p : Plc) : Array Value := #[u64b p.round, u32b p.counter, u32b p.page, u32b p.version]
def plits (p : Plc) : List Lit := [.int .u64 p.round.toNat, .int .u32 p.counter.toNat, .int .u32 p.page.toNat, .int .u32 p.version.toNat]
theorem wf_u64 (x : BitVec 64) : (Lit.int .u64 (x.toNat : Int)).wf = true := by
  have := x.isLt
  simp only [Lit.wf, Bool.and_eq_true, decide_eq_true_eq]
  have e1 : IntKind.u64.min = 0 := by decide
  have e2 : IntKind.u64.max = 18446744073709551615 := by decide
  omega
theorem wf_u32 (x : BitVec 32) : (Lit.int .u32 (x.toNat : Int)).wf = true := by
  have := x.isLt
  simp only [Lit.wf, Bool.and_eq_true, decide_eq_true_eq]
  have e1 : IntKind.u32.min = 0 := by decide
  have e2 : IntKind.u32.max = 4294967295 := by decide
  omega
theorem plits_is (p : Plc) : Tryz.prog.keyLits 4 189 (plc p).toList = some (plits p) := by
  have i1 := lits_int (d := 2) Tryz.underlying43 (wf_u64 p.round)
  have i2 := lits_int (d := 2) Tryz.underlying130 (wf_u32 p.counter)
  have i3 := lits_int (d := 2) Tryz.underlying130 (wf_u32 p.page)
  have i4 := lits_int (d := 2) Tryz.underlying130 (wf_u32 p.version)
  have c1 : Tryz.prog.cellsOf 43 = 1 := by kernel_rfl
  have c2 : Tryz.prog.cellsOf 130 = 1 := by kernel_rfl
  have c4 : Tryz.prog.cellsOf 189 = 4 := by kernel_rfl
  unfold Program.keyLits
  rw [Tryz.underlying189]
  simp only [plc, List.length_cons, List.length_nil, c4]
  rw [if_pos (by simp)]
  simp only [List.mapM_cons, List.mapM_nil, c1, c2, List.drop_zero, List.drop_succ_cons, List.take_succ_cons, List.take_zero]
  simp only [i1, i2, i3, i4]
  simp [plits]
theorem plc_form (p : Plc) : (Value.agg (plc p)).formed Tryz.prog 189 = true := by
  have c4 : Tryz.prog.cellsOf 189 = 4 := by kernel_rfl
  simp [Value.formed, Tryz.underlying189, c4]
theorem plits_inj (a b : Plc) : a = b ↔ plits a = plits b := by
  constructor
  · rintro rfl; rfl
  · intro h
    obtain ⟨a1, a2, a3, a4⟩ := a
    obtain ⟨b1, b2, b3, b4⟩ := b
    simp only [plits, List.cons.injEq, Lit.int.injEq, true_and, and_true] at h
    obtain ⟨h1, h2, h3, h4⟩ := h
    have h1 : a1 = b1 := BitVec.eq_of_toNat_eq (by omega)
    have h2 : a2 = b2 := BitVec.eq_of_toNat_eq (by omega)
    have h3 : a3 = b3 := BitVec.eq_of_toNat_eq (by omega)
    have h4 : a4 = b4 := BitVec.eq_of_toNat_eq (by omega)
    rw [h1, h2, h3, h4]
theorem pv_neq_plc {ρ : Env} {x y : Operand} {T' : Nat} (a b : Plc) (hx : ev ρ x = .agg (plc a)) (hy : ev ρ y = .agg (plc b)) : PV Tryz.prog (.binOp .neq 189 x y T') ρ (.bool (decide (¬ a = b))) :=
  Zf7 (m := 4) hx hy (by kernel_rfl) (by omega) (by kernel_rfl) (plc_form a) (plc_form b) (plits_is a) (plits_is b) (plits_inj a b)
attribute [local irreducible] leB
theorem pghead_x (p : Plc) : Con Tryz.prog 153 [.agg (plc p)] [] (fun r M => r = .agg ((headB p).map u8b).toArray ∧ M = []) := by
  have hl := headB_len p
  have hhb : ([] ++ leB p.round 8) ++ leB p.counter 4 = headB p := rfl
  refine fn_y Tryz.func153 Tryz.mixed ?_
  intro w0
  refine Y1 ?_
  refine Zh5 rfl ?_; intro b1
  refine Zhz (cs := ((List.replicate 12 0#8).map u8b).toArray) rfl ?_; intro b2
  refine Y4 ?_
  refine Zor (c := put64_x (L := []) p.round Bs.nil (by simp)) (k := ?_)
  rintro _ _ ⟨pa, pc1, rfl, rfl⟩
  refine Y7 ?_
  refine Zor (c := put32_x (L := [own 5 1 (.slice pa ([] ++ leB p.round 8).length pc1) ([] ++ leB p.round 8).length (([] ++ leB p.round 8).map u8b)]) p.counter (Bs.own .here) (by simp [leB_len])) (k := ?_)
  rintro _ _ ⟨qa, qc, rfl, rfl⟩
  refine Y1 ?_
  rw [hhb, hl]; refine Zg0 (fun F w H => own_some (a := qa) qH (by omega) H) ?_; rintro ⟨g, rfl⟩; refine Zhg (Zl9 rfl (by omega)) ?_
  refine Zfg rfl ((Rd.ag0 (Rd.own qH) (by omega))) ?_
  first|refine Zhy rfl rfl qR qZ qN qZ ?_|refine Zhx rfl rfl qR qZ qN qZ rfl ?_
  refine V1 ?_
  refine rx1 (Zhe rfl qH qZ (Zg7)) ?_
  exact ⟨_, ⟨rfl, rfl⟩, qI⟩
theorem pgmore_x (p : Plc) : Con Tryz.prog 154 [.agg (plc p)] [] (fun r M => ∃ a c, r = .slice a (moreB p).length c ∧ M = [own 5 1 r (moreB p).length ((moreB p).map u8b)]) := by
  have hmb : ([] ++ leB p.page 4) ++ leB p.version 4 = moreB p := rfl
  refine fn_y Tryz.func154 Tryz.mixed ?_
  intro w0
  refine Y1 ?_
  refine Zh5 rfl ?_; intro b1
  refine V2 ?_
  refine Zij ([cl b1 (plc p) 189]) [2, 4] (.q 0 (.q 3 (.r 1 (.r 4 (.e 2 true (.e 5 false (.q 6 .nil))))))) (by kernel_rfl) (by kernel_rfl) (Imp.arr qV) ?_
  refine W4 ?_
  refine Ziq rfl ?_
  refine Zor (c := put32_x (L := []) p.page Bs.nil (by simp)) (k := ?_)
  rintro _ _ ⟨pa, pc1, rfl, rfl⟩
  refine Y1 ?_
  refine Zg3 ⟨fun _ => Imp.arr qV, ?_⟩
  refine Ziq rfl ?_
  refine Zor (c := put32_x (L := [own 5 1 (.slice pa ([] ++ leB p.page 4).length pc1) ([] ++ leB p.page 4).length (([] ++ leB p.page 4).map u8b)]) p.version (Bs.own .here) (by simp [leB_len])) (k := ?_)
  rintro _ _ ⟨qa, qc, rfl, rfl⟩
  refine Y1 ?_
  refine Zg3 ⟨(fun hh => Bool.noConfusion hh), ?_⟩
  refine W2 ?_
  refine Ct.o ?_
  rw [hmb]
  refine rx1 (Zhc rfl (Zg7)) ?_
  exact ⟨_, ⟨qa, qc, rfl, rfl⟩, qI⟩
theorem pgHead_x {L : List Asrt} {v : Value} {b : List Byte} (h : Bs L v b) (hb : b.length ≤ 140737488351232) :
    Con Tryz.prog 151 [v] L (fun r M => r = .tuple #[u64b (pgHeadR b).1, u32b (pgHeadR b).2.1, nvv (pgHeadR b).2.2] ∧ L = M) := by
  refine Con.get (fun w0 w F H => h.sh _ _ _ H) ?_
  rintro ⟨va, vc, rfl, hvc, hvcm⟩
  by_cases h28 : b.length < 28
  · have e : pgHeadR b = (0#64, 0#32, 20) := if_pos h28
    rw [e]
    refine fn_y Tryz.func151 Tryz.mixed ?_
    intro w0
    refine Y9 ?_
    refine Zos 10 rfl (h28) ?_
    refine V7 ?_
    refine rx3 (Zg9 rfl (Zg9 rfl (Zg9 rfl (Zg7)))) ?_
    exact ⟨_, ⟨rfl, rfl⟩, qI⟩
  · have e : pgHeadR b = (lowB 64 (b.take 8), lowB 32 ((b.drop 8).take 4), 0) := if_neg h28
    rw [e]
    have hu := fun p g => u64_x (p := p) (g := g) (o := 0) (len := b.length) (c := b.length) b (by omega) (by omega) (by omega) (by omega) (Nat.le_refl _)
    have hv := fun p g => u32_x (p := p) (g := g) (o := 0 + 8) (len := b.length - 8) (c := b.length - 8) b (by omega) (by omega) (by omega) (by omega) (Nat.le_refl _)
    simp only [List.drop_zero] at hu
    simp only [Nat.zero_add] at hu hv
    refine fn_y Tryz.func151 Tryz.mixed ?_
    intro w0
    refine Y9 ?_
    refine Zot 10 rfl (h28) ?_
    refine Y4 ?_
    refine Zor (c := newReader_x h hb) (k := ?_)
    rintro _ _ ⟨p, g, rfl, rfl⟩
    refine Y5 ?_
    refine Zor (c := hu p g) (k := ?_)
    rintro _ _ ⟨rfl, rfl⟩
    refine Y5 ?_
    refine Zor (c := hv p g) (k := ?_)
    rintro _ _ ⟨rfl, rfl⟩
    refine Y7 ?_
    refine Zor (c := rerr_x) (k := ?_)
    rintro _ _ ⟨rfl, rfl⟩
    refine V5 ?_
    refine rx3 (Zg9 rfl (Zg9 rfl (Zg9 rfl (Zg7)))) ?_
    exact ⟨_, ⟨rfl, rfl⟩, qI⟩
end Go.Sl
namespace Go.Sl
open Go Go.Proofs
attribute [local irreducible] pt old pur ex all den denOps denS xOps xC cX CX xthen xblk xcut xloop xng retX resX Calls PV Rd Con
attribute [local irreducible] hostA
open PagerS (PS)
abbrev stV (ph : Nat) : Value := .iface 32 (hp ph)
structure PC where
  ph : Nat
  bh : Nat
  oa : Option Addr
  n : Nat
  oc : Nat
  bl : Nat
abbrev phead (s : PS) (c : PC) : List Value := stV c.ph :: s.key.map u8b
abbrev ptail (s : PS) (c : PC) : List Value := [u64b s.round, nvv s.window, .int .i64 s.pages, nvv s.text, .map (some c.bh), .slice c.oa c.n c.oc, .map (some c.bl), nvv s.most, u32b (BitVec.ofNat 32 s.writes), nvv s.err]
def pcl (s : PS) (c : PC) : Array Value := (phead s c ++ ptail s c).toArray
section
variable {s s' : PS} {c c' : PC} {k : Nat} {v : Value}
theorem pg_f (hk : s.key.length = 32) (h : (ptail s c)[k]? = some v) : (pcl s c)[33 + k]? = some v := by
  unfold pcl
  rw [List.getElem?_toArray, List.getElem?_append_right (by simp [hk]), show 33 + k - (phead s c).length = k by simp [hk]]
  exact h
theorem pg_s (hk : s.key.length = 32) (h : (ptail s c).set k v = ptail s' c') (h2 : s'.key = s.key) (h3 : c'.ph = c.ph) : (pcl s c).setIfInBounds (33 + k) v = pcl s' c' := by
  unfold pcl
  apply Array.ext'
  rw [Array.toList_setIfInBounds]
  show (phead s c ++ ptail s c).set (33 + k) v = phead s' c' ++ ptail s' c'
  rw [List.set_append_right _ _ (by simp [hk]), show 33 + k - (phead s c).length = k by simp [hk], h, show phead s' c' = phead s c from by unfold phead; rw [h2, h3]]
theorem pg_size (hk : s.key.length = 32) : (pcl s c).size = 43 := by unfold pcl; simp [hk]
theorem pg_st : (pcl s c)[0]? = some (stV c.ph) := by unfold pcl; simp
theorem pg_key (hk : s.key.length = 32) : (pcl s c).extract 1 (1 + 32) = (s.key.map u8b).toArray := by
  unfold pcl
  apply Array.ext'
  rw [Array.toList_extract, List.extract_eq_take_drop]
  show ((phead s c ++ ptail s c).drop 1).take (1 + 32 - 1) = _
  rw [List.cons_append, List.drop_one, List.tail_cons, List.take_append_of_le_length (by simp [hk]), List.take_of_length_le (by simp [hk])]
end
section
variable {p : Nat} {s : PS} {c : PC}
theorem pPages_x (hk : s.key.length = 32) : Con Tryz.prog 75 [hp p] [cl p (pcl s c) 147] (fun r M => r = .int .i64 s.pages ∧ M = [cl p (pcl s c) 147]) := by
  refine fn_y Tryz.func75 Tryz.mixed ?_
  intro w0
  refine Y6 ?_
  refine Zhn 4 rfl (rfl) ?_
  refine Y6 ?_
  refine Zhp rfl qH (pg_f hk (k := 2) rfl) ?_
  refine V2 ?_
  refine rx1 (Zg9 rfl (Zg7)) ?_
  exact ⟨_, ⟨rfl, rfl⟩, qI⟩
theorem pText_x (hk : s.key.length = 32) : Con Tryz.prog 74 [hp p] [cl p (pcl s c) 147] (fun r M => r = nvv s.text ∧ M = [cl p (pcl s c) 147]) := by
  refine fn_y Tryz.func74 Tryz.mixed ?_
  intro w0
  refine Y6 ?_
  refine Zhn 4 rfl (rfl) ?_
  refine Y6 ?_
  refine Zhp rfl qH (pg_f hk (k := 3) rfl) ?_
  refine V2 ?_
  refine rx1 (Zg9 rfl (Zg7)) ?_
  exact ⟨_, ⟨rfl, rfl⟩, qI⟩
theorem die_x (hk : s.key.length = 32) (e : Nat) : Con Tryz.prog 119 [hp p, nvv e] [cl p (pcl s c) 147] (fun r M => r = nvv e ∧ M = [cl p (pcl (PagerS.die s e) c) 147]) := by
  have hsz := pg_size (c := c) hk
  refine fn_y Tryz.func119 Tryz.mixed ?_
  intro w0
  refine Y8 ?_
  refine Zht rfl rfl qR qZ (pg_s (s' := PagerS.die s e) (c' := c) hk (k := 9) rfl rfl rfl) ?_
  refine V5 ?_
  refine rx1 (Zg9 rfl (Zg7)) ?_
  exact ⟨_, ⟨rfl, rfl⟩, qI⟩
theorem right_x (hk : s.key.length = 32) (n : Int) : Con Tryz.prog 116 [hp p, .int .i64 n] [cl p (pcl s c) 147] (fun r M => r = nvv (PagerS.rightP s n) ∧ M = [cl p (pcl s c) 147]) := by
  unfold PagerS.rightP
  by_cases he : s.err = 0
  · rw [if_neg (fun h => h he)]
    by_cases h0 : n < 0
    · rw [if_pos (.inl h0)]
      refine fn_y Tryz.func116 Tryz.mixed ?_
      intro w0
      refine Y6 ?_
      refine Zhn 6 rfl (rfl) ?_
      refine Y6 ?_
      refine Zhp rfl qH (pg_f hk (k := 9) rfl) ?_
      refine Y1 ?_
      refine Zot 11 rfl ((fun h => h he)) ?_
      refine Y4 ?_
      refine Zhg (Zbn (b := 0) rfl rfl) ?_
      refine Zos 17 rfl (h0) ?_
      refine V13 ?_
      refine rx1 (Zg9 rfl (Zg7)) ?_
      exact ⟨_, ⟨rfl, rfl⟩, qI⟩
    · by_cases h1 : s.pages ≤ n
      · rw [if_pos (.inr h1)]
        refine fn_y Tryz.func116 Tryz.mixed ?_
        intro w0
        refine Y6 ?_
        refine Zhn 6 rfl (rfl) ?_
        refine Y6 ?_
        refine Zhp rfl qH (pg_f hk (k := 9) rfl) ?_
        refine Y1 ?_
        refine Zot 11 rfl ((fun h => h he)) ?_
        refine Y4 ?_
        refine Zhg (Zbn (b := 0) rfl rfl) ?_
        refine Zot 17 rfl (h0) ?_
        refine Y5 ?_
        first|refine Y0 ?_|(refine Zhh rfl ?_; (refine Zhp rfl qH (pg_f hk (k := 2) rfl) ?_))
        refine Y1 ?_
        refine Zos 24 rfl (h1) ?_
        refine V6 ?_
        refine rx1 (Zg9 rfl (Zg7)) ?_
        exact ⟨_, ⟨rfl, rfl⟩, qI⟩
      · rw [if_neg (fun h => h.elim h0 h1)]
        refine fn_y Tryz.func116 Tryz.mixed ?_
        intro w0
        refine Y6 ?_
        refine Zhn 6 rfl (rfl) ?_
        refine Y6 ?_
        refine Zhp rfl qH (pg_f hk (k := 9) rfl) ?_
        refine Y1 ?_
        refine Zot 11 rfl ((fun h => h he)) ?_
        refine Y4 ?_
        refine Zhg (Zbn (b := 0) rfl rfl) ?_
        refine Zot 17 rfl (h0) ?_
        refine Y5 ?_
        first|refine Y0 ?_|(refine Zhh rfl ?_; (refine Zhp rfl qH (pg_f hk (k := 2) rfl) ?_))
        refine Y1 ?_
        refine Zot 24 rfl (h1) ?_
        refine V6 ?_
        refine rx1 (Zg9 rfl (Zg7)) ?_
        exact ⟨_, ⟨rfl, rfl⟩, qI⟩
  · rw [if_pos he]
    refine fn_y Tryz.func116 Tryz.mixed ?_
    intro w0
    refine Y6 ?_
    refine Zhn 6 rfl (rfl) ?_
    refine Y6 ?_
    refine Zhp rfl qH (pg_f hk (k := 9) rfl) ?_
    refine Y1 ?_
    refine Zos 11 rfl (he) ?_
    refine Y6 ?_
    refine Zhp rfl qH (pg_f hk (k := 9) rfl) ?_
    refine V2 ?_
    refine rx1 (Zg9 rfl (Zg7)) ?_
    exact ⟨_, ⟨rfl, rfl⟩, qI⟩
end
end Go.Sl
namespace Go.Sl
open Go Go.Proofs
attribute [local irreducible] pt old pur ex all den denOps denS xOps xC cX CX xthen xblk xcut xloop xng retX resX Calls PV Rd Con
attribute [local irreducible] hostA pcl
open PagerS (PS)
abbrev FV := PagerS.Fr × Nat × Option Addr × Nat
def frA (e : FV) : Asrt := all [cl e.2.1 #[.slice e.2.2.1 e.1.text.length e.2.2.2, nvv e.1.is] 187, ownB e.2.2.1 e.2.2.2 e.1.text]
def heldF (l : List FV) : Int → Option Value := fun n => (l.find? fun e => e.1.page == n).map fun e => hp e.2.1
def lastF (last : Int → Option Plc) : Int → Option Value := fun n => (last n).map fun q => .agg (plc q)
abbrev fpages (l : List FV) : List Int := l.map fun e => e.1.page
theorem filter_at {zs : List Int} {n : Int} {i : Nat} (hi : i < zs.length) (h : zs[i] = n) (hn : zs.Nodup) : zs.take i ++ zs.drop (i + 1) = zs.filter fun z => !(z == n) := by
  have e : zs = zs.take i ++ (n :: zs.drop (i + 1)) := by rw [← h, ← List.drop_eq_getElem_cons hi, List.take_append_drop]
  have hn2 := hn
  rw [e, List.nodup_append] at hn2
  obtain ⟨_, h2, h3⟩ := hn2
  rw [List.nodup_cons] at h2
  conv => rhs; rw [e]
  rw [List.filter_append, List.filter_cons_of_neg (by simp)]
  have f1 : (zs.take i).filter (fun z => !(z == n)) = zs.take i := List.filter_eq_self.2 fun z hz => by
    have := h3 z hz n (List.mem_cons_self ..)
    simpa using this
  have f2 : (zs.drop (i + 1)).filter (fun z => !(z == n)) = zs.drop (i + 1) := List.filter_eq_self.2 fun z hz => by
    simp only [Bool.not_eq_true', beq_eq_false_iff_ne, ne_eq]
    rintro rfl
    exact h2.1 hz
  rw [f1, f2]
theorem filter_no {zs : List Int} {n : Int} (h : n ∉ zs) : zs.filter (fun z => !(z == n)) = zs := List.filter_eq_self.2 fun z hz => by
  simp only [Bool.not_eq_true', beq_eq_false_iff_ne, ne_eq]
  rintro rfl
  exact h hz
def used (zs : List Int) (n : Int) : List Int := (zs.filter fun z => !(z == n)) ++ [n]
section
variable {p : Nat} {s : PS} {c : PC}
theorem use_x (hk : s.key.length = 32) {zs : List Int} (hz : zs.length ≤ 16) (hn : zs.Nodup) {F : Int → Option Value} (n : Int) (fb : Nat) (hmost : s.most ≤ 16) (hcn : c.n = zs.length) :
    Con Tryz.prog 120 [hp p, .int .i64 n, hp fb] [cl p (pcl s c) 147, fmA c.bh F, ownI c.oa c.oc zs] (fun r M => ∃ oa' oc', M = [cl p (pcl { s with most := max s.most (used zs n).length } { c with oa := oa', n := (used zs n).length, oc := oc' }) 147, fmA c.bh (fput F n (some (hp fb))), ownI oa' oc' (used zs n)]) := by
  obtain ⟨ph, bh, oa, cn, oc, bl⟩ := c
  dsimp only at hcn ⊢
  subst hcn
  by_cases hin : n ∈ zs
  · refine Con.get (fun w0 w F H => own_someN (n := zs.length) (a := oa) (.there (.there .here)) (List.length_pos_of_mem hin) H) ?_
    rintro ⟨g, rfl⟩
    refine fn_y Tryz.func120 Tryz.mixed ?_
    intro w0
    refine Y4 ?_
    refine Zhp rfl qH (pg_f hk (k := 4) rfl) ?_
    refine Y2 ?_
    refine Zof rfl rfl rfl qR ?_
    refine Y5 ?_
    refine Zhp rfl qH (pg_f hk (k := 5) rfl) ?_
    refine Y1 ?_
    refine Zor (c := index_yes (L := [ownI (some ⟨g, 0, none⟩) oc zs]) (Rd.own .here) (by omega) hin) (k := ?_)
    rintro _ _ ⟨⟨i, hi, hzi, rfl⟩, rfl⟩
    refine V3 ?_
    have hs1 := pg_size (s := s) (c := ⟨ph, bh, some ⟨g, 0, none⟩, zs.length, oc, bl⟩) hk
    have hs2 := pg_size (s := s) (c := ⟨ph, bh, some ⟨g, 0, none⟩, zs.length - 1, oc, bl⟩) hk
    refine Y3 ?_
    refine Zos 20 rfl (Nat.zero_le i) ?_
    refine Y7 ?_
    refine Zhp rfl qH (pg_f hk (k := 5) rfl) ?_
    refine Y3 ?_
    refine Zor (c := delete_x hi (by omega)) (k := ?_)
    rintro _ _ ⟨rfl, rfl⟩
    refine Y3 ?_
    refine Zhw rfl rfl qR qZ (pg_s (s := s) (c := ⟨ph, bh, some ⟨g, 0, none⟩, zs.length, oc, bl⟩) (s' := s) (c' := ⟨ph, bh, some ⟨g, 0, none⟩, zs.length - 1, oc, bl⟩) hk (k := 5) rfl rfl rfl) ?_
    refine V1 ?_
    rw [filter_at hi hzi hn]
    have hfl : (zs.filter fun z => !(z == n)).length = zs.length - 1 := by rw [← filter_at hi hzi hn]; simp; omega
    have ez : zv (used zs n) = zv (zs.filter fun z => !(z == n)) ++ [.int .i64 n] := by unfold used; simp
    have hul : (used zs n).length = zs.length - 1 + 1 := by unfold used; rw [List.length_append, hfl]; rfl
    refine Y5 ?_
    refine Zhp rfl qH (pg_f hk (k := 5) rfl) ?_
    refine Y1 ?_
    refine Zh7 (cs := #[.int .i64 _]) (by omega) (by omega) rfl ?_; intro b38
    refine Zia rfl rfl qH (Rd.cl (xs := [.int .i64 n]) qH rfl qZ rfl) qN (by omega) qS ?_; intro a3 c3
    refine Y2 ?_
    refine Zhw rfl rfl qR qZ (pg_s (s := s) (c := ⟨ph, bh, some ⟨g, 0, none⟩, zs.length - 1, oc, bl⟩) (s' := s) (c' := ⟨ph, bh, a3, zs.length - 1 + 1, c3, bl⟩) hk (k := 5) rfl rfl rfl) ?_
    refine V1 ?_
    rw [← hul, ← ez]
    have hs3 := pg_size (s := s) (c := ⟨ph, bh, a3, (used zs n).length, c3, bl⟩) hk
    have hmx : ((max s.most (used zs n).length : Nat) : Int) = max (s.most : Int) ((used zs n).length : Int) := by omega
    refine Ct.o ?_
    refine Zij ([cl p (pcl s ⟨ph, bh, a3, (used zs n).length, c3, bl⟩) 147]) [8, 9] (.q 0 (.q 1 (.q 2 (.q 3 (.q 5 (.q 6 (.q 7 (.r 4 (.r 8 (.r 9 (.q 10 (.q 11 (.q 12 (.e 13 false .nil)))))))))))))) (by kernel_rfl) (by kernel_rfl) (Imp.arr qV) ?_
    refine W7 ?_
    refine Ziv rfl rfl qH (pg_f hk (k := 7) rfl) ?_
    refine Ziv rfl rfl qH (pg_f hk (k := 5) rfl) ?_
    refine W4 ?_
    refine Ziq rfl ?_
    refine Zht rfl rfl qR qZ (pg_s (s := s) (c := ⟨ph, bh, a3, (used zs n).length, c3, bl⟩) (s' := { s with most := max s.most (used zs n).length }) (c' := ⟨ph, bh, a3, (used zs n).length, c3, bl⟩) hk (k := 7) (by rw [← hmx]; rfl) rfl rfl) ?_
    refine Zg3 ⟨(fun hh => Bool.noConfusion hh), ?_⟩
    refine Zik ?_
    refine Ct.o ?_
    first|refine rx0 ?_|refine rx0n ?_
    exact ⟨_, ⟨a3, c3, rfl⟩, qI⟩
  · refine fn_y Tryz.func120 Tryz.mixed ?_
    intro w0
    refine Y4 ?_
    refine Zhp rfl qH (pg_f hk (k := 4) rfl) ?_
    refine Y2 ?_
    refine Zof rfl rfl rfl qR ?_
    refine Y5 ?_
    refine Zhp rfl qH (pg_f hk (k := 5) rfl) ?_
    refine Y1 ?_
    refine Zor (c := index_no (L := [ownI oa oc zs]) (Rd.own .here) (by omega) hin) (k := ?_)
    rintro _ _ ⟨rfl, rfl⟩
    refine Y5 ?_
    refine Zhg (Zbq (a := -1) (b := 0) rfl rfl) ?_
    refine Zot 20 rfl ((by omega)) ?_
    refine V2 ?_
    have hfl := filter_no hin
    have ez : zv (used zs n) = zv zs ++ [.int .i64 n] := by unfold used; rw [hfl]; simp
    have hs1 := pg_size (s := s) (c := ⟨ph, bh, oa, zs.length, oc, bl⟩) hk
    have hul : (used zs n).length = zs.length + 1 := by unfold used; rw [List.length_append, hfl]; rfl
    refine Y5 ?_
    refine Zhp rfl qH (pg_f hk (k := 5) rfl) ?_
    refine Y1 ?_
    refine Zh7 (cs := #[.int .i64 _]) (by omega) (by omega) rfl ?_; intro b38
    refine Zia rfl rfl qH (Rd.cl (xs := [.int .i64 n]) qH rfl qZ rfl) qN (by omega) qS ?_; intro a3 c3
    refine Y2 ?_
    refine Zhw rfl rfl qR qZ (pg_s (s := s) (c := ⟨ph, bh, oa, zs.length, oc, bl⟩) (s' := s) (c' := ⟨ph, bh, a3, zs.length + 1, c3, bl⟩) hk (k := 5) rfl rfl rfl) ?_
    refine V1 ?_
    rw [← hul, ← ez]
    have hs3 := pg_size (s := s) (c := ⟨ph, bh, a3, (used zs n).length, c3, bl⟩) hk
    have hmx : ((max s.most (used zs n).length : Nat) : Int) = max (s.most : Int) ((used zs n).length : Int) := by omega
    refine Ct.o ?_
    refine Zij ([cl p (pcl s ⟨ph, bh, a3, (used zs n).length, c3, bl⟩) 147]) [8, 9] (.q 0 (.q 1 (.q 2 (.q 3 (.q 5 (.q 6 (.q 7 (.r 4 (.r 8 (.r 9 (.q 10 (.q 11 (.q 12 (.e 13 false .nil)))))))))))))) (by kernel_rfl) (by kernel_rfl) (Imp.arr qV) ?_
    refine W7 ?_
    refine Ziv rfl rfl qH (pg_f hk (k := 7) rfl) ?_
    refine Ziv rfl rfl qH (pg_f hk (k := 5) rfl) ?_
    refine W4 ?_
    refine Ziq rfl ?_
    refine Zht rfl rfl qR qZ (pg_s (s := s) (c := ⟨ph, bh, a3, (used zs n).length, c3, bl⟩) (s' := { s with most := max s.most (used zs n).length }) (c' := ⟨ph, bh, a3, (used zs n).length, c3, bl⟩) hk (k := 7) (by rw [← hmx]; rfl) rfl rfl) ?_
    refine Zg3 ⟨(fun hh => Bool.noConfusion hh), ?_⟩
    refine Zik ?_
    refine Ct.o ?_
    first|refine rx0 ?_|refine rx0n ?_
    exact ⟨_, ⟨a3, c3, rfl⟩, qI⟩
end
end Go.Sl
namespace Go.Sl
open Go Go.Proofs
attribute [local irreducible] pt old pur ex all den denOps denS xOps xC cX CX xthen xblk xcut xloop xng retX resX Calls PV Rd Con
attribute [local irreducible] hostA
structure TOk (t : HostS.Touch) : Prop where
  op : -9223372036854775808 ≤ t.op ∧ t.op ≤ 9223372036854775807
  page : -9223372036854775808 ≤ t.page ∧ t.page ≤ 9223372036854775807
  len : -9223372036854775808 ≤ t.len ∧ t.len ≤ 9223372036854775807
  h12 : t.head.length = 12
def tlits (t : HostS.Touch) : List Lit := .int .i64 t.op :: .int .i64 t.page :: .int .i64 t.len :: t.head.map fun b => Lit.int .u8 (b.toNat : Int)
theorem wf_i64 {n : Int} (h : -9223372036854775808 ≤ n ∧ n ≤ 9223372036854775807) : (Lit.int .i64 n).wf = true := by
  simp only [Lit.wf, Bool.and_eq_true, decide_eq_true_eq]
  have e1 : IntKind.i64.min = -9223372036854775808 := by decide
  have e2 : IntKind.i64.max = 9223372036854775807 := by decide
  omega
theorem tlits_is (t : HostS.Touch) (h : TOk t) : Tryz.prog.keyLits 4 158 (tcells t) = some (tlits t) := by
  obtain ⟨op, page, len, head⟩ := t
  have c3 : Tryz.prog.cellsOf 3 = 1 := by kernel_rfl
  have c5 : Tryz.prog.cellsOf 5 = 1 := by kernel_rfl
  have c61 : Tryz.prog.cellsOf 156 = 12 := by kernel_rfl
  have c63 : Tryz.prog.cellsOf 158 = 15 := by kernel_rfl
  have h12 : head.length = 12 := h.h12
  have e1 := lits_arr (d := 1) (k := .u8) Tryz.underlying156 Tryz.underlying5 c5 c61 (head.map fun b => (b.toNat : Int)) (by simpa using h12) (by
    intro x hx
    obtain ⟨b, _, rfl⟩ := List.mem_map.1 hx
    exact byte_wf b)
  rw [List.map_map, List.map_map] at e1
  have i1 := lits_int (d := 2) Tryz.underlying3 (wf_i64 h.op)
  have i2 := lits_int (d := 2) Tryz.underlying3 (wf_i64 h.page)
  have i3 := lits_int (d := 2) Tryz.underlying3 (wf_i64 h.len)
  unfold Program.keyLits
  rw [Tryz.underlying158]
  have hl : (tcells ⟨op, page, len, head⟩).length = 15 := by simp [tcells, h12]
  simp only [hl, c63, true_and]
  rw [if_pos (by simp)]
  have hh : List.take 12 (List.map u8b head) = List.map (Value.int IntKind.u8 ∘ fun b : Byte => (b.toNat : Int)) head := List.take_of_length_le (by simp [h12])
  simp only [List.mapM_cons, List.mapM_nil, tcells, c3, c61, List.drop_zero, List.cons_append, List.nil_append, List.drop_succ_cons, List.take_succ_cons, List.take_zero, hh]
  simp only [i1, i2, i3, e1]
  simp [tlits, Function.comp_def]
abbrev OTouch := { t : HostS.Touch // TOk t }
def ocells (t : OTouch) : List Value := tcells t.1
theorem ocells_len (t : OTouch) : (ocells t).length = 15 := by simp [ocells, tcells, t.2.h12]
theorem sub_of {l : List HostS.Touch} (h : ∀ t ∈ l, TOk t) : ∃ l' : List OTouch, l = l'.map (·.1) := by
  induction l with
  | nil => exact ⟨[], rfl⟩
  | cons t r ih =>
    obtain ⟨l', h'⟩ := ih (fun x hx => h x (.tail _ hx))
    exact ⟨⟨t, h t (.head _)⟩ :: l', congrArg (t :: ·) h'⟩
theorem tform (t : OTouch) : (Value.agg (ocells t).toArray).formed Tryz.prog 158 = true := by
  have c63 : Tryz.prog.cellsOf 158 = 15 := by kernel_rfl
  simp [Value.formed, Tryz.underlying158, c63, ocells_len]
theorem tlits_inj (a b : HostS.Touch) : a = b ↔ tlits a = tlits b := by
  constructor
  · rintro rfl; rfl
  · intro h
    obtain ⟨a1, a2, a3, a4⟩ := a
    obtain ⟨b1, b2, b3, b4⟩ := b
    simp only [tlits, List.cons.injEq, Lit.int.injEq, true_and] at h
    obtain ⟨rfl, rfl, rfl, h⟩ := h
    rw [ba_inj.2 h]
theorem pv_neq_touch {ρ : Env} {x y : Operand} {T' : Nat} (a b : OTouch) (hx : ev ρ x = .agg (ocells a).toArray) (hy : ev ρ y = .agg (ocells b).toArray) : PV Tryz.prog (.binOp .neq 158 x y T') ρ (.bool (decide (¬ a.1 = b.1))) :=
  Zf7 (m := 4) hx hy (by kernel_rfl) (by omega) (by kernel_rfl) (tform a) (tform b) (tlits_is a.1 a.2) (tlits_is b.1 b.2) (tlits_inj a.1 b.1)
end Go.Sl
