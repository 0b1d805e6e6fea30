/- Parts of the proof. -/
import Derived.Test.YtkifhflakdkemaaGreatLawSlotsNamesM0
import Derived.Test.YtkifhflakdkemaaGreatLawSlotsNamesM1
import Derived.Test.YtkifhflakdkemaaGreatLawSlotsNamesM2
set_option maxHeartbeats 4000000
set_option maxRecDepth 10000
set_option linter.unusedVariables false
set_option linter.unusedSimpArgs false
namespace Go.Sl.PagerS
open Go Go.Sl Go.Sl.HostS
attribute [local irreducible] pgSealB pgOpenR
theorem does_ops (h : HS) (op page : Int) (b : Bytes) (act : HS → HS) (ha : ∀ s, (act s).ops = s.ops) : (does h op page b act).1.ops ≤ h.ops + 1 := by
 have h2 := ha (logged h op page b)
 unfold does
 split
 ·exact Nat.le_succ _
 ·dsimp only
  split
  ·exact Nat.le_refl _
  ·split
   ·exact Nat.le_of_eq h2
   ·exact Nat.le_of_eq h2
theorem writeR_ops (h : HS) (page : Int) (b : Bytes) : (writeR h page b).2.ops ≤ h.ops + 1 := by
 unfold writeR
 split
 ·split
  ·exact does_ops h 1 page b _ fun _ => rfl
  ·exact Nat.le_succ _
 ·exact Nat.le_succ _
theorem readR_ops (h : HS) (page : Int) : (readR h page).2.2.ops ≤ h.ops + 1 := by
 have d := does_ops h 0 page [] id fun _ => rfl
 unfold readR
 split
 ·dsimp only
  split <;> exact d
 ·exact Nat.le_succ _
structure Near (k m : Nat) (s : PS) (h : HS) (s' : PS) (h' : HS) : Prop where
 ops : h'.ops ≤ h.ops + k
 writes : s'.writes ≤ s.writes + m
 pages : h'.pages = h.pages
 size : h'.size = h.size
 spages : s'.pages = s.pages
 text : s'.text = s.text
 key : s'.key = s.key
 round : s'.round = s.round
 window : s'.window = s.window
theorem Near.refl (k m : Nat) (s : PS) (h : HS) : Near k m s h s h := ⟨Nat.le_add_right _ _, Nat.le_add_right _ _, rfl, rfl, rfl, rfl, rfl, rfl, rfl⟩
theorem Near.trans {k m k' m' k2 m2 : Nat} {s s' s2 : PS} {h h' h2 : HS} (a : Near k m s h s' h') (b : Near k' m' s' h' s2 h2) (hk : k + k' ≤ k2) (hm : m + m' ≤ m2) : Near k2 m2 s h s2 h2 :=
 ⟨by have := a.ops; have := b.ops; omega, by have := a.writes; have := b.writes; omega, b.pages.trans a.pages, b.size.trans a.size, b.spages.trans a.spages, b.text.trans a.text, b.key.trans a.key, b.round.trans a.round, b.window.trans a.window⟩
theorem Near.over {k m : Nat} {s s' : PS} {h h' : HS} (a : Near k m s h s' h') (ho : Over s h) : Over s' h' := ⟨a.pages.trans (ho.pages.trans a.spages.symm), by rw [a.size, ho.size, a.text]⟩
theorem near_write (s : PS) (h : HS) (n : Int) : Near 1 1 s h (writeP s h n).2.1 (writeP s h n).2.2 := by
 have w1 := writeR_same h n (boxOf s n)
 have w2 := writeR_ops h n (boxOf s n)
 unfold writeP
 split
 ·exact ⟨Nat.le_add_right _ _, Nat.le_add_right _ _, rfl, rfl, rfl, rfl, rfl, rfl, rfl⟩
 ·dsimp only
  split
  ·exact ⟨w2, Nat.le_refl _, w1.1, w1.2, rfl, rfl, rfl, rfl, rfl⟩
  ·exact ⟨w2, Nat.le_add_right _ _, w1.1, w1.2, rfl, rfl, rfl, rfl, rfl⟩
theorem near_held {k m : Nat} {s : PS} {h : HS} {s' : PS} {h' : HS} (a : Near k m s h s' h') (l : List Fr) (n : Nat) : Near k m s h { s' with held := l, most := n } h' := ⟨a.ops, a.writes, a.pages, a.size, a.spages, a.text, a.key, a.round, a.window⟩
theorem near_room (s : PS) (h : HS) : Near 1 1 s h (roomP s h).2.1 (roomP s h).2.2 := by
 unfold roomP
 split
 ·exact Near.refl ..
 ·dsimp only
  have w := near_write s h ((s.held.head?.map Fr.page).getD 0)
  split
  ·split
   ·exact near_held w _ _
   ·exact w
  ·exact near_held (Near.refl 1 1 s h) _ _
theorem near_use {k m : Nat} {s : PS} {h : HS} {s' : PS} {h' : HS} (a : Near k m s h s' h') (f : Fr) : Near k m s h (useP s' f) h' := near_held a _ _
theorem near_fetch (s : PS) (h : HS) (n : Int) : Near 1 0 s h (fetchP s h n).2.1 (fetchP s h n).2.2 := by
 have r1 := readR_same h n
 have r2 := readR_ops h n
 have r : Near 1 0 s h s (readR h n).2.2 := ⟨r2, Nat.le_refl _, r1.1, r1.2, rfl, rfl, rfl, rfl, rfl⟩
 unfold fetchP
 split
 ·dsimp only
  split
  ·split
   ·exact near_use r _
   ·exact ⟨r.ops, r.writes, r.pages, r.size, rfl, rfl, rfl, rfl, rfl⟩
  ·exact ⟨r.ops, r.writes, r.pages, r.size, rfl, rfl, rfl, rfl, rfl⟩
 ·exact near_use (Near.refl 1 0 s h) _
theorem near_load (s : PS) (h : HS) (n : Int) : Near 2 1 s h (loadP s h n).2.1 (loadP s h n).2.2 := by
 unfold loadP
 split
 ·split
  ·exact near_use (Near.refl 2 1 s h) _
  ·have a := near_room s h
   have b := near_fetch (roomP s h).2.1 (roomP s h).2.2 n
   dsimp only
   split
   ·exact a.trans b (by omega) (by omega)
   ·exact a.trans (Near.refl 0 0 _ _) (by omega) (by omega)
 ·exact Near.refl ..
theorem near_save (s : PS) (h : HS) (n : Int) (t : Bytes) : Near 1 1 s h (saveP s h n t).2.1 (saveP s h n t).2.2 := by
 unfold saveP
 split
 ·split
  ·split
   ·exact near_use (Near.refl 1 1 s h) _
   ·have a := near_room s h
    dsimp only
    split
    ·exact near_use a _
    ·exact a
  ·exact Near.refl ..
 ·exact Near.refl ..
structure Calm (h : HS) : Prop where
 up : h.down = false
 calm : ∀ k, h.coming k = []
theorem does_calm {h : HS} (hc : Calm h) (op n : Int) (b : Bytes) (act : HS → HS) : does h op n b act = (act (logged h op n b), 0) := by
 unfold does
 rw [if_neg (by rw [hc.up]; simp), hc.calm h.ops]
 rfl
theorem calm_logged {h : HS} (hc : Calm h) (op n : Int) (b : Bytes) : Calm (logged h op n b) := ⟨hc.up, fun k => by
 show setF h.coming h.ops [] k = []
 unfold setF
 split
 ·rfl
 ·exact hc.calm k⟩
theorem writeR_calm {h : HS} (hc : Calm h) {n : Int} {b : Bytes} (ht : there h n) (hl : b.length = h.size) : writeR h n b = (0, wrote n b (logged h 1 n b)) := by
 unfold writeR
 rw [if_pos ht, if_pos hl, does_calm hc]
theorem readR_calm {h : HS} (hc : Calm h) {n : Int} (ht : there h n) : readR h n = (back h n 0, 0, logged h 0 n []) := by
 unfold readR
 rw [if_pos ht, does_calm hc]
 dsimp only
 rw [if_pos rfl, hc.calm]; rfl
structure Quiet (s : PS) (h : HS) (b : Int → Bytes) : Prop where
 sound : Sound s h b
 calm : Calm h
 err : s.err = 0
section
variable {s : PS} {h : HS} {b : Int → Bytes}
theorem Quiet.write (hq : Quiet s h b) (hw : s.writes < 4294967295) {n : Int} (hn : n ∈ numbers s) : (writeP s h n).1 = 0 ∧ Quiet (writeP s h n).2.1 (writeP s h n).2.2 b := by
 obtain ⟨f, hf⟩ := frOf_of hn
 obtain ⟨f1, f2⟩ := frOf_mem hf
 obtain ⟨p1, p2⟩ := hq.sound.ok.there f f1
 have ht : there h n := ⟨by omega, by rw [hq.sound.over.pages]; omega⟩
 have hl : (boxOf s n).length = h.size := by
  unfold boxOf textOf
  rw [pgSealB_len, hf, hq.sound.over.size]
  have := hq.sound.ok.len f f1
  simp [this]
 have hr := writeR_calm hq.calm ht hl
 have h0 : (writeP s h n).1 = 0 := by
  unfold writeP
  rw [if_neg (by omega), hr]
  rfl
 obtain ⟨_, hz, e⟩ := writeP_zero h0
 refine ⟨h0, hq.sound.write hq.err hn, ?_, ?_⟩
 ·rw [e, hr]
  have := calm_logged hq.calm 1 n (boxOf s n)
  exact ⟨this.up, this.calm⟩
 ·rw [e]; exact hq.err
theorem Quiet.room (hq : Quiet s h b) (hw : s.writes < 4294967295) : (roomP s h).1 = 0 ∧ Quiet (roomP s h).2.1 (roomP s h).2.2 b := by
 have key : (roomP s h).1 = 0 ∧ Calm (roomP s h).2.2 := by
  unfold roomP
  split
  ·exact ⟨rfl, hq.calm⟩
  ·rename_i hl
   dsimp only
   split
   ·rename_i hc
    have hn : (s.held.head?.map Fr.page).getD 0 ∈ numbers s := by
     by_cases hh : (s.held.head?.map Fr.page).getD 0 ∈ numbers s
     ·exact hh
     ·rw [changed_no hh] at hc; cases hc
    obtain ⟨w1, w2⟩ := hq.write hw hn
    rw [if_pos w1]
    exact ⟨rfl, w2.calm⟩
   ·exact ⟨rfl, hq.calm⟩
 obtain ⟨q1, q2, q3⟩ := hq.sound.room hq.err
 exact ⟨key.1, q1, key.2, q2 key.1⟩
theorem Quiet.load (hq : Quiet s h b) (hw : s.writes < 4294967295) {n : Int} (h0 : 0 ≤ n) (h1 : n < s.pages) : (loadP s h n).1 = (b n, 0) ∧ Quiet (loadP s h n).2.1 (loadP s h n).2.2 b := by
 have hr : rightP s n = 0 := by
  unfold rightP
  rw [if_neg (by rw [hq.err]; simp), if_neg (by omega)]
 have key : (loadP s h n).1.2 = 0 ∧ Calm (loadP s h n).2.2 := by
  unfold loadP
  rw [if_pos hr]
  cases hf : frOf s n with
  | some f => exact ⟨rfl, hq.calm⟩
  | none =>
   dsimp only
   obtain ⟨r1, r2⟩ := hq.room hw
   obtain ⟨v1, v2, v3, v4, v5⟩ := roomP_leaves (h := h) hq.sound.ok
   rw [if_pos r1]
   have hn1 := v1 n (frOf_none hf)
   have hl1 := v5 r1
   rw [← v2] at hl1
   have hp1 : n < (roomP s h).2.1.pages := by rw [v3]; exact h1
   generalize (roomP s h).2.1 = s1 at *
   generalize (roomP s h).2.2 = h1 at *
   obtain ⟨e, e1, e2, e3⟩ := r2.sound.fetch r2.err hn1 hl1 ⟨h0, hp1⟩
   have ht : there h1 n := ⟨h0, by rw [r2.sound.over.pages]; exact hp1⟩
   have hrd := readR_calm r2.calm ht
   obtain ⟨_, l2⟩ := (r2.sound.right r2.err n).2 (changed_no hn1)
   have hbl := r2.sound.len n
   have ht1 := r2.sound.ok.t1
   unfold fetchP
   cases hl : s1.last n with
   | none => exact ⟨rfl, r2.calm⟩
   | some pl =>
    dsimp only
    rw [hrd]
    dsimp only
    rw [if_pos rfl, l2 pl hl, pg_back _ _ _ (by omega)]
    exact ⟨rfl, calm_logged r2.calm _ _ _⟩
 obtain ⟨e, e1, e2, e3, e4, e5⟩ := hq.sound.load n
 have h2 : (loadP s h n).1.2 = e := by rw [e1]
 rw [key.1] at h2
 subst h2
 exact ⟨by rw [e1, if_pos rfl], e2, key.2, e3 rfl⟩
theorem Quiet.save (hq : Quiet s h b) (hw : s.writes < 4294967295) {n : Int} (h0 : 0 ≤ n) (h1 : n < s.pages) {t : Bytes} (ht : t.length = s.text) : (saveP s h n t).1 = 0 ∧ Quiet (saveP s h n t).2.1 (saveP s h n t).2.2 (setF b n t) := by
 have hr : rightP s n = 0 := by
  unfold rightP
  rw [if_neg (by rw [hq.err]; simp), if_neg (by omega)]
 have key : (saveP s h n t).1 = 0 ∧ Calm (saveP s h n t).2.2 := by
  unfold saveP
  rw [if_pos hr, if_pos ht]
  cases hf : frOf s n with
  | some f => exact ⟨rfl, hq.calm⟩
  | none =>
   dsimp only
   obtain ⟨r1, r2⟩ := hq.room hw
   rw [if_pos r1]
   exact ⟨rfl, r2.calm⟩
 obtain ⟨q1, q2, q3, q4, q5⟩ := hq.sound.save n t
 rw [if_pos key.1] at q1
 exact ⟨key.1, q1, key.2, (q2 key.1).2.2⟩
theorem quiet_fresh {key : Bytes} {round : BitVec 64} {window : Nat} {pages : Int} {text : Nat} (hk : Ok (freshP key round window pages text)) {h : HS} (hp : h.pages = pages) (hz : h.size = text + 28) (hc : Calm h) : Quiet (freshP key round window pages text) h (fun _ => List.replicate text 0#8) :=
 ⟨sound_fresh hk hp hz (fun k f hf => by rw [hc.calm k] at hf; cases hf), hc, rfl⟩
end
theorem calm_fresh (pages : Int) (size : Nat) : Calm (fresh pages size []) := ⟨rfl, fun _ => rfl⟩
end Go.Sl.PagerS
namespace Go.Sl.PagerS
open Go Go.Sl Go.Sl.HostS
attribute [local irreducible] pgSealB pgOpenR
section
variable {s : PS} {h : HS}
end
end Go.Sl.PagerS
namespace Go.Sl.PagerS
open Go Go.Sl Go.Sl.HostS
attribute [local irreducible] pgSealB pgOpenR
section
variable {s : PS} {h : HS}
end
end Go.Sl.PagerS
namespace Go.Sl.PagerS
open Go Go.Sl Go.Sl.HostS
attribute [local irreducible] pgSealB pgOpenR
section
variable {s t : PS} {h g : HS}
end
section
variable {s t : PS} {h g : HS} {b : Int → Bytes}
end
end Go.Sl.PagerS
namespace Go.Sl.SlotS
open Go Go.Sl Go.Sl.HostS Go.Sl.PagerS
attribute [local irreducible] pgSealB pgOpenR
abbrev Acc := Int × Int × Int
structure SL where
 first : Nat
 n : Nat
 size : Nat
 per : Nat
 log : List Acc
def takeN (n per : Nat) : Nat := n / per + if n % per = 0 then 0 else 1
structure Fit (s : SL) (p : PS) : Prop where
 size : 1 ≤ s.size
 le : s.size ≤ p.text
 per : s.per = p.text / s.size
 room : ((s.first + takeN s.n s.per : Nat) : Int) ≤ p.pages
def pg (s : SL) (i : Nat) : Nat := s.first + i / s.per
def fr (s : SL) (i : Nat) : Nat := i % s.per * s.size
def part (t : Bytes) (a n : Nat) : Bytes := (t.drop a).take n
def lay (t : Bytes) (a : Nat) (b : Bytes) : Bytes := t.take a ++ (b ++ t.drop (a + b.length))
def touch (s : SL) (k i j : Int) : SL := { s with log := s.log ++ [(k, i, j)] }
section
variable {s : SL} {p : PS} {i j : Nat}
theorem Fit.per1 (f : Fit s p) : 1 ≤ s.per := by rw [f.per]; exact Nat.div_pos f.le f.size
theorem Fit.page (f : Fit s p) (hi : i < s.n) : ((pg s i : Nat) : Int) < p.pages := by
 have h1 := f.per1
 have hr := f.room
 have h2 : i / s.per < takeN s.n s.per := by
  unfold takeN
  have e1 := Nat.div_add_mod s.n s.per
  have e2 := Nat.mod_lt s.n h1
  by_cases h0 : s.n % s.per = 0
  ·rw [if_pos h0, Nat.add_zero]
   exact Nat.div_lt_of_lt_mul (by omega)
  ·rw [if_neg h0]
   have : i / s.per ≤ s.n / s.per := Nat.div_le_div_right (by omega)
   omega
 unfold pg
 omega
theorem Fit.from (f : Fit s p) (i : Nat) : fr s i + s.size ≤ p.text := by
 have h1 := f.per1
 have h2 := Nat.mod_lt i h1
 have h3 : (i % s.per + 1) * s.size ≤ s.per * s.size := Nat.mul_le_mul_right _ h2
 have h4 : s.per * s.size ≤ p.text := by rw [f.per]; exact Nat.div_mul_le_self _ _
 unfold fr
 rw [Nat.succ_mul] at h3
 omega
theorem Fit.small (f : Fit s p) (hi : i < s.n) (hp : p.pages ≤ 65536) (ht : p.text ≤ 4096) : i ≤ 268435456 := by
 have h1 := f.per1
 have hp2 := f.page hi
 have h2 : i / s.per ≤ 65535 := by unfold pg at hp2; omega
 have h3 : s.per ≤ 4096 := by rw [f.per]; exact Nat.le_trans (Nat.div_le_self _ _) ht
 have e1 := Nat.div_add_mod i s.per
 have e2 := Nat.mod_lt i h1
 have h4 : s.per * (i / s.per) ≤ 4096 * 65535 := Nat.mul_le_mul h3 h2
 omega
theorem Fit.touch (f : Fit s p) (k i j : Int) : Fit (touch s k i j) p := ⟨f.size, f.le, f.per, f.room⟩
theorem Fit.same {q : PS} (f : Fit s p) (h1 : q.text = p.text) (h2 : q.pages = p.pages) : Fit s q := ⟨f.size, by rw [h1]; exact f.le, by rw [h1]; exact f.per, by rw [h2]; exact f.room⟩
theorem part_len {t : Bytes} {a n : Nat} (h : a + n ≤ t.length) : (part t a n).length = n := by unfold part; rw [List.length_take, List.length_drop]; omega
theorem lay_len {t b : Bytes} {a : Nat} (h : a + b.length ≤ t.length) : (lay t a b).length = t.length := by
 unfold lay; rw [List.length_append, List.length_append, List.length_take, List.length_drop]; omega
theorem part_lay {t b : Bytes} {a : Nat} (h : a + b.length ≤ t.length) : part (lay t a b) a b.length = b := by
 unfold part lay
 rw [List.drop_append_of_le_length (by rw [List.length_take]; omega), List.drop_of_length_le (by rw [List.length_take]; omega), List.nil_append, List.take_left]
theorem lay_get {t b : Bytes} {a k : Nat} (h : a + b.length ≤ t.length) (hk : k < a ∨ a + b.length ≤ k) : (lay t a b)[k]? = t[k]? := by
 unfold lay
 have hl : (t.take a).length = a := by rw [List.length_take]; omega
 by_cases hka : k < a
 ·rw [List.getElem?_append_left (by omega), List.getElem?_take_of_lt hka]
 ·rw [List.getElem?_append_right (by omega), List.getElem?_append_right (by omega), List.getElem?_drop]
  congr 1; omega
theorem part_other {t b : Bytes} {a c n : Nat} (h : a + b.length ≤ t.length) (hd : c + n ≤ a ∨ a + b.length ≤ c) : part (lay t a b) c n = part t c n := by
 apply List.ext_getElem?
 intro k
 unfold part
 by_cases hk : k < n
 ·rw [List.getElem?_take_of_lt hk, List.getElem?_take_of_lt hk, List.getElem?_drop, List.getElem?_drop]
  exact lay_get h (by omega)
 ·rw [List.getElem?_eq_none (by rw [List.length_take]; omega), List.getElem?_eq_none (by rw [List.length_take]; omega)]
theorem fr_apart (hij : i ≠ j) (hp : pg s i = pg s j) : fr s i + s.size ≤ fr s j ∨ fr s j + s.size ≤ fr s i := by
 have e1 := Nat.div_add_mod i s.per
 have e2 := Nat.div_add_mod j s.per
 have hd : i / s.per = j / s.per := by unfold pg at hp; omega
 have hne : i % s.per ≠ j % s.per := by
  intro h
  rw [hd, h] at e1
  omega
 unfold fr
 rcases Nat.lt_or_gt_of_ne hne with h|h
 ·left
  have := Nat.mul_le_mul_right s.size (show i % s.per + 1 ≤ j % s.per from h)
  rw [Nat.succ_mul] at this
  omega
 ·right
  have := Nat.mul_le_mul_right s.size (show j % s.per + 1 ≤ i % s.per from h)
  rw [Nat.succ_mul] at this
  omega
end
def has (s : SL) (i : Int) : Prop := 0 ≤ i ∧ i < s.n
instance (s : SL) (i : Int) : Decidable (has s i) := by unfold has; infer_instance
abbrev St3 := SL × PS × HS
def getS (s : SL) (p : PS) (h : HS) (i : Int) : (Bytes × Nat) × St3 :=
 if has s i then
  let r := loadP p h (pg s i.toNat)
  (if r.1.2 = 0 then (part r.1.1 (fr s i.toNat) s.size, 0) else ([], r.1.2), touch s 0 i 0, r.2)
 else (([], 2), s, p, h)
def setS (s : SL) (p : PS) (h : HS) (i : Int) (b : Bytes) : Nat × St3 :=
 if has s i then
  if b.length = s.size then
   let r := loadP p h (pg s i.toNat)
   if r.1.2 = 0 then
    let q := saveP r.2.1 r.2.2 (pg s i.toNat) (lay r.1.1 (fr s i.toNat) b)
    (q.1, touch s 1 i 0, q.2)
   else (r.1.2, touch s 1 i 0, r.2)
  else (4, s, p, h)
 else (2, s, p, h)
def newS (first n size : Int) (p : PS) : Nat :=
 if first < 0 ∨ n < 0 ∨ size < 1 then 2
 else if (p.text : Int) < size then 4
 else if p.pages < first ∨ p.pages - first < takeN n.toNat (p.text / size.toNat) then 5
 else 0
def freshS (first n size : Int) (p : PS) : SL := ⟨first.toNat, n.toNat, size.toNat, p.text / size.toNat, []⟩
def pagesS (n size text : Int) : Int × Nat :=
 if n < 0 ∨ size < 1 then (0, 2)
 else if text < size then (0, 4)
 else if 65536 < takeN n.toNat (text.toNat / size.toNat) then (0, 5)
 else ((takeN n.toNat (text.toNat / size.toNat) : Nat), 0)
theorem mem_use (s : PS) (f : PagerS.Fr) : f ∈ (useP s f).held := List.mem_append.2 (.inr (List.mem_singleton.2 rfl))
theorem load_held {p : PS} {h : HS} {n : Int} (he : (loadP p h n).1.2 = 0) : ∃ f ∈ (loadP p h n).2.1.held, f.text = (loadP p h n).1.1 := by
 unfold loadP at he ⊢
 split
 ·rename_i hr
  rw [if_pos hr] at he
  split
  ·rename_i f hf
   exact ⟨f, mem_use _ _, rfl⟩
  ·rename_i hf
   rw [hf] at he
   dsimp only at he ⊢
   split
   ·rename_i hz
    rw [if_pos hz] at he
    generalize (roomP p h).2.1 = p1 at *
    generalize (roomP p h).2.2 = h1 at *
    unfold fetchP at he ⊢
    split
    ·rename_i pl hl
     rw [hl] at he
     try dsimp only at he
     try dsimp only
     split
     ·rename_i h0
      rw [if_pos h0] at he
      try dsimp only at he
      try dsimp only
      split
      ·exact ⟨_, mem_use _ _, rfl⟩
      ·rename_i ho
       rw [if_neg ho] at he
       exact absurd he ho
     ·rename_i h0
      rw [if_neg h0] at he
      exact absurd he h0
    ·exact ⟨_, mem_use _ _, rfl⟩
   ·rename_i hz
    rw [if_neg hz] at he
    exact absurd he hz
 ·rename_i hr
  rw [if_neg hr] at he
  exact absurd he hr
theorem load_text {p : PS} {h : HS} {n : Int} (he : (loadP p h n).1.2 = 0) (hk : Ok (loadP p h n).2.1) : (loadP p h n).1.1.length = p.text := by
 obtain ⟨f, hf, e⟩ := load_held he
 rw [← e, hk.len f hf]
 exact (near_load p h n).text
end Go.Sl.SlotS
namespace Go.Sl.SlotS
open Go Go.Sl Go.Sl.HostS Go.Sl.PagerS
attribute [local irreducible] pgSealB pgOpenR PagerS.loadP PagerS.saveP
section
variable {s : SL} {p : PS} {h : HS} {b : Int → Bytes} {i j : Nat}
theorem has_nat (hi : i < s.n) : has s (i : Int) := ⟨by omega, by omega⟩
def slotB (s : SL) (b : Int → Bytes) (i : Nat) : Bytes := part (b (pg s i)) (fr s i) s.size
def putB (s : SL) (b : Int → Bytes) (i : Nat) (x : Bytes) : Int → Bytes := setF b (pg s i) (lay (b (pg s i)) (fr s i) x)
theorem putB_at (f : Fit s p) (hb : ∀ n : Int, (b n).length = p.text) {x : Bytes} (hx : x.length = s.size) (i j : Nat) : slotB s (putB s b i x) j = if j = i then x else slotB s b j := by
 have h1 := f.from i
 have h2 := f.from j
 unfold slotB putB setF
 by_cases e : j = i
 ·subst e
  rw [if_pos rfl, if_pos rfl, ← hx]
  exact part_lay (by rw [hb, hx]; exact h1)
 ·rw [if_neg e]
  by_cases hp : ((pg s j : Nat) : Int) = (pg s i : Nat)
  ·rw [if_pos hp]
   have hpn : pg s i = pg s j := by omega
   have := fr_apart (s := s) (i := i) (j := j) (fun hh => e hh.symm) hpn
   rw [hpn]
   exact part_other (by rw [hb, hx]; exact h1) (by rw [hx]; omega)
  ·rw [if_neg hp]
theorem get_q (q : Quiet p h b) (f : Fit s p) (hi : i < s.n) (hw : p.writes < 4294967295) : (getS s p h i).1 = (slotB s b i, 0) ∧ (getS s p h i).2.1 = touch s 0 i 0 ∧ Quiet (getS s p h i).2.2.1 (getS s p h i).2.2.2 b := by
 obtain ⟨a1, a2⟩ := q.load hw (n := ((pg s i : Nat) : Int)) (by omega) (f.page hi)
 unfold getS
 rw [if_pos (has_nat hi), Int.toNat_natCast]
 dsimp only
 rw [a1, if_pos rfl]
 exact ⟨rfl, rfl, a2⟩
theorem set_q (q : Quiet p h b) (f : Fit s p) (hi : i < s.n) (hw : p.writes + 1 < 4294967295) {x : Bytes} (hx : x.length = s.size) : (setS s p h i x).1 = 0 ∧ (setS s p h i x).2.1 = touch s 1 i 0 ∧ Quiet (setS s p h i x).2.2.1 (setS s p h i x).2.2.2 (putB s b i x) := by
 obtain ⟨a1, a2⟩ := q.load (by omega) (n := ((pg s i : Nat) : Int)) (by omega) (f.page hi)
 have n1 := near_load p h ((pg s i : Nat) : Int)
 have h1 := f.from i
 have hb := q.sound.len
 unfold setS
 rw [if_pos (has_nat hi), if_pos hx, Int.toNat_natCast]
 dsimp only
 rw [a1, if_pos rfl]
 have hw2 := n1.writes
 have hpg : (loadP p h (pg s i)).2.1.pages = p.pages := n1.spages
 have htx : (loadP p h (pg s i)).2.1.text = p.text := n1.text
 have hll : (lay (b (pg s i)) (fr s i) x).length = (loadP p h (pg s i)).2.1.text := by rw [lay_len (by rw [hb, hx]; exact h1), hb, htx]
 obtain ⟨c1, c2⟩ := a2.save (by omega) (n := ((pg s i : Nat) : Int)) (by omega) (by rw [hpg]; exact f.page hi) hll
 exact ⟨c1, rfl, c2⟩
theorem set_near (s : SL) (p : PS) (h : HS) (i : Int) (b : Bytes) : Near 3 2 p h (setS s p h i b).2.2.1 (setS s p h i b).2.2.2 := by
 unfold setS
 split
 ·split
  ·have n1 := near_load p h ((pg s i.toNat : Nat) : Int)
   dsimp only
   split
   ·exact n1.trans (near_save _ _ _ _) (by omega) (by omega)
   ·exact n1.trans (Near.refl 1 1 _ _) (by omega) (by omega)
  ·exact Near.refl 3 2 p h
 ·exact Near.refl 3 2 p h
end
end Go.Sl.SlotS
namespace Go.Sl
open Go Go.Proofs
attribute [local irreducible] pt pur ex all den denOps denS xOps xC cX CX xthen xblk xcut xloop xng retX resX Calls PV Rd Con
attribute [local irreducible] hostA pgA
open SlotS (SL Acc Fit)
def accs (x : Acc) : List Value := [.int .i64 x.1, .int .i64 x.2.1, .int .i64 x.2.2]
theorem acc_one (x : Acc) : (accs x).all oneC = true := rfl
theorem acc_ones (l : List Acc) : (l.flatMap accs).all oneC = true := by
 rw [List.all_eq_true]
 intro v hv
 obtain ⟨f, _, hv⟩ := List.mem_flatMap.1 hv
 exact List.all_eq_true.1 (acc_one f) v hv
abbrev slc (pp : Nat) (s : SL) (a : Option Addr) (c : Nat) : Array Value := #[hp pp, nvv s.first, nvv s.n, nvv s.size, nvv s.per, .slice a s.log.length c]
abbrev ownAcc (a : Option Addr) (c : Nat) (l : List Acc) : Asrt := own 151 3 (.slice a l.length c) l.length (l.flatMap accs)
abbrev slL (q pp : Nat) (s : SL) (a : Option Addr) (c : Nat) : List Asrt := [cl q (slc pp s a c) 137, ownAcc a c s.log]
def slB (q pp : Nat) (s : SL) (t : Option Addr × Nat) : Asrt := all (slL q pp s t.1 t.2)
def slA (q pp : Nat) (s : SL) : Asrt := ex (slB q pp s)
section
variable {q pp : Nat} {s : SL} {L : List Asrt}
theorem slA_mk {a : Option Addr} {c : Nat} : Imp (slL q pp s a c ++ L) (slA q pp s :: L) :=
 (Imp.app (L := slL q pp s a c)).trans (Imp.head fun f h => by unfold slA Sl.ex; exact Exists.intro (p := fun x => (slB q pp s x).on f) (a, c) h)
theorem Con.slA {F : FuncId} {args : List Value} {Φ : Value → List Asrt → Prop} (h : ∀ (a : Option Addr) (c : Nat), Con Tryz.prog F args (slL q pp s a c ++ L) Φ) : Con Tryz.prog F args (Sl.slA q pp s :: L) Φ :=
 Con.ex fun t => Con.pre (h t.1 t.2) (Imp.unapp (L := slL q pp s t.1 t.2))
end
section
variable {q pp : Nat} {s : SL} {a : Option Addr} {c : Nat}
theorem shas_x (i : Int) : Con Tryz.prog 78 [hp q, .int .i64 i] [cl q (slc pp s a c) 137] (fun r M => r = .bool (decide (SlotS.has s i)) ∧ M = [cl q (slc pp s a c) 137]) := by
 by_cases h0 : 0 ≤ i
 ·by_cases h1 : i < (s.n : Int)
  ·rw [decide_eq_true (show SlotS.has s i from ⟨h0, h1⟩)]
   refine fn_y Tryz.func78 Tryz.mixed ?_
   intro w0
   refine Y5 ?_
   refine Zhg (Zbq (b := 0) rfl rfl) ?_
   refine Zos 6 rfl (h0) ?_
   refine Y6 ?_
   first|refine Y0 ?_|(refine Zhh rfl ?_; (refine Zhg (Zbn (a := i) (b := (s.n : Int)) rfl rfl) ?_))
   refine Zos 13 rfl (h1) ?_
   refine V3 ?_
   refine rx1 (Zha rfl (Zg7)) ?_
   exact ⟨_, ⟨rfl, rfl⟩, qI⟩
  ·rw [decide_eq_false (show ¬ SlotS.has s i from fun hh => h1 hh.2)]
   refine fn_y Tryz.func78 Tryz.mixed ?_
   intro w0
   refine Y5 ?_
   refine Zhg (Zbq (b := 0) rfl rfl) ?_
   refine Zos 6 rfl (h0) ?_
   refine Y6 ?_
   first|refine Y0 ?_|(refine Zhh rfl ?_; (refine Zhg (Zbn (a := i) (b := (s.n : Int)) rfl rfl) ?_))
   refine Zot 13 rfl (h1) ?_
   refine V3 ?_
   refine rx1 (Zha rfl (Zg7)) ?_
   exact ⟨_, ⟨rfl, rfl⟩, qI⟩
 ·rw [decide_eq_false (show ¬ SlotS.has s i from fun hh => h0 hh.1)]
  refine fn_y Tryz.func78 Tryz.mixed ?_
  intro w0
  refine Y5 ?_
  refine Zhg (Zbq (b := 0) rfl rfl) ?_
  refine Zot 6 rfl (h0) ?_
  refine V10 ?_
  refine rx1 (Zha rfl (Zg7)) ?_
  exact ⟨_, ⟨rfl, rfl⟩, qI⟩
theorem stouch_x (k i j : Int) (hl : s.log.length ≤ 4000000000000) : Con Tryz.prog 79 [hp q, .int .i64 k, .int .i64 i, .int .i64 j] (slL q pp s a c) (fun r M => ∃ a' c', M = slL q pp (SlotS.touch s k i j) a' c') := by
 refine fn_y Tryz.func79 Tryz.mixed ?_
 intro w0
 refine Y9 ?_
 refine Zhg (Zdm (cs := (accs (k, i, j)).toArray) rfl) ?_
 refine Zh7 (cs := (accs (k, i, j)).toArray) (by omega) (by omega) (by exact fill_one rfl rfl) ?_; intro b17
 refine Zia rfl rfl qH (Rd.cl (xs := accs (k, i, j)) qH rfl qZ rfl) (by first|rfl|exact oneM_u8 _|exact oneL_u8 _|exact acc_one _|assumption|(simp [oneC]; done)) (by omega) qS ?_; intro a3 c3
 refine V4 ?_
 first|refine rx0 ?_|refine rx0n ?_
 refine ⟨_, ⟨a3, c3, rfl⟩, ?_⟩
 have e2 : (s.log ++ [(k, i, j)]).length = s.log.length + 1 := by simp
 have e3 : (s.log ++ [(k, i, j)]).flatMap accs = s.log.flatMap accs ++ accs (k, i, j) := by simp
 show Imp _ [cl q (slc pp { s with log := s.log ++ [(k, i, j)] } a3 c3) 137, ownAcc a3 c3 (s.log ++ [(k, i, j)])]
 unfold ownAcc slc
 dsimp only
 rw [e2, e3]
 exact qI
abbrev placeF (bf bs : Nat) : Value := .func (.func 115) #[] #[.pointer (some ⟨bf, 0, none⟩), .pointer (some ⟨bs, 0, none⟩)]
theorem splace_x (i : Nat) (h1 : 1 ≤ s.per) (hi : i ≤ 268435456) (hf : SlotS.fr s i ≤ 4096) (hp1 : SlotS.pg s i ≤ 65536) : Con Tryz.prog 80 [hp q, nvv i] [cl q (slc pp s a c) 137] (fun r M => ∃ bf bs, r = .tuple #[nvv (SlotS.pg s i), placeF bf bs] ∧ M = [cl bf #[nvv (SlotS.fr s i)] 3, cl bs #[hp q] 28, cl q (slc pp s a c) 137]) := by
 unfold SlotS.fr at hf
 unfold SlotS.pg at hp1
 refine fn_y Tryz.func80 Tryz.mixed ?_
 intro w0
 refine Y1 ?_
 refine Zh3 rfl ?_; intro b2
 refine V3 ?_
 refine Zij ([cl b2 #[hp q] 28, cl q (slc pp s a c) 137]) [6, 7, 8, 9, 11] (.q 0 (.r 1 (.q 2 (.q 3 (.r 4 (.q 5 (.r 6 (.r 7 (.r 8 (.r 9 (.q 10 (.a 11 (.e 12 false .nil))))))))))))) (by kernel_rfl) (by kernel_rfl) (Imp.arr qV) ?_
 refine W11 ?_
 refine Zir rfl (cs := #[.int .i64 0]) rfl ?_; intro b6
 refine Ziq rfl ?_
 refine Y1 ?_
 refine Zg3 ⟨(fun hh => Bool.noConfusion hh), ?_⟩
 refine Zik ?_
 refine Ct.o ?_
 refine Zij ([cl b6 #[nvv (i % s.per * s.size)] 3, cl b2 #[hp q] 28, cl q (slc pp s a c) 137]) [5, 6, 7, 8, 9] (.q 4 (.q 11 (.r 0 (.q 1 (.q 2 (.r 3 (.r 5 (.r 6 (.r 7 (.r 8 (.r 9 (.q 10 (.q 12 (.q 13 .nil)))))))))))))) (by kernel_rfl) (by kernel_rfl) (Imp.arr qV) ?_
 refine W15 ?_
 refine Ct.o ?_
 refine rx2 (Zg9 rfl (Zg8 rfl (Zg7))) ?_
 exact ⟨_, ⟨b6, b2, rfl, rfl⟩, qI⟩
theorem splaced_x {g n cp bf bs f : Nat} (hs : 1 ≤ s.size) (hfc : f + s.size ≤ n) (hnc : n ≤ cp) (hn : n ≤ 4096) : Con Tryz.prog 115 [.slice (some ⟨g, 0, none⟩) n cp, .pointer (some ⟨bf, 0, none⟩), .pointer (some ⟨bs, 0, none⟩)] [cl bf #[nvv f] 3, cl bs #[hp q] 28, cl q (slc pp s a c) 137] (fun r M => r = .slice (some ⟨g, f, none⟩) s.size (cp - f) ∧ M = [cl bf #[nvv f] 3, cl bs #[hp q] 28, cl q (slc pp s a c) 137]) := by
 have hsz : f + s.size - f = s.size := by omega
 refine fn_y Tryz.func115 Tryz.mixed ?_
 intro w0
 refine V3 ?_
 refine Zij ([cl bf #[nvv f] 3, cl bs #[hp q] 28, cl q (slc pp s a c) 137]) [2, 3, 4, 5, 6, 7] (.q 0 (.r 1 (.r 2 (.r 3 (.r 4 (.r 5 (.r 6 (.r 7 (.q 8 (.q 9 .nil)))))))))) (by kernel_rfl) (by kernel_rfl) (Imp.arr qV) ?_
 refine W8 ?_
 refine Zim rfl (Zna (l := f) (h := f + s.size) rfl rfl rfl (by omega) (by omega) (by omega)) ?_
 refine W2 ?_
 refine Ct.o ?_
 rw [hsz]
 refine rx1 (Zhc rfl (Zg7)) ?_
 exact ⟨_, ⟨rfl, rfl⟩, qI⟩
end
end Go.Sl
namespace Go.Sl
open Go
theorem or_add (a b i : Nat) (h : b < 2 ^ i) : a <<< i ||| b = a * 2 ^ i + b := by rw [← Nat.shiftLeft_add_eq_or_of_lt h, Nat.shiftLeft_eq]
abbrev W128.val (x : W128) : Nat := x.1.toNat + 18446744073709551616 * x.2.toNat
theorem quarter (f : W128) (hf : f.1.toNat % 4 = 0) : W128.val (f.1 >>> 2 ||| f.2 <<< 62, f.2 >>> 2) = f.val / 4 := by
 have h1 := f.1.isLt; have h2 := f.2.isLt
 have e : (f.1 >>> 2 ||| f.2 <<< 62).toNat = f.2.toNat % 4 * 4611686018427387904 + f.1.toNat / 4 := by
  rw [BitVec.toNat_or, BitVec.toNat_ushiftRight, BitVec.toNat_shiftLeft, Nat.shiftRight_eq_div_pow, Nat.or_comm]
  have e2 : f.2.toNat <<< 62 % 2 ^ 64 = (f.2.toNat % 4) <<< 62 := by
   rw [Nat.shiftLeft_eq, Nat.shiftLeft_eq]; omega
  rw [e2, or_add _ _ _ (by omega)]
 simp only [W128.val, e, BitVec.toNat_ushiftRight, Nat.shiftRight_eq_div_pow]
 omega
end Go.Sl
namespace Go.Sl
open Go
end Go.Sl
namespace Go.Sl
open Go Go.Proofs
attribute [local irreducible] pt pur ex all den denOps denS xOps xC cX CX xthen xblk xcut xloop xng retX resX Calls PV Rd Con
attribute [local irreducible] rotW
end Go.Sl
namespace Go.Sl
open Go Go.Proofs
attribute [local irreducible] pt pur ex all den denOps denS xOps xC cX CX xthen xblk xcut xloop xng retX resX Calls PV Rd Con
theorem eqBytes_x {L : List Asrt} {va vb : Value} {a b : List Byte} (ha : Bs L va a) (hb : Bs L vb b) : Con Tryz.prog 36 [va, vb] L (fun v M => v = .bool (decide (a = b)) ∧ L = M) := by
 refine Con.get (fun w0 w F H => ha.sh _ _ _ H) ?_
 rintro ⟨aa, ac, rfl, hac, hacm⟩
 refine Con.get (fun w0 w F H => hb.sh _ _ _ H) ?_
 rintro ⟨ba, bc, rfl, hbc, hbcm⟩
 refine fn_y Tryz.func36 Tryz.mixed ?_
 intro w0
 refine V10 ?_
 refine Zgg rfl (fun hB => ?_) (fun hB => ?_)
 ·refine V3 ?_
  refine rx1 (Zha rfl (Zg7)) ?_
  exact ⟨_, ⟨by rw [decide_eq_false (fun h => hB (by rw [h]))], rfl⟩, by exact Imp.arr (by repeat (first|exact Arr.nil|exact Arr.stop|refine Arr.cons (by repeat constructor) ?_|refine Arr.skip ?_))⟩
 have hlen : a.length = b.length := by omega
 refine V3 ?_
 refine Zgo [(4, 5), (11, 25)] (by kernel_rfl) (fun i : Nat => i ≤ a.length ∧ a.take i = b.take i) (fun _ => L) (fun i => [(5, .int .i64 (i : Int))]) (fun i => a.length - i) 0 ⟨by omega, rfl⟩ (Imp.refl _) ⟨rfl, trivial⟩ ?_
 rintro i u ⟨hi, he⟩
 refine V6 ?_
 refine Zgg rfl (fun hB => ?_) (fun hB => ?_)
 ·have hib : i < b.length := by omega
  refine Zgt (fun F w H => ha.some (by omega) H) ?_
  rintro ⟨a1, a2, rfl⟩
  refine Zgt (fun F w H => hb.some (by omega) H) ?_
  rintro ⟨b1, b2, rfl⟩
  refine Ct.o ?_
  refine Zij (_) [7] (.q 0 (.q 1 (.q 2 (.q 4 (.q 5 (.q 6 (.r 3 (.r 7 (.q 8 .nil))))))))) (by kernel_rfl) (by kernel_rfl) (Imp.refl _) ?_
  refine W6 ?_
  refine Zi8 (j := i) rfl rfl ha.rd hB (getM (f := u8b) hB) ?_
  refine Zi8 (j := i) rfl rfl hb.rd hib (getM (f := u8b) hib) ?_
  refine Zim rfl (Zjl rfl rfl) ?_
  refine Zik ?_
  refine Ct.o ?_
  refine Zgg rfl (fun hB2 => ?_) (fun hB2 => ?_)
  ·refine V3 ?_
   refine rx1 (Zha rfl (Zg7)) ?_
   refine ⟨_, ⟨?_, rfl⟩, by exact Imp.arr (by repeat (first|exact Arr.nil|exact Arr.stop|refine Arr.cons (by repeat constructor) ?_|refine Arr.skip ?_))⟩
   rw [decide_eq_false]
   rintro rfl
   exact hB2 rfl
  ·refine V5 ?_
   have hB2 : a[i] = b[i] := by simpa using hB2
   exact Zgl (i + 1) qO ⟨by omega, by rw [List.take_succ_eq_append_getElem hB, List.take_succ_eq_append_getElem hib, he, hB2]⟩ qI ⟨rfl, trivial⟩
 ·have hie : i = a.length := by omega
  subst hie
  rw [List.take_length, hlen, List.take_length] at he
  refine V3 ?_
  refine rx1 (Zha rfl (Zg7)) ?_
  exact ⟨_, ⟨by rw [decide_eq_true he], rfl⟩, by exact Imp.arr (by repeat (first|exact Arr.nil|exact Arr.stop|refine Arr.cons (by repeat constructor) ?_|refine Arr.skip ?_))⟩
end Go.Sl
namespace Go.Sl
open Go Go.Proofs
attribute [local irreducible] pt pur ex all den denOps denS xOps xC cX CX xthen xblk xcut xloop xng retX resX Calls PV Rd Con
end Go.Sl
namespace Go.Sl
open Go Go.Proofs
attribute [local irreducible] pt pur ex all den denOps denS xOps xC cX CX xthen xblk xcut xloop xng retX resX Calls PV Rd Con
end Go.Sl
namespace Go.Sl
open Go Go.Proofs
attribute [local irreducible] pt pur ex all den denOps denS xOps xC cX CX xthen xblk xcut xloop xng retX resX Calls PV Rd Con
end Go.Sl
namespace Go.Sl
open Go Go.Proofs
attribute [local irreducible] pt pur ex all den denOps denS xOps xC cX CX xthen xblk xcut xloop xng retX resX Calls PV Rd Con
theorem x_own {P : Program} {w0 : World} {c : Code} {ρ : Env} {Q : XQ} {E n cp : Nat} {a : Option Addr} {xs : List Value} {M M' : List Asrt} (hm : Has M (own E 1 (.slice a n cp) n xs) M') (hn : 0 < n)
  (k : ∀ g rest, a = some ⟨g, 0, none⟩ → n ≤ cp → cp ≤ 9223372036854775807 → rest.length + n = cp → xC P w0 c ρ (cl g (xs ++ rest).toArray E :: M') Q) : xC P w0 c ρ M Q := by
 refine Zgu (α := { p : Nat × List Value // a = some ⟨p.1, 0, none⟩ ∧ n ≤ cp ∧ cp ≤ 9223372036854775807 ∧ p.2.length + n = cp }) (A := fun p => cl p.val.1 (xs ++ p.val.2).toArray E :: M') ?_ (fun p => k p.val.1 p.val.2 p.property.1 p.property.2.1 p.property.2.2.1 p.property.2.2.2)
 intro F w H
 rcases (H.pick (.there hm)).own_get with ⟨hv, rfl, _⟩|⟨g, cap, cur, hv, h2, h3, h4, h5, h6, H'⟩
 ·omega
 ·simp only [Value.slice.injEq] at hv
  obtain ⟨rfl, _, rfl⟩ := hv
  have e : cur = (xs ++ cur.toList.drop n).toArray := by
   rw [← h5, Nat.mul_one, List.take_append_drop]
  refine ⟨⟨(g, cur.toList.drop n), rfl, h2, h3, by rw [List.length_drop, Array.length_toList, h4]; omega⟩, ?_⟩
  dsimp only
  rw [← e]
  exact H'.swap
attribute [local irreducible] lowB
end Go.Sl
namespace Go.Sl
open Go Go.Proofs
attribute [local irreducible] pt pur ex all den denOps denS xOps xC cX CX xthen xblk xcut xloop xng retX resX Calls PV Rd Con
attribute [local irreducible] hostA pgA PagerS.loadP PagerS.saveP
open SlotS (SL Acc Fit)
open PagerS (PS Over)
theorem rd_part {M M' : List Asrt} {g f n k E : Nat} {B : List Byte} {rest : List Value} (hm : Has M (cl g (B.map u8b ++ rest).toArray E) M') (h : f + n ≤ B.length) : Rd M 1 (.slice (some ⟨g, f, none⟩) n k) n ((SlotS.part B f n).map u8b) := by
 have hl := SlotS.part_len (t := B) h
 refine Rd.cl (o := f) hm (by rw [List.length_map, hl, Nat.mul_one]) (by simp; omega) ?_
 rw [Nat.mul_one, Array.toList_extract, List.extract_eq_take_drop]
 show ((B.map u8b ++ rest).drop f).take (f + n - f) = _
 rw [show f + n - f = n by omega, List.drop_append_of_le_length (by simp; omega), List.take_append_of_le_length (by simp; omega)]
 unfold SlotS.part
 rw [List.map_take, List.map_drop]
theorem copy_all {l : List Byte} {n : Nat} (hl : l.length = n) : wr ((List.replicate n 0#8).map u8b).toArray 0 ((l.map u8b).take (min n n * 1)) = (l.map u8b).toArray := by
 rw [Nat.min_self, Nat.mul_one, List.take_of_length_le (by simp [hl])]
 have := wr_mid [] ((List.replicate n 0#8).map u8b) [] (l.map u8b) 0 rfl (by simp [hl])
 simpa using this
theorem copy_lay {B b : List Byte} {f n : Nat} {rest : List Value} (hb : b.length = n) (h : f + n ≤ B.length) : wr (B.map u8b ++ rest).toArray f ((b.map u8b).take (min b.length n * 1)) = ((SlotS.lay B f b).map u8b ++ rest).toArray := by
 rw [hb, Nat.min_self, Nat.mul_one, List.take_of_length_le (by simp [hb])]
 have e : B.map u8b ++ rest = (B.take f).map u8b ++ (((B.drop f).take n).map u8b ++ ((B.drop (f + n)).map u8b ++ rest)) := by
  have e1 : B = B.take f ++ ((B.drop f).take n ++ B.drop (f + n)) := by
   have h2 : B.drop (f + n) = (B.drop f).drop n := by rw [List.drop_drop]
   rw [h2, List.take_append_drop, List.take_append_drop]
  conv => lhs; rw [e1]
  simp
 rw [e]
 have := wr_mid ((B.take f).map u8b) (((B.drop f).take n).map u8b) ((B.drop (f + n)).map u8b ++ rest) (b.map u8b) f (by simp; omega) (by simp [hb]; omega)
 rw [this]
 unfold SlotS.lay
 simp [hb]
theorem lay_bs {M M' : List Asrt} {g n c E : Nat} {l : List Byte} {rest : List Value} (hm : Has M (cl g (l.map u8b ++ rest).toArray E) M') (hl : l.length = n) (hnc : n ≤ c) (hcm : c ≤ 9223372036854775807) : Bs M (.slice (some ⟨g, 0, none⟩) n c) l := by
 subst hl
 refine Bs.cl (o := 0) hm (by simp) ?_ hnc hcm
 rw [Nat.zero_add, Array.toList_extract, List.extract_eq_take_drop]
 show ((l.map u8b ++ rest).drop 0).take (l.length - 0) = _
 rw [List.drop_zero, Nat.sub_zero, List.take_append_of_le_length (by simp)]
 exact List.take_of_length_le (by simp)
theorem own_block {g n : Nat} {l : List Byte} (hl : l.length = n) (hn : n ≤ 9223372036854775807) {M : List Asrt} : Imp (cl g (l.map u8b).toArray 5 :: M) (ownB (some ⟨g, 0, none⟩) n l :: M) := by
 subst hl
 exact Imp.own_mk (n := l.length) (cap := l.length) (size := 1) (xs := l.map u8b) (Nat.le_refl _) hn (by simp) (by simp; exact List.take_of_length_le (by simp))
section
variable {q pp ph : Nat} {s : SL} {p : PS} {h : HostS.HS}
theorem pgs_ok {M M' : List Asrt} {F : Asrt} {w0 w : World} (hm : Has M (pgA pp ph p) M') (H : St w0 w (F :: M)) : PagerS.Ok p := by
 have H := H.pick (.there hm)
 unfold pgA at H
 obtain ⟨t, H⟩ := H.ex_get
 exact (St.pur_get (St.all_get H)).ok
theorem sget_x (f : Fit s p) (hk : PagerS.Ok p) (hov : Over p h) (hops : h.ops + 1 < 3518437208880) (hl : s.log.length ≤ 4000000000000) (i : Int) : Con Tryz.prog 35 [hp q, .int .i64 i] [slA q pp s, pgA pp ph p, hostA ph h] (fun r M => ∃ a c, r = .tuple #[.slice a (SlotS.getS s p h i).1.1.length c, nvv (SlotS.getS s p h i).1.2] ∧ M = [ownB a c (SlotS.getS s p h i).1.1, slA q pp (SlotS.getS s p h i).2.1, pgA pp ph (SlotS.getS s p h i).2.2.1, hostA ph (SlotS.getS s p h i).2.2.2]) := by
 refine Con.slA fun la lc => ?_
 simp only [List.cons_append, List.nil_append]
 by_cases hh : SlotS.has s i
 ·obtain ⟨i, rfl⟩ : ∃ n : Nat, i = n := ⟨i.toNat, by have := hh.1; omega⟩
  have hin : i < s.n := by have := hh.2; omega
  have ht1 := hk.t1
  have hp1 := hk.p1
  have hpage := f.page hin
  have hfrom := f.from i
  have hsz1 := f.size
  have hll := fun he hk1 => SlotS.load_text (p := p) (h := h) (n := ((SlotS.pg s i : Nat) : Int)) he hk1
  have hld := load_x (p := pp) (ph := ph) hov (by omega) ((SlotS.pg s i : Nat) : Int)
  have e : SlotS.getS s p h (i : Int) = (if (PagerS.loadP p h (SlotS.pg s i : Nat)).1.2 = 0 then (SlotS.part (PagerS.loadP p h (SlotS.pg s i : Nat)).1.1 (SlotS.fr s i) s.size, 0) else ([], (PagerS.loadP p h (SlotS.pg s i : Nat)).1.2), SlotS.touch s 0 i 0, (PagerS.loadP p h (SlotS.pg s i : Nat)).2) := by
   unfold SlotS.getS
   rw [if_pos hh, Int.toNat_natCast]
  rw [e]
  have htc := fun a c => stouch_x (q := q) (pp := pp) (s := s) (a := a) (c := c) 0 i 0 hl
  have hpl := fun a c => splace_x (q := q) (pp := pp) (s := SlotS.touch s 0 i 0) (a := a) (c := c) i (f.touch 0 i 0).per1 (f.small hin hp1 ht1) (by show SlotS.fr s i ≤ 4096; omega) (by show SlotS.pg s i ≤ 65536; omega)
  have hpd := fun a c g n cp bf bs h1 h2 h3 => splaced_x (q := q) (pp := pp) (s := SlotS.touch s 0 i 0) (a := a) (c := c) (g := g) (n := n) (cp := cp) (bf := bf) (bs := bs) (f := SlotS.fr s i) f.size h1 h2 h3
  have e1 : SlotS.pg (SlotS.touch s 0 i 0) i = SlotS.pg s i := rfl
  have e2 : SlotS.fr (SlotS.touch s 0 i 0) i = SlotS.fr s i := rfl
  have e3 : (SlotS.touch s 0 i 0).size = s.size := rfl
  rw [e1, e2] at hpl
  rw [e3] at hpd
  generalize hs2 : SlotS.touch s 0 i 0 = s2 at *
  generalize (PagerS.loadP p h (SlotS.pg s i : Nat)).2.1 = p1 at *
  generalize (PagerS.loadP p h (SlotS.pg s i : Nat)).2.2 = h1 at *
  generalize (PagerS.loadP p h (SlotS.pg s i : Nat)).1.2 = er at *
  generalize (PagerS.loadP p h (SlotS.pg s i : Nat)).1.1 = B at *
  generalize SlotS.pg s i = pn at *
  generalize SlotS.fr s i = fn at *
  refine fn_y Tryz.func35 Tryz.mixed ?_
  intro w0
  refine Y7 ?_
  refine Zhn 12 rfl (rfl) ?_
  refine Y5 ?_
  refine Zor (shas_x (q := q) (pp := pp) (s := s) (a := la) (c := lc) i) ?_
  rintro _ _ ⟨rfl, rfl⟩
  refine Y1 ?_
  refine Zos 15 rfl (hh) ?_
  refine Zhg (Zb0 rfl) ?_
  refine Zhn 16 rfl (rfl) ?_
  refine Y5 ?_
  refine Zor (htc la lc) ?_
  rintro _ _ ⟨la2, lc2, rfl⟩
  refine Y5 ?_
  refine Zor (hpl la2 lc2) ?_
  rintro _ _ ⟨bf, bs, rfl, rfl⟩
  refine Y13 ?_
  refine Zor (hld) ?_
  rintro _ _ ⟨ta, tc, rfl, rfl⟩
  refine V7 ?_
  refine Zgt (fun F w H => pgs_ok (pp := pp) (ph := ph) (p := p1) qH H) ?_
  intro hk1
  by_cases he : er = 0
  ·rw [if_pos he]
   have hB := hll he hk1
   have hpl2 : (SlotS.part B fn s.size).length = s.size := SlotS.part_len (by omega)
   refine Y3 ?_
   refine Zot 36 rfl ((fun hh => hh he)) ?_
   refine Y7 ?_
   refine Zm3 (f := u8b) (a := 0#8) rfl rfl rfl qS qS qS ?_; intro b42
   refine V2 ?_
   rw [e3]
   refine x_own (E := 5) (n := B.length) (a := ta) (cp := tc) qH (by omega) ?_
   intro g rest hg hc1 hc2 hr
   subst hg
   refine Y4 ?_
   refine Zor (hpd la2 lc2 g B.length tc bf bs (by omega) hc1 (by omega)) ?_
   rintro _ _ ⟨rfl, rfl⟩
   refine Y1 ?_
   refine Zib rfl rfl ((rd_part qH (by omega))) qR qZ (by first|rfl|exact oneM_u8 _|exact oneL_u8 _|exact acc_one _|assumption|(simp [oneC]; done)) (copy_all hpl2) ?_
   refine V6 ?_
   refine rx2 (Zhc rfl (Zg9 rfl (Zg7))) ?_
   refine ⟨_, ⟨some ⟨b42, 0, none⟩, s.size, by dsimp only; rw [hpl2]; rfl, rfl⟩, ?_⟩
   exact (Imp.arr (N := cl b42 ((SlotS.part B fn s.size).map u8b).toArray 5 :: slL q pp s2 la2 lc2 ++ [pgA pp ph p1, hostA ph h1]) qV).trans ((own_block hpl2 (by omega)).trans (Imp.cons (slA_mk (L := [pgA pp ph p1, hostA ph h1]))))
  ·rw [if_neg he]
   refine Y3 ?_
   refine Zos 36 rfl (he) ?_
   refine V7 ?_
   refine rx2 (Zhc rfl (Zg9 rfl (Zg7))) ?_
   exact ⟨_, ⟨none, 0, rfl, rfl⟩, ((Imp.arr qV).trans (slA_mk (q := q) (pp := pp) (s := s2) (a := la2) (c := lc2) (L := [pgA pp ph p1, hostA ph h1]))).trans Imp.own_nil⟩
 ·have e : SlotS.getS s p h i = (([], 2), s, p, h) := by unfold SlotS.getS; rw [if_neg hh]
  rw [e]
  refine fn_y Tryz.func35 Tryz.mixed ?_
  intro w0
  refine Y7 ?_
  refine Zhn 12 rfl (rfl) ?_
  refine Y5 ?_
  refine Zor (shas_x (q := q) (pp := pp) (s := s) (a := la) (c := lc) i) ?_
  rintro _ _ ⟨rfl, rfl⟩
  refine Y1 ?_
  refine Zot 15 rfl (hh) ?_
  refine Zhg (Zb0 rfl) ?_
  refine Zhm 16 rfl (rfl) ?_
  refine V6 ?_
  refine rx2 (Zhc rfl (Zg9 rfl (Zg7))) ?_
  exact ⟨_, ⟨none, 0, rfl, rfl⟩, ((Imp.arr qV).trans (slA_mk (q := q) (pp := pp) (s := s) (a := la) (c := lc) (L := [pgA pp ph p, hostA ph h]))).trans Imp.own_nil⟩
end
end Go.Sl
namespace Go.Sl
open Go Go.Proofs
attribute [local irreducible] pt pur ex all den denOps denS xOps xC cX CX xthen xblk xcut xloop xng retX resX Calls PV Rd Con
attribute [local irreducible] hostA pgA PagerS.loadP PagerS.saveP
open SlotS (SL Acc Fit)
open PagerS (PS Over)
section
variable {q pp ph : Nat} {s : SL} {p : PS} {h : HostS.HS}
theorem sl_small {F : FuncId} {args : List Value} {v : Value} (hc : ∀ a c, Con Tryz.prog F args [cl q (slc pp s a c) 137] (fun r M => r = v ∧ M = [cl q (slc pp s a c) 137])) : Con Tryz.prog F args [slA q pp s] (fun r M => r = v ∧ M = [slA q pp s]) :=
 Con.slA (L := []) fun a c => ((hc a c).frame (L := [ownAcc a c s.log])).mono fun r M ⟨M', h1, h2⟩ => by
  obtain ⟨h1, h3⟩ := h1
  subst h3 h2
  exact ⟨_, by simpa using slA_mk (q := q) (pp := pp) (s := s) (a := a) (c := c) (L := []), h1, rfl⟩
theorem slen_x : Con Tryz.prog 26 [hp q] [slA q pp s] (fun r M => r = nvv s.n ∧ M = [slA q pp s]) := sl_small fun a c => by
 refine fn_y Tryz.func26 Tryz.mixed ?_
 intro w0
 refine Y6 ?_
 refine Zhn 4 rfl (rfl) ?_
 refine V9 ?_
 refine rx1 (Zg9 rfl (Zg7)) ?_
 exact ⟨_, ⟨rfl, rfl⟩, qI⟩
theorem ssize_x : Con Tryz.prog 27 [hp q] [slA q pp s] (fun r M => r = nvv s.size ∧ M = [slA q pp s]) := sl_small fun a c => by
 refine fn_y Tryz.func27 Tryz.mixed ?_
 intro w0
 refine Y6 ?_
 refine Zhn 4 rfl (rfl) ?_
 refine V9 ?_
 refine rx1 (Zg9 rfl (Zg7)) ?_
 exact ⟨_, ⟨rfl, rfl⟩, qI⟩
theorem cloneA_x {L : List Asrt} {a : Option Addr} {c : Nat} {b : List Acc} (h : Rd L 3 (.slice a b.length c) b.length (b.flatMap accs)) (hl : b.length ≤ 4000000000001) : Con Tryz.prog 77 [.slice a b.length c] L (fun v M => ∃ a' c', v = .slice a' b.length c' ∧ M = ownAcc a' c' b :: L) := by
 cases ha : a.isNone with
 | true =>
  obtain rfl : a = none := by simpa using ha
  by_cases h0 : b.length = 0
  ·obtain rfl : b = [] := List.eq_nil_of_length_eq_zero h0
   refine fn_y Tryz.func77 Tryz.mixed ?_
   intro w0
   refine Y6 ?_
   refine Zhm 4 rfl (rfl) ?_
   refine V5 ?_
   refine rx1 (Zhc rfl (Zg7)) ?_
   exact ⟨_, ⟨none, 0, rfl, rfl⟩, (Imp.arr (N := L) qV).trans Imp.own_nil⟩
  ·refine Con.get (fun w0 w F H => h.someAt (by omega) H) ?_
   rintro ⟨s1, s2, hh⟩
   cases hh
 | false =>
  refine fn_y Tryz.func77 Tryz.mixed ?_
  intro w0
  refine Y6 ?_
  refine Zhn 4 rfl (ha) ?_
  refine Y3 ?_
  refine Zh7 (cs := #[]) (by omega) (by omega) rfl ?_; intro b5; refine Zgw ((Imp.arr (N := cl b5 #[] 151 :: L) qV).trans (Imp.own_mk (E := 151) (size := 3) (n := 0) (cap := 0) (xs := []) (by omega) (by omega) rfl rfl)) ?_
  refine Y1 ?_
  refine Zia rfl rfl qH (h.imp (Imp.arr qV)) (by first|rfl|exact oneM_u8 _|exact oneL_u8 _|exact acc_one _|exact acc_ones _|assumption|(simp [oneC]; done)) (by omega) qS ?_; intro a3 c3
  refine V2 ?_
  rw [Nat.zero_add, List.nil_append]
  refine rx1 (Zhc rfl (Zg7)) ?_
  exact ⟨_, ⟨a3, c3, rfl, rfl⟩, qI⟩
theorem slog_x (hl : s.log.length ≤ 4000000000001) : Con Tryz.prog 28 [hp q] [slA q pp s] (fun r M => ∃ a c, r = .slice a s.log.length c ∧ M = [ownAcc a c s.log, slA q pp s]) := by
 refine Con.slA fun la lc => ?_
 simp only [List.cons_append, List.nil_append]
 have hc := cloneA_x (L := [ownAcc la lc s.log]) (a := la) (c := lc) (b := s.log) (Rd.own .here) hl
 refine fn_y Tryz.func28 Tryz.mixed ?_
 intro w0
 refine Y6 ?_
 refine Zhn 4 rfl (rfl) ?_
 refine Y7 ?_
 refine Zor (hc) ?_
 rintro _ _ ⟨a, c, rfl, rfl⟩
 refine V3 ?_
 refine rx1 (Zhc rfl (Zg7)) ?_
 refine ⟨_, ⟨a, c, rfl, rfl⟩, ?_⟩
 exact (Imp.arr (N := ownAcc a c s.log :: (slL q pp s la lc ++ [])) qV).trans (Imp.cons (slA_mk (L := [])))
theorem sset_x {L : List Asrt} (f : Fit s p) (hk : PagerS.Ok p) (hov : Over p h) (hops : h.ops + 3 < 3518437208880) (hl : s.log.length ≤ 4000000000000) (i : Int) {vb : Value} {b : List Byte} (hb : Bs L vb b) : Con Tryz.prog 31 [hp q, .int .i64 i, vb] (slA q pp s :: pgA pp ph p :: hostA ph h :: L) (fun r M => r = nvv (SlotS.setS s p h i b).1 ∧ M = slA q pp (SlotS.setS s p h i b).2.1 :: pgA pp ph (SlotS.setS s p h i b).2.2.1 :: hostA ph (SlotS.setS s p h i b).2.2.2 :: L) := by
 refine Con.get (fun w0 w F H => hb.sh _ _ _ (H.enx (Imp.tail.trans (Imp.tail.trans Imp.tail)))) ?_
 rintro ⟨ba, bc, rfl, hbc, hbcm⟩
 refine Con.slA fun la lc => ?_
 simp only [List.cons_append, List.nil_append]
 have hback : ∀ (s : SL) (p : PS) (h : HostS.HS) (la : Option Addr) (lc : Nat), Imp (slL q pp s la lc ++ (pgA pp ph p :: hostA ph h :: L)) (slA q pp s :: pgA pp ph p :: hostA ph h :: L) := fun s p h la lc => slA_mk
 simp only [List.cons_append, List.nil_append] at hback
 by_cases hh : SlotS.has s i
 ·by_cases hbl : b.length = s.size
  ·obtain ⟨i, rfl⟩ : ∃ n : Nat, i = n := ⟨i.toNat, by have := hh.1; omega⟩
   have hin : i < s.n := by have := hh.2; omega
   have ht1 := hk.t1
   have hp1 := hk.p1
   have hpage := f.page hin
   have hfrom := f.from i
   have hsz1 := f.size
   have hll := fun he hk1 => SlotS.load_text (p := p) (h := h) (n := ((SlotS.pg s i : Nat) : Int)) he hk1
   have hld := load_x (p := pp) (ph := ph) hov (by omega) ((SlotS.pg s i : Nat) : Int)
   have hov1 := (PagerS.near_load p h ((SlotS.pg s i : Nat) : Int)).over hov
   have hop1 := (PagerS.near_load p h ((SlotS.pg s i : Nat) : Int)).ops
   have e : SlotS.setS s p h (i : Int) b = (if (PagerS.loadP p h (SlotS.pg s i : Nat)).1.2 = 0 then ((PagerS.saveP (PagerS.loadP p h (SlotS.pg s i : Nat)).2.1 (PagerS.loadP p h (SlotS.pg s i : Nat)).2.2 (SlotS.pg s i : Nat) (SlotS.lay (PagerS.loadP p h (SlotS.pg s i : Nat)).1.1 (SlotS.fr s i) b)).1, SlotS.touch s 1 i 0, (PagerS.saveP (PagerS.loadP p h (SlotS.pg s i : Nat)).2.1 (PagerS.loadP p h (SlotS.pg s i : Nat)).2.2 (SlotS.pg s i : Nat) (SlotS.lay (PagerS.loadP p h (SlotS.pg s i : Nat)).1.1 (SlotS.fr s i) b)).2) else ((PagerS.loadP p h (SlotS.pg s i : Nat)).1.2, SlotS.touch s 1 i 0, ((PagerS.loadP p h (SlotS.pg s i : Nat)).2.1, (PagerS.loadP p h (SlotS.pg s i : Nat)).2.2))) := by
    unfold SlotS.setS
    rw [if_pos hh, if_pos hbl, Int.toNat_natCast]
   rw [e]
   have htc := fun a c => stouch_x (q := q) (pp := pp) (s := s) (a := a) (c := c) 1 i 0 hl
   have hpl := fun a c => splace_x (q := q) (pp := pp) (s := SlotS.touch s 1 i 0) (a := a) (c := c) i (f.touch 1 i 0).per1 (f.small hin hp1 ht1) (by show SlotS.fr s i ≤ 4096; omega) (by show SlotS.pg s i ≤ 65536; omega)
   have hpd := fun a c g n cp bf bs h1 h2 h3 => splaced_x (q := q) (pp := pp) (s := SlotS.touch s 1 i 0) (a := a) (c := c) (g := g) (n := n) (cp := cp) (bf := bf) (bs := bs) (f := SlotS.fr s i) f.size h1 h2 h3
   have e1 : SlotS.pg (SlotS.touch s 1 i 0) i = SlotS.pg s i := rfl
   have e2 : SlotS.fr (SlotS.touch s 1 i 0) i = SlotS.fr s i := rfl
   have e3 : (SlotS.touch s 1 i 0).size = s.size := rfl
   rw [e1, e2] at hpl
   rw [e3] at hpd
   generalize hs2 : SlotS.touch s 1 i 0 = s2 at *
   generalize (PagerS.loadP p h (SlotS.pg s i : Nat)).2.1 = p1 at *
   generalize (PagerS.loadP p h (SlotS.pg s i : Nat)).2.2 = h1 at *
   generalize (PagerS.loadP p h (SlotS.pg s i : Nat)).1.2 = er at *
   generalize (PagerS.loadP p h (SlotS.pg s i : Nat)).1.1 = B at *
   generalize SlotS.pg s i = pn at *
   generalize SlotS.fr s i = fn at *
   refine fn_y Tryz.func31 Tryz.mixed ?_
   intro w0
   refine Y6 ?_
   refine Zhn 12 rfl (rfl) ?_
   refine Y5 ?_
   refine Zor (shas_x (q := q) (pp := pp) (s := s) (a := la) (c := lc) i) ?_
   rintro _ _ ⟨rfl, rfl⟩
   refine Y1 ?_
   refine Zos 15 rfl (hh) ?_
   refine Zhg (Zb0 rfl) ?_
   refine Zhn 16 rfl (rfl) ?_
   refine Y9 ?_
   refine Zhg (Zmk (a := b.length) (b := s.size) rfl rfl) ?_
   refine Zot 23 rfl ((fun hh => hh hbl)) ?_
   refine Y5 ?_
   refine Zor (htc la lc) ?_
   rintro _ _ ⟨la2, lc2, rfl⟩
   refine Y5 ?_
   refine Zor (hpl la2 lc2) ?_
   rintro _ _ ⟨bf, bs, rfl, rfl⟩
   refine Y13 ?_
   refine Zor (hld) ?_
   rintro _ _ ⟨ta, tc, rfl, rfl⟩
   refine V7 ?_
   refine Zgt (fun F w H => pgs_ok (pp := pp) (ph := ph) (p := p1) qH H) ?_
   intro hk1
   by_cases he : er = 0
   ·rw [if_pos he]
    have hB := hll he hk1
    have hlayl := SlotS.lay_len (t := B) (b := b) (a := fn) (by omega)
    refine Y3 ?_
    refine Zot 43 rfl ((fun hh => hh he)) ?_
    refine V2 ?_
    refine x_own (E := 5) (n := B.length) (a := ta) (cp := tc) qH (by omega) ?_
    intro g rest hg hc1 hc2 hr
    subst hg
    have hsv := save_x (p := pp) (ph := ph) (s := p1) (h := h1) (L := [cl g ((SlotS.lay B fn b).map u8b ++ rest).toArray 5]) hov1 (by omega) (pn : Int) (lay_bs (n := B.length) (c := tc) .here hlayl hc1 hc2)
    refine Y3 ?_
    refine Zor (hpd la2 lc2 g B.length tc bf bs (by omega) hc1 (by omega)) ?_
    rintro _ _ ⟨rfl, rfl⟩
    refine Y2 ?_
    refine Zib rfl rfl ((hb.rd.imp (Imp.arr qV))) qR qZ (by first|rfl|exact oneM_u8 _|exact oneL_u8 _|exact acc_one _|exact acc_ones _|assumption|(simp [oneC]; done)) (copy_lay (B := B) (f := fn) (rest := rest) hbl (by omega)) ?_
    refine Y8 ?_
    refine Zor (hsv) ?_
    rintro _ _ ⟨rfl, rfl⟩
    refine V3 ?_
    refine rx1 (Zg9 rfl (Zg7)) ?_
    refine ⟨_, ⟨rfl, rfl⟩, ?_⟩
    exact (Imp.arr qV).trans (hback s2 _ _ la2 lc2)
   ·rw [if_neg he]
    refine Y3 ?_
    refine Zos 43 rfl (he) ?_
    refine V6 ?_
    refine rx1 (Zg9 rfl (Zg7)) ?_
    exact ⟨_, ⟨rfl, rfl⟩, (Imp.arr qV).trans (hback s2 _ _ la2 lc2)⟩
  ·have e : SlotS.setS s p h i b = (4, s, p, h) := by unfold SlotS.setS; rw [if_pos hh, if_neg hbl]
   rw [e]
   refine fn_y Tryz.func31 Tryz.mixed ?_
   intro w0
   refine Y6 ?_
   refine Zhn 12 rfl (rfl) ?_
   refine Y5 ?_
   refine Zor (shas_x (q := q) (pp := pp) (s := s) (a := la) (c := lc) i) ?_
   rintro _ _ ⟨rfl, rfl⟩
   refine Y1 ?_
   refine Zos 15 rfl (hh) ?_
   refine Zhg (Zb0 rfl) ?_
   refine Zhn 16 rfl (rfl) ?_
   refine Y9 ?_
   refine Zhg (Zmk (a := b.length) (b := s.size) rfl rfl) ?_
   refine Zos 23 rfl (hbl) ?_
   refine V5 ?_
   refine rx1 (Zg9 rfl (Zg7)) ?_
   exact ⟨_, ⟨rfl, rfl⟩, (Imp.arr qV).trans (hback s p h la lc)⟩
 ·have e : SlotS.setS s p h i b = (2, s, p, h) := by unfold SlotS.setS; rw [if_neg hh]
  rw [e]
  refine fn_y Tryz.func31 Tryz.mixed ?_
  intro w0
  refine Y6 ?_
  refine Zhn 12 rfl (rfl) ?_
  refine Y5 ?_
  refine Zor (shas_x (q := q) (pp := pp) (s := s) (a := la) (c := lc) i) ?_
  rintro _ _ ⟨rfl, rfl⟩
  refine Y1 ?_
  refine Zot 15 rfl (hh) ?_
  refine Zhg (Zb0 rfl) ?_
  refine Zhm 16 rfl (rfl) ?_
  refine V5 ?_
  refine rx1 (Zg9 rfl (Zg7)) ?_
  exact ⟨_, ⟨rfl, rfl⟩, (Imp.arr qV).trans (hback s p h la lc)⟩
end
end Go.Sl
namespace Go.Sl
open Go Go.Proofs
attribute [local irreducible] pt pur ex all den denOps denS xOps xC cX CX xthen xblk xcut xloop xng retX resX Calls PV Rd Con
attribute [local irreducible] hostA pgA
open SlotS (SL Acc Fit)
open PagerS (PS Over)
theorem take_le {n per : Nat} (h1 : 1 ≤ per) (hn : n ≤ 9223372036854775807) (h0 : n % per ≠ 0) : n / per + 1 ≤ 9223372036854775807 := by
 have h2 : 2 ≤ per := by
  by_cases e : per = 1
  ·subst e; omega
  ·omega
 have : n / per ≤ n / 2 := Nat.div_le_div_left h2 (by omega)
 omega
theorem spages_x (n per : Nat) (h1 : 1 ≤ per) (hn : n ≤ 9223372036854775807) : Con Tryz.prog 72 [nvv n, nvv per] [] (fun r M => r = nvv (SlotS.takeN n per) ∧ M = []) := by
 unfold SlotS.takeN
 by_cases h0 : n % per = 0
 ·rw [if_pos h0, Nat.add_zero]
  refine fn_y Tryz.func72 Tryz.mixed ?_
  intro w0
  refine Y14 ?_
  refine Zot 12 rfl ((fun hh => hh h0)) ?_
  refine V6 ?_
  refine rx1 (Zg9 rfl (Zg7)) ?_
  exact ⟨_, ⟨rfl, rfl⟩, qI⟩
 ·rw [if_neg h0]
  have := take_le h1 hn h0
  refine fn_y Tryz.func72 Tryz.mixed ?_
  intro w0
  refine Y14 ?_
  refine Zos 12 rfl (h0) ?_
  refine V11 ?_
  refine rx1 (Zg9 rfl (Zg7)) ?_
  exact ⟨_, ⟨rfl, rfl⟩, qI⟩
theorem sPages_x (n size text : Int) (hn : n ≤ 9223372036854775807) (hz : size ≤ 9223372036854775807) (ht : text ≤ 9223372036854775807) : Con Tryz.prog 14 [.int .i64 n, .int .i64 size, .int .i64 text] [] (fun r M => r = .tuple #[.int .i64 (SlotS.pagesS n size text).1, nvv (SlotS.pagesS n size text).2] ∧ M = []) := by
 unfold SlotS.pagesS
 by_cases h1 : n < 0
 ·rw [if_pos (.inl h1)]
  refine fn_y Tryz.func14 Tryz.mixed ?_
  intro w0
  refine Y6 ?_
  refine Zhg (Zbn (b := 0) rfl rfl) ?_
  refine Zos 10 rfl (h1) ?_
  refine V10 ?_
  refine rx2 (Zg9 rfl (Zg9 rfl (Zg7))) ?_
  exact ⟨_, ⟨rfl, rfl⟩, qI⟩
 by_cases h2 : size < 1
 ·rw [if_pos (.inr h2)]
  refine fn_y Tryz.func14 Tryz.mixed ?_
  intro w0
  refine Y6 ?_
  refine Zhg (Zbn (b := 0) rfl rfl) ?_
  refine Zot 10 rfl (h1) ?_
  refine Y2 ?_
  first|refine Y0 ?_|(refine Zhh rfl ?_; (refine Zhg (Zbn (b := 1) rfl rfl) ?_))
  refine Zos 13 rfl (h2) ?_
  refine V7 ?_
  refine rx2 (Zg9 rfl (Zg9 rfl (Zg7))) ?_
  exact ⟨_, ⟨rfl, rfl⟩, qI⟩
 rw [if_neg (show ¬ (n < 0 ∨ size < 1) by omega)]
 by_cases h3 : text < size
 ·rw [if_pos h3]
  refine fn_y Tryz.func14 Tryz.mixed ?_
  intro w0
  refine Y6 ?_
  refine Zhg (Zbn (b := 0) rfl rfl) ?_
  refine Zot 10 rfl (h1) ?_
  refine Y2 ?_
  first|refine Y0 ?_|(refine Zhh rfl ?_; (refine Zhg (Zbn (b := 1) rfl rfl) ?_))
  refine Zot 13 rfl (h2) ?_
  refine Y6 ?_
  refine Zhg (Zbp (a := size) (b := text) rfl rfl) ?_
  refine Zos 17 rfl (h3) ?_
  refine V6 ?_
  refine rx2 (Zg9 rfl (Zg9 rfl (Zg7))) ?_
  exact ⟨_, ⟨rfl, rfl⟩, qI⟩
 rw [if_neg h3]
 obtain ⟨n, rfl⟩ : ∃ k : Nat, n = k := ⟨n.toNat, by omega⟩
 obtain ⟨z, rfl⟩ : ∃ k : Nat, size = k := ⟨size.toNat, by omega⟩
 obtain ⟨t, rfl⟩ : ∃ k : Nat, text = k := ⟨text.toNat, by omega⟩
 simp only [Int.toNat_natCast]
 have hd : 1 ≤ t / z := Nat.div_pos (by omega) (by omega)
 have hpx := spages_x n (t / z) hd (by omega)
 by_cases h4 : 65536 < SlotS.takeN n (t / z)
 ·rw [if_pos h4]
  refine fn_y Tryz.func14 Tryz.mixed ?_
  intro w0
  refine Y6 ?_
  refine Zhg (Zbn (a := (n : Int)) (b := 0) rfl rfl) ?_
  refine Zot 10 rfl (h1) ?_
  refine Y2 ?_
  first|refine Y0 ?_|(refine Zhh rfl ?_; (refine Zhg (Zbn (a := (z : Int)) (b := 1) rfl rfl) ?_))
  refine Zot 13 rfl (h2) ?_
  refine Y6 ?_
  refine Zhg (Zbp (a := (z : Int)) (b := (t : Int)) rfl rfl) ?_
  refine Zot 17 rfl (h3) ?_
  refine Y7 ?_
  refine Zor (hpx) ?_
  rintro _ _ ⟨rfl, rfl⟩
  refine Y6 ?_
  refine Zos 24 rfl (h4) ?_
  refine V6 ?_
  refine rx2 (Zg9 rfl (Zg9 rfl (Zg7))) ?_
  exact ⟨_, ⟨rfl, rfl⟩, qI⟩
 ·rw [if_neg h4]
  refine fn_y Tryz.func14 Tryz.mixed ?_
  intro w0
  refine Y6 ?_
  refine Zhg (Zbn (a := (n : Int)) (b := 0) rfl rfl) ?_
  refine Zot 10 rfl (h1) ?_
  refine Y2 ?_
  first|refine Y0 ?_|(refine Zhh rfl ?_; (refine Zhg (Zbn (a := (z : Int)) (b := 1) rfl rfl) ?_))
  refine Zot 13 rfl (h2) ?_
  refine Y6 ?_
  refine Zhg (Zbp (a := (z : Int)) (b := (t : Int)) rfl rfl) ?_
  refine Zot 17 rfl (h3) ?_
  refine Y7 ?_
  refine Zor (hpx) ?_
  rintro _ _ ⟨rfl, rfl⟩
  refine Y6 ?_
  refine Zot 24 rfl (h4) ?_
  refine V7 ?_
  refine rx2 (Zg9 rfl (Zg9 rfl (Zg7))) ?_
  exact ⟨_, ⟨rfl, rfl⟩, qI⟩
section
variable {pp ph : Nat} {p : PS}
theorem slnew_x (hk : PagerS.Ok p) (first n size : Int) (hf : first ≤ 9223372036854775807) (hn : n ≤ 9223372036854775807) (hz : size ≤ 9223372036854775807) : Con Tryz.prog 17 [hp pp, .int .i64 first, .int .i64 n, .int .i64 size] [pgA pp ph p] (fun r M => (SlotS.newS first n size p = 0 ∧ ∃ q, r = .tuple #[hp q, nvv 0] ∧ M = [slA q pp (SlotS.freshS first n size p), pgA pp ph p]) ∨ (SlotS.newS first n size p ≠ 0 ∧ r = .tuple #[.pointer none, nvv (SlotS.newS first n size p)] ∧ M = [pgA pp ph p])) := by
 have ht1 := hk.t1
 have hp0 := hk.p0
 have hp1 := hk.p1
 unfold SlotS.newS
 by_cases h1 : first < 0
 ·rw [if_pos (.inl h1)]
  refine fn_y Tryz.func17 Tryz.mixed ?_
  intro w0
  refine Y7 ?_
  refine Zhn 12 rfl (rfl) ?_
  refine Y4 ?_
  refine Zhg (Zbn (b := 0) rfl rfl) ?_
  refine Zos 14 rfl (h1) ?_
  refine V14 ?_
  refine rx2 (Zhb rfl (Zg9 rfl (Zg7))) ?_
  exact ⟨_, .inr ⟨by omega, rfl, rfl⟩, qI⟩
 by_cases h2 : n < 0
 ·rw [if_pos (.inr (.inl h2))]
  refine fn_y Tryz.func17 Tryz.mixed ?_
  intro w0
  refine Y7 ?_
  refine Zhn 12 rfl (rfl) ?_
  refine Y4 ?_
  refine Zhg (Zbn (b := 0) rfl rfl) ?_
  refine Zot 14 rfl (h1) ?_
  refine Y2 ?_
  first|refine Y0 ?_|(refine Zhh rfl ?_; (refine Zhg (Zbn (b := 0) rfl rfl) ?_))
  refine Zos 17 rfl (h2) ?_
  refine V11 ?_
  refine rx2 (Zhb rfl (Zg9 rfl (Zg7))) ?_
  exact ⟨_, .inr ⟨by omega, rfl, rfl⟩, qI⟩
 by_cases h3 : size < 1
 ·rw [if_pos (.inr (.inr h3))]
  refine fn_y Tryz.func17 Tryz.mixed ?_
  intro w0
  refine Y7 ?_
  refine Zhn 12 rfl (rfl) ?_
  refine Y4 ?_
  refine Zhg (Zbn (b := 0) rfl rfl) ?_
  refine Zot 14 rfl (h1) ?_
  refine Y2 ?_
  first|refine Y0 ?_|(refine Zhh rfl ?_; (refine Zhg (Zbn (b := 0) rfl rfl) ?_))
  refine Zot 17 rfl (h2) ?_
  refine Y3 ?_
  first|refine Y0 ?_|(refine Zhh rfl ?_; (refine Zhg (Zbn (b := 1) rfl rfl) ?_))
  refine Zos 21 rfl (h3) ?_
  refine V7 ?_
  refine rx2 (Zhb rfl (Zg9 rfl (Zg7))) ?_
  exact ⟨_, .inr ⟨by omega, rfl, rfl⟩, qI⟩
 rw [if_neg (show ¬ (first < 0 ∨ n < 0 ∨ size < 1) by omega)]
 by_cases h4 : (p.text : Int) < size
 ·rw [if_pos h4]
  refine fn_y Tryz.func17 Tryz.mixed ?_
  intro w0
  refine Y7 ?_
  refine Zhn 12 rfl (rfl) ?_
  refine Y4 ?_
  refine Zhg (Zbn (b := 0) rfl rfl) ?_
  refine Zot 14 rfl (h1) ?_
  refine Y2 ?_
  first|refine Y0 ?_|(refine Zhh rfl ?_; (refine Zhg (Zbn (b := 0) rfl rfl) ?_))
  refine Zot 17 rfl (h2) ?_
  refine Y3 ?_
  first|refine Y0 ?_|(refine Zhh rfl ?_; (refine Zhg (Zbn (b := 1) rfl rfl) ?_))
  refine Zot 21 rfl (h3) ?_
  refine Y6 ?_
  refine Zor (text_p (p := pp) (ph := ph)) ?_
  rintro _ _ ⟨rfl, rfl⟩
  refine Y1 ?_
  refine Zhg (Zbp (a := size) (b := (p.text : Int)) rfl rfl) ?_
  refine Zos 26 rfl (h4) ?_
  refine V6 ?_
  refine rx2 (Zhb rfl (Zg9 rfl (Zg7))) ?_
  exact ⟨_, .inr ⟨by omega, rfl, rfl⟩, qI⟩
 rw [if_neg h4]
 obtain ⟨f, rfl⟩ : ∃ k : Nat, first = k := ⟨first.toNat, by omega⟩
 obtain ⟨n, rfl⟩ : ∃ k : Nat, n = k := ⟨n.toNat, by omega⟩
 obtain ⟨z, rfl⟩ : ∃ k : Nat, size = k := ⟨size.toNat, by omega⟩
 simp only [Int.toNat_natCast]
 have ef : SlotS.freshS (f : Int) (n : Int) (z : Int) p = ⟨f, n, z, p.text / z, []⟩ := rfl
 rw [ef]
 have hd : 1 ≤ p.text / z := Nat.div_pos (by omega) (by omega)
 have hd2 : p.text / z ≤ 4096 := Nat.le_trans (Nat.div_le_self _ _) ht1
 have hpx := spages_x n (p.text / z) hd (by omega)
 by_cases h5 : p.pages < (f : Int)
 ·rw [if_pos (.inl h5)]
  refine fn_y Tryz.func17 Tryz.mixed ?_
  intro w0
  refine Y7 ?_
  refine Zhn 12 rfl (rfl) ?_
  refine Y4 ?_
  refine Zhg (Zbn (a := (f : Int)) (b := 0) rfl rfl) ?_
  refine Zot 14 rfl (h1) ?_
  refine Y2 ?_
  first|refine Y0 ?_|(refine Zhh rfl ?_; (refine Zhg (Zbn (a := (n : Int)) (b := 0) rfl rfl) ?_))
  refine Zot 17 rfl (h2) ?_
  refine Y3 ?_
  first|refine Y0 ?_|(refine Zhh rfl ?_; (refine Zhg (Zbn (a := (z : Int)) (b := 1) rfl rfl) ?_))
  refine Zot 21 rfl (h3) ?_
  refine Y6 ?_
  refine Zor (text_p (p := pp) (ph := ph)) ?_
  rintro _ _ ⟨rfl, rfl⟩
  refine Y1 ?_
  refine Zhg (Zbp (a := (z : Int)) (b := (p.text : Int)) rfl rfl) ?_
  refine Zot 26 rfl (h4) ?_
  refine Y8 ?_
  refine Zor (text_p (p := pp) (ph := ph)) ?_
  rintro _ _ ⟨rfl, rfl⟩
  refine Y3 ?_
  refine Zhg (Zdm (cs := slc pp ⟨f, n, z, p.text / z, []⟩ none 0) rfl) ?_
  refine Zh5 rfl ?_; intro b36
  refine Y5 ?_
  refine Zor (pages_p (p := pp) (ph := ph)) ?_
  rintro _ _ ⟨rfl, rfl⟩
  refine Y1 ?_
  refine Zhg (Zbp (a := (f : Int)) (b := p.pages) rfl rfl) ?_
  refine Zos 40 rfl (h5) ?_
  refine V19 ?_
  refine rx2 (Zhb rfl (Zg9 rfl (Zg7))) ?_
  exact ⟨_, .inr ⟨by omega, rfl, rfl⟩, qI⟩
 by_cases h6 : p.pages - (f : Int) < SlotS.takeN n (p.text / z)
 ·rw [if_pos (.inr h6)]
  refine fn_y Tryz.func17 Tryz.mixed ?_
  intro w0
  refine Y7 ?_
  refine Zhn 12 rfl (rfl) ?_
  refine Y4 ?_
  refine Zhg (Zbn (a := (f : Int)) (b := 0) rfl rfl) ?_
  refine Zot 14 rfl (h1) ?_
  refine Y2 ?_
  first|refine Y0 ?_|(refine Zhh rfl ?_; (refine Zhg (Zbn (a := (n : Int)) (b := 0) rfl rfl) ?_))
  refine Zot 17 rfl (h2) ?_
  refine Y3 ?_
  first|refine Y0 ?_|(refine Zhh rfl ?_; (refine Zhg (Zbn (a := (z : Int)) (b := 1) rfl rfl) ?_))
  refine Zot 21 rfl (h3) ?_
  refine Y6 ?_
  refine Zor (text_p (p := pp) (ph := ph)) ?_
  rintro _ _ ⟨rfl, rfl⟩
  refine Y1 ?_
  refine Zhg (Zbp (a := (z : Int)) (b := (p.text : Int)) rfl rfl) ?_
  refine Zot 26 rfl (h4) ?_
  refine Y8 ?_
  refine Zor (text_p (p := pp) (ph := ph)) ?_
  rintro _ _ ⟨rfl, rfl⟩
  refine Y3 ?_
  refine Zhg (Zdm (cs := slc pp ⟨f, n, z, p.text / z, []⟩ none 0) rfl) ?_
  refine Zh5 rfl ?_; intro b36
  refine Y5 ?_
  refine Zor (pages_p (p := pp) (ph := ph)) ?_
  rintro _ _ ⟨rfl, rfl⟩
  refine Y1 ?_
  refine Zhg (Zbp (a := (f : Int)) (b := p.pages) rfl rfl) ?_
  refine Zot 40 rfl (h5) ?_
  refine Y6 ?_
  first|refine Y0 ?_|(refine Zhh rfl ?_; (refine Zor (hpx) ?_); (rintro _ _ ⟨rfl, rfl⟩); (refine Zg2 qA ?_))
  refine Y1 ?_
  first|refine Y0 ?_|(refine Zhh rfl ?_; (refine Zor (pages_p (p := pp) (ph := ph)) ?_); (rintro _ _ ⟨rfl, rfl⟩); (refine Zg2 qA ?_))
  refine Y1 ?_
  first|refine Y0 ?_|(refine Zhh rfl ?_; (refine Zhg (Zbh (a := p.pages) (b := (f : Int)) rfl rfl (by omega)) ?_))
  first|refine Y0 ?_|(refine Zhh rfl ?_; (refine Zhg (Zbp (a := ((SlotS.takeN n (p.text / z) : Nat) : Int)) (b := p.pages - (f : Int)) rfl rfl) ?_))
  refine Zos 52 rfl (h6) ?_
  refine V7 ?_
  refine rx2 (Zhb rfl (Zg9 rfl (Zg7))) ?_
  exact ⟨_, .inr ⟨by omega, rfl, rfl⟩, qI⟩
 ·rw [if_neg (show ¬ (p.pages < (f : Int) ∨ p.pages - (f : Int) < SlotS.takeN n (p.text / z)) by omega)]
  refine fn_y Tryz.func17 Tryz.mixed ?_
  intro w0
  refine Y7 ?_
  refine Zhn 12 rfl (rfl) ?_
  refine Y4 ?_
  refine Zhg (Zbn (a := (f : Int)) (b := 0) rfl rfl) ?_
  refine Zot 14 rfl (h1) ?_
  refine Y2 ?_
  first|refine Y0 ?_|(refine Zhh rfl ?_; (refine Zhg (Zbn (a := (n : Int)) (b := 0) rfl rfl) ?_))
  refine Zot 17 rfl (h2) ?_
  refine Y3 ?_
  first|refine Y0 ?_|(refine Zhh rfl ?_; (refine Zhg (Zbn (a := (z : Int)) (b := 1) rfl rfl) ?_))
  refine Zot 21 rfl (h3) ?_
  refine Y6 ?_
  refine Zor (text_p (p := pp) (ph := ph)) ?_
  rintro _ _ ⟨rfl, rfl⟩
  refine Y1 ?_
  refine Zhg (Zbp (a := (z : Int)) (b := (p.text : Int)) rfl rfl) ?_
  refine Zot 26 rfl (h4) ?_
  refine Y8 ?_
  refine Zor (text_p (p := pp) (ph := ph)) ?_
  rintro _ _ ⟨rfl, rfl⟩
  refine Y3 ?_
  refine Zhg (Zdm (cs := slc pp ⟨f, n, z, p.text / z, []⟩ none 0) rfl) ?_
  refine Zh5 rfl ?_; intro b36
  refine Y5 ?_
  refine Zor (pages_p (p := pp) (ph := ph)) ?_
  rintro _ _ ⟨rfl, rfl⟩
  refine Y1 ?_
  refine Zhg (Zbp (a := (f : Int)) (b := p.pages) rfl rfl) ?_
  refine Zot 40 rfl (h5) ?_
  refine Y6 ?_
  first|refine Y0 ?_|(refine Zhh rfl ?_; (refine Zor (hpx) ?_); (rintro _ _ ⟨rfl, rfl⟩); (refine Zg2 qA ?_))
  refine Y1 ?_
  first|refine Y0 ?_|(refine Zhh rfl ?_; (refine Zor (pages_p (p := pp) (ph := ph)) ?_); (rintro _ _ ⟨rfl, rfl⟩); (refine Zg2 qA ?_))
  refine Y1 ?_
  first|refine Y0 ?_|(refine Zhh rfl ?_; (refine Zhg (Zbh (a := p.pages) (b := (f : Int)) rfl rfl (by omega)) ?_))
  first|refine Y0 ?_|(refine Zhh rfl ?_; (refine Zhg (Zbp (a := ((SlotS.takeN n (p.text / z) : Nat) : Int)) (b := p.pages - (f : Int)) rfl rfl) ?_))
  refine Zot 52 rfl (h6) ?_
  refine V8 ?_
  refine rx2 (Zhb rfl (Zg9 rfl (Zg7))) ?_
  refine ⟨_, .inl ⟨rfl, b36, rfl, rfl⟩, ?_⟩
  exact ((Imp.arr (N := cl b36 (slc pp ⟨f, n, z, p.text / z, []⟩ none 0) 137 :: [pgA pp ph p]) qV).trans (Imp.own_nil (E := 151) (size := 3))).trans ((Imp.arr (N := slL b36 pp ⟨f, n, z, p.text / z, []⟩ none 0 ++ [pgA pp ph p]) qV).trans slA_mk)
theorem slnew_ok (hk : PagerS.Ok p) {first n size : Int} (hf : first ≤ 9223372036854775807) (hn : n ≤ 9223372036854775807) (hz : size ≤ 9223372036854775807) (h : SlotS.newS first n size p = 0) : Con Tryz.prog 17 [hp pp, .int .i64 first, .int .i64 n, .int .i64 size] [pgA pp ph p] (fun r M => ∃ q, r = .tuple #[hp q, nvv 0] ∧ M = [slA q pp (SlotS.freshS first n size p), pgA pp ph p]) :=
 (slnew_x hk first n size hf hn hz).mono fun r M hh => by
  rcases hh with ⟨_, q, h1, h2⟩|⟨hne, _⟩
  ·exact ⟨M, Imp.refl _, q, h1, h2⟩
  ·exact absurd h hne
end
end Go.Sl
namespace Go.Sl
open Go Go.Proofs
attribute [local irreducible] pt pur ex all den denOps denS xOps xC cX CX xthen xblk xcut xloop xng retX resX Calls PV Rd Con
attribute [local irreducible] hostA pgA PagerS.loadP PagerS.saveP
open SlotS (SL Acc Fit)
open PagerS (PS Over)
namespace SlW
def k1 : List Byte := 1#8 :: List.replicate 31 0#8
def h0 : HostS.HS := HostS.fresh 4 38 []
def p0 : PS := PagerS.freshP k1 3#64 2 4 10
def s0 : SL := ⟨1, 7, 3, 3, []⟩
theorem ok0 : PagerS.Ok p0 := PagerS.ok_fresh rfl (by decide) (by decide) (by decide)
theorem q0 : PagerS.Quiet p0 h0 fun _ => List.replicate 10 0#8 := PagerS.quiet_fresh ok0 rfl rfl (PagerS.calm_fresh _ _)
theorem f0 : Fit s0 p0 := ⟨by decide, by decide, by decide, by decide⟩
def b1 : Int → List Byte := SlotS.putB s0 (fun _ => List.replicate 10 0#8) 6 [1#8, 2#8, 3#8]
theorem set1 : (SlotS.setS s0 p0 h0 (6 : Nat) [1#8, 2#8, 3#8]).1 = 0 ∧ (SlotS.setS s0 p0 h0 (6 : Nat) [1#8, 2#8, 3#8]).2.1 = SlotS.touch s0 1 (6 : Nat) 0 ∧ PagerS.Quiet (SlotS.setS s0 p0 h0 (6 : Nat) [1#8, 2#8, 3#8]).2.2.1 (SlotS.setS s0 p0 h0 (6 : Nat) [1#8, 2#8, 3#8]).2.2.2 b1 := SlotS.set_q q0 f0 (by decide) (by decide) rfl
theorem slot1 : SlotS.slotB s0 b1 6 = [1#8, 2#8, 3#8] := by
 have := SlotS.putB_at (s := s0) (p := p0) (b := fun _ => List.replicate 10 0#8) f0 (fun _ => rfl) (x := [1#8, 2#8, 3#8]) rfl 6 6
 rw [if_pos rfl] at this
 exact this
theorem may : HostS.mayBe 4 38 [] := ⟨⟨by decide, by decide, by decide, by decide⟩, rfl⟩
end SlW
attribute [local irreducible] SlotS.setS SlotS.getS SlW.b1
open SlW in
theorem slWorks_x : Con Tryz.prog 15 [] [] (fun r M => r = .bool true ∧ M = []) := by
 obtain ⟨a1, a2, a3⟩ := set1
 have n1 := SlotS.set_near s0 p0 h0 (6 : Nat) [1#8, 2#8, 3#8]
 have f1 : Fit (SlotS.touch s0 1 (6 : Nat) 0) (SlotS.setS s0 p0 h0 (6 : Nat) [1#8, 2#8, 3#8]).2.2.1 := (f0.touch _ _ _).same n1.text n1.spages
 have hw0 : p0.writes = 0 := rfl
 have ho0 : h0.ops = 0 := rfl
 have hw1 := n1.writes
 have ho1 := n1.ops
 obtain ⟨c1, c2, c3⟩ := SlotS.get_q a3 f1 (i := 6) (by decide) (by omega)
 have hst := fun q pp ph b => sset_x (q := q) (pp := pp) (ph := ph) (L := [cl b #[u8b 1#8, u8b 2#8, u8b 3#8] 5]) f0 ok0 q0.sound.over (by omega) (by decide) (6 : Nat) (bs_full (l := [1#8, 2#8, 3#8]) (n := 3) .here rfl (by omega))
 rw [a1, a2] at hst
 have hgt := fun q pp ph => sget_x (q := q) (pp := pp) (ph := ph) f1 a3.sound.ok a3.sound.over (by omega) (by show (SlotS.touch s0 1 (6 : Nat) 0).log.length ≤ 4000000000000; exact Nat.le_of_ble_eq_true rfl) (6 : Nat)
 have hsl : SlotS.slotB (SlotS.touch s0 1 (6 : Nat) 0) b1 6 = [1#8, 2#8, 3#8] := slot1
 rw [c1, c2, hsl] at hgt
 generalize (SlotS.setS s0 p0 h0 (6 : Nat) [1#8, 2#8, 3#8]).2.2.1 = p1 at *
 generalize (SlotS.setS s0 p0 h0 (6 : Nat) [1#8, 2#8, 3#8]).2.2.2 = h1 at *
 have hlen : (SlotS.touch (SlotS.touch s0 1 (6 : Nat) 0) 0 (6 : Nat) 0).log.length = 2 := rfl
 have hlg := fun q pp => slog_x (q := q) (pp := pp) (s := SlotS.touch (SlotS.touch s0 1 (6 : Nat) 0) 0 (6 : Nat) 0) (by rw [hlen]; omega)
 rw [hlen] at hlg
 have hz : newR h0 2 = 0 := by with_unfolding_all rfl
 have hf : PagerS.freshP k1 3#64 (2 : Int).toNat h0.pages (h0.size - 28) = p0 := by with_unfolding_all rfl
 have hn := fun p => pnew_ok (ph := p) (h := h0) (key := k1) rfl 3#64 hz
 rw [hf] at hn
 have hh : HostS.fresh 4 (38 : Int).toNat [] = h0 := by with_unfolding_all rfl
 have hnw := new_ok (L := []) 4 38 (fv := .slice none 0 0) (fl := []) (by simp) (by simp) Rd.nil may
 rw [hh] at hnw
 have hsn := fun pp ph => slnew_ok (pp := pp) (ph := ph) (p := p0) ok0 (first := 1) (n := 7) (size := 3) (by omega) (by omega) (by omega) (by with_unfolding_all rfl)
 have hs0 : SlotS.freshS 1 7 3 p0 = s0 := by with_unfolding_all rfl
 rw [hs0] at hsn
 have hln := fun q pp => slen_x (q := q) (pp := pp) (s := s0)
 have hsi := fun q pp => ssize_x (q := q) (pp := pp) (s := s0)
 have hn7 : s0.n = 7 := rfl
 have hz3 : s0.size = 3 := rfl
 rw [hn7] at hln
 rw [hz3] at hsi
 clear hw0 ho0 hw1 ho1 n1 f1 a1 a2 a3 c1 c2 c3 hsl
 refine fn_y Tryz.func15 Tryz.mixed ?_
 intro w0
 refine Y4 ?_
 refine Zor (hnw) ?_
 rintro _ _ ⟨p, rfl, rfl⟩
 refine Y10 ?_
 refine Zot 14 rfl ((fun hh => hh rfl)) ?_
 refine Y3 ?_
 refine Zhn 17 rfl (rfl) ?_
 refine Y5 ?_
 refine Zhg (Zol rfl) ?_
 refine Zhg (Zdn (cs := (k1.map u8b).toArray) (by kernel_rfl)) ?_
 refine Zor (hn p) ?_
 rintro _ _ ⟨pp, rfl, rfl⟩
 refine Y10 ?_
 refine Zot 27 rfl ((fun hh => hh rfl)) ?_
 refine Y3 ?_
 refine Zhn 30 rfl (rfl) ?_
 refine Y5 ?_
 refine Zor (hsn pp p) ?_
 rintro _ _ ⟨q, rfl, rfl⟩
 refine Y10 ?_
 refine Zot 38 rfl ((fun hh => hh rfl)) ?_
 refine Y3 ?_
 refine Zhn 41 rfl (rfl) ?_
 refine Y3 ?_
 first|refine Y0 ?_|(refine Zhh rfl ?_; (refine Zor (hln q pp) ?_); (rintro _ _ ⟨rfl, rfl⟩); (refine Zg2 qA ?_))
 refine Y1 ?_
 refine Zot 46 rfl ((fun hh => hh rfl)) ?_
 refine Y3 ?_
 first|refine Y0 ?_|(refine Zhh rfl ?_; (refine Zor (hsi q pp) ?_); (rintro _ _ ⟨rfl, rfl⟩); (refine Zg2 qA ?_))
 refine Y1 ?_
 refine Zot 51 rfl ((fun hh => hh rfl)) ?_
 refine Y3 ?_
 first|refine Y0 ?_|(refine Zhh rfl ?_; (refine Zh7 (cs := #[u8b 1#8, u8b 2#8, u8b 3#8]) (by omega) (by omega) (by kernel_rfl) ?_; intro b55))
 first|refine Y0 ?_|(refine Zhh rfl ?_; (refine Zor (hst q pp p b55) ?_); (rintro _ _ ⟨rfl, rfl⟩); (refine Zg2 qA ?_))
 refine Y1 ?_
 refine Zot 57 rfl ((fun hh => hh rfl)) ?_
 refine Y5 ?_
 refine Zor (hgt q pp p) ?_
 rintro _ _ ⟨ga, gc, rfl, rfl⟩
 refine Y10 ?_
 refine Zos 65 rfl (rfl) ?_
 refine Y2 ?_
 first|refine Y0 ?_|(refine Zhh rfl ?_; (refine Zh7 (cs := #[u8b 1#8, u8b 2#8, u8b 3#8]) (by omega) (by omega) (by kernel_rfl) ?_; intro b68))
 first|refine Y0 ?_|(refine Zhh rfl ?_; (refine Zor (eqBytes_x (L := [ownB ga gc [1#8, 2#8, 3#8], cl b68 #[u8b 1#8, u8b 2#8, u8b 3#8] 5]) (a := [1#8, 2#8, 3#8]) (b := [1#8, 2#8, 3#8]) (Bs.own qH) (bs_full (l := [1#8, 2#8, 3#8]) (n := 3) qH rfl (by omega))) ?_); (rintro _ _ ⟨rfl, rfl⟩); (refine Zg2 qA ?_))
 refine Zos 69 rfl (rfl) ?_
 refine Y3 ?_
 first|refine Y0 ?_|(refine Zhh rfl ?_; (refine Zor (hlg q pp) ?_); (rintro _ _ ⟨la, lc, rfl, rfl⟩); (refine Zg2 qA ?_))
 refine Y2 ?_
 refine Zos 75 rfl (rfl) ?_
 refine V3 ?_
 refine rx1 (Zha rfl (Zg7)) ?_
 exact ⟨_, ⟨rfl, rfl⟩, qI⟩
theorem slNames_x : Con Tryz.prog 3 [] [] (fun r M => r = .bool true ∧ M = []) := by
 have hp1 := sPages_x 65536 6 10 (by omega) (by omega) (by omega)
 have hp2 := sPages_x 65537 6 10 (by omega) (by omega) (by omega)
 have e1 : SlotS.pagesS 65536 6 10 = (65536, 0) := by with_unfolding_all rfl
 have e2 : SlotS.pagesS 65537 6 10 = (0, 5) := by with_unfolding_all rfl
 rw [e1] at hp1
 rw [e2] at hp2
 refine fn_y Tryz.func3 Tryz.mixed ?_
 intro w0
 refine Y4 ?_
 refine Zor (hp1) ?_
 rintro _ _ ⟨rfl, rfl⟩
 refine Y8 ?_
 refine Zor (hp2) ?_
 rintro _ _ ⟨rfl, rfl⟩
 refine Y10 ?_
 first|refine Y0 ?_|(refine Zhh rfl ?_; (refine Zhg (Zbr (a := 65536) (b := 65536) rfl rfl) ?_))
 refine Zos 15 rfl (rfl) ?_
 refine Y4 ?_
 refine Zos 19 rfl (rfl) ?_
 refine Y4 ?_
 refine Zos 23 rfl (rfl) ?_
 refine Y10 ?_
 first|refine Y0 ?_|(refine Zhh rfl ?_; (refine Zor (slWorks_x) ?_); (rintro _ _ ⟨rfl, rfl⟩); (refine Zg2 qA ?_))
 refine V3 ?_
 refine rx1 (Zha rfl (Zg7)) ?_
 exact ⟨_, ⟨rfl, rfl⟩, qI⟩
theorem slNames_w (W : World) : Con Tryz.prog 3 [] [old W] (fun r M => r = .bool true ∧ [old W] = M) := (Con.frame (L := [old W]) slNames_x).mono fun r M ⟨M', ⟨h1, h2⟩, h3⟩ => by
 subst h2
 exact ⟨_, Imp.refl _, h1, by rw [← h3]; rfl⟩
end Go.Sl
