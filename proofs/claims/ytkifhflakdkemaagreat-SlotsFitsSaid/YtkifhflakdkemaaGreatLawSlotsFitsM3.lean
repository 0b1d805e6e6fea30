/- Parts of the proof. -/
import Derived.Test.YtkifhflakdkemaaGreatLawSlotsFitsM0
import Derived.Test.YtkifhflakdkemaaGreatLawSlotsFitsM1
import Derived.Test.YtkifhflakdkemaaGreatLawSlotsFitsM2
set_option maxHeartbeats 4000000
set_option maxRecDepth 10000
set_option linter.unusedVariables false
set_option linter.unusedSimpArgs false
namespace Go.Sl.PagerS
open Go Go.Sl Go.Sl.HostS
attribute [local irreducible] pgSealB pgOpenR
theorem does_ops (h : HS) (op page : Int) (b : Bytes) (act : HS → HS) (ha : ∀ s, (act s).ops = s.ops) : (does h op page b act).1.ops ≤ h.ops + 1 := by
 have h2 := ha (logged h op page b)
 unfold does
 split
 ·exact Nat.le_succ _
 ·dsimp only
  split
  ·exact Nat.le_refl _
  ·split
   ·exact Nat.le_of_eq h2
   ·exact Nat.le_of_eq h2
theorem writeR_ops (h : HS) (page : Int) (b : Bytes) : (writeR h page b).2.ops ≤ h.ops + 1 := by
 unfold writeR
 split
 ·split
  ·exact does_ops h 1 page b _ fun _ => rfl
  ·exact Nat.le_succ _
 ·exact Nat.le_succ _
theorem readR_ops (h : HS) (page : Int) : (readR h page).2.2.ops ≤ h.ops + 1 := by
 have d := does_ops h 0 page [] id fun _ => rfl
 unfold readR
 split
 ·dsimp only
  split <;> exact d
 ·exact Nat.le_succ _
structure Near (k m : Nat) (s : PS) (h : HS) (s' : PS) (h' : HS) : Prop where
 ops : h'.ops ≤ h.ops + k
 writes : s'.writes ≤ s.writes + m
 pages : h'.pages = h.pages
 size : h'.size = h.size
 spages : s'.pages = s.pages
 text : s'.text = s.text
 key : s'.key = s.key
 round : s'.round = s.round
 window : s'.window = s.window
theorem Near.refl (k m : Nat) (s : PS) (h : HS) : Near k m s h s h := ⟨Nat.le_add_right _ _, Nat.le_add_right _ _, rfl, rfl, rfl, rfl, rfl, rfl, rfl⟩
theorem Near.trans {k m k' m' k2 m2 : Nat} {s s' s2 : PS} {h h' h2 : HS} (a : Near k m s h s' h') (b : Near k' m' s' h' s2 h2) (hk : k + k' ≤ k2) (hm : m + m' ≤ m2) : Near k2 m2 s h s2 h2 :=
 ⟨by have := a.ops; have := b.ops; omega, by have := a.writes; have := b.writes; omega, b.pages.trans a.pages, b.size.trans a.size, b.spages.trans a.spages, b.text.trans a.text, b.key.trans a.key, b.round.trans a.round, b.window.trans a.window⟩
theorem Near.over {k m : Nat} {s s' : PS} {h h' : HS} (a : Near k m s h s' h') (ho : Over s h) : Over s' h' := ⟨a.pages.trans (ho.pages.trans a.spages.symm), by rw [a.size, ho.size, a.text]⟩
theorem near_write (s : PS) (h : HS) (n : Int) : Near 1 1 s h (writeP s h n).2.1 (writeP s h n).2.2 := by
 have w1 := writeR_same h n (boxOf s n)
 have w2 := writeR_ops h n (boxOf s n)
 unfold writeP
 split
 ·exact ⟨Nat.le_add_right _ _, Nat.le_add_right _ _, rfl, rfl, rfl, rfl, rfl, rfl, rfl⟩
 ·dsimp only
  split
  ·exact ⟨w2, Nat.le_refl _, w1.1, w1.2, rfl, rfl, rfl, rfl, rfl⟩
  ·exact ⟨w2, Nat.le_add_right _ _, w1.1, w1.2, rfl, rfl, rfl, rfl, rfl⟩
theorem near_held {k m : Nat} {s : PS} {h : HS} {s' : PS} {h' : HS} (a : Near k m s h s' h') (l : List Fr) (n : Nat) : Near k m s h { s' with held := l, most := n } h' := ⟨a.ops, a.writes, a.pages, a.size, a.spages, a.text, a.key, a.round, a.window⟩
theorem near_room (s : PS) (h : HS) : Near 1 1 s h (roomP s h).2.1 (roomP s h).2.2 := by
 unfold roomP
 split
 ·exact Near.refl ..
 ·dsimp only
  have w := near_write s h ((s.held.head?.map Fr.page).getD 0)
  split
  ·split
   ·exact near_held w _ _
   ·exact w
  ·exact near_held (Near.refl 1 1 s h) _ _
theorem near_use {k m : Nat} {s : PS} {h : HS} {s' : PS} {h' : HS} (a : Near k m s h s' h') (f : Fr) : Near k m s h (useP s' f) h' := near_held a _ _
theorem near_fetch (s : PS) (h : HS) (n : Int) : Near 1 0 s h (fetchP s h n).2.1 (fetchP s h n).2.2 := by
 have r1 := readR_same h n
 have r2 := readR_ops h n
 have r : Near 1 0 s h s (readR h n).2.2 := ⟨r2, Nat.le_refl _, r1.1, r1.2, rfl, rfl, rfl, rfl, rfl⟩
 unfold fetchP
 split
 ·dsimp only
  split
  ·split
   ·exact near_use r _
   ·exact ⟨r.ops, r.writes, r.pages, r.size, rfl, rfl, rfl, rfl, rfl⟩
  ·exact ⟨r.ops, r.writes, r.pages, r.size, rfl, rfl, rfl, rfl, rfl⟩
 ·exact near_use (Near.refl 1 0 s h) _
theorem near_load (s : PS) (h : HS) (n : Int) : Near 2 1 s h (loadP s h n).2.1 (loadP s h n).2.2 := by
 unfold loadP
 split
 ·split
  ·exact near_use (Near.refl 2 1 s h) _
  ·have a := near_room s h
   have b := near_fetch (roomP s h).2.1 (roomP s h).2.2 n
   dsimp only
   split
   ·exact a.trans b (by omega) (by omega)
   ·exact a.trans (Near.refl 0 0 _ _) (by omega) (by omega)
 ·exact Near.refl ..
theorem near_save (s : PS) (h : HS) (n : Int) (t : Bytes) : Near 1 1 s h (saveP s h n t).2.1 (saveP s h n t).2.2 := by
 unfold saveP
 split
 ·split
  ·split
   ·exact near_use (Near.refl 1 1 s h) _
   ·have a := near_room s h
    dsimp only
    split
    ·exact near_use a _
    ·exact a
  ·exact Near.refl ..
 ·exact Near.refl ..
structure Calm (h : HS) : Prop where
 up : h.down = false
 calm : ∀ k, h.coming k = []
theorem does_calm {h : HS} (hc : Calm h) (op n : Int) (b : Bytes) (act : HS → HS) : does h op n b act = (act (logged h op n b), 0) := by
 unfold does
 rw [if_neg (by rw [hc.up]; simp), hc.calm h.ops]
 rfl
theorem calm_logged {h : HS} (hc : Calm h) (op n : Int) (b : Bytes) : Calm (logged h op n b) := ⟨hc.up, fun k => by
 show setF h.coming h.ops [] k = []
 unfold setF
 split
 ·rfl
 ·exact hc.calm k⟩
theorem writeR_calm {h : HS} (hc : Calm h) {n : Int} {b : Bytes} (ht : there h n) (hl : b.length = h.size) : writeR h n b = (0, wrote n b (logged h 1 n b)) := by
 unfold writeR
 rw [if_pos ht, if_pos hl, does_calm hc]
theorem readR_calm {h : HS} (hc : Calm h) {n : Int} (ht : there h n) : readR h n = (back h n 0, 0, logged h 0 n []) := by
 unfold readR
 rw [if_pos ht, does_calm hc]
 dsimp only
 rw [if_pos rfl, hc.calm]; rfl
structure Quiet (s : PS) (h : HS) (b : Int → Bytes) : Prop where
 sound : Sound s h b
 calm : Calm h
 err : s.err = 0
section
variable {s : PS} {h : HS} {b : Int → Bytes}
theorem Quiet.write (hq : Quiet s h b) (hw : s.writes < 4294967295) {n : Int} (hn : n ∈ numbers s) : (writeP s h n).1 = 0 ∧ Quiet (writeP s h n).2.1 (writeP s h n).2.2 b := by
 obtain ⟨f, hf⟩ := frOf_of hn
 obtain ⟨f1, f2⟩ := frOf_mem hf
 obtain ⟨p1, p2⟩ := hq.sound.ok.there f f1
 have ht : there h n := ⟨by omega, by rw [hq.sound.over.pages]; omega⟩
 have hl : (boxOf s n).length = h.size := by
  unfold boxOf textOf
  rw [pgSealB_len, hf, hq.sound.over.size]
  have := hq.sound.ok.len f f1
  simp [this]
 have hr := writeR_calm hq.calm ht hl
 have h0 : (writeP s h n).1 = 0 := by
  unfold writeP
  rw [if_neg (by omega), hr]
  rfl
 obtain ⟨_, hz, e⟩ := writeP_zero h0
 refine ⟨h0, hq.sound.write hq.err hn, ?_, ?_⟩
 ·rw [e, hr]
  have := calm_logged hq.calm 1 n (boxOf s n)
  exact ⟨this.up, this.calm⟩
 ·rw [e]; exact hq.err
theorem Quiet.room (hq : Quiet s h b) (hw : s.writes < 4294967295) : (roomP s h).1 = 0 ∧ Quiet (roomP s h).2.1 (roomP s h).2.2 b := by
 have key : (roomP s h).1 = 0 ∧ Calm (roomP s h).2.2 := by
  unfold roomP
  split
  ·exact ⟨rfl, hq.calm⟩
  ·rename_i hl
   dsimp only
   split
   ·rename_i hc
    have hn : (s.held.head?.map Fr.page).getD 0 ∈ numbers s := by
     by_cases hh : (s.held.head?.map Fr.page).getD 0 ∈ numbers s
     ·exact hh
     ·rw [changed_no hh] at hc; cases hc
    obtain ⟨w1, w2⟩ := hq.write hw hn
    rw [if_pos w1]
    exact ⟨rfl, w2.calm⟩
   ·exact ⟨rfl, hq.calm⟩
 obtain ⟨q1, q2, q3⟩ := hq.sound.room hq.err
 exact ⟨key.1, q1, key.2, q2 key.1⟩
theorem Quiet.load (hq : Quiet s h b) (hw : s.writes < 4294967295) {n : Int} (h0 : 0 ≤ n) (h1 : n < s.pages) : (loadP s h n).1 = (b n, 0) ∧ Quiet (loadP s h n).2.1 (loadP s h n).2.2 b := by
 have hr : rightP s n = 0 := by
  unfold rightP
  rw [if_neg (by rw [hq.err]; simp), if_neg (by omega)]
 have key : (loadP s h n).1.2 = 0 ∧ Calm (loadP s h n).2.2 := by
  unfold loadP
  rw [if_pos hr]
  cases hf : frOf s n with
  | some f => exact ⟨rfl, hq.calm⟩
  | none =>
   dsimp only
   obtain ⟨r1, r2⟩ := hq.room hw
   obtain ⟨v1, v2, v3, v4, v5⟩ := roomP_leaves (h := h) hq.sound.ok
   rw [if_pos r1]
   have hn1 := v1 n (frOf_none hf)
   have hl1 := v5 r1
   rw [← v2] at hl1
   have hp1 : n < (roomP s h).2.1.pages := by rw [v3]; exact h1
   generalize (roomP s h).2.1 = s1 at *
   generalize (roomP s h).2.2 = h1 at *
   obtain ⟨e, e1, e2, e3⟩ := r2.sound.fetch r2.err hn1 hl1 ⟨h0, hp1⟩
   have ht : there h1 n := ⟨h0, by rw [r2.sound.over.pages]; exact hp1⟩
   have hrd := readR_calm r2.calm ht
   obtain ⟨_, l2⟩ := (r2.sound.right r2.err n).2 (changed_no hn1)
   have hbl := r2.sound.len n
   have ht1 := r2.sound.ok.t1
   unfold fetchP
   cases hl : s1.last n with
   | none => exact ⟨rfl, r2.calm⟩
   | some pl =>
    dsimp only
    rw [hrd]
    dsimp only
    rw [if_pos rfl, l2 pl hl, pg_back _ _ _ (by omega)]
    exact ⟨rfl, calm_logged r2.calm _ _ _⟩
 obtain ⟨e, e1, e2, e3, e4, e5⟩ := hq.sound.load n
 have h2 : (loadP s h n).1.2 = e := by rw [e1]
 rw [key.1] at h2
 subst h2
 exact ⟨by rw [e1, if_pos rfl], e2, key.2, e3 rfl⟩
theorem Quiet.save (hq : Quiet s h b) (hw : s.writes < 4294967295) {n : Int} (h0 : 0 ≤ n) (h1 : n < s.pages) {t : Bytes} (ht : t.length = s.text) : (saveP s h n t).1 = 0 ∧ Quiet (saveP s h n t).2.1 (saveP s h n t).2.2 (setF b n t) := by
 have hr : rightP s n = 0 := by
  unfold rightP
  rw [if_neg (by rw [hq.err]; simp), if_neg (by omega)]
 have key : (saveP s h n t).1 = 0 ∧ Calm (saveP s h n t).2.2 := by
  unfold saveP
  rw [if_pos hr, if_pos ht]
  cases hf : frOf s n with
  | some f => exact ⟨rfl, hq.calm⟩
  | none =>
   dsimp only
   obtain ⟨r1, r2⟩ := hq.room hw
   rw [if_pos r1]
   exact ⟨rfl, r2.calm⟩
 obtain ⟨q1, q2, q3, q4, q5⟩ := hq.sound.save n t
 rw [if_pos key.1] at q1
 exact ⟨key.1, q1, key.2, (q2 key.1).2.2⟩
theorem quiet_fresh {key : Bytes} {round : BitVec 64} {window : Nat} {pages : Int} {text : Nat} (hk : Ok (freshP key round window pages text)) {h : HS} (hp : h.pages = pages) (hz : h.size = text + 28) (hc : Calm h) : Quiet (freshP key round window pages text) h (fun _ => List.replicate text 0#8) :=
 ⟨sound_fresh hk hp hz (fun k f hf => by rw [hc.calm k] at hf; cases hf), hc, rfl⟩
end
theorem calm_fresh (pages : Int) (size : Nat) : Calm (fresh pages size []) := ⟨rfl, fun _ => rfl⟩
end Go.Sl.PagerS
namespace Go.Sl.PagerS
open Go Go.Sl Go.Sl.HostS
attribute [local irreducible] pgSealB pgOpenR
section
variable {s : PS} {h : HS}
end
end Go.Sl.PagerS
namespace Go.Sl.PagerS
open Go Go.Sl Go.Sl.HostS
attribute [local irreducible] pgSealB pgOpenR
section
variable {s : PS} {h : HS}
end
end Go.Sl.PagerS
namespace Go.Sl.PagerS
open Go Go.Sl Go.Sl.HostS
attribute [local irreducible] pgSealB pgOpenR
section
variable {s t : PS} {h g : HS}
end
section
variable {s t : PS} {h g : HS} {b : Int → Bytes}
end
end Go.Sl.PagerS
namespace Go.Sl.SlotS
open Go Go.Sl Go.Sl.HostS Go.Sl.PagerS
attribute [local irreducible] pgSealB pgOpenR
abbrev Acc := Int × Int × Int
structure SL where
 first : Nat
 n : Nat
 size : Nat
 per : Nat
 log : List Acc
def takeN (n per : Nat) : Nat := n / per + if n % per = 0 then 0 else 1
structure Fit (s : SL) (p : PS) : Prop where
 size : 1 ≤ s.size
 le : s.size ≤ p.text
 per : s.per = p.text / s.size
 room : ((s.first + takeN s.n s.per : Nat) : Int) ≤ p.pages
def pg (s : SL) (i : Nat) : Nat := s.first + i / s.per
def fr (s : SL) (i : Nat) : Nat := i % s.per * s.size
def part (t : Bytes) (a n : Nat) : Bytes := (t.drop a).take n
def lay (t : Bytes) (a : Nat) (b : Bytes) : Bytes := t.take a ++ (b ++ t.drop (a + b.length))
def touch (s : SL) (k i j : Int) : SL := { s with log := s.log ++ [(k, i, j)] }
section
variable {s : SL} {p : PS} {i j : Nat}
theorem Fit.per1 (f : Fit s p) : 1 ≤ s.per := by rw [f.per]; exact Nat.div_pos f.le f.size
theorem Fit.page (f : Fit s p) (hi : i < s.n) : ((pg s i : Nat) : Int) < p.pages := by
 have h1 := f.per1
 have hr := f.room
 have h2 : i / s.per < takeN s.n s.per := by
  unfold takeN
  have e1 := Nat.div_add_mod s.n s.per
  have e2 := Nat.mod_lt s.n h1
  by_cases h0 : s.n % s.per = 0
  ·rw [if_pos h0, Nat.add_zero]
   exact Nat.div_lt_of_lt_mul (by omega)
  ·rw [if_neg h0]
   have : i / s.per ≤ s.n / s.per := Nat.div_le_div_right (by omega)
   omega
 unfold pg
 omega
theorem Fit.from (f : Fit s p) (i : Nat) : fr s i + s.size ≤ p.text := by
 have h1 := f.per1
 have h2 := Nat.mod_lt i h1
 have h3 : (i % s.per + 1) * s.size ≤ s.per * s.size := Nat.mul_le_mul_right _ h2
 have h4 : s.per * s.size ≤ p.text := by rw [f.per]; exact Nat.div_mul_le_self _ _
 unfold fr
 rw [Nat.succ_mul] at h3
 omega
theorem Fit.small (f : Fit s p) (hi : i < s.n) (hp : p.pages ≤ 65536) (ht : p.text ≤ 4096) : i ≤ 268435456 := by
 have h1 := f.per1
 have hp2 := f.page hi
 have h2 : i / s.per ≤ 65535 := by unfold pg at hp2; omega
 have h3 : s.per ≤ 4096 := by rw [f.per]; exact Nat.le_trans (Nat.div_le_self _ _) ht
 have e1 := Nat.div_add_mod i s.per
 have e2 := Nat.mod_lt i h1
 have h4 : s.per * (i / s.per) ≤ 4096 * 65535 := Nat.mul_le_mul h3 h2
 omega
theorem Fit.touch (f : Fit s p) (k i j : Int) : Fit (touch s k i j) p := ⟨f.size, f.le, f.per, f.room⟩
theorem Fit.same {q : PS} (f : Fit s p) (h1 : q.text = p.text) (h2 : q.pages = p.pages) : Fit s q := ⟨f.size, by rw [h1]; exact f.le, by rw [h1]; exact f.per, by rw [h2]; exact f.room⟩
theorem part_len {t : Bytes} {a n : Nat} (h : a + n ≤ t.length) : (part t a n).length = n := by unfold part; rw [List.length_take, List.length_drop]; omega
theorem lay_len {t b : Bytes} {a : Nat} (h : a + b.length ≤ t.length) : (lay t a b).length = t.length := by
 unfold lay; rw [List.length_append, List.length_append, List.length_take, List.length_drop]; omega
theorem part_lay {t b : Bytes} {a : Nat} (h : a + b.length ≤ t.length) : part (lay t a b) a b.length = b := by
 unfold part lay
 rw [List.drop_append_of_le_length (by rw [List.length_take]; omega), List.drop_of_length_le (by rw [List.length_take]; omega), List.nil_append, List.take_left]
theorem lay_get {t b : Bytes} {a k : Nat} (h : a + b.length ≤ t.length) (hk : k < a ∨ a + b.length ≤ k) : (lay t a b)[k]? = t[k]? := by
 unfold lay
 have hl : (t.take a).length = a := by rw [List.length_take]; omega
 by_cases hka : k < a
 ·rw [List.getElem?_append_left (by omega), List.getElem?_take_of_lt hka]
 ·rw [List.getElem?_append_right (by omega), List.getElem?_append_right (by omega), List.getElem?_drop]
  congr 1; omega
theorem part_other {t b : Bytes} {a c n : Nat} (h : a + b.length ≤ t.length) (hd : c + n ≤ a ∨ a + b.length ≤ c) : part (lay t a b) c n = part t c n := by
 apply List.ext_getElem?
 intro k
 unfold part
 by_cases hk : k < n
 ·rw [List.getElem?_take_of_lt hk, List.getElem?_take_of_lt hk, List.getElem?_drop, List.getElem?_drop]
  exact lay_get h (by omega)
 ·rw [List.getElem?_eq_none (by rw [List.length_take]; omega), List.getElem?_eq_none (by rw [List.length_take]; omega)]
theorem fr_apart (hij : i ≠ j) (hp : pg s i = pg s j) : fr s i + s.size ≤ fr s j ∨ fr s j + s.size ≤ fr s i := by
 have e1 := Nat.div_add_mod i s.per
 have e2 := Nat.div_add_mod j s.per
 have hd : i / s.per = j / s.per := by unfold pg at hp; omega
 have hne : i % s.per ≠ j % s.per := by
  intro h
  rw [hd, h] at e1
  omega
 unfold fr
 rcases Nat.lt_or_gt_of_ne hne with h|h
 ·left
  have := Nat.mul_le_mul_right s.size (show i % s.per + 1 ≤ j % s.per from h)
  rw [Nat.succ_mul] at this
  omega
 ·right
  have := Nat.mul_le_mul_right s.size (show j % s.per + 1 ≤ i % s.per from h)
  rw [Nat.succ_mul] at this
  omega
end
def has (s : SL) (i : Int) : Prop := 0 ≤ i ∧ i < s.n
instance (s : SL) (i : Int) : Decidable (has s i) := by unfold has; infer_instance
abbrev St3 := SL × PS × HS
def getS (s : SL) (p : PS) (h : HS) (i : Int) : (Bytes × Nat) × St3 :=
 if has s i then
  let r := loadP p h (pg s i.toNat)
  (if r.1.2 = 0 then (part r.1.1 (fr s i.toNat) s.size, 0) else ([], r.1.2), touch s 0 i 0, r.2)
 else (([], 2), s, p, h)
def setS (s : SL) (p : PS) (h : HS) (i : Int) (b : Bytes) : Nat × St3 :=
 if has s i then
  if b.length = s.size then
   let r := loadP p h (pg s i.toNat)
   if r.1.2 = 0 then
    let q := saveP r.2.1 r.2.2 (pg s i.toNat) (lay r.1.1 (fr s i.toNat) b)
    (q.1, touch s 1 i 0, q.2)
   else (r.1.2, touch s 1 i 0, r.2)
  else (4, s, p, h)
 else (2, s, p, h)
def newS (first n size : Int) (p : PS) : Nat :=
 if first < 0 ∨ n < 0 ∨ size < 1 then 2
 else if (p.text : Int) < size then 4
 else if p.pages < first ∨ p.pages - first < takeN n.toNat (p.text / size.toNat) then 5
 else 0
def freshS (first n size : Int) (p : PS) : SL := ⟨first.toNat, n.toNat, size.toNat, p.text / size.toNat, []⟩
def pagesS (n size text : Int) : Int × Nat :=
 if n < 0 ∨ size < 1 then (0, 2)
 else if text < size then (0, 4)
 else if 65536 < takeN n.toNat (text.toNat / size.toNat) then (0, 5)
 else ((takeN n.toNat (text.toNat / size.toNat) : Nat), 0)
theorem mem_use (s : PS) (f : PagerS.Fr) : f ∈ (useP s f).held := List.mem_append.2 (.inr (List.mem_singleton.2 rfl))
theorem load_held {p : PS} {h : HS} {n : Int} (he : (loadP p h n).1.2 = 0) : ∃ f ∈ (loadP p h n).2.1.held, f.text = (loadP p h n).1.1 := by
 unfold loadP at he ⊢
 split
 ·rename_i hr
  rw [if_pos hr] at he
  split
  ·rename_i f hf
   exact ⟨f, mem_use _ _, rfl⟩
  ·rename_i hf
   rw [hf] at he
   dsimp only at he ⊢
   split
   ·rename_i hz
    rw [if_pos hz] at he
    generalize (roomP p h).2.1 = p1 at *
    generalize (roomP p h).2.2 = h1 at *
    unfold fetchP at he ⊢
    split
    ·rename_i pl hl
     rw [hl] at he
     try dsimp only at he
     try dsimp only
     split
     ·rename_i h0
      rw [if_pos h0] at he
      try dsimp only at he
      try dsimp only
      split
      ·exact ⟨_, mem_use _ _, rfl⟩
      ·rename_i ho
       rw [if_neg ho] at he
       exact absurd he ho
     ·rename_i h0
      rw [if_neg h0] at he
      exact absurd he h0
    ·exact ⟨_, mem_use _ _, rfl⟩
   ·rename_i hz
    rw [if_neg hz] at he
    exact absurd he hz
 ·rename_i hr
  rw [if_neg hr] at he
  exact absurd he hr
theorem load_text {p : PS} {h : HS} {n : Int} (he : (loadP p h n).1.2 = 0) (hk : Ok (loadP p h n).2.1) : (loadP p h n).1.1.length = p.text := by
 obtain ⟨f, hf, e⟩ := load_held he
 rw [← e, hk.len f hf]
 exact (near_load p h n).text
end Go.Sl.SlotS
namespace Go.Sl.SlotS
open Go Go.Sl Go.Sl.HostS Go.Sl.PagerS
attribute [local irreducible] pgSealB pgOpenR PagerS.loadP PagerS.saveP
section
variable {s : SL} {p : PS} {h : HS} {b : Int → Bytes} {i j : Nat}
theorem has_nat (hi : i < s.n) : has s (i : Int) := ⟨by omega, by omega⟩
def slotB (s : SL) (b : Int → Bytes) (i : Nat) : Bytes := part (b (pg s i)) (fr s i) s.size
def putB (s : SL) (b : Int → Bytes) (i : Nat) (x : Bytes) : Int → Bytes := setF b (pg s i) (lay (b (pg s i)) (fr s i) x)
theorem putB_at (f : Fit s p) (hb : ∀ n : Int, (b n).length = p.text) {x : Bytes} (hx : x.length = s.size) (i j : Nat) : slotB s (putB s b i x) j = if j = i then x else slotB s b j := by
 have h1 := f.from i
 have h2 := f.from j
 unfold slotB putB setF
 by_cases e : j = i
 ·subst e
  rw [if_pos rfl, if_pos rfl, ← hx]
  exact part_lay (by rw [hb, hx]; exact h1)
 ·rw [if_neg e]
  by_cases hp : ((pg s j : Nat) : Int) = (pg s i : Nat)
  ·rw [if_pos hp]
   have hpn : pg s i = pg s j := by omega
   have := fr_apart (s := s) (i := i) (j := j) (fun hh => e hh.symm) hpn
   rw [hpn]
   exact part_other (by rw [hb, hx]; exact h1) (by rw [hx]; omega)
  ·rw [if_neg hp]
theorem get_q (q : Quiet p h b) (f : Fit s p) (hi : i < s.n) (hw : p.writes < 4294967295) : (getS s p h i).1 = (slotB s b i, 0) ∧ (getS s p h i).2.1 = touch s 0 i 0 ∧ Quiet (getS s p h i).2.2.1 (getS s p h i).2.2.2 b := by
 obtain ⟨a1, a2⟩ := q.load hw (n := ((pg s i : Nat) : Int)) (by omega) (f.page hi)
 unfold getS
 rw [if_pos (has_nat hi), Int.toNat_natCast]
 dsimp only
 rw [a1, if_pos rfl]
 exact ⟨rfl, rfl, a2⟩
theorem set_q (q : Quiet p h b) (f : Fit s p) (hi : i < s.n) (hw : p.writes + 1 < 4294967295) {x : Bytes} (hx : x.length = s.size) : (setS s p h i x).1 = 0 ∧ (setS s p h i x).2.1 = touch s 1 i 0 ∧ Quiet (setS s p h i x).2.2.1 (setS s p h i x).2.2.2 (putB s b i x) := by
 obtain ⟨a1, a2⟩ := q.load (by omega) (n := ((pg s i : Nat) : Int)) (by omega) (f.page hi)
 have n1 := near_load p h ((pg s i : Nat) : Int)
 have h1 := f.from i
 have hb := q.sound.len
 unfold setS
 rw [if_pos (has_nat hi), if_pos hx, Int.toNat_natCast]
 dsimp only
 rw [a1, if_pos rfl]
 have hw2 := n1.writes
 have hpg : (loadP p h (pg s i)).2.1.pages = p.pages := n1.spages
 have htx : (loadP p h (pg s i)).2.1.text = p.text := n1.text
 have hll : (lay (b (pg s i)) (fr s i) x).length = (loadP p h (pg s i)).2.1.text := by rw [lay_len (by rw [hb, hx]; exact h1), hb, htx]
 obtain ⟨c1, c2⟩ := a2.save (by omega) (n := ((pg s i : Nat) : Int)) (by omega) (by rw [hpg]; exact f.page hi) hll
 exact ⟨c1, rfl, c2⟩
theorem set_near (s : SL) (p : PS) (h : HS) (i : Int) (b : Bytes) : Near 3 2 p h (setS s p h i b).2.2.1 (setS s p h i b).2.2.2 := by
 unfold setS
 split
 ·split
  ·have n1 := near_load p h ((pg s i.toNat : Nat) : Int)
   dsimp only
   split
   ·exact n1.trans (near_save _ _ _ _) (by omega) (by omega)
   ·exact n1.trans (Near.refl 1 1 _ _) (by omega) (by omega)
  ·exact Near.refl 3 2 p h
 ·exact Near.refl 3 2 p h
end
end Go.Sl.SlotS
namespace Go.Sl
open Go Go.Proofs
attribute [local irreducible] pt pur ex all den denOps denS xOps xC cX CX xthen xblk xcut xloop xng retX resX Calls PV Rd Con
attribute [local irreducible] hostA pgA
open SlotS (SL Acc Fit)
def accs (x : Acc) : List Value := [.int .i64 x.1, .int .i64 x.2.1, .int .i64 x.2.2]
theorem acc_one (x : Acc) : (accs x).all oneC = true := rfl
theorem acc_ones (l : List Acc) : (l.flatMap accs).all oneC = true := by
 rw [List.all_eq_true]
 intro v hv
 obtain ⟨f, _, hv⟩ := List.mem_flatMap.1 hv
 exact List.all_eq_true.1 (acc_one f) v hv
abbrev slc (pp : Nat) (s : SL) (a : Option Addr) (c : Nat) : Array Value := #[hp pp, nvv s.first, nvv s.n, nvv s.size, nvv s.per, .slice a s.log.length c]
abbrev ownAcc (a : Option Addr) (c : Nat) (l : List Acc) : Asrt := own 151 3 (.slice a l.length c) l.length (l.flatMap accs)
abbrev slL (q pp : Nat) (s : SL) (a : Option Addr) (c : Nat) : List Asrt := [cl q (slc pp s a c) 137, ownAcc a c s.log]
def slB (q pp : Nat) (s : SL) (t : Option Addr × Nat) : Asrt := all (slL q pp s t.1 t.2)
def slA (q pp : Nat) (s : SL) : Asrt := ex (slB q pp s)
section
variable {q pp : Nat} {s : SL} {L : List Asrt}
theorem slA_mk {a : Option Addr} {c : Nat} : Imp (slL q pp s a c ++ L) (slA q pp s :: L) :=
 (Imp.app (L := slL q pp s a c)).trans (Imp.head fun f h => by unfold slA Sl.ex; exact Exists.intro (p := fun x => (slB q pp s x).on f) (a, c) h)
theorem Con.slA {F : FuncId} {args : List Value} {Φ : Value → List Asrt → Prop} (h : ∀ (a : Option Addr) (c : Nat), Con Tryz.prog F args (slL q pp s a c ++ L) Φ) : Con Tryz.prog F args (Sl.slA q pp s :: L) Φ :=
 Con.ex fun t => Con.pre (h t.1 t.2) (Imp.unapp (L := slL q pp s t.1 t.2))
end
section
variable {q pp : Nat} {s : SL} {a : Option Addr} {c : Nat}
theorem shas_x (i : Int) : Con Tryz.prog 78 [hp q, .int .i64 i] [cl q (slc pp s a c) 137] (fun r M => r = .bool (decide (SlotS.has s i)) ∧ M = [cl q (slc pp s a c) 137]) := by
 by_cases h0 : 0 ≤ i
 ·by_cases h1 : i < (s.n : Int)
  ·rw [decide_eq_true (show SlotS.has s i from ⟨h0, h1⟩)]
   refine fn_y Tryz.func78 Tryz.mixed ?_
   intro w0
   refine Y5 ?_
   refine Zhg (Zbq (b := 0) rfl rfl) ?_
   refine Zos 6 rfl (h0) ?_
   refine Y6 ?_
   first|refine Y0 ?_|(refine Zhh rfl ?_; (refine Zhg (Zbn (a := i) (b := (s.n : Int)) rfl rfl) ?_))
   refine Zos 13 rfl (h1) ?_
   refine V3 ?_
   refine rx1 (Zha rfl (Zg7)) ?_
   exact ⟨_, ⟨rfl, rfl⟩, qI⟩
  ·rw [decide_eq_false (show ¬ SlotS.has s i from fun hh => h1 hh.2)]
   refine fn_y Tryz.func78 Tryz.mixed ?_
   intro w0
   refine Y5 ?_
   refine Zhg (Zbq (b := 0) rfl rfl) ?_
   refine Zos 6 rfl (h0) ?_
   refine Y6 ?_
   first|refine Y0 ?_|(refine Zhh rfl ?_; (refine Zhg (Zbn (a := i) (b := (s.n : Int)) rfl rfl) ?_))
   refine Zot 13 rfl (h1) ?_
   refine V3 ?_
   refine rx1 (Zha rfl (Zg7)) ?_
   exact ⟨_, ⟨rfl, rfl⟩, qI⟩
 ·rw [decide_eq_false (show ¬ SlotS.has s i from fun hh => h0 hh.1)]
  refine fn_y Tryz.func78 Tryz.mixed ?_
  intro w0
  refine Y5 ?_
  refine Zhg (Zbq (b := 0) rfl rfl) ?_
  refine Zot 6 rfl (h0) ?_
  refine V10 ?_
  refine rx1 (Zha rfl (Zg7)) ?_
  exact ⟨_, ⟨rfl, rfl⟩, qI⟩
theorem stouch_x (k i j : Int) (hl : s.log.length ≤ 4000000000000) : Con Tryz.prog 79 [hp q, .int .i64 k, .int .i64 i, .int .i64 j] (slL q pp s a c) (fun r M => ∃ a' c', M = slL q pp (SlotS.touch s k i j) a' c') := by
 refine fn_y Tryz.func79 Tryz.mixed ?_
 intro w0
 refine Y9 ?_
 refine Zhg (Zdm (cs := (accs (k, i, j)).toArray) rfl) ?_
 refine Zh7 (cs := (accs (k, i, j)).toArray) (by omega) (by omega) (by exact fill_one rfl rfl) ?_; intro b17
 refine Zia rfl rfl qH (Rd.cl (xs := accs (k, i, j)) qH rfl qZ rfl) (by first|rfl|exact oneM_u8 _|exact oneL_u8 _|exact acc_one _|assumption|(simp [oneC]; done)) (by omega) qS ?_; intro a3 c3
 refine V4 ?_
 first|refine rx0 ?_|refine rx0n ?_
 refine ⟨_, ⟨a3, c3, rfl⟩, ?_⟩
 have e2 : (s.log ++ [(k, i, j)]).length = s.log.length + 1 := by simp
 have e3 : (s.log ++ [(k, i, j)]).flatMap accs = s.log.flatMap accs ++ accs (k, i, j) := by simp
 show Imp _ [cl q (slc pp { s with log := s.log ++ [(k, i, j)] } a3 c3) 137, ownAcc a3 c3 (s.log ++ [(k, i, j)])]
 unfold ownAcc slc
 dsimp only
 rw [e2, e3]
 exact qI
abbrev placeF (bf bs : Nat) : Value := .func (.func 115) #[] #[.pointer (some ⟨bf, 0, none⟩), .pointer (some ⟨bs, 0, none⟩)]
theorem splace_x (i : Nat) (h1 : 1 ≤ s.per) (hi : i ≤ 268435456) (hf : SlotS.fr s i ≤ 4096) (hp1 : SlotS.pg s i ≤ 65536) : Con Tryz.prog 80 [hp q, nvv i] [cl q (slc pp s a c) 137] (fun r M => ∃ bf bs, r = .tuple #[nvv (SlotS.pg s i), placeF bf bs] ∧ M = [cl bf #[nvv (SlotS.fr s i)] 3, cl bs #[hp q] 28, cl q (slc pp s a c) 137]) := by
 unfold SlotS.fr at hf
 unfold SlotS.pg at hp1
 refine fn_y Tryz.func80 Tryz.mixed ?_
 intro w0
 refine Y1 ?_
 refine Zh3 rfl ?_; intro b2
 refine V3 ?_
 refine Zij ([cl b2 #[hp q] 28, cl q (slc pp s a c) 137]) [6, 7, 8, 9, 11] (.q 0 (.r 1 (.q 2 (.q 3 (.r 4 (.q 5 (.r 6 (.r 7 (.r 8 (.r 9 (.q 10 (.a 11 (.e 12 false .nil))))))))))))) (by kernel_rfl) (by kernel_rfl) (Imp.arr qV) ?_
 refine W11 ?_
 refine Zir rfl (cs := #[.int .i64 0]) rfl ?_; intro b6
 refine Ziq rfl ?_
 refine Y1 ?_
 refine Zg3 ⟨(fun hh => Bool.noConfusion hh), ?_⟩
 refine Zik ?_
 refine Ct.o ?_
 refine Zij ([cl b6 #[nvv (i % s.per * s.size)] 3, cl b2 #[hp q] 28, cl q (slc pp s a c) 137]) [5, 6, 7, 8, 9] (.q 4 (.q 11 (.r 0 (.q 1 (.q 2 (.r 3 (.r 5 (.r 6 (.r 7 (.r 8 (.r 9 (.q 10 (.q 12 (.q 13 .nil)))))))))))))) (by kernel_rfl) (by kernel_rfl) (Imp.arr qV) ?_
 refine W15 ?_
 refine Ct.o ?_
 refine rx2 (Zg9 rfl (Zg8 rfl (Zg7))) ?_
 exact ⟨_, ⟨b6, b2, rfl, rfl⟩, qI⟩
theorem splaced_x {g n cp bf bs f : Nat} (hs : 1 ≤ s.size) (hfc : f + s.size ≤ n) (hnc : n ≤ cp) (hn : n ≤ 4096) : Con Tryz.prog 115 [.slice (some ⟨g, 0, none⟩) n cp, .pointer (some ⟨bf, 0, none⟩), .pointer (some ⟨bs, 0, none⟩)] [cl bf #[nvv f] 3, cl bs #[hp q] 28, cl q (slc pp s a c) 137] (fun r M => r = .slice (some ⟨g, f, none⟩) s.size (cp - f) ∧ M = [cl bf #[nvv f] 3, cl bs #[hp q] 28, cl q (slc pp s a c) 137]) := by
 have hsz : f + s.size - f = s.size := by omega
 refine fn_y Tryz.func115 Tryz.mixed ?_
 intro w0
 refine V3 ?_
 refine Zij ([cl bf #[nvv f] 3, cl bs #[hp q] 28, cl q (slc pp s a c) 137]) [2, 3, 4, 5, 6, 7] (.q 0 (.r 1 (.r 2 (.r 3 (.r 4 (.r 5 (.r 6 (.r 7 (.q 8 (.q 9 .nil)))))))))) (by kernel_rfl) (by kernel_rfl) (Imp.arr qV) ?_
 refine W8 ?_
 refine Zim rfl (Zna (l := f) (h := f + s.size) rfl rfl rfl (by omega) (by omega) (by omega)) ?_
 refine W2 ?_
 refine Ct.o ?_
 rw [hsz]
 refine rx1 (Zhc rfl (Zg7)) ?_
 exact ⟨_, ⟨rfl, rfl⟩, qI⟩
end
end Go.Sl
namespace Go.Sl
open Go
theorem or_add (a b i : Nat) (h : b < 2 ^ i) : a <<< i ||| b = a * 2 ^ i + b := by rw [← Nat.shiftLeft_add_eq_or_of_lt h, Nat.shiftLeft_eq]
abbrev W128.val (x : W128) : Nat := x.1.toNat + 18446744073709551616 * x.2.toNat
theorem quarter (f : W128) (hf : f.1.toNat % 4 = 0) : W128.val (f.1 >>> 2 ||| f.2 <<< 62, f.2 >>> 2) = f.val / 4 := by
 have h1 := f.1.isLt; have h2 := f.2.isLt
 have e : (f.1 >>> 2 ||| f.2 <<< 62).toNat = f.2.toNat % 4 * 4611686018427387904 + f.1.toNat / 4 := by
  rw [BitVec.toNat_or, BitVec.toNat_ushiftRight, BitVec.toNat_shiftLeft, Nat.shiftRight_eq_div_pow, Nat.or_comm]
  have e2 : f.2.toNat <<< 62 % 2 ^ 64 = (f.2.toNat % 4) <<< 62 := by
   rw [Nat.shiftLeft_eq, Nat.shiftLeft_eq]; omega
  rw [e2, or_add _ _ _ (by omega)]
 simp only [W128.val, e, BitVec.toNat_ushiftRight, Nat.shiftRight_eq_div_pow]
 omega
end Go.Sl
namespace Go.Sl
open Go
end Go.Sl
namespace Go.Sl
open Go Go.Proofs
attribute [local irreducible] pt pur ex all den denOps denS xOps xC cX CX xthen xblk xcut xloop xng retX resX Calls PV Rd Con
attribute [local irreducible] rotW
end Go.Sl
namespace Go.Sl
open Go Go.Proofs
attribute [local irreducible] pt pur ex all den denOps denS xOps xC cX CX xthen xblk xcut xloop xng retX resX Calls PV Rd Con
theorem eqBytes_x {L : List Asrt} {va vb : Value} {a b : List Byte} (ha : Bs L va a) (hb : Bs L vb b) : Con Tryz.prog 36 [va, vb] L (fun v M => v = .bool (decide (a = b)) ∧ L = M) := by
 refine Con.get (fun w0 w F H => ha.sh _ _ _ H) ?_
 rintro ⟨aa, ac, rfl, hac, hacm⟩
 refine Con.get (fun w0 w F H => hb.sh _ _ _ H) ?_
 rintro ⟨ba, bc, rfl, hbc, hbcm⟩
 refine fn_y Tryz.func36 Tryz.mixed ?_
 intro w0
 refine V10 ?_
 refine Zgg rfl (fun hB => ?_) (fun hB => ?_)
 ·refine V3 ?_
  refine rx1 (Zha rfl (Zg7)) ?_
  exact ⟨_, ⟨by rw [decide_eq_false (fun h => hB (by rw [h]))], rfl⟩, by exact Imp.arr (by repeat (first|exact Arr.nil|exact Arr.stop|refine Arr.cons (by repeat constructor) ?_|refine Arr.skip ?_))⟩
 have hlen : a.length = b.length := by omega
 refine V3 ?_
 refine Zgo [(4, 5), (11, 25)] (by kernel_rfl) (fun i : Nat => i ≤ a.length ∧ a.take i = b.take i) (fun _ => L) (fun i => [(5, .int .i64 (i : Int))]) (fun i => a.length - i) 0 ⟨by omega, rfl⟩ (Imp.refl _) ⟨rfl, trivial⟩ ?_
 rintro i u ⟨hi, he⟩
 refine V6 ?_
 refine Zgg rfl (fun hB => ?_) (fun hB => ?_)
 ·have hib : i < b.length := by omega
  refine Zgt (fun F w H => ha.some (by omega) H) ?_
  rintro ⟨a1, a2, rfl⟩
  refine Zgt (fun F w H => hb.some (by omega) H) ?_
  rintro ⟨b1, b2, rfl⟩
  refine Ct.o ?_
  refine Zij (_) [7] (.q 0 (.q 1 (.q 2 (.q 4 (.q 5 (.q 6 (.r 3 (.r 7 (.q 8 .nil))))))))) (by kernel_rfl) (by kernel_rfl) (Imp.refl _) ?_
  refine W6 ?_
  refine Zi8 (j := i) rfl rfl ha.rd hB (getM (f := u8b) hB) ?_
  refine Zi8 (j := i) rfl rfl hb.rd hib (getM (f := u8b) hib) ?_
  refine Zim rfl (Zjl rfl rfl) ?_
  refine Zik ?_
  refine Ct.o ?_
  refine Zgg rfl (fun hB2 => ?_) (fun hB2 => ?_)
  ·refine V3 ?_
   refine rx1 (Zha rfl (Zg7)) ?_
   refine ⟨_, ⟨?_, rfl⟩, by exact Imp.arr (by repeat (first|exact Arr.nil|exact Arr.stop|refine Arr.cons (by repeat constructor) ?_|refine Arr.skip ?_))⟩
   rw [decide_eq_false]
   rintro rfl
   exact hB2 rfl
  ·refine V5 ?_
   have hB2 : a[i] = b[i] := by simpa using hB2
   exact Zgl (i + 1) qO ⟨by omega, by rw [List.take_succ_eq_append_getElem hB, List.take_succ_eq_append_getElem hib, he, hB2]⟩ qI ⟨rfl, trivial⟩
 ·have hie : i = a.length := by omega
  subst hie
  rw [List.take_length, hlen, List.take_length] at he
  refine V3 ?_
  refine rx1 (Zha rfl (Zg7)) ?_
  exact ⟨_, ⟨by rw [decide_eq_true he], rfl⟩, by exact Imp.arr (by repeat (first|exact Arr.nil|exact Arr.stop|refine Arr.cons (by repeat constructor) ?_|refine Arr.skip ?_))⟩
end Go.Sl
namespace Go.Sl
open Go Go.Proofs
attribute [local irreducible] pt pur ex all den denOps denS xOps xC cX CX xthen xblk xcut xloop xng retX resX Calls PV Rd Con
end Go.Sl
namespace Go.Sl
open Go Go.Proofs
attribute [local irreducible] pt pur ex all den denOps denS xOps xC cX CX xthen xblk xcut xloop xng retX resX Calls PV Rd Con
end Go.Sl
namespace Go.Sl
open Go Go.Proofs
attribute [local irreducible] pt pur ex all den denOps denS xOps xC cX CX xthen xblk xcut xloop xng retX resX Calls PV Rd Con
end Go.Sl
namespace Go.Sl
open Go Go.Proofs
attribute [local irreducible] pt pur ex all den denOps denS xOps xC cX CX xthen xblk xcut xloop xng retX resX Calls PV Rd Con
theorem x_own {P : Program} {w0 : World} {c : Code} {ρ : Env} {Q : XQ} {E n cp : Nat} {a : Option Addr} {xs : List Value} {M M' : List Asrt} (hm : Has M (own E 1 (.slice a n cp) n xs) M') (hn : 0 < n)
  (k : ∀ g rest, a = some ⟨g, 0, none⟩ → n ≤ cp → cp ≤ 9223372036854775807 → rest.length + n = cp → xC P w0 c ρ (cl g (xs ++ rest).toArray E :: M') Q) : xC P w0 c ρ M Q := by
 refine Zgu (α := { p : Nat × List Value // a = some ⟨p.1, 0, none⟩ ∧ n ≤ cp ∧ cp ≤ 9223372036854775807 ∧ p.2.length + n = cp }) (A := fun p => cl p.val.1 (xs ++ p.val.2).toArray E :: M') ?_ (fun p => k p.val.1 p.val.2 p.property.1 p.property.2.1 p.property.2.2.1 p.property.2.2.2)
 intro F w H
 rcases (H.pick (.there hm)).own_get with ⟨hv, rfl, _⟩|⟨g, cap, cur, hv, h2, h3, h4, h5, h6, H'⟩
 ·omega
 ·simp only [Value.slice.injEq] at hv
  obtain ⟨rfl, _, rfl⟩ := hv
  have e : cur = (xs ++ cur.toList.drop n).toArray := by
   rw [← h5, Nat.mul_one, List.take_append_drop]
  refine ⟨⟨(g, cur.toList.drop n), rfl, h2, h3, by rw [List.length_drop, Array.length_toList, h4]; omega⟩, ?_⟩
  dsimp only
  rw [← e]
  exact H'.swap
attribute [local irreducible] lowB
end Go.Sl
namespace Go.Sl
open Go Go.Proofs
attribute [local irreducible] pt pur ex all den denOps denS xOps xC cX CX xthen xblk xcut xloop xng retX resX Calls PV Rd Con
attribute [local irreducible] hostA pgA PagerS.loadP PagerS.saveP
open SlotS (SL Acc Fit)
open PagerS (PS Over)
theorem rd_part {M M' : List Asrt} {g f n k E : Nat} {B : List Byte} {rest : List Value} (hm : Has M (cl g (B.map u8b ++ rest).toArray E) M') (h : f + n ≤ B.length) : Rd M 1 (.slice (some ⟨g, f, none⟩) n k) n ((SlotS.part B f n).map u8b) := by
 have hl := SlotS.part_len (t := B) h
 refine Rd.cl (o := f) hm (by rw [List.length_map, hl, Nat.mul_one]) (by simp; omega) ?_
 rw [Nat.mul_one, Array.toList_extract, List.extract_eq_take_drop]
 show ((B.map u8b ++ rest).drop f).take (f + n - f) = _
 rw [show f + n - f = n by omega, List.drop_append_of_le_length (by simp; omega), List.take_append_of_le_length (by simp; omega)]
 unfold SlotS.part
 rw [List.map_take, List.map_drop]
theorem copy_all {l : List Byte} {n : Nat} (hl : l.length = n) : wr ((List.replicate n 0#8).map u8b).toArray 0 ((l.map u8b).take (min n n * 1)) = (l.map u8b).toArray := by
 rw [Nat.min_self, Nat.mul_one, List.take_of_length_le (by simp [hl])]
 have := wr_mid [] ((List.replicate n 0#8).map u8b) [] (l.map u8b) 0 rfl (by simp [hl])
 simpa using this
theorem copy_lay {B b : List Byte} {f n : Nat} {rest : List Value} (hb : b.length = n) (h : f + n ≤ B.length) : wr (B.map u8b ++ rest).toArray f ((b.map u8b).take (min b.length n * 1)) = ((SlotS.lay B f b).map u8b ++ rest).toArray := by
 rw [hb, Nat.min_self, Nat.mul_one, List.take_of_length_le (by simp [hb])]
 have e : B.map u8b ++ rest = (B.take f).map u8b ++ (((B.drop f).take n).map u8b ++ ((B.drop (f + n)).map u8b ++ rest)) := by
  have e1 : B = B.take f ++ ((B.drop f).take n ++ B.drop (f + n)) := by
   have h2 : B.drop (f + n) = (B.drop f).drop n := by rw [List.drop_drop]
   rw [h2, List.take_append_drop, List.take_append_drop]
  conv => lhs; rw [e1]
  simp
 rw [e]
 have := wr_mid ((B.take f).map u8b) (((B.drop f).take n).map u8b) ((B.drop (f + n)).map u8b ++ rest) (b.map u8b) f (by simp; omega) (by simp [hb]; omega)
 rw [this]
 unfold SlotS.lay
 simp [hb]
theorem lay_bs {M M' : List Asrt} {g n c E : Nat} {l : List Byte} {rest : List Value} (hm : Has M (cl g (l.map u8b ++ rest).toArray E) M') (hl : l.length = n) (hnc : n ≤ c) (hcm : c ≤ 9223372036854775807) : Bs M (.slice (some ⟨g, 0, none⟩) n c) l := by
 subst hl
 refine Bs.cl (o := 0) hm (by simp) ?_ hnc hcm
 rw [Nat.zero_add, Array.toList_extract, List.extract_eq_take_drop]
 show ((l.map u8b ++ rest).drop 0).take (l.length - 0) = _
 rw [List.drop_zero, Nat.sub_zero, List.take_append_of_le_length (by simp)]
 exact List.take_of_length_le (by simp)
theorem own_block {g n : Nat} {l : List Byte} (hl : l.length = n) (hn : n ≤ 9223372036854775807) {M : List Asrt} : Imp (cl g (l.map u8b).toArray 5 :: M) (ownB (some ⟨g, 0, none⟩) n l :: M) := by
 subst hl
 exact Imp.own_mk (n := l.length) (cap := l.length) (size := 1) (xs := l.map u8b) (Nat.le_refl _) hn (by simp) (by simp; exact List.take_of_length_le (by simp))
section
variable {q pp ph : Nat} {s : SL} {p : PS} {h : HostS.HS}
theorem pgs_ok {M M' : List Asrt} {F : Asrt} {w0 w : World} (hm : Has M (pgA pp ph p) M') (H : St w0 w (F :: M)) : PagerS.Ok p := by
 have H := H.pick (.there hm)
 unfold pgA at H
 obtain ⟨t, H⟩ := H.ex_get
 exact (St.pur_get (St.all_get H)).ok
theorem sget_x (f : Fit s p) (hk : PagerS.Ok p) (hov : Over p h) (hops : h.ops + 1 < 3518437208880) (hl : s.log.length ≤ 4000000000000) (i : Int) : Con Tryz.prog 35 [hp q, .int .i64 i] [slA q pp s, pgA pp ph p, hostA ph h] (fun r M => ∃ a c, r = .tuple #[.slice a (SlotS.getS s p h i).1.1.length c, nvv (SlotS.getS s p h i).1.2] ∧ M = [ownB a c (SlotS.getS s p h i).1.1, slA q pp (SlotS.getS s p h i).2.1, pgA pp ph (SlotS.getS s p h i).2.2.1, hostA ph (SlotS.getS s p h i).2.2.2]) := by
 refine Con.slA fun la lc => ?_
 simp only [List.cons_append, List.nil_append]
 by_cases hh : SlotS.has s i
 ·obtain ⟨i, rfl⟩ : ∃ n : Nat, i = n := ⟨i.toNat, by have := hh.1; omega⟩
  have hin : i < s.n := by have := hh.2; omega
  have ht1 := hk.t1
  have hp1 := hk.p1
  have hpage := f.page hin
  have hfrom := f.from i
  have hsz1 := f.size
  have hll := fun he hk1 => SlotS.load_text (p := p) (h := h) (n := ((SlotS.pg s i : Nat) : Int)) he hk1
  have hld := load_x (p := pp) (ph := ph) hov (by omega) ((SlotS.pg s i : Nat) : Int)
  have e : SlotS.getS s p h (i : Int) = (if (PagerS.loadP p h (SlotS.pg s i : Nat)).1.2 = 0 then (SlotS.part (PagerS.loadP p h (SlotS.pg s i : Nat)).1.1 (SlotS.fr s i) s.size, 0) else ([], (PagerS.loadP p h (SlotS.pg s i : Nat)).1.2), SlotS.touch s 0 i 0, (PagerS.loadP p h (SlotS.pg s i : Nat)).2) := by
   unfold SlotS.getS
   rw [if_pos hh, Int.toNat_natCast]
  rw [e]
  have htc := fun a c => stouch_x (q := q) (pp := pp) (s := s) (a := a) (c := c) 0 i 0 hl
  have hpl := fun a c => splace_x (q := q) (pp := pp) (s := SlotS.touch s 0 i 0) (a := a) (c := c) i (f.touch 0 i 0).per1 (f.small hin hp1 ht1) (by show SlotS.fr s i ≤ 4096; omega) (by show SlotS.pg s i ≤ 65536; omega)
  have hpd := fun a c g n cp bf bs h1 h2 h3 => splaced_x (q := q) (pp := pp) (s := SlotS.touch s 0 i 0) (a := a) (c := c) (g := g) (n := n) (cp := cp) (bf := bf) (bs := bs) (f := SlotS.fr s i) f.size h1 h2 h3
  have e1 : SlotS.pg (SlotS.touch s 0 i 0) i = SlotS.pg s i := rfl
  have e2 : SlotS.fr (SlotS.touch s 0 i 0) i = SlotS.fr s i := rfl
  have e3 : (SlotS.touch s 0 i 0).size = s.size := rfl
  rw [e1, e2] at hpl
  rw [e3] at hpd
  generalize hs2 : SlotS.touch s 0 i 0 = s2 at *
  generalize (PagerS.loadP p h (SlotS.pg s i : Nat)).2.1 = p1 at *
  generalize (PagerS.loadP p h (SlotS.pg s i : Nat)).2.2 = h1 at *
  generalize (PagerS.loadP p h (SlotS.pg s i : Nat)).1.2 = er at *
  generalize (PagerS.loadP p h (SlotS.pg s i : Nat)).1.1 = B at *
  generalize SlotS.pg s i = pn at *
  generalize SlotS.fr s i = fn at *
  refine fn_y Tryz.func35 Tryz.mixed ?_
  intro w0
  refine Y7 ?_
  refine Zhn 12 rfl (rfl) ?_
  refine Y5 ?_
  refine Zor (c := shas_x (q := q) (pp := pp) (s := s) (a := la) (c := lc) i) (k := ?_)
  rintro _ _ ⟨rfl, rfl⟩
  refine Y1 ?_
  refine Zos 15 rfl (hh) ?_
  refine Zhg (Zb0 rfl) ?_
  refine Zhn 16 rfl (rfl) ?_
  refine Y5 ?_
  refine Zor (c := htc la lc) (k := ?_)
  rintro _ _ ⟨la2, lc2, rfl⟩
  refine Y5 ?_
  refine Zor (c := hpl la2 lc2) (k := ?_)
  rintro _ _ ⟨bf, bs, rfl, rfl⟩
  refine Y13 ?_
  refine Zor (c := hld) (k := ?_)
  rintro _ _ ⟨ta, tc, rfl, rfl⟩
  refine V7 ?_
  refine Zgt (fun F w H => pgs_ok (pp := pp) (ph := ph) (p := p1) qH H) ?_
  intro hk1
  by_cases he : er = 0
  ·rw [if_pos he]
   have hB := hll he hk1
   have hpl2 : (SlotS.part B fn s.size).length = s.size := SlotS.part_len (by omega)
   refine Y3 ?_
   refine Zot 36 rfl ((fun hh => hh he)) ?_
   refine Y7 ?_
   refine Zm3 (f := u8b) (a := 0#8) rfl rfl rfl qS qS qS ?_; intro b42
   refine V2 ?_
   rw [e3]
   refine x_own (E := 5) (n := B.length) (a := ta) (cp := tc) qH (by omega) ?_
   intro g rest hg hc1 hc2 hr
   subst hg
   refine Y4 ?_
   refine Zor (c := hpd la2 lc2 g B.length tc bf bs (by omega) hc1 (by omega)) (k := ?_)
   rintro _ _ ⟨rfl, rfl⟩
   refine Y1 ?_
   refine Zib rfl rfl ((rd_part qH (by omega))) qR qZ (by first|rfl|exact oneM_u8 _|exact oneL_u8 _|exact acc_one _|assumption|(simp [oneC]; done)) (copy_all hpl2) ?_
   refine V6 ?_
   refine rx2 (Zhc rfl (Zg9 rfl (Zg7))) ?_
   refine ⟨_, ⟨some ⟨b42, 0, none⟩, s.size, by dsimp only; rw [hpl2]; rfl, rfl⟩, ?_⟩
   exact (Imp.arr (N := cl b42 ((SlotS.part B fn s.size).map u8b).toArray 5 :: slL q pp s2 la2 lc2 ++ [pgA pp ph p1, hostA ph h1]) qV).trans ((own_block hpl2 (by omega)).trans (Imp.cons (slA_mk (L := [pgA pp ph p1, hostA ph h1]))))
  ·rw [if_neg he]
   refine Y3 ?_
   refine Zos 36 rfl (he) ?_
   refine V7 ?_
   refine rx2 (Zhc rfl (Zg9 rfl (Zg7))) ?_
   exact ⟨_, ⟨none, 0, rfl, rfl⟩, ((Imp.arr qV).trans (slA_mk (q := q) (pp := pp) (s := s2) (a := la2) (c := lc2) (L := [pgA pp ph p1, hostA ph h1]))).trans Imp.own_nil⟩
 ·have e : SlotS.getS s p h i = (([], 2), s, p, h) := by unfold SlotS.getS; rw [if_neg hh]
  rw [e]
  refine fn_y Tryz.func35 Tryz.mixed ?_
  intro w0
  refine Y7 ?_
  refine Zhn 12 rfl (rfl) ?_
  refine Y5 ?_
  refine Zor (c := shas_x (q := q) (pp := pp) (s := s) (a := la) (c := lc) i) (k := ?_)
  rintro _ _ ⟨rfl, rfl⟩
  refine Y1 ?_
  refine Zot 15 rfl (hh) ?_
  refine Zhg (Zb0 rfl) ?_
  refine Zhm 16 rfl (rfl) ?_
  refine V6 ?_
  refine rx2 (Zhc rfl (Zg9 rfl (Zg7))) ?_
  exact ⟨_, ⟨none, 0, rfl, rfl⟩, ((Imp.arr qV).trans (slA_mk (q := q) (pp := pp) (s := s) (a := la) (c := lc) (L := [pgA pp ph p, hostA ph h]))).trans Imp.own_nil⟩
end
end Go.Sl
namespace Go.Sl
open Go Go.Proofs
attribute [local irreducible] pt pur ex all den denOps denS xOps xC cX CX xthen xblk xcut xloop xng retX resX Calls PV Rd Con
attribute [local irreducible] hostA pgA PagerS.loadP PagerS.saveP
open SlotS (SL Acc Fit)
open PagerS (PS Over)
section
variable {q pp ph : Nat} {s : SL} {p : PS} {h : HostS.HS}
theorem sl_small {F : FuncId} {args : List Value} {v : Value} (hc : ∀ a c, Con Tryz.prog F args [cl q (slc pp s a c) 137] (fun r M => r = v ∧ M = [cl q (slc pp s a c) 137])) : Con Tryz.prog F args [slA q pp s] (fun r M => r = v ∧ M = [slA q pp s]) :=
 Con.slA (L := []) fun a c => ((hc a c).frame (L := [ownAcc a c s.log])).mono fun r M ⟨M', h1, h2⟩ => by
  obtain ⟨h1, h3⟩ := h1
  subst h3 h2
  exact ⟨_, by simpa using slA_mk (q := q) (pp := pp) (s := s) (a := a) (c := c) (L := []), h1, rfl⟩
theorem slen_x : Con Tryz.prog 26 [hp q] [slA q pp s] (fun r M => r = nvv s.n ∧ M = [slA q pp s]) := sl_small fun a c => by
 refine fn_y Tryz.func26 Tryz.mixed ?_
 intro w0
 refine Y6 ?_
 refine Zhn 4 rfl (rfl) ?_
 refine V9 ?_
 refine rx1 (Zg9 rfl (Zg7)) ?_
 exact ⟨_, ⟨rfl, rfl⟩, qI⟩
theorem ssize_x : Con Tryz.prog 27 [hp q] [slA q pp s] (fun r M => r = nvv s.size ∧ M = [slA q pp s]) := sl_small fun a c => by
 refine fn_y Tryz.func27 Tryz.mixed ?_
 intro w0
 refine Y6 ?_
 refine Zhn 4 rfl (rfl) ?_
 refine V9 ?_
 refine rx1 (Zg9 rfl (Zg7)) ?_
 exact ⟨_, ⟨rfl, rfl⟩, qI⟩
theorem cloneA_x {L : List Asrt} {a : Option Addr} {c : Nat} {b : List Acc} (h : Rd L 3 (.slice a b.length c) b.length (b.flatMap accs)) (hl : b.length ≤ 4000000000001) : Con Tryz.prog 77 [.slice a b.length c] L (fun v M => ∃ a' c', v = .slice a' b.length c' ∧ M = ownAcc a' c' b :: L) := by
 cases ha : a.isNone with
 | true =>
  obtain rfl : a = none := by simpa using ha
  by_cases h0 : b.length = 0
  ·obtain rfl : b = [] := List.eq_nil_of_length_eq_zero h0
   refine fn_y Tryz.func77 Tryz.mixed ?_
   intro w0
   refine Y6 ?_
   refine Zhm 4 rfl (rfl) ?_
   refine V5 ?_
   refine rx1 (Zhc rfl (Zg7)) ?_
   exact ⟨_, ⟨none, 0, rfl, rfl⟩, (Imp.arr (N := L) qV).trans Imp.own_nil⟩
  ·refine Con.get (fun w0 w F H => h.someAt (by omega) H) ?_
   rintro ⟨s1, s2, hh⟩
   cases hh
 | false =>
  refine fn_y Tryz.func77 Tryz.mixed ?_
  intro w0
  refine Y6 ?_
  refine Zhn 4 rfl (ha) ?_
  refine Y3 ?_
  refine Zh7 (cs := #[]) (by omega) (by omega) rfl ?_; intro b5; refine Zgw ((Imp.arr (N := cl b5 #[] 151 :: L) qV).trans (Imp.own_mk (E := 151) (size := 3) (n := 0) (cap := 0) (xs := []) (by omega) (by omega) rfl rfl)) ?_
  refine Y1 ?_
  refine Zia rfl rfl qH (h.imp (Imp.arr qV)) (by first|rfl|exact oneM_u8 _|exact oneL_u8 _|exact acc_one _|exact acc_ones _|assumption|(simp [oneC]; done)) (by omega) qS ?_; intro a3 c3
  refine V2 ?_
  rw [Nat.zero_add, List.nil_append]
  refine rx1 (Zhc rfl (Zg7)) ?_
  exact ⟨_, ⟨a3, c3, rfl, rfl⟩, qI⟩
theorem slog_x (hl : s.log.length ≤ 4000000000001) : Con Tryz.prog 28 [hp q] [slA q pp s] (fun r M => ∃ a c, r = .slice a s.log.length c ∧ M = [ownAcc a c s.log, slA q pp s]) := by
 refine Con.slA fun la lc => ?_
 simp only [List.cons_append, List.nil_append]
 have hc := cloneA_x (L := [ownAcc la lc s.log]) (a := la) (c := lc) (b := s.log) (Rd.own .here) hl
 refine fn_y Tryz.func28 Tryz.mixed ?_
 intro w0
 refine Y6 ?_
 refine Zhn 4 rfl (rfl) ?_
 refine Y7 ?_
 refine Zor (c := hc) (k := ?_)
 rintro _ _ ⟨a, c, rfl, rfl⟩
 refine V3 ?_
 refine rx1 (Zhc rfl (Zg7)) ?_
 refine ⟨_, ⟨a, c, rfl, rfl⟩, ?_⟩
 exact (Imp.arr (N := ownAcc a c s.log :: (slL q pp s la lc ++ [])) qV).trans (Imp.cons (slA_mk (L := [])))
theorem sset_x {L : List Asrt} (f : Fit s p) (hk : PagerS.Ok p) (hov : Over p h) (hops : h.ops + 3 < 3518437208880) (hl : s.log.length ≤ 4000000000000) (i : Int) {vb : Value} {b : List Byte} (hb : Bs L vb b) : Con Tryz.prog 31 [hp q, .int .i64 i, vb] (slA q pp s :: pgA pp ph p :: hostA ph h :: L) (fun r M => r = nvv (SlotS.setS s p h i b).1 ∧ M = slA q pp (SlotS.setS s p h i b).2.1 :: pgA pp ph (SlotS.setS s p h i b).2.2.1 :: hostA ph (SlotS.setS s p h i b).2.2.2 :: L) := by
 refine Con.get (fun w0 w F H => hb.sh _ _ _ (H.enx (Imp.tail.trans (Imp.tail.trans Imp.tail)))) ?_
 rintro ⟨ba, bc, rfl, hbc, hbcm⟩
 refine Con.slA fun la lc => ?_
 simp only [List.cons_append, List.nil_append]
 have hback : ∀ (s : SL) (p : PS) (h : HostS.HS) (la : Option Addr) (lc : Nat), Imp (slL q pp s la lc ++ (pgA pp ph p :: hostA ph h :: L)) (slA q pp s :: pgA pp ph p :: hostA ph h :: L) := fun s p h la lc => slA_mk
 simp only [List.cons_append, List.nil_append] at hback
 by_cases hh : SlotS.has s i
 ·by_cases hbl : b.length = s.size
  ·obtain ⟨i, rfl⟩ : ∃ n : Nat, i = n := ⟨i.toNat, by have := hh.1; omega⟩
   have hin : i < s.n := by have := hh.2; omega
   have ht1 := hk.t1
   have hp1 := hk.p1
   have hpage := f.page hin
   have hfrom := f.from i
   have hsz1 := f.size
   have hll := fun he hk1 => SlotS.load_text (p := p) (h := h) (n := ((SlotS.pg s i : Nat) : Int)) he hk1
   have hld := load_x (p := pp) (ph := ph) hov (by omega) ((SlotS.pg s i : Nat) : Int)
   have hov1 := (PagerS.near_load p h ((SlotS.pg s i : Nat) : Int)).over hov
   have hop1 := (PagerS.near_load p h ((SlotS.pg s i : Nat) : Int)).ops
   have e : SlotS.setS s p h (i : Int) b = (if (PagerS.loadP p h (SlotS.pg s i : Nat)).1.2 = 0 then ((PagerS.saveP (PagerS.loadP p h (SlotS.pg s i : Nat)).2.1 (PagerS.loadP p h (SlotS.pg s i : Nat)).2.2 (SlotS.pg s i : Nat) (SlotS.lay (PagerS.loadP p h (SlotS.pg s i : Nat)).1.1 (SlotS.fr s i) b)).1, SlotS.touch s 1 i 0, (PagerS.saveP (PagerS.loadP p h (SlotS.pg s i : Nat)).2.1 (PagerS.loadP p h (SlotS.pg s i : Nat)).2.2 (SlotS.pg s i : Nat) (SlotS.lay (PagerS.loadP p h (SlotS.pg s i : Nat)).1.1 (SlotS.fr s i) b)).2) else ((PagerS.loadP p h (SlotS.pg s i : Nat)).1.2, SlotS.touch s 1 i 0, ((PagerS.loadP p h (SlotS.pg s i : Nat)).2.1, (PagerS.loadP p h (SlotS.pg s i : Nat)).2.2))) := by
    unfold SlotS.setS
    rw [if_pos hh, if_pos hbl, Int.toNat_natCast]
   rw [e]
   have htc := fun a c => stouch_x (q := q) (pp := pp) (s := s) (a := a) (c := c) 1 i 0 hl
   have hpl := fun a c => splace_x (q := q) (pp := pp) (s := SlotS.touch s 1 i 0) (a := a) (c := c) i (f.touch 1 i 0).per1 (f.small hin hp1 ht1) (by show SlotS.fr s i ≤ 4096; omega) (by show SlotS.pg s i ≤ 65536; omega)
   have hpd := fun a c g n cp bf bs h1 h2 h3 => splaced_x (q := q) (pp := pp) (s := SlotS.touch s 1 i 0) (a := a) (c := c) (g := g) (n := n) (cp := cp) (bf := bf) (bs := bs) (f := SlotS.fr s i) f.size h1 h2 h3
   have e1 : SlotS.pg (SlotS.touch s 1 i 0) i = SlotS.pg s i := rfl
   have e2 : SlotS.fr (SlotS.touch s 1 i 0) i = SlotS.fr s i := rfl
   have e3 : (SlotS.touch s 1 i 0).size = s.size := rfl
   rw [e1, e2] at hpl
   rw [e3] at hpd
   generalize hs2 : SlotS.touch s 1 i 0 = s2 at *
   generalize (PagerS.loadP p h (SlotS.pg s i : Nat)).2.1 = p1 at *
   generalize (PagerS.loadP p h (SlotS.pg s i : Nat)).2.2 = h1 at *
   generalize (PagerS.loadP p h (SlotS.pg s i : Nat)).1.2 = er at *
   generalize (PagerS.loadP p h (SlotS.pg s i : Nat)).1.1 = B at *
   generalize SlotS.pg s i = pn at *
   generalize SlotS.fr s i = fn at *
   refine fn_y Tryz.func31 Tryz.mixed ?_
   intro w0
   refine Y6 ?_
   refine Zhn 12 rfl (rfl) ?_
   refine Y5 ?_
   refine Zor (c := shas_x (q := q) (pp := pp) (s := s) (a := la) (c := lc) i) (k := ?_)
   rintro _ _ ⟨rfl, rfl⟩
   refine Y1 ?_
   refine Zos 15 rfl (hh) ?_
   refine Zhg (Zb0 rfl) ?_
   refine Zhn 16 rfl (rfl) ?_
   refine Y9 ?_
   refine Zhg (Zmk (a := b.length) (b := s.size) rfl rfl) ?_
   refine Zot 23 rfl ((fun hh => hh hbl)) ?_
   refine Y5 ?_
   refine Zor (c := htc la lc) (k := ?_)
   rintro _ _ ⟨la2, lc2, rfl⟩
   refine Y5 ?_
   refine Zor (c := hpl la2 lc2) (k := ?_)
   rintro _ _ ⟨bf, bs, rfl, rfl⟩
   refine Y13 ?_
   refine Zor (c := hld) (k := ?_)
   rintro _ _ ⟨ta, tc, rfl, rfl⟩
   refine V7 ?_
   refine Zgt (fun F w H => pgs_ok (pp := pp) (ph := ph) (p := p1) qH H) ?_
   intro hk1
   by_cases he : er = 0
   ·rw [if_pos he]
    have hB := hll he hk1
    have hlayl := SlotS.lay_len (t := B) (b := b) (a := fn) (by omega)
    refine Y3 ?_
    refine Zot 43 rfl ((fun hh => hh he)) ?_
    refine V2 ?_
    refine x_own (E := 5) (n := B.length) (a := ta) (cp := tc) qH (by omega) ?_
    intro g rest hg hc1 hc2 hr
    subst hg
    have hsv := save_x (p := pp) (ph := ph) (s := p1) (h := h1) (L := [cl g ((SlotS.lay B fn b).map u8b ++ rest).toArray 5]) hov1 (by omega) (pn : Int) (lay_bs (n := B.length) (c := tc) .here hlayl hc1 hc2)
    refine Y3 ?_
    refine Zor (c := hpd la2 lc2 g B.length tc bf bs (by omega) hc1 (by omega)) (k := ?_)
    rintro _ _ ⟨rfl, rfl⟩
    refine Y2 ?_
    refine Zib rfl rfl ((hb.rd.imp (Imp.arr qV))) qR qZ (by first|rfl|exact oneM_u8 _|exact oneL_u8 _|exact acc_one _|exact acc_ones _|assumption|(simp [oneC]; done)) (copy_lay (B := B) (f := fn) (rest := rest) hbl (by omega)) ?_
    refine Y8 ?_
    refine Zor (c := hsv) (k := ?_)
    rintro _ _ ⟨rfl, rfl⟩
    refine V3 ?_
    refine rx1 (Zg9 rfl (Zg7)) ?_
    refine ⟨_, ⟨rfl, rfl⟩, ?_⟩
    exact (Imp.arr qV).trans (hback s2 _ _ la2 lc2)
   ·rw [if_neg he]
    refine Y3 ?_
    refine Zos 43 rfl (he) ?_
    refine V6 ?_
    refine rx1 (Zg9 rfl (Zg7)) ?_
    exact ⟨_, ⟨rfl, rfl⟩, (Imp.arr qV).trans (hback s2 _ _ la2 lc2)⟩
  ·have e : SlotS.setS s p h i b = (4, s, p, h) := by unfold SlotS.setS; rw [if_pos hh, if_neg hbl]
   rw [e]
   refine fn_y Tryz.func31 Tryz.mixed ?_
   intro w0
   refine Y6 ?_
   refine Zhn 12 rfl (rfl) ?_
   refine Y5 ?_
   refine Zor (c := shas_x (q := q) (pp := pp) (s := s) (a := la) (c := lc) i) (k := ?_)
   rintro _ _ ⟨rfl, rfl⟩
   refine Y1 ?_
   refine Zos 15 rfl (hh) ?_
   refine Zhg (Zb0 rfl) ?_
   refine Zhn 16 rfl (rfl) ?_
   refine Y9 ?_
   refine Zhg (Zmk (a := b.length) (b := s.size) rfl rfl) ?_
   refine Zos 23 rfl (hbl) ?_
   refine V5 ?_
   refine rx1 (Zg9 rfl (Zg7)) ?_
   exact ⟨_, ⟨rfl, rfl⟩, (Imp.arr qV).trans (hback s p h la lc)⟩
 ·have e : SlotS.setS s p h i b = (2, s, p, h) := by unfold SlotS.setS; rw [if_neg hh]
  rw [e]
  refine fn_y Tryz.func31 Tryz.mixed ?_
  intro w0
  refine Y6 ?_
  refine Zhn 12 rfl (rfl) ?_
  refine Y5 ?_
  refine Zor (c := shas_x (q := q) (pp := pp) (s := s) (a := la) (c := lc) i) (k := ?_)
  rintro _ _ ⟨rfl, rfl⟩
  refine Y1 ?_
  refine Zot 15 rfl (hh) ?_
  refine Zhg (Zb0 rfl) ?_
  refine Zhm 16 rfl (rfl) ?_
  refine V5 ?_
  refine rx1 (Zg9 rfl (Zg7)) ?_
  exact ⟨_, ⟨rfl, rfl⟩, (Imp.arr qV).trans (hback s p h la lc)⟩
end
end Go.Sl
namespace Go.Sl
open Go Go.Proofs
attribute [local irreducible] pt pur ex all den denOps denS xOps xC cX CX xthen xblk xcut xloop xng retX resX Calls PV Rd Con
attribute [local irreducible] hostA pgA
open SlotS (SL Acc Fit)
open PagerS (PS Over)
theorem take_le {n per : Nat} (h1 : 1 ≤ per) (hn : n ≤ 9223372036854775807) (h0 : n % per ≠ 0) : n / per + 1 ≤ 9223372036854775807 := by
 have h2 : 2 ≤ per := by
  by_cases e : per = 1
  ·subst e; omega
  ·omega
 have : n / per ≤ n / 2 := Nat.div_le_div_left h2 (by omega)
 omega
theorem spages_x (n per : Nat) (h1 : 1 ≤ per) (hn : n ≤ 9223372036854775807) : Con Tryz.prog 72 [nvv n, nvv per] [] (fun r M => r = nvv (SlotS.takeN n per) ∧ M = []) := by
 unfold SlotS.takeN
 by_cases h0 : n % per = 0
 ·rw [if_pos h0, Nat.add_zero]
  refine fn_y Tryz.func72 Tryz.mixed ?_
  intro w0
  refine Y14 ?_
  refine Zot 12 rfl ((fun hh => hh h0)) ?_
  refine V6 ?_
  refine rx1 (Zg9 rfl (Zg7)) ?_
  exact ⟨_, ⟨rfl, rfl⟩, qI⟩
 ·rw [if_neg h0]
  have := take_le h1 hn h0
  refine fn_y Tryz.func72 Tryz.mixed ?_
  intro w0
  refine Y14 ?_
  refine Zos 12 rfl (h0) ?_
  refine V11 ?_
  refine rx1 (Zg9 rfl (Zg7)) ?_
  exact ⟨_, ⟨rfl, rfl⟩, qI⟩
theorem sPages_x (n size text : Int) (hn : n ≤ 9223372036854775807) (hz : size ≤ 9223372036854775807) (ht : text ≤ 9223372036854775807) : Con Tryz.prog 14 [.int .i64 n, .int .i64 size, .int .i64 text] [] (fun r M => r = .tuple #[.int .i64 (SlotS.pagesS n size text).1, nvv (SlotS.pagesS n size text).2] ∧ M = []) := by
 unfold SlotS.pagesS
 by_cases h1 : n < 0
 ·rw [if_pos (.inl h1)]
  refine fn_y Tryz.func14 Tryz.mixed ?_
  intro w0
  refine Y6 ?_
  refine Zhg (Zbn (b := 0) rfl rfl) ?_
  refine Zos 10 rfl (h1) ?_
  refine V10 ?_
  refine rx2 (Zg9 rfl (Zg9 rfl (Zg7))) ?_
  exact ⟨_, ⟨rfl, rfl⟩, qI⟩
 by_cases h2 : size < 1
 ·rw [if_pos (.inr h2)]
  refine fn_y Tryz.func14 Tryz.mixed ?_
  intro w0
  refine Y6 ?_
  refine Zhg (Zbn (b := 0) rfl rfl) ?_
  refine Zot 10 rfl (h1) ?_
  refine Y2 ?_
  first|refine Y0 ?_|(refine Zhh rfl ?_; (refine Zhg (Zbn (b := 1) rfl rfl) ?_))
  refine Zos 13 rfl (h2) ?_
  refine V7 ?_
  refine rx2 (Zg9 rfl (Zg9 rfl (Zg7))) ?_
  exact ⟨_, ⟨rfl, rfl⟩, qI⟩
 rw [if_neg (show ¬ (n < 0 ∨ size < 1) by omega)]
 by_cases h3 : text < size
 ·rw [if_pos h3]
  refine fn_y Tryz.func14 Tryz.mixed ?_
  intro w0
  refine Y6 ?_
  refine Zhg (Zbn (b := 0) rfl rfl) ?_
  refine Zot 10 rfl (h1) ?_
  refine Y2 ?_
  first|refine Y0 ?_|(refine Zhh rfl ?_; (refine Zhg (Zbn (b := 1) rfl rfl) ?_))
  refine Zot 13 rfl (h2) ?_
  refine Y6 ?_
  refine Zhg (Zbp (a := size) (b := text) rfl rfl) ?_
  refine Zos 17 rfl (h3) ?_
  refine V6 ?_
  refine rx2 (Zg9 rfl (Zg9 rfl (Zg7))) ?_
  exact ⟨_, ⟨rfl, rfl⟩, qI⟩
 rw [if_neg h3]
 obtain ⟨n, rfl⟩ : ∃ k : Nat, n = k := ⟨n.toNat, by omega⟩
 obtain ⟨z, rfl⟩ : ∃ k : Nat, size = k := ⟨size.toNat, by omega⟩
 obtain ⟨t, rfl⟩ : ∃ k : Nat, text = k := ⟨text.toNat, by omega⟩
 simp only [Int.toNat_natCast]
 have hd : 1 ≤ t / z := Nat.div_pos (by omega) (by omega)
 have hpx := spages_x n (t / z) hd (by omega)
 by_cases h4 : 65536 < SlotS.takeN n (t / z)
 ·rw [if_pos h4]
  refine fn_y Tryz.func14 Tryz.mixed ?_
  intro w0
  refine Y6 ?_
  refine Zhg (Zbn (a := (n : Int)) (b := 0) rfl rfl) ?_
  refine Zot 10 rfl (h1) ?_
  refine Y2 ?_
  first|refine Y0 ?_|(refine Zhh rfl ?_; (refine Zhg (Zbn (a := (z : Int)) (b := 1) rfl rfl) ?_))
  refine Zot 13 rfl (h2) ?_
  refine Y6 ?_
  refine Zhg (Zbp (a := (z : Int)) (b := (t : Int)) rfl rfl) ?_
  refine Zot 17 rfl (h3) ?_
  refine Y7 ?_
  refine Zor (c := hpx) (k := ?_)
  rintro _ _ ⟨rfl, rfl⟩
  refine Y6 ?_
  refine Zos 24 rfl (h4) ?_
  refine V6 ?_
  refine rx2 (Zg9 rfl (Zg9 rfl (Zg7))) ?_
  exact ⟨_, ⟨rfl, rfl⟩, qI⟩
 ·rw [if_neg h4]
  refine fn_y Tryz.func14 Tryz.mixed ?_
  intro w0
  refine Y6 ?_
  refine Zhg (Zbn (a := (n : Int)) (b := 0) rfl rfl) ?_
  refine Zot 10 rfl (h1) ?_
  refine Y2 ?_
  first|refine Y0 ?_|(refine Zhh rfl ?_; (refine Zhg (Zbn (a := (z : Int)) (b := 1) rfl rfl) ?_))
  refine Zot 13 rfl (h2) ?_
  refine Y6 ?_
  refine Zhg (Zbp (a := (z : Int)) (b := (t : Int)) rfl rfl) ?_
  refine Zot 17 rfl (h3) ?_
  refine Y7 ?_
  refine Zor (c := hpx) (k := ?_)
  rintro _ _ ⟨rfl, rfl⟩
  refine Y6 ?_
  refine Zot 24 rfl (h4) ?_
  refine V7 ?_
  refine rx2 (Zg9 rfl (Zg9 rfl (Zg7))) ?_
  exact ⟨_, ⟨rfl, rfl⟩, qI⟩
section
variable {pp ph : Nat} {p : PS}
theorem slnew_nil (first n size : Int) : Con Tryz.prog 17 [.pointer none, .int .i64 first, .int .i64 n, .int .i64 size] [] (fun r M => r = .tuple #[.pointer none, nvv 1] ∧ M = []) := by
 refine fn_y Tryz.func17 Tryz.mixed ?_
 intro w0
 refine Y7 ?_
 refine Zhm 12 rfl (rfl) ?_
 refine V6 ?_
 refine rx2 (Zhb rfl (Zg9 rfl (Zg7))) ?_
 exact ⟨_, ⟨rfl, rfl⟩, qI⟩
theorem slnew_x (hk : PagerS.Ok p) (first n size : Int) (hf : first ≤ 9223372036854775807) (hn : n ≤ 9223372036854775807) (hz : size ≤ 9223372036854775807) : Con Tryz.prog 17 [hp pp, .int .i64 first, .int .i64 n, .int .i64 size] [pgA pp ph p] (fun r M => (SlotS.newS first n size p = 0 ∧ ∃ q, r = .tuple #[hp q, nvv 0] ∧ M = [slA q pp (SlotS.freshS first n size p), pgA pp ph p]) ∨ (SlotS.newS first n size p ≠ 0 ∧ r = .tuple #[.pointer none, nvv (SlotS.newS first n size p)] ∧ M = [pgA pp ph p])) := by
 have ht1 := hk.t1
 have hp0 := hk.p0
 have hp1 := hk.p1
 unfold SlotS.newS
 by_cases h1 : first < 0
 ·rw [if_pos (.inl h1)]
  refine fn_y Tryz.func17 Tryz.mixed ?_
  intro w0
  refine Y7 ?_
  refine Zhn 12 rfl (rfl) ?_
  refine Y4 ?_
  refine Zhg (Zbn (b := 0) rfl rfl) ?_
  refine Zos 14 rfl (h1) ?_
  refine V14 ?_
  refine rx2 (Zhb rfl (Zg9 rfl (Zg7))) ?_
  exact ⟨_, .inr ⟨by omega, rfl, rfl⟩, qI⟩
 by_cases h2 : n < 0
 ·rw [if_pos (.inr (.inl h2))]
  refine fn_y Tryz.func17 Tryz.mixed ?_
  intro w0
  refine Y7 ?_
  refine Zhn 12 rfl (rfl) ?_
  refine Y4 ?_
  refine Zhg (Zbn (b := 0) rfl rfl) ?_
  refine Zot 14 rfl (h1) ?_
  refine Y2 ?_
  first|refine Y0 ?_|(refine Zhh rfl ?_; (refine Zhg (Zbn (b := 0) rfl rfl) ?_))
  refine Zos 17 rfl (h2) ?_
  refine V11 ?_
  refine rx2 (Zhb rfl (Zg9 rfl (Zg7))) ?_
  exact ⟨_, .inr ⟨by omega, rfl, rfl⟩, qI⟩
 by_cases h3 : size < 1
 ·rw [if_pos (.inr (.inr h3))]
  refine fn_y Tryz.func17 Tryz.mixed ?_
  intro w0
  refine Y7 ?_
  refine Zhn 12 rfl (rfl) ?_
  refine Y4 ?_
  refine Zhg (Zbn (b := 0) rfl rfl) ?_
  refine Zot 14 rfl (h1) ?_
  refine Y2 ?_
  first|refine Y0 ?_|(refine Zhh rfl ?_; (refine Zhg (Zbn (b := 0) rfl rfl) ?_))
  refine Zot 17 rfl (h2) ?_
  refine Y3 ?_
  first|refine Y0 ?_|(refine Zhh rfl ?_; (refine Zhg (Zbn (b := 1) rfl rfl) ?_))
  refine Zos 21 rfl (h3) ?_
  refine V7 ?_
  refine rx2 (Zhb rfl (Zg9 rfl (Zg7))) ?_
  exact ⟨_, .inr ⟨by omega, rfl, rfl⟩, qI⟩
 rw [if_neg (show ¬ (first < 0 ∨ n < 0 ∨ size < 1) by omega)]
 by_cases h4 : (p.text : Int) < size
 ·rw [if_pos h4]
  refine fn_y Tryz.func17 Tryz.mixed ?_
  intro w0
  refine Y7 ?_
  refine Zhn 12 rfl (rfl) ?_
  refine Y4 ?_
  refine Zhg (Zbn (b := 0) rfl rfl) ?_
  refine Zot 14 rfl (h1) ?_
  refine Y2 ?_
  first|refine Y0 ?_|(refine Zhh rfl ?_; (refine Zhg (Zbn (b := 0) rfl rfl) ?_))
  refine Zot 17 rfl (h2) ?_
  refine Y3 ?_
  first|refine Y0 ?_|(refine Zhh rfl ?_; (refine Zhg (Zbn (b := 1) rfl rfl) ?_))
  refine Zot 21 rfl (h3) ?_
  refine Y6 ?_
  refine Zor (c := text_p (p := pp) (ph := ph)) (k := ?_)
  rintro _ _ ⟨rfl, rfl⟩
  refine Y1 ?_
  refine Zhg (Zbp (a := size) (b := (p.text : Int)) rfl rfl) ?_
  refine Zos 26 rfl (h4) ?_
  refine V6 ?_
  refine rx2 (Zhb rfl (Zg9 rfl (Zg7))) ?_
  exact ⟨_, .inr ⟨by omega, rfl, rfl⟩, qI⟩
 rw [if_neg h4]
 obtain ⟨f, rfl⟩ : ∃ k : Nat, first = k := ⟨first.toNat, by omega⟩
 obtain ⟨n, rfl⟩ : ∃ k : Nat, n = k := ⟨n.toNat, by omega⟩
 obtain ⟨z, rfl⟩ : ∃ k : Nat, size = k := ⟨size.toNat, by omega⟩
 simp only [Int.toNat_natCast]
 have ef : SlotS.freshS (f : Int) (n : Int) (z : Int) p = ⟨f, n, z, p.text / z, []⟩ := rfl
 rw [ef]
 have hd : 1 ≤ p.text / z := Nat.div_pos (by omega) (by omega)
 have hd2 : p.text / z ≤ 4096 := Nat.le_trans (Nat.div_le_self _ _) ht1
 have hpx := spages_x n (p.text / z) hd (by omega)
 by_cases h5 : p.pages < (f : Int)
 ·rw [if_pos (.inl h5)]
  refine fn_y Tryz.func17 Tryz.mixed ?_
  intro w0
  refine Y7 ?_
  refine Zhn 12 rfl (rfl) ?_
  refine Y4 ?_
  refine Zhg (Zbn (a := (f : Int)) (b := 0) rfl rfl) ?_
  refine Zot 14 rfl (h1) ?_
  refine Y2 ?_
  first|refine Y0 ?_|(refine Zhh rfl ?_; (refine Zhg (Zbn (a := (n : Int)) (b := 0) rfl rfl) ?_))
  refine Zot 17 rfl (h2) ?_
  refine Y3 ?_
  first|refine Y0 ?_|(refine Zhh rfl ?_; (refine Zhg (Zbn (a := (z : Int)) (b := 1) rfl rfl) ?_))
  refine Zot 21 rfl (h3) ?_
  refine Y6 ?_
  refine Zor (c := text_p (p := pp) (ph := ph)) (k := ?_)
  rintro _ _ ⟨rfl, rfl⟩
  refine Y1 ?_
  refine Zhg (Zbp (a := (z : Int)) (b := (p.text : Int)) rfl rfl) ?_
  refine Zot 26 rfl (h4) ?_
  refine Y8 ?_
  refine Zor (c := text_p (p := pp) (ph := ph)) (k := ?_)
  rintro _ _ ⟨rfl, rfl⟩
  refine Y3 ?_
  refine Zhg (Zdm (cs := slc pp ⟨f, n, z, p.text / z, []⟩ none 0) rfl) ?_
  refine Zh5 rfl ?_; intro b36
  refine Y5 ?_
  refine Zor (c := pages_p (p := pp) (ph := ph)) (k := ?_)
  rintro _ _ ⟨rfl, rfl⟩
  refine Y1 ?_
  refine Zhg (Zbp (a := (f : Int)) (b := p.pages) rfl rfl) ?_
  refine Zos 40 rfl (h5) ?_
  refine V19 ?_
  refine rx2 (Zhb rfl (Zg9 rfl (Zg7))) ?_
  exact ⟨_, .inr ⟨by omega, rfl, rfl⟩, qI⟩
 by_cases h6 : p.pages - (f : Int) < SlotS.takeN n (p.text / z)
 ·rw [if_pos (.inr h6)]
  refine fn_y Tryz.func17 Tryz.mixed ?_
  intro w0
  refine Y7 ?_
  refine Zhn 12 rfl (rfl) ?_
  refine Y4 ?_
  refine Zhg (Zbn (a := (f : Int)) (b := 0) rfl rfl) ?_
  refine Zot 14 rfl (h1) ?_
  refine Y2 ?_
  first|refine Y0 ?_|(refine Zhh rfl ?_; (refine Zhg (Zbn (a := (n : Int)) (b := 0) rfl rfl) ?_))
  refine Zot 17 rfl (h2) ?_
  refine Y3 ?_
  first|refine Y0 ?_|(refine Zhh rfl ?_; (refine Zhg (Zbn (a := (z : Int)) (b := 1) rfl rfl) ?_))
  refine Zot 21 rfl (h3) ?_
  refine Y6 ?_
  refine Zor (c := text_p (p := pp) (ph := ph)) (k := ?_)
  rintro _ _ ⟨rfl, rfl⟩
  refine Y1 ?_
  refine Zhg (Zbp (a := (z : Int)) (b := (p.text : Int)) rfl rfl) ?_
  refine Zot 26 rfl (h4) ?_
  refine Y8 ?_
  refine Zor (c := text_p (p := pp) (ph := ph)) (k := ?_)
  rintro _ _ ⟨rfl, rfl⟩
  refine Y3 ?_
  refine Zhg (Zdm (cs := slc pp ⟨f, n, z, p.text / z, []⟩ none 0) rfl) ?_
  refine Zh5 rfl ?_; intro b36
  refine Y5 ?_
  refine Zor (c := pages_p (p := pp) (ph := ph)) (k := ?_)
  rintro _ _ ⟨rfl, rfl⟩
  refine Y1 ?_
  refine Zhg (Zbp (a := (f : Int)) (b := p.pages) rfl rfl) ?_
  refine Zot 40 rfl (h5) ?_
  refine Y6 ?_
  first|refine Y0 ?_|(refine Zhh rfl ?_; (refine Zor (c := hpx) (k := ?_)); (rintro _ _ ⟨rfl, rfl⟩); (refine Zg2 qA ?_))
  refine Y1 ?_
  first|refine Y0 ?_|(refine Zhh rfl ?_; (refine Zor (c := pages_p (p := pp) (ph := ph)) (k := ?_)); (rintro _ _ ⟨rfl, rfl⟩); (refine Zg2 qA ?_))
  refine Y1 ?_
  first|refine Y0 ?_|(refine Zhh rfl ?_; (refine Zhg (Zbh (a := p.pages) (b := (f : Int)) rfl rfl (by omega)) ?_))
  first|refine Y0 ?_|(refine Zhh rfl ?_; (refine Zhg (Zbp (a := ((SlotS.takeN n (p.text / z) : Nat) : Int)) (b := p.pages - (f : Int)) rfl rfl) ?_))
  refine Zos 52 rfl (h6) ?_
  refine V7 ?_
  refine rx2 (Zhb rfl (Zg9 rfl (Zg7))) ?_
  exact ⟨_, .inr ⟨by omega, rfl, rfl⟩, qI⟩
 ·rw [if_neg (show ¬ (p.pages < (f : Int) ∨ p.pages - (f : Int) < SlotS.takeN n (p.text / z)) by omega)]
  refine fn_y Tryz.func17 Tryz.mixed ?_
  intro w0
  refine Y7 ?_
  refine Zhn 12 rfl (rfl) ?_
  refine Y4 ?_
  refine Zhg (Zbn (a := (f : Int)) (b := 0) rfl rfl) ?_
  refine Zot 14 rfl (h1) ?_
  refine Y2 ?_
  first|refine Y0 ?_|(refine Zhh rfl ?_; (refine Zhg (Zbn (a := (n : Int)) (b := 0) rfl rfl) ?_))
  refine Zot 17 rfl (h2) ?_
  refine Y3 ?_
  first|refine Y0 ?_|(refine Zhh rfl ?_; (refine Zhg (Zbn (a := (z : Int)) (b := 1) rfl rfl) ?_))
  refine Zot 21 rfl (h3) ?_
  refine Y6 ?_
  refine Zor (c := text_p (p := pp) (ph := ph)) (k := ?_)
  rintro _ _ ⟨rfl, rfl⟩
  refine Y1 ?_
  refine Zhg (Zbp (a := (z : Int)) (b := (p.text : Int)) rfl rfl) ?_
  refine Zot 26 rfl (h4) ?_
  refine Y8 ?_
  refine Zor (c := text_p (p := pp) (ph := ph)) (k := ?_)
  rintro _ _ ⟨rfl, rfl⟩
  refine Y3 ?_
  refine Zhg (Zdm (cs := slc pp ⟨f, n, z, p.text / z, []⟩ none 0) rfl) ?_
  refine Zh5 rfl ?_; intro b36
  refine Y5 ?_
  refine Zor (c := pages_p (p := pp) (ph := ph)) (k := ?_)
  rintro _ _ ⟨rfl, rfl⟩
  refine Y1 ?_
  refine Zhg (Zbp (a := (f : Int)) (b := p.pages) rfl rfl) ?_
  refine Zot 40 rfl (h5) ?_
  refine Y6 ?_
  first|refine Y0 ?_|(refine Zhh rfl ?_; (refine Zor (c := hpx) (k := ?_)); (rintro _ _ ⟨rfl, rfl⟩); (refine Zg2 qA ?_))
  refine Y1 ?_
  first|refine Y0 ?_|(refine Zhh rfl ?_; (refine Zor (c := pages_p (p := pp) (ph := ph)) (k := ?_)); (rintro _ _ ⟨rfl, rfl⟩); (refine Zg2 qA ?_))
  refine Y1 ?_
  first|refine Y0 ?_|(refine Zhh rfl ?_; (refine Zhg (Zbh (a := p.pages) (b := (f : Int)) rfl rfl (by omega)) ?_))
  first|refine Y0 ?_|(refine Zhh rfl ?_; (refine Zhg (Zbp (a := ((SlotS.takeN n (p.text / z) : Nat) : Int)) (b := p.pages - (f : Int)) rfl rfl) ?_))
  refine Zot 52 rfl (h6) ?_
  refine V8 ?_
  refine rx2 (Zhb rfl (Zg9 rfl (Zg7))) ?_
  refine ⟨_, .inl ⟨rfl, b36, rfl, rfl⟩, ?_⟩
  exact ((Imp.arr (N := cl b36 (slc pp ⟨f, n, z, p.text / z, []⟩ none 0) 137 :: [pgA pp ph p]) qV).trans (Imp.own_nil (E := 151) (size := 3))).trans ((Imp.arr (N := slL b36 pp ⟨f, n, z, p.text / z, []⟩ none 0 ++ [pgA pp ph p]) qV).trans slA_mk)
theorem slnew_ok (hk : PagerS.Ok p) {first n size : Int} (hf : first ≤ 9223372036854775807) (hn : n ≤ 9223372036854775807) (hz : size ≤ 9223372036854775807) (h : SlotS.newS first n size p = 0) : Con Tryz.prog 17 [hp pp, .int .i64 first, .int .i64 n, .int .i64 size] [pgA pp ph p] (fun r M => ∃ q, r = .tuple #[hp q, nvv 0] ∧ M = [slA q pp (SlotS.freshS first n size p), pgA pp ph p]) :=
 (slnew_x hk first n size hf hn hz).mono fun r M hh => by
  rcases hh with ⟨_, q, h1, h2⟩|⟨hne, _⟩
  ·exact ⟨M, Imp.refl _, q, h1, h2⟩
  ·exact absurd h hne
theorem slnew_no (hk : PagerS.Ok p) {first n size : Int} (hf : first ≤ 9223372036854775807) (hn : n ≤ 9223372036854775807) (hz : size ≤ 9223372036854775807) (h : SlotS.newS first n size p ≠ 0) : Con Tryz.prog 17 [hp pp, .int .i64 first, .int .i64 n, .int .i64 size] [pgA pp ph p] (fun r M => r = .tuple #[.pointer none, nvv (SlotS.newS first n size p)] ∧ M = [pgA pp ph p]) :=
 (slnew_x hk first n size hf hn hz).mono fun r M hh => by
  rcases hh with ⟨he, _⟩|⟨_, h1, h2⟩
  ·exact absurd he h
  ·exact ⟨M, Imp.refl _, h1, h2⟩
end
end Go.Sl
namespace Go.Sl
open Go HostS
def Later (fl : List Fault) (s : HS) : Prop := ∀ k : Int, (s.ops : Int) ≤ k → s.coming k = comes fl k
end Go.Sl
namespace Go.Sl
open Go
end Go.Sl
namespace Go.Sl
open Go Go.Proofs
attribute [local irreducible] pt pur ex all den denOps denS xOps xC cX CX xthen xblk xcut xloop xng retX resX Calls PV Rd Con
abbrev Part := Option Addr × Nat × List Byte
def vP (p : Part) : Value := .slice p.1 p.2.2.length p.2.1
def ownP (p : Part) : Asrt := own 5 1 (vP p) p.2.2.length (p.2.2.map u8b)
end Go.Sl
namespace Go.Sl
open Go Go.Proofs
attribute [local irreducible] pt pur ex all den denOps denS xOps xC cX CX xthen xblk xcut xloop xng retX resX Calls PV Rd Con
attribute [local irreducible] hostA
abbrev rcl (pages : Int) (size : Nat) (fa : Option Addr) (nf fc : Nat) (wa : Option Addr) (nw wc : Nat) (reg : BitVec 64) (ops : Nat) (la : Option Addr) (nl lc : Nat) (down : Bool) : Array Value :=
 #[.int .i64 pages, nvv size, .slice fa nf fc, .slice wa nw wc, u64b reg, nvv ops, .slice la nl lc, .bool down]
abbrev WrE := Int × Part
def wcell (e : WrE) : List Value := [.int .i64 e.1, vP e.2]
def rowsW (wl : List WrE) (page : Int) : List (List Byte) := (wl.filter fun e => e.1 == page).map (·.2.2.2)
section
variable {q pc : Nat} {pages : Int} {size fc wc ops lc : Nat} {fa wa la : Option Addr} {reg : BitVec 64} {down : Bool} {fl : List HostS.Fault} {wl : List WrE} {log : List HostS.Touch} {nf nw nl : Nat}
end
end Go.Sl
namespace Go.Sl
open Go Go.Proofs
attribute [local irreducible] pt pur ex all den denOps denS xOps xC cX CX xthen xblk xcut xloop xng retX resX Calls PV Rd Con
attribute [local irreducible] hostA
section
variable {q pc : Nat} {pages : Int} {size fc wc ops lc : Nat} {fa wa la : Option Addr} {reg : BitVec 64} {down : Bool} {fl : List HostS.Fault} {wl : List WrE} {log : List HostS.Touch} {nf nw nl : Nat}
end
end Go.Sl
namespace Go.Sl
open Go Go.Proofs
attribute [local irreducible] pt pur ex all den denOps denS xOps xC cX CX xthen xblk xcut xloop xng retX resX Calls PV Rd Con
attribute [local irreducible] hostA
section
variable {q pc : Nat} {pages : Int} {size fc wc ops lc : Nat} {fa wa la : Option Addr} {reg : BitVec 64} {down : Bool} {fl : List HostS.Fault} {wl : List WrE} {log : List HostS.Touch} {nf nw nl : Nat}
end
end Go.Sl
namespace Go.Sl
open Go Go.Proofs
attribute [local irreducible] pt pur ex all den denOps denS xOps xC cX CX xthen xblk xcut xloop xng retX resX Calls PV Rd Con
attribute [local irreducible] hostA HostS.spoilt HostS.back
abbrev refL (q : Nat) (s : HostS.HS) (fl : List HostS.Fault) (wl : List WrE) (fa : Option Addr) (fc : Nat) (wa : Option Addr) (wc : Nat) (la : Option Addr) (lc : Nat) : List Asrt :=
 [cl q (rcl s.pages s.size fa fl.length fc wa wl.length wc s.reg s.ops la s.log.length lc s.down) 115, own 119 6 (.slice fa fl.length fc) fl.length (fl.flatMap fcells), own 260 2 (.slice wa wl.length wc) wl.length (wl.flatMap wcell), star ownP (wl.map (·.2)), own 158 15 (.slice la s.log.length lc) s.log.length (s.log.flatMap tcells)]
structure RefOk (s : HostS.HS) (fl : List HostS.Fault) (wl : List WrE) : Prop where
 ok : HostS.Ok s
 later : Later fl s
 lay : ∀ p, s.lay p = rowsW wl p
 len : ∀ e ∈ wl, e.2.2.2.length = s.size
 many : wl.length ≤ s.ops
 flen : fl.length * 48 ≤ 140737488351232
 fok : ∀ f ∈ fl, HostS.FOk f
section
variable {q : Nat} {s : HostS.HS} {fl : List HostS.Fault} {wl : List WrE} {fc wc lc : Nat} {fa wa la : Option Addr}
end
end Go.Sl
namespace Go.Sl
open Go Go.Proofs
attribute [local irreducible] pt pur ex all den denOps denS xOps xC cX CX xthen xblk xcut xloop xng retX resX Calls PV Rd Con
attribute [local irreducible] hostA HostS.spoilt HostS.back
section
variable {q : Nat} {s : HostS.HS} {fl : List HostS.Fault} {wl : List WrE} {fc wc lc : Nat} {fa wa la : Option Addr}
end
end Go.Sl
namespace Go.Sl
open Go Go.Proofs
attribute [local irreducible] pt pur ex all den denOps denS xOps xC cX CX xthen xblk xcut xloop xng retX resX Calls PV Rd Con
attribute [local irreducible] hostA HostS.spoilt HostS.back
section
variable {q : Nat} {s : HostS.HS} {fl : List HostS.Fault} {wl : List WrE} {fc wc lc : Nat} {fa wa la : Option Addr}
end
end Go.Sl
namespace Go.Sl
open Go Go.Proofs
attribute [local irreducible] pt pur ex all den denOps denS xOps xC cX CX xthen xblk xcut xloop xng retX resX Calls PV Rd Con
attribute [local irreducible] hostA HostS.spoilt HostS.back
abbrev RT := (Option Addr × Nat) × (Option Addr × Nat) × (Option Addr × Nat) × List WrE
def refB (q : Nat) (s : HostS.HS) (fl : List HostS.Fault) (t : RT) : Asrt := all (pur (RefOk s fl t.2.2.2) :: refL q s fl t.2.2.2 t.1.1 t.1.2 t.2.1.1 t.2.1.2 t.2.2.1.1 t.2.2.1.2)
def refA (q : Nat) (s : HostS.HS) (fl : List HostS.Fault) : Asrt := ex (refB q s fl)
section
variable {q : Nat} {s : HostS.HS} {fl : List HostS.Fault}
theorem refA_mk {L : List Asrt} {wl : List WrE} {fa wa la : Option Addr} {fc wc lc : Nat} (h : RefOk s fl wl) : Imp (refL q s fl wl fa fc wa wc la lc ++ L) (refA q s fl :: L) :=
 ((Imp.pur_mk h).trans (Imp.app (L := pur (RefOk s fl wl) :: refL q s fl wl fa fc wa wc la lc))).trans (Imp.head fun f h => by unfold refA Sl.ex; exact Exists.intro (p := fun x => (refB q s fl x).on f) ((fa, fc), (wa, wc), (la, lc), wl) h)
theorem Con.refA {F : FuncId} {args : List Value} {L : List Asrt} {Φ : Value → List Asrt → Prop} (h : ∀ (wl : List WrE) (fa : Option Addr) (fc : Nat) (wa : Option Addr) (wc : Nat) (la : Option Addr) (lc : Nat), RefOk s fl wl → Con Tryz.prog F args (refL q s fl wl fa fc wa wc la lc ++ L) Φ) : Con Tryz.prog F args (Sl.refA q s fl :: L) Φ :=
 Con.ex fun t => Con.pre (Con.pur fun hk => h t.2.2.2 t.1.1 t.1.2 t.2.1.1 t.2.1.2 t.2.2.1.1 t.2.2.1.2 hk) (Imp.unapp (L := Sl.pur (RefOk s fl t.2.2.2) :: refL q s fl t.2.2.2 t.1.1 t.1.2 t.2.1.1 t.2.1.2 t.2.2.1.1 t.2.2.1.2))
end
theorem refok_fresh (pages : Int) (size : Nat) (fl : List HostS.Fault) (hp : 0 ≤ pages ∧ pages ≤ 65536 ∧ 1 ≤ (size : Int) ∧ (size : Int) ≤ 4124) (hfo : ∀ f ∈ fl, HostS.FOk f) (hfl : fl.length * 48 ≤ 140737488351232) : RefOk (HostS.fresh pages size fl) fl [] :=
 ⟨ok_fresh pages size fl hp hfo (by omega), fun _ _ => rfl, fun _ => rfl, (fun e he => by cases he), Nat.le_refl _, hfl, hfo⟩
theorem kind_next (fl : List HostS.Fault) (i : Nat) (hi : i < fl.length) (h : (fl.take i).all HostS.kindly = true) (h0 : 0 ≤ fl[i].kind) (h4 : fl[i].kind ≤ 4) : (fl.take (i + 1)).all HostS.kindly = true := by
 rw [List.take_succ_eq_append_getElem hi, List.all_append, h]
 simp [HostS.kindly, h0, h4]
theorem kind_bad (fl : List HostS.Fault) (i : Nat) (hi : i < fl.length) (hx : ¬ (0 ≤ fl[i].kind ∧ fl[i].kind ≤ 4)) : ¬ fl.all HostS.kindly = true := by
 intro h
 have := List.all_eq_true.1 h fl[i] (List.getElem_mem hi)
 unfold HostS.kindly at this
 simp only [Bool.and_eq_true, decide_eq_true_eq] at this
 exact hx this
theorem rNew_x {L : List Asrt} (pages size : Int) {fv : Value} {fl : List HostS.Fault} (hf : FaultsIn L fv fl) : Con Tryz.prog 20 [.int .i64 pages, .int .i64 size, fv] L (fun r M => (HostS.mayBe pages size fl → ∃ q, r = .tuple #[hp q, nvv 0] ∧ M = refA q (HostS.fresh pages size.toNat fl) fl :: L) ∧ (¬ HostS.mayBe pages size fl → r = .tuple #[.pointer none, nvv 2] ∧ M = L)) := by
 refine Con.get (fun w0 w F H => hf.rd.len H) ?_
 rintro ⟨fa, fc, rfl⟩
 have hfl := hf.len
 by_cases h1 : pages < 0
 ·refine fn_y Tryz.func20 Tryz.mixed ?_
  intro w0
  refine Y7 ?_
  refine Zos 11 rfl (h1) ?_
  refine V18 ?_
  refine rx2 (Zhb rfl (Zg9 rfl (Zg7))) ?_
  exact ⟨_, ⟨fun hm => absurd hm.1 (fun hh => by omega), fun _ => ⟨rfl, rfl⟩⟩, qI⟩
 by_cases h2 : 65536 < pages
 ·refine fn_y Tryz.func20 Tryz.mixed ?_
  intro w0
  refine Y7 ?_
  refine Zot 11 rfl (h1) ?_
  refine Y3 ?_
  refine Zos 14 rfl (h2) ?_
  refine V15 ?_
  refine rx2 (Zhb rfl (Zg9 rfl (Zg7))) ?_
  exact ⟨_, ⟨fun hm => absurd hm.1 (fun hh => by omega), fun _ => ⟨rfl, rfl⟩⟩, qI⟩
 by_cases h3 : size < 1
 ·refine fn_y Tryz.func20 Tryz.mixed ?_
  intro w0
  refine Y7 ?_
  refine Zot 11 rfl (h1) ?_
  refine Y3 ?_
  refine Zot 14 rfl (h2) ?_
  refine Y4 ?_
  refine Zos 18 rfl (h3) ?_
  refine V11 ?_
  refine rx2 (Zhb rfl (Zg9 rfl (Zg7))) ?_
  exact ⟨_, ⟨fun hm => absurd hm.1 (fun hh => by omega), fun _ => ⟨rfl, rfl⟩⟩, qI⟩
 by_cases h4 : 4124 < size
 ·refine fn_y Tryz.func20 Tryz.mixed ?_
  intro w0
  refine Y7 ?_
  refine Zot 11 rfl (h1) ?_
  refine Y3 ?_
  refine Zot 14 rfl (h2) ?_
  refine Y4 ?_
  refine Zot 18 rfl (h3) ?_
  refine Y4 ?_
  refine Zos 22 rfl (h4) ?_
  refine V7 ?_
  refine rx2 (Zhb rfl (Zg9 rfl (Zg7))) ?_
  exact ⟨_, ⟨fun hm => absurd hm.1 (fun hh => by omega), fun _ => ⟨rfl, rfl⟩⟩, qI⟩
 obtain ⟨n, rfl⟩ : ∃ n : Nat, size = (n : Int) := ⟨size.toNat, by omega⟩
 refine fn_y Tryz.func20 Tryz.mixed ?_
 intro w0
 refine Y7 ?_
 refine Zot 11 rfl (h1) ?_
 refine Y3 ?_
 refine Zot 14 rfl (h2) ?_
 refine Y4 ?_
 refine Zot 18 rfl ((by omega)) ?_
 refine Y4 ?_
 refine Zot 22 rfl ((by omega)) ?_
 refine Y6 ?_
 refine Zhg (Zdm (cs := rcl pages n none 0 0 none 0 0 0#64 0 none 0 0 false) rfl) ?_
 refine Zh5 rfl ?_; intro b27
 refine V5 ?_
 refine Zgp (Imp.own_nil (E := 119) (size := 6)) ?_
 refine Zgo [(6, 7), (9, 9), (28, 60)] (by kernel_rfl) (fun s : Nat × Option Addr × Nat => s.1 ≤ fl.length ∧ (fl.take s.1).all HostS.kindly = true) (fun s => cl b27 (rcl pages n s.2.1 s.1 s.2.2 none 0 0 0#64 0 none 0 0 false) 115 :: own 119 6 (.slice s.2.1 s.1 s.2.2) s.1 ((fl.take s.1).flatMap fcells) :: L) (fun s => [(9, nvv s.1)]) (fun s => fl.length - s.1) (0, none, 0) ⟨Nat.zero_le _, rfl⟩ qI ⟨rfl, trivial⟩ ?_
 rintro ⟨i, a, c⟩ u ⟨hi, hkd⟩
 dsimp only at hi hkd ⊢
 refine V6 ?_
 refine Zgg rfl (fun hB => ?_) (fun hB => ?_)
 ·refine Zgt (fun F w H => (hf.rd.imp (Imp.arr (M := _) qV)).someAt (by omega) H) ?_
  rintro ⟨s1, s2, rfl⟩
  by_cases hk0 : fl[i].kind < 0
  ·refine Y5 ?_
   refine Zff rfl (((hf.rd.imp qI).atN fcells_len hB (by omega) rfl)) ?_
   refine Y1 ?_
   refine Zos 39 rfl (hk0) ?_
   refine V14 ?_
   refine rx2 (Zhb rfl (Zg9 rfl (Zg7))) ?_
   exact ⟨_, ⟨fun hm => absurd hm.2 (kind_bad fl i hB (fun hh => by omega)), fun _ => ⟨rfl, rfl⟩⟩, qI⟩
  by_cases hk4 : 4 < fl[i].kind
  ·refine Y5 ?_
   refine Zff rfl (((hf.rd.imp qI).atN fcells_len hB (by omega) rfl)) ?_
   refine Y1 ?_
   refine Zot 39 rfl (hk0) ?_
   refine Y5 ?_
   first|refine Y0 ?_|(refine Zhh rfl ?_; (refine Zff rfl (((hf.rd.imp qI).atN fcells_len hB (by omega) rfl)) ?_))
   refine Y1 ?_
   refine Zos 46 rfl (hk4) ?_
   refine V7 ?_
   refine rx2 (Zhb rfl (Zg9 rfl (Zg7))) ?_
   exact ⟨_, ⟨fun hm => absurd hm.2 (kind_bad fl i hB (fun hh => by omega)), fun _ => ⟨rfl, rfl⟩⟩, qI⟩
  refine Y5 ?_
  refine Zff rfl (((hf.rd.imp qI).atN fcells_len hB (by omega) rfl)) ?_
  refine Y1 ?_
  refine Zot 39 rfl (hk0) ?_
  refine Y5 ?_
  first|refine Y0 ?_|(refine Zhh rfl ?_; (refine Zff rfl (((hf.rd.imp qI).atN fcells_len hB (by omega) rfl)) ?_))
  refine Y1 ?_
  refine Zot 46 rfl (hk4) ?_
  refine V3 ?_
  have hci := fcells_len fl[i]
  refine Ct.o ?_
  refine Zij ((cl b27 (rcl pages n a i c none 0 0 0#64 0 none 0 0 false) 115 :: own 119 6 (.slice a i c) i ((fl.take i).flatMap fcells) :: L)) [8, 9] (.q 0 (.q 1 (.q 2 (.q 3 (.q 5 (.q 6 (.q 7 (.r 4 (.r 8 (.e 9 true (.e 10 false (.q 11 (.q 12 (.e 13 false .nil)))))))))))))) (by kernel_rfl) (by kernel_rfl) (Imp.arr qV) ?_
  refine W8 ?_
  refine Zfj rfl rfl (((hf.rd.imp qI).agN fcells_len (by omega) hB)) ?_
  refine Ziq rfl ?_; refine Zh7 (cs := (fcells fl[i]).toArray) (by omega) (by omega) (by exact fill_one (by show (fcells fl[i]).toArray.size = 6; rfl) rfl) ?_; intro b28; refine Zg3 ⟨fun _ => Imp.arr qV, ?_⟩
  refine Ziq rfl ?_
  refine Zia rfl rfl qH (Rd.cl (xs := fcells fl[i]) qH rfl qZ rfl) (by first|rfl|exact oneM_u8 _|exact oneL_u8 _|exact fc_one _|exact fc_ones _|exact tcells_one _|(simp [oneC]; done)) (by omega) qS ?_; intro a3 c3
  refine Zg3 ⟨(fun hh => Bool.noConfusion hh), ?_⟩
  refine W2 ?_
  refine Ziq rfl ?_
  refine Y1 ?_
  refine Zg3 ⟨(fun hh => Bool.noConfusion hh), ?_⟩
  refine Zik ?_
  refine V5 ?_
  have e : (fl.take i).flatMap fcells ++ fcells fl[i] = (fl.take (i + 1)).flatMap fcells := by rw [List.take_succ_eq_append_getElem hB, List.flatMap_append]; simp
  rw [e]
  exact Zgl (i + 1, a3, c3) qO ⟨by dsimp only; omega, kind_next fl i hB hkd (by omega) (by omega)⟩ qI ⟨rfl, trivial⟩
 ·have hie : i = fl.length := by omega
  subst hie
  rw [List.take_length] at hkd ⊢
  refine V5 ?_
  refine rx2 (Zhb rfl (Zg9 rfl (Zg7))) ?_
  have hm : HostS.mayBe pages n fl := ⟨⟨by omega, by omega, by omega, by omega⟩, hkd⟩
  refine ⟨refA b27 (HostS.fresh pages (n : Int).toNat fl) fl :: L, ⟨fun _ => ⟨b27, rfl, rfl⟩, fun hh => absurd hm hh⟩, ?_⟩
  rw [Int.toNat_natCast]
  have hr := refA_mk (q := b27) (L := L) (fa := a) (fc := c) (wa := none) (wc := 0) (la := none) (lc := 0) (refok_fresh pages n fl ⟨by omega, by omega, by omega, by omega⟩ hf.ok hfl)
  have h0 : Imp (cl b27 (rcl pages n a fl.length c none 0 0 0#64 0 none 0 0 false) 115 :: own 119 6 (.slice a fl.length c) fl.length (fl.flatMap fcells) :: L) (star ownP ([] : List Part) :: own 260 2 (.slice none 0 0) 0 [] :: own 158 15 (.slice none 0 0) 0 [] :: cl b27 (rcl pages n a fl.length c none 0 0 0#64 0 none 0 0 false) 115 :: own 119 6 (.slice a fl.length c) fl.length (fl.flatMap fcells) :: L) :=
   (Imp.own_nil.trans Imp.own_nil).trans (Imp.app (L := []))
  exact (h0.trans (Imp.arr (by unfold refL; repeat (first|exact Arr.nil|exact Arr.stop|refine Arr.cons (by repeat constructor) ?_|refine Arr.skip ?_)))).trans hr
end Go.Sl
namespace Go.Sl
open Go Go.Proofs
attribute [local irreducible] pt pur ex all den denOps denS xOps xC cX CX xthen xblk xcut xloop xng retX resX Calls PV Rd Con
attribute [local irreducible] hostA refA
open PagerS (PS)
structure RC where
 q : Nat
 ha : Option Addr
 hn : Nat
 hc : Nat
 la : Option Addr
 ln : Nat
 lc : Nat
 took : Bool
abbrev rphead (s : PS) (c : RC) : List Value := hp c.q :: s.key.map u8b
abbrev rptail (s : PS) (c : RC) : List Value := [u64b s.round, nvv s.window, .int .i64 s.pages, nvv s.text, .slice c.ha c.hn c.hc, .slice c.la c.ln c.lc, nvv s.most, nvv s.writes, nvv s.err, .bool c.took]
def rpcl (s : PS) (c : RC) : Array Value := (rphead s c ++ rptail s c).toArray
section
variable {s s' : PS} {c c' : RC} {k : Nat} {v : Value}
theorem rp_f (hk : s.key.length = 32) (h : (rptail s c)[k]? = some v) : (rpcl s c)[33 + k]? = some v := by
 unfold rpcl
 rw [List.getElem?_toArray, List.getElem?_append_right (by simp [hk]), show 33 + k - (rphead s c).length = k by simp [hk]]
 exact h
end
abbrev HE := (Option Addr × Nat) × PagerS.Fr
abbrev rhe (e : HE) : List Value := [.int .i64 e.2.page, .slice e.1.1 e.2.text.length e.1.2, .bool (e.2.is == 2)]
abbrev rtA (e : HE) : Asrt := ownB e.1.1 e.1.2 e.2.text
abbrev wpc (q : Plc) : List Value := [u64b q.round, u32b q.counter, u32b q.page, u32b q.version]
abbrev ownH (a : Option Addr) (c : Nat) (l : List HE) : Asrt := own 202 3 (.slice a l.length c) l.length (l.flatMap rhe)
abbrev ownW (a : Option Addr) (c : Nat) (l : List Plc) : Asrt := own 236 4 (.slice a l.length c) l.length (l.flatMap wpc)
def isPg (n : Int) (q : Plc) : Bool := (q.page.toNat : Int) == n
section
variable {p : Nat} {s : PS} {c : RC}
end
end Go.Sl
namespace Go.Sl
open Go Go.Proofs
attribute [local irreducible] pt pur ex all den denOps denS xOps xC cX CX xthen xblk xcut xloop xng retX resX Calls PV Rd Con
attribute [local irreducible] hostA refA rpcl pcl
open PagerS (PS)
section
variable {p : Nat} {s : PS} {c : RC}
end
end Go.Sl
namespace Go.Sl
open Go Go.Proofs
attribute [local irreducible] pt pur ex all den denOps denS xOps xC cX CX xthen xblk xcut xloop xng retX resX Calls PV Rd Con
attribute [local irreducible] outW64 stateW twiceW iterW twiceN qAt quarterW blockB leB
end Go.Sl
namespace Go.Sl
open Go Go.Proofs
attribute [local irreducible] pt pur ex all den denOps denS xOps xC cX CX xthen xblk xcut xloop xng retX resX Calls PV Rd Con
attribute [local irreducible] blockB ksB
attribute [local irreducible] scl xorB
end Go.Sl
namespace Go.Sl
open Go Go.Proofs
attribute [local irreducible] pt pur ex all den denOps denS xOps xC cX CX xthen xblk xcut xloop xng retX resX Calls PV Rd Con
end Go.Sl
namespace Go.Sl
open Go Go.Proofs
attribute [local irreducible] pt pur ex all den denOps denS xOps xC cX CX xthen xblk xcut xloop xng retX resX Calls PV Rd Con
end Go.Sl
namespace Go.Sl
open Go Go.Proofs
attribute [local irreducible] pt pur ex all den denOps denS xOps xC cX CX xthen xblk xcut xloop xng retX resX Calls PV Rd Con
end Go.Sl
namespace Go.Sl
open Go Go.Proofs
attribute [local irreducible] pt pur ex all den denOps denS xOps xC cX CX xthen xblk xcut xloop xng retX resX Calls PV Rd Con
end Go.Sl
namespace Go.Sl
open Go Go.Proofs
attribute [local irreducible] pt pur ex all den denOps denS xOps xC cX CX xthen xblk xcut xloop xng retX resX Calls PV Rd Con
end Go.Sl
namespace Go.Sl
open Go Go.Proofs
attribute [local irreducible] pt pur ex all den denOps denS xOps xC cX CX xthen xblk xcut xloop xng retX resX Calls PV Rd Con
end Go.Sl
namespace Go.Sl
open Go Go.Proofs
attribute [local irreducible] pt pur ex all den denOps denS xOps xC cX CX xthen xblk xcut xloop xng retX resX Calls PV Rd Con
-- the halves of a key
end Go.Sl
namespace Go.Sl
open Go Go.Proofs
attribute [local irreducible] pt pur ex all den denOps denS xOps xC cX CX xthen xblk xcut xloop xng retX resX Calls PV Rd Con
end Go.Sl
namespace Go.Sl
open Go Go.Proofs
attribute [local irreducible] pt pur ex all den denOps denS xOps xC cX CX xthen xblk xcut xloop xng retX resX Calls PV Rd Con
attribute [local irreducible] code
end Go.Sl
namespace Go.Sl
open Go Go.Proofs
attribute [local irreducible] pt pur ex all den denOps denS xOps xC cX CX xthen xblk xcut xloop xng retX resX Calls PV Rd Con
attribute [local irreducible] code blockB ksB xorB vouchB leB
end Go.Sl
namespace Go.Sl
open Go Go.Proofs
attribute [local irreducible] pt pur ex all den denOps denS xOps xC cX CX xthen xblk xcut xloop xng retX resX Calls PV Rd Con
attribute [local irreducible] code blockB ksB xorB vouchB leB sealB
end Go.Sl
namespace Go.Sl
open Go Go.Proofs
attribute [local irreducible] pt pur ex all den denOps denS xOps xC cX CX xthen xblk xcut xloop xng retX resX Calls PV Rd Con
attribute [local irreducible] code blockB ksB xorB vouchB leB sealB
attribute [local irreducible] rightB textB coverB tagB
end Go.Sl
namespace Go.Sl
open Go Go.Proofs
attribute [local irreducible] pt pur ex all den denOps denS xOps xC cX CX xthen xblk xcut xloop xng retX resX Calls PV Rd Con
attribute [local irreducible] code blockB ksB xorB vouchB leB sealB rightB textB coverB tagB
end Go.Sl
namespace Go.Sl
open Go Go.Proofs
attribute [local irreducible] pt pur ex all den denOps denS xOps xC cX CX xthen xblk xcut xloop xng retX resX Calls PV Rd Con
attribute [local irreducible] code blockB ksB xorB vouchB leB sealB rightB textB coverB tagB headB moreB
end Go.Sl
namespace Go.Sl
open Go Go.Proofs
attribute [local irreducible] pt pur ex all den denOps denS xOps xC cX CX xthen xblk xcut xloop xng retX resX Calls PV Rd Con
attribute [local irreducible] hostA refA rpcl pcl pgSealB pgOpenR HostS.writeR HostS.readR
open PagerS (PS Over)
abbrev rpL (p : Nat) (s : PS) (c : RC) (hl : List HE) (wl : List Plc) : List Asrt := [cl p (rpcl s c) 135, ownH c.ha c.hc hl, ownW c.la c.lc wl, star rtA hl]
structure RpOk (s : PS) (c : RC) (hl : List HE) (wl : List Plc) : Prop where
 ok : PagerS.Ok s
 held : s.held = hl.map (·.2)
 hn : c.hn = hl.length
 ln : c.ln = wl.length
 last : ∀ n, s.last n = wl.find? (isPg n)
 many : wl.length ≤ s.writes
section
variable {s : PS} {c : RC} {hl : List HE} {wl : List Plc} {h : HostS.HS} {n : Int}
end
section
variable {p : Nat} {s : PS} {c : RC} {h : HostS.HS} {fl : List HostS.Fault}
end
end Go.Sl
namespace Go.Sl
open Go Go.Proofs
attribute [local irreducible] pt pur ex all den denOps denS xOps xC cX CX xthen xblk xcut xloop xng retX resX Calls PV Rd Con
attribute [local irreducible] hostA refA rpcl pcl pgSealB pgOpenR HostS.writeR HostS.readR
open PagerS (PS Over)
abbrev RpT := RC × List HE × List Plc
def rpB (p q : Nat) (s : PS) (t : RpT) : Asrt := all (pur (RpOk s t.1 t.2.1 t.2.2 ∧ t.1.q = q) :: rpL p s t.1 t.2.1 t.2.2)
def rpA (p q : Nat) (s : PS) : Asrt := ex (rpB p q s)
section
variable {p q : Nat} {s : PS} {L : List Asrt}
theorem rpA_mk {c : RC} {hl : List HE} {wl : List Plc} (h : RpOk s c hl wl) (hq : c.q = q) : Imp (rpL p s c hl wl ++ L) (rpA p q s :: L) :=
 ((Imp.pur_mk (And.intro h hq)).trans (Imp.app (L := pur (RpOk s c hl wl ∧ c.q = q) :: rpL p s c hl wl))).trans (Imp.head fun f h => by unfold rpA Sl.ex; exact Exists.intro (p := fun x => (rpB p q s x).on f) (c, hl, wl) h)
theorem Con.rpA {F : FuncId} {args : List Value} {Φ : Value → List Asrt → Prop} (h : ∀ (c : RC) (hl : List HE) (wl : List Plc), RpOk s c hl wl → c.q = q → Con Tryz.prog F args (rpL p s c hl wl ++ L) Φ) : Con Tryz.prog F args (Sl.rpA p q s :: L) Φ :=
 Con.ex fun t => Con.pre (Con.pur fun hk => h t.1 t.2.1 t.2.2 hk.1 hk.2) (Imp.unapp (L := Sl.pur (RpOk s t.1 t.2.1 t.2.2 ∧ t.1.q = q) :: rpL p s t.1 t.2.1 t.2.2))
end
section
variable {p q : Nat} {s : PS} {h : HostS.HS} {fl : List HostS.Fault}
end
end Go.Sl
namespace Go.Sl
open Go Go.Proofs
attribute [local irreducible] pt pur ex all den denOps denS xOps xC cX CX xthen xblk xcut xloop xng retX resX Calls PV Rd Con
attribute [local irreducible] hostA pcl pgSealB pgOpenR HostS.writeR HostS.readR PagerS.roomP PagerS.useP
open PagerS (PS Over)
abbrev rtail0 : List Value := [.int .u64 0, .int .i64 0, .int .i64 0, .int .i64 0, .slice none 0 0, .slice none 0 0, .int .i64 0, .int .i64 0, .int .i64 0, .bool false]
abbrev rtailN (round : BitVec 64) (window pages : Int) (text : Nat) : List Value := [u64b round, .int .i64 window, .int .i64 pages, nvv text, .slice none 0 0, .slice none 0 0, .int .i64 0, .int .i64 0, .int .i64 0, .bool false]
theorem rnewp_fill {pl : Nat → Option (Nat × Nat)} {q : Nat} {key : List Byte} {round : BitVec 64} {window pages : Int} {text : Nat} (hk : key.length = 32) (h0 : pl 0 = some (0, 1)) (h1 : pl 1 = some (1, 32)) (h2 : pl 2 = some (33, 1)) (h3 : pl 3 = some (34, 1)) (h4 : pl 4 = some (35, 1)) (h5 : pl 5 = some (36, 1)) :
  Instr.fill pl ([] ++ ([Value.pointer none] ++ (List.replicate 32 (Value.int .u8 0) ++ rtail0))).toArray [(0, hp q), (1, .agg (key.map u8b).toArray), (2, u64b round), (3, .int .i64 window), (4, .int .i64 pages), (5, nvv text)] = some ((hp q :: key.map u8b) ++ rtailN round window pages text).toArray := by
 refine fill_seg (V := [hp q]) h0 rfl rfl rfl rfl ?_
 refine fill_seg (A := [hp q]) (V := key.map u8b) h1 rfl (by simp) (by simp [Value.cells]) (by simp [hk]) ?_
 have hh : (hp q :: key.map u8b).length = 33 := by simp [hk]
 refine fill_tl (H := hp q :: key.map u8b) (k := 0) h2 (by omega) (by decide) rfl rfl ?_
 refine fill_tl (k := 1) h3 (by omega) (by simp) rfl rfl ?_
 refine fill_tl (k := 2) h4 (by omega) (by simp) rfl rfl ?_
 refine fill_tl (k := 3) h5 (by omega) (by simp) rfl rfl ?_
 exact fill_end
section
variable {q : Nat} {h : HostS.HS} {fl : List HostS.Fault}
theorem rpnew_x {key : List Byte} (hk : key.length = 32) (round : BitVec 64) (window : Int) :
  Con Tryz.prog 22 [hp q, .agg (key.map u8b).toArray, u64b round, .int .i64 window] [refA q h fl] (fun r M => (newR h window = 0 ∧ ∃ p, r = .tuple #[hp p, nvv 0] ∧ M = [rpA p q (PagerS.freshP key round window.toNat h.pages (h.size - 28)), refA q h fl]) ∨ (newR h window ≠ 0 ∧ r = .tuple #[.pointer none, nvv (newR h window)] ∧ M = [refA q h fl])) := by
 refine Con.refA fun wl fa fc wa wc la lc hr => ?_
 have hback : Imp (refL q h fl wl fa fc wa wc la lc ++ []) [refA q h fl] := refA_mk hr
 have hho := hr.ok
 simp only [List.cons_append, List.nil_append] at hback ⊢
 unfold newR
 by_cases hw1 : window < 2
 ·rw [if_pos (.inl hw1)]
  refine fn_y Tryz.func22 Tryz.mixed ?_
  intro w0
  refine Y1 ?_
  refine Zh5 rfl ?_; intro b5
  refine Y5 ?_
  refine Zhg (Zbn (b := 2) rfl rfl) ?_
  refine Zos 11 rfl (hw1) ?_
  refine V10 ?_
  refine rx2 (Zhb rfl (Zg9 rfl (Zg7))) ?_
  exact ⟨_, .inr ⟨by omega, rfl, rfl⟩, (Imp.arr qV).trans hback⟩
 by_cases hw2 : 16 < window
 ·rw [if_pos (.inr hw2)]
  refine fn_y Tryz.func22 Tryz.mixed ?_
  intro w0
  refine Y1 ?_
  refine Zh5 rfl ?_; intro b5
  refine Y5 ?_
  refine Zhg (Zbn (b := 2) rfl rfl) ?_
  refine Zot 11 rfl (hw1) ?_
  refine Y2 ?_
  first|refine Y0 ?_|(refine Zhh rfl ?_; (refine Zhg (Zbp (b := 16) rfl rfl) ?_))
  refine Zos 14 rfl (hw2) ?_
  refine V7 ?_
  refine rx2 (Zhb rfl (Zg9 rfl (Zg7))) ?_
  exact ⟨_, .inr ⟨by omega, rfl, rfl⟩, (Imp.arr qV).trans hback⟩
 rw [if_neg (show ¬ (window < 2 ∨ 16 < window) by omega)]
 have hp0 := hho.p0
 have hp1 := hho.p1
 have hz0 := hho.z0
 have hz1 := hho.z1
 by_cases hz : h.size ≤ 28
 ·rw [if_pos hz]
  refine fn_y Tryz.func22 Tryz.mixed ?_
  intro w0
  refine Y1 ?_
  refine Zh5 rfl ?_; intro b5
  refine Y5 ?_
  refine Zhg (Zbn (b := 2) rfl rfl) ?_
  refine Zot 11 rfl (hw1) ?_
  refine Y2 ?_
  first|refine Y0 ?_|(refine Zhh rfl ?_; (refine Zhg (Zbp (b := 16) rfl rfl) ?_))
  refine Zot 14 rfl (hw2) ?_
  refine Y8 ?_
  refine Zhg (Zbn (a := (h.size : Int)) (b := 29) rfl rfl) ?_
  refine Zos 20 rfl ((by omega)) ?_
  refine V6 ?_
  refine rx2 (Zhb rfl (Zg9 rfl (Zg7))) ?_
  exact ⟨_, .inr ⟨by omega, rfl, rfl⟩, (Imp.arr qV).trans hback⟩
 ·rw [if_neg hz]
  have hok : PagerS.Ok (PagerS.freshP key round window.toNat h.pages (h.size - 28)) := PagerS.ok_fresh hk (by omega) (by omega) (by omega)
  refine fn_y Tryz.func22 Tryz.mixed ?_
  intro w0
  refine Y1 ?_
  refine Zh5 rfl ?_; intro b5
  refine Y5 ?_
  refine Zhg (Zbn (b := 2) rfl rfl) ?_
  refine Zot 11 rfl (hw1) ?_
  refine Y2 ?_
  first|refine Y0 ?_|(refine Zhh rfl ?_; (refine Zhg (Zbp (b := 16) rfl rfl) ?_))
  refine Zot 14 rfl (hw2) ?_
  refine Y8 ?_
  refine Zhg (Zbn (a := (h.size : Int)) (b := 29) rfl rfl) ?_
  refine Zot 20 rfl ((by omega)) ?_
  refine V2 ?_
  have e0 : window = ((window.toNat : Nat) : Int) := by omega
  refine Ct.o ?_
  refine Zij ((cl b5 (key.map u8b).toArray 42 :: refL q h fl wl fa fc wa wc la lc)) [7, 11, 12] (.q 0 (.q 2 (.q 3 (.q 4 (.q 5 (.q 6 (.q 8 (.q 9 (.q 10 (.r 1 (.r 7 (.r 11 (.r 12 (.q 13 (.e 14 false (.q 15 (.q 16 .nil))))))))))))))))) (by kernel_rfl) (by kernel_rfl) (Imp.arr qV) ?_
  refine W12 ?_
  refine Ziz rfl (Zmb (b := 28) rfl rfl (by omega) (by omega)) ?_
  refine Zim rfl (Zdm (cs := ((hp q :: key.map u8b) ++ rtailN round window h.pages (h.size - 28)).toArray) (rnewp_fill hk rfl rfl rfl rfl rfl rfl)) ?_
  refine Ziq rfl ?_
  refine Zh5 rfl ?_; intro b35
  refine Zg3 ⟨(fun hh => Bool.noConfusion hh), ?_⟩
  refine W3 ?_
  refine Ct.o ?_
  have ec : ((hp q :: key.map u8b) ++ rtailN round window h.pages (h.size - 28)).toArray = rpcl (PagerS.freshP key round window.toNat h.pages (h.size - 28)) ⟨q, none, 0, 0, none, 0, 0, false⟩ := by
   unfold rpcl
   show ((hp q :: key.map u8b) ++ rtailN round window h.pages (h.size - 28)).toArray = ((hp q :: key.map u8b) ++ [u64b round, nvv window.toNat, .int .i64 h.pages, nvv (h.size - 28), .slice none 0 0, .slice none 0 0, nvv 0, nvv 0, nvv 0, .bool false]).toArray
   show ((hp q :: key.map u8b) ++ [u64b round, .int .i64 window, .int .i64 h.pages, nvv (h.size - 28), .slice none 0 0, .slice none 0 0, .int .i64 0, .int .i64 0, .int .i64 0, .bool false]).toArray = ((hp q :: key.map u8b) ++ [u64b round, .int .i64 ((window.toNat : Nat) : Int), .int .i64 h.pages, nvv (h.size - 28), .slice none 0 0, .slice none 0 0, nvv 0, nvv 0, nvv 0, .bool false]).toArray
   rw [← e0]; rfl
  rw [ec]
  refine rx2 (Zhb rfl (Zg9 rfl (Zg7))) ?_
  refine ⟨_, .inl ⟨rfl, b35, rfl, rfl⟩, ?_⟩
  have hkk : RpOk (PagerS.freshP key round window.toNat h.pages (h.size - 28)) ⟨q, none, 0, 0, none, 0, 0, false⟩ [] [] := ⟨hok, rfl, rfl, rfl, fun _ => rfl, Nat.le_refl _⟩
  have hb2 : Imp (cl b35 (rpcl (PagerS.freshP key round window.toNat h.pages (h.size - 28)) ⟨q, none, 0, 0, none, 0, 0, false⟩) 135 :: refL q h fl wl fa fc wa wc la lc) [cl b35 (rpcl (PagerS.freshP key round window.toNat h.pages (h.size - 28)) ⟨q, none, 0, 0, none, 0, 0, false⟩) 135, refA q h fl] := Imp.cons (by simpa using hback)
  have h1 : Imp [cl b35 (rpcl (PagerS.freshP key round window.toNat h.pages (h.size - 28)) ⟨q, none, 0, 0, none, 0, 0, false⟩) 135, refA q h fl] [rpA b35 q (PagerS.freshP key round window.toNat h.pages (h.size - 28)), refA q h fl] :=
   (((Imp.own_nil (E := 202) (size := 3)).trans (Imp.own_nil (E := 236) (size := 4))).trans (star_nil (A := rtA))).trans ((Imp.arr (N := rpL b35 (PagerS.freshP key round window.toNat h.pages (h.size - 28)) ⟨q, none, 0, 0, none, 0, 0, false⟩ [] [] ++ [refA q h fl]) qV).trans (rpA_mk hkk rfl))
  exact (Imp.arr qV).trans (hb2.trans h1)
theorem rpnew_ok {key : List Byte} (hk : key.length = 32) (round : BitVec 64) {window : Int} (hz : newR h window = 0) : Con Tryz.prog 22 [hp q, .agg (key.map u8b).toArray, u64b round, .int .i64 window] [refA q h fl] (fun r M => ∃ p, r = .tuple #[hp p, nvv 0] ∧ M = [rpA p q (PagerS.freshP key round window.toNat h.pages (h.size - 28)), refA q h fl]) :=
 (rpnew_x hk round window).mono fun r M hh => by
  rcases hh with ⟨_, p, h1, h2⟩|⟨hn, _⟩
  ·exact ⟨M, Imp.refl _, p, h1, h2⟩
  ·exact absurd hz hn
end
end Go.Sl
namespace Go.Sl
open Go Go.Proofs
attribute [local irreducible] pt pur ex all den denOps denS xOps xC cX CX xthen xblk xcut xloop xng retX resX Calls PV Rd Con
attribute [local irreducible] hostA pgA refA rpcl
open SlotS (SL Acc Fit)
open PagerS (PS Over)
theorem rtake_x (n per : Nat) (h1 : 1 ≤ per) (hn : n ≤ 9223372036854775807) : Con Tryz.prog 73 [nvv n, nvv per] [] (fun r M => r = nvv (SlotS.takeN n per) ∧ M = []) := by
 unfold SlotS.takeN
 by_cases h0 : n % per = 0
 ·rw [if_pos h0, Nat.add_zero]
  refine fn_y Tryz.func73 Tryz.mixed ?_
  intro w0
  refine Y14 ?_
  refine Zot 12 rfl ((by omega)) ?_
  refine V6 ?_
  refine rx1 (Zg9 rfl (Zg7)) ?_
  exact ⟨_, ⟨rfl, rfl⟩, qI⟩
 ·rw [if_neg h0]
  have := take_le h1 hn h0
  refine fn_y Tryz.func73 Tryz.mixed ?_
  intro w0
  refine Y14 ?_
  refine Zos 12 rfl ((by omega)) ?_
  refine V11 ?_
  refine rx1 (Zg9 rfl (Zg7)) ?_
  exact ⟨_, ⟨rfl, rfl⟩, qI⟩
theorem rsPages_x (n size text : Int) (hn : n ≤ 9223372036854775807) (hz : size ≤ 9223372036854775807) (ht : text ≤ 9223372036854775807) : Con Tryz.prog 16 [.int .i64 n, .int .i64 size, .int .i64 text] [] (fun r M => r = .tuple #[.int .i64 (SlotS.pagesS n size text).1, nvv (SlotS.pagesS n size text).2] ∧ M = []) := by
 unfold SlotS.pagesS
 by_cases h1 : n < 0
 ·rw [if_pos (.inl h1)]
  refine fn_y Tryz.func16 Tryz.mixed ?_
  intro w0
  refine Y6 ?_
  refine Zhg (Zbn (b := 0) rfl rfl) ?_
  refine Zos 10 rfl (h1) ?_
  refine V10 ?_
  refine rx2 (Zg9 rfl (Zg9 rfl (Zg7))) ?_
  exact ⟨_, ⟨rfl, rfl⟩, qI⟩
 by_cases h2 : size < 1
 ·rw [if_pos (.inr h2)]
  refine fn_y Tryz.func16 Tryz.mixed ?_
  intro w0
  refine Y6 ?_
  refine Zhg (Zbn (b := 0) rfl rfl) ?_
  refine Zot 10 rfl (h1) ?_
  refine Y2 ?_
  first|refine Y0 ?_|(refine Zhh rfl ?_; (refine Zhg (Zbn (b := 1) rfl rfl) ?_))
  refine Zos 13 rfl (h2) ?_
  refine V7 ?_
  refine rx2 (Zg9 rfl (Zg9 rfl (Zg7))) ?_
  exact ⟨_, ⟨rfl, rfl⟩, qI⟩
 rw [if_neg (show ¬ (n < 0 ∨ size < 1) by omega)]
 by_cases h3 : text < size
 ·rw [if_pos h3]
  refine fn_y Tryz.func16 Tryz.mixed ?_
  intro w0
  refine Y6 ?_
  refine Zhg (Zbn (b := 0) rfl rfl) ?_
  refine Zot 10 rfl (h1) ?_
  refine Y2 ?_
  first|refine Y0 ?_|(refine Zhh rfl ?_; (refine Zhg (Zbn (b := 1) rfl rfl) ?_))
  refine Zot 13 rfl (h2) ?_
  refine Y6 ?_
  refine Zhg (Zbp (a := size) (b := text) rfl rfl) ?_
  refine Zos 17 rfl (h3) ?_
  refine V6 ?_
  refine rx2 (Zg9 rfl (Zg9 rfl (Zg7))) ?_
  exact ⟨_, ⟨rfl, rfl⟩, qI⟩
 rw [if_neg h3]
 obtain ⟨n, rfl⟩ : ∃ k : Nat, n = k := ⟨n.toNat, by omega⟩
 obtain ⟨z, rfl⟩ : ∃ k : Nat, size = k := ⟨size.toNat, by omega⟩
 obtain ⟨t, rfl⟩ : ∃ k : Nat, text = k := ⟨text.toNat, by omega⟩
 simp only [Int.toNat_natCast]
 have hd : 1 ≤ t / z := Nat.div_pos (by omega) (by omega)
 have hpx := rtake_x n (t / z) hd (by omega)
 by_cases h4 : 65536 < SlotS.takeN n (t / z)
 ·rw [if_pos h4]
  refine fn_y Tryz.func16 Tryz.mixed ?_
  intro w0
  refine Y6 ?_
  refine Zhg (Zbn (a := (n : Int)) (b := 0) rfl rfl) ?_
  refine Zot 10 rfl (h1) ?_
  refine Y2 ?_
  first|refine Y0 ?_|(refine Zhh rfl ?_; (refine Zhg (Zbn (a := (z : Int)) (b := 1) rfl rfl) ?_))
  refine Zot 13 rfl (h2) ?_
  refine Y6 ?_
  refine Zhg (Zbp (a := (z : Int)) (b := (t : Int)) rfl rfl) ?_
  refine Zot 17 rfl (h3) ?_
  refine Y7 ?_
  refine Zor (c := hpx) (k := ?_)
  rintro _ _ ⟨rfl, rfl⟩
  refine Y6 ?_
  refine Zos 24 rfl (h4) ?_
  refine V6 ?_
  refine rx2 (Zg9 rfl (Zg9 rfl (Zg7))) ?_
  exact ⟨_, ⟨rfl, rfl⟩, qI⟩
 ·rw [if_neg h4]
  refine fn_y Tryz.func16 Tryz.mixed ?_
  intro w0
  refine Y6 ?_
  refine Zhg (Zbn (a := (n : Int)) (b := 0) rfl rfl) ?_
  refine Zot 10 rfl (h1) ?_
  refine Y2 ?_
  first|refine Y0 ?_|(refine Zhh rfl ?_; (refine Zhg (Zbn (a := (z : Int)) (b := 1) rfl rfl) ?_))
  refine Zot 13 rfl (h2) ?_
  refine Y6 ?_
  refine Zhg (Zbp (a := (z : Int)) (b := (t : Int)) rfl rfl) ?_
  refine Zot 17 rfl (h3) ?_
  refine Y7 ?_
  refine Zor (c := hpx) (k := ?_)
  rintro _ _ ⟨rfl, rfl⟩
  refine Y6 ?_
  refine Zot 24 rfl (h4) ?_
  refine V7 ?_
  refine rx2 (Zg9 rfl (Zg9 rfl (Zg7))) ?_
  exact ⟨_, ⟨rfl, rfl⟩, qI⟩
abbrev rsc (rp : Nat) (s : SL) (a : Option Addr) (c : Nat) : Array Value := #[hp rp, nvv s.first, nvv s.n, nvv s.size, .slice a s.log.length c]
abbrev rsL (q rp : Nat) (s : SL) (a : Option Addr) (c : Nat) : List Asrt := [cl q (rsc rp s a c) 112, ownAcc a c s.log]
def rsB (q rp : Nat) (s : SL) (t : Option Addr × Nat) : Asrt := all (rsL q rp s t.1 t.2)
def rsA (q rp : Nat) (s : SL) : Asrt := ex (rsB q rp s)
section
variable {q rp : Nat} {s : SL} {L : List Asrt}
theorem rsA_mk {a : Option Addr} {c : Nat} : Imp (rsL q rp s a c ++ L) (rsA q rp s :: L) :=
 (Imp.app (L := rsL q rp s a c)).trans (Imp.head fun f h => by unfold rsA Sl.ex; exact Exists.intro (p := fun x => (rsB q rp s x).on f) (a, c) h)
end
section
variable {rp q : Nat} {p : PS}
theorem rslnew_x (first n size : Int) (hf : first ≤ 9223372036854775807) (hn : n ≤ 9223372036854775807) (hz : size ≤ 9223372036854775807) : Con Tryz.prog 23 [hp rp, .int .i64 first, .int .i64 n, .int .i64 size] [rpA rp q p] (fun r M => (SlotS.newS first n size p = 0 ∧ ∃ b, r = .tuple #[hp b, nvv 0] ∧ M = [rsA b rp (SlotS.freshS first n size p), rpA rp q p]) ∨ (SlotS.newS first n size p ≠ 0 ∧ r = .tuple #[.pointer none, nvv (SlotS.newS first n size p)] ∧ M = [rpA rp q p])) := by
 refine Con.rpA fun c hl wl hk hq => ?_
 have hkey := hk.ok.key
 have hback : Imp (rpL rp p c hl wl ++ []) [rpA rp q p] := rpA_mk hk hq
 have ht1 := hk.ok.t1
 have hp0 := hk.ok.p0
 have hp1 := hk.ok.p1
 simp only [List.cons_append, List.nil_append] at hback ⊢
 unfold SlotS.newS
 by_cases h1 : first < 0
 ·rw [if_pos (.inl h1)]
  refine fn_y Tryz.func23 Tryz.mixed ?_
  intro w0
  refine Y7 ?_
  refine Zhn 11 rfl (rfl) ?_
  refine Y4 ?_
  refine Zhg (Zbn (b := 0) rfl rfl) ?_
  refine Zos 13 rfl (h1) ?_
  refine V14 ?_
  refine rx2 (Zhb rfl (Zg9 rfl (Zg7))) ?_
  exact ⟨_, .inr ⟨by omega, rfl, rfl⟩, (Imp.arr qV).trans hback⟩
 by_cases h2 : n < 0
 ·rw [if_pos (.inr (.inl h2))]
  refine fn_y Tryz.func23 Tryz.mixed ?_
  intro w0
  refine Y7 ?_
  refine Zhn 11 rfl (rfl) ?_
  refine Y4 ?_
  refine Zhg (Zbn (b := 0) rfl rfl) ?_
  refine Zot 13 rfl (h1) ?_
  refine Y2 ?_
  first|refine Y0 ?_|(refine Zhh rfl ?_; (refine Zhg (Zbn (b := 0) rfl rfl) ?_))
  refine Zos 16 rfl (h2) ?_
  refine V11 ?_
  refine rx2 (Zhb rfl (Zg9 rfl (Zg7))) ?_
  exact ⟨_, .inr ⟨by omega, rfl, rfl⟩, (Imp.arr qV).trans hback⟩
 by_cases h3 : size < 1
 ·rw [if_pos (.inr (.inr h3))]
  refine fn_y Tryz.func23 Tryz.mixed ?_
  intro w0
  refine Y7 ?_
  refine Zhn 11 rfl (rfl) ?_
  refine Y4 ?_
  refine Zhg (Zbn (b := 0) rfl rfl) ?_
  refine Zot 13 rfl (h1) ?_
  refine Y2 ?_
  first|refine Y0 ?_|(refine Zhh rfl ?_; (refine Zhg (Zbn (b := 0) rfl rfl) ?_))
  refine Zot 16 rfl (h2) ?_
  refine Y3 ?_
  first|refine Y0 ?_|(refine Zhh rfl ?_; (refine Zhg (Zbn (b := 1) rfl rfl) ?_))
  refine Zos 20 rfl (h3) ?_
  refine V7 ?_
  refine rx2 (Zhb rfl (Zg9 rfl (Zg7))) ?_
  exact ⟨_, .inr ⟨by omega, rfl, rfl⟩, (Imp.arr qV).trans hback⟩
 rw [if_neg (show ¬ (first < 0 ∨ n < 0 ∨ size < 1) by omega)]
 have hc2 : (rpcl p c)[33 + 2]? = some (.int .i64 p.pages) := rp_f hkey (k := 2) rfl
 have hc3 : (rpcl p c)[33 + 3]? = some (nvv p.text) := rp_f hkey (k := 3) rfl
 by_cases h4 : (p.text : Int) < size
 ·rw [if_pos h4]
  refine fn_y Tryz.func23 Tryz.mixed ?_
  intro w0
  refine Y7 ?_
  refine Zhn 11 rfl (rfl) ?_
  refine Y4 ?_
  refine Zhg (Zbn (b := 0) rfl rfl) ?_
  refine Zot 13 rfl (h1) ?_
  refine Y2 ?_
  first|refine Y0 ?_|(refine Zhh rfl ?_; (refine Zhg (Zbn (b := 0) rfl rfl) ?_))
  refine Zot 16 rfl (h2) ?_
  refine Y3 ?_
  first|refine Y0 ?_|(refine Zhh rfl ?_; (refine Zhg (Zbn (b := 1) rfl rfl) ?_))
  refine Zot 20 rfl (h3) ?_
  refine Y8 ?_
  refine Zhp rfl qH (hc3) ?_
  refine Zhg (Zbp (a := size) (b := (p.text : Int)) rfl rfl) ?_
  refine Zos 27 rfl (h4) ?_
  refine V6 ?_
  refine rx2 (Zhb rfl (Zg9 rfl (Zg7))) ?_
  exact ⟨_, .inr ⟨by omega, rfl, rfl⟩, (Imp.arr qV).trans hback⟩
 rw [if_neg h4]
 obtain ⟨f, rfl⟩ : ∃ k : Nat, first = k := ⟨first.toNat, by omega⟩
 obtain ⟨n, rfl⟩ : ∃ k : Nat, n = k := ⟨n.toNat, by omega⟩
 obtain ⟨z, rfl⟩ : ∃ k : Nat, size = k := ⟨size.toNat, by omega⟩
 simp only [Int.toNat_natCast]
 have ef : SlotS.freshS (f : Int) (n : Int) (z : Int) p = ⟨f, n, z, p.text / z, []⟩ := rfl
 rw [ef]
 have hd : 1 ≤ p.text / z := Nat.div_pos (by omega) (by omega)
 have hd2 : p.text / z ≤ 4096 := Nat.le_trans (Nat.div_le_self _ _) ht1
 have hpx := rtake_x n (p.text / z) hd (by omega)
 by_cases h5 : p.pages < (f : Int)
 ·rw [if_pos (.inl h5)]
  refine fn_y Tryz.func23 Tryz.mixed ?_
  intro w0
  refine Y7 ?_
  refine Zhn 11 rfl (rfl) ?_
  refine Y4 ?_
  refine Zhg (Zbn (a := (f : Int)) (b := 0) rfl rfl) ?_
  refine Zot 13 rfl (h1) ?_
  refine Y2 ?_
  first|refine Y0 ?_|(refine Zhh rfl ?_; (refine Zhg (Zbn (a := (n : Int)) (b := 0) rfl rfl) ?_))
  refine Zot 16 rfl (h2) ?_
  refine Y3 ?_
  first|refine Y0 ?_|(refine Zhh rfl ?_; (refine Zhg (Zbn (a := (z : Int)) (b := 1) rfl rfl) ?_))
  refine Zot 20 rfl (h3) ?_
  refine Y8 ?_
  refine Zhp rfl qH (hc3) ?_
  refine Zhg (Zbp (a := (z : Int)) (b := (p.text : Int)) rfl rfl) ?_
  refine Zot 27 rfl (h4) ?_
  refine V2 ?_
  refine Zij ([cl rp (rpcl p c) 135]) [14, 18, 20] (.q 0 (.q 1 (.q 2 (.q 3 (.r 4 (.q 5 (.q 6 (.q 7 (.q 8 (.q 9 (.q 10 (.q 12 (.q 15 (.q 16 (.q 17 (.q 19 (.r 11 (.q 13 (.r 18 (.r 20 (.e 14 true (.q 21 (.q 22 .nil))))))))))))))))))))))) (by kernel_rfl) (by kernel_rfl) (Imp.arr qV) ?_
  refine W4 ?_
  refine Ziv rfl rfl qH (hc2) ?_
  refine Zim rfl (Zbp (a := (f : Int)) (b := p.pages) rfl rfl) ?_
  refine Zou 33 rfl (h5) ?_
  refine W14 ?_
  refine Ziq rfl ?_
  first|refine Y0 ?_|(refine Zhh rfl ?_; (refine Zor (c := hpx) (k := ?_)); (rintro _ _ ⟨rfl, rfl⟩); (refine Zg2 qA ?_))
  refine Zg3 ⟨fun _ => Imp.arr qV, ?_⟩
  refine W3 ?_
  refine V5 ?_
  refine rx2 (Zhb rfl (Zg9 rfl (Zg7))) ?_
  exact ⟨_, .inr ⟨by omega, rfl, rfl⟩, (Imp.arr qV).trans hback⟩
 by_cases h6 : p.pages - (f : Int) < SlotS.takeN n (p.text / z)
 ·rw [if_pos (.inr h6)]
  refine fn_y Tryz.func23 Tryz.mixed ?_
  intro w0
  refine Y7 ?_
  refine Zhn 11 rfl (rfl) ?_
  refine Y4 ?_
  refine Zhg (Zbn (a := (f : Int)) (b := 0) rfl rfl) ?_
  refine Zot 13 rfl (h1) ?_
  refine Y2 ?_
  first|refine Y0 ?_|(refine Zhh rfl ?_; (refine Zhg (Zbn (a := (n : Int)) (b := 0) rfl rfl) ?_))
  refine Zot 16 rfl (h2) ?_
  refine Y3 ?_
  first|refine Y0 ?_|(refine Zhh rfl ?_; (refine Zhg (Zbn (a := (z : Int)) (b := 1) rfl rfl) ?_))
  refine Zot 20 rfl (h3) ?_
  refine Y8 ?_
  refine Zhp rfl qH (hc3) ?_
  refine Zhg (Zbp (a := (z : Int)) (b := (p.text : Int)) rfl rfl) ?_
  refine Zot 27 rfl (h4) ?_
  refine V2 ?_
  refine Zij ([cl rp (rpcl p c) 135]) [14, 18, 20] (.q 0 (.q 1 (.q 2 (.q 3 (.r 4 (.q 5 (.q 6 (.q 7 (.q 8 (.q 9 (.q 10 (.q 12 (.q 15 (.q 16 (.q 17 (.q 19 (.r 11 (.q 13 (.r 18 (.r 20 (.e 14 true (.q 21 (.q 22 .nil))))))))))))))))))))))) (by kernel_rfl) (by kernel_rfl) (Imp.arr qV) ?_
  refine W4 ?_
  refine Ziv rfl rfl qH (hc2) ?_
  refine Zim rfl (Zbp (a := (f : Int)) (b := p.pages) rfl rfl) ?_
  refine Zov 33 rfl (h5) ?_
  refine W10 ?_
  first|refine Zi1 rfl rfl ?_|refine Zi2 rfl rfl ?_|refine Ziw rfl rfl rfl qH (hc3) ?_
  refine W1 ?_
  first|refine Zi1 rfl rfl ?_|refine Zi2 rfl rfl ?_|refine Ziw rfl rfl rfl qH (hc2) ?_
  first|refine Zi1 rfl rfl ?_|refine Zi2 rfl rfl ?_|refine Zi0 rfl rfl (Zbh (a := p.pages) (b := (f : Int)) rfl rfl (by omega)) ?_
  refine Ziq rfl ?_
  first|refine Y0 ?_|(refine Zhh rfl ?_; (refine Zor (c := hpx) (k := ?_)); (rintro _ _ ⟨rfl, rfl⟩); (refine Zg2 qA ?_))
  refine Zg3 ⟨fun _ => Imp.arr qV, ?_⟩
  first|refine Zio rfl rfl ?_|refine Zip rfl rfl ?_|refine Zin rfl rfl (Zbp (a := ((SlotS.takeN n (p.text / z) : Nat) : Int)) (b := p.pages - (f : Int)) rfl rfl) ?_
  refine Zou 49 rfl (h6) ?_
  refine W2 ?_
  refine V5 ?_
  refine rx2 (Zhb rfl (Zg9 rfl (Zg7))) ?_
  exact ⟨_, .inr ⟨by omega, rfl, rfl⟩, (Imp.arr qV).trans hback⟩
 ·rw [if_neg (show ¬ (p.pages < (f : Int) ∨ p.pages - (f : Int) < SlotS.takeN n (p.text / z)) by omega)]
  refine fn_y Tryz.func23 Tryz.mixed ?_
  intro w0
  refine Y7 ?_
  refine Zhn 11 rfl (rfl) ?_
  refine Y4 ?_
  refine Zhg (Zbn (a := (f : Int)) (b := 0) rfl rfl) ?_
  refine Zot 13 rfl (h1) ?_
  refine Y2 ?_
  first|refine Y0 ?_|(refine Zhh rfl ?_; (refine Zhg (Zbn (a := (n : Int)) (b := 0) rfl rfl) ?_))
  refine Zot 16 rfl (h2) ?_
  refine Y3 ?_
  first|refine Y0 ?_|(refine Zhh rfl ?_; (refine Zhg (Zbn (a := (z : Int)) (b := 1) rfl rfl) ?_))
  refine Zot 20 rfl (h3) ?_
  refine Y8 ?_
  refine Zhp rfl qH (hc3) ?_
  refine Zhg (Zbp (a := (z : Int)) (b := (p.text : Int)) rfl rfl) ?_
  refine Zot 27 rfl (h4) ?_
  refine V2 ?_
  refine Zij ([cl rp (rpcl p c) 135]) [14, 18, 20] (.q 0 (.q 1 (.q 2 (.q 3 (.r 4 (.q 5 (.q 6 (.q 7 (.q 8 (.q 9 (.q 10 (.q 12 (.q 15 (.q 16 (.q 17 (.q 19 (.r 11 (.q 13 (.r 18 (.r 20 (.e 14 true (.q 21 (.q 22 .nil))))))))))))))))))))))) (by kernel_rfl) (by kernel_rfl) (Imp.arr qV) ?_
  refine W4 ?_
  refine Ziv rfl rfl qH (hc2) ?_
  refine Zim rfl (Zbp (a := (f : Int)) (b := p.pages) rfl rfl) ?_
  refine Zov 33 rfl (h5) ?_
  refine W10 ?_
  first|refine Zi1 rfl rfl ?_|refine Zi2 rfl rfl ?_|refine Ziw rfl rfl rfl qH (hc3) ?_
  refine W1 ?_
  first|refine Zi1 rfl rfl ?_|refine Zi2 rfl rfl ?_|refine Ziw rfl rfl rfl qH (hc2) ?_
  first|refine Zi1 rfl rfl ?_|refine Zi2 rfl rfl ?_|refine Zi0 rfl rfl (Zbh (a := p.pages) (b := (f : Int)) rfl rfl (by omega)) ?_
  refine Ziq rfl ?_
  first|refine Y0 ?_|(refine Zhh rfl ?_; (refine Zor (c := hpx) (k := ?_)); (rintro _ _ ⟨rfl, rfl⟩); (refine Zg2 qA ?_))
  refine Zg3 ⟨fun _ => Imp.arr qV, ?_⟩
  first|refine Zio rfl rfl ?_|refine Zip rfl rfl ?_|refine Zin rfl rfl (Zbp (a := ((SlotS.takeN n (p.text / z) : Nat) : Int)) (b := p.pages - (f : Int)) rfl rfl) ?_
  refine Zov 49 rfl (h6) ?_
  refine W2 ?_
  refine Y6 ?_
  refine Zhg (Zdm (cs := rsc rp ⟨f, n, z, p.text / z, []⟩ none 0) rfl) ?_
  refine Zh5 rfl ?_; intro b56
  refine V3 ?_
  refine rx2 (Zhb rfl (Zg9 rfl (Zg7))) ?_
  refine ⟨_, .inl ⟨rfl, b56, rfl, rfl⟩, ?_⟩
  exact (((Imp.arr qV).trans (Imp.cons hback)).trans (Imp.own_nil (E := 151) (size := 3))).trans ((Imp.arr (N := rsL b56 rp ⟨f, n, z, p.text / z, []⟩ none 0 ++ [rpA rp q p]) qV).trans rsA_mk)
theorem rslnew_ok {first n size : Int} (hf : first ≤ 9223372036854775807) (hn : n ≤ 9223372036854775807) (hz : size ≤ 9223372036854775807) (h : SlotS.newS first n size p = 0) : Con Tryz.prog 23 [hp rp, .int .i64 first, .int .i64 n, .int .i64 size] [rpA rp q p] (fun r M => ∃ b, r = .tuple #[hp b, nvv 0] ∧ M = [rsA b rp (SlotS.freshS first n size p), rpA rp q p]) :=
 (rslnew_x first n size hf hn hz).mono fun r M hh => by
  rcases hh with ⟨_, q, h1, h2⟩|⟨hne, _⟩
  ·exact ⟨M, Imp.refl _, q, h1, h2⟩
  ·exact absurd h hne
theorem rslnew_no {first n size : Int} (hf : first ≤ 9223372036854775807) (hn : n ≤ 9223372036854775807) (hz : size ≤ 9223372036854775807) (h : SlotS.newS first n size p ≠ 0) : Con Tryz.prog 23 [hp rp, .int .i64 first, .int .i64 n, .int .i64 size] [rpA rp q p] (fun r M => r = .tuple #[.pointer none, nvv (SlotS.newS first n size p)] ∧ M = [rpA rp q p]) :=
 (rslnew_x first n size hf hn hz).mono fun r M hh => by
  rcases hh with ⟨he, _⟩|⟨_, h1, h2⟩
  ·exact absurd he h
  ·exact ⟨M, Imp.refl _, h1, h2⟩
end
end Go.Sl
namespace Go.Sl
open Go Go.Proofs
attribute [local irreducible] pt pur ex all den denOps denS xOps xC cX CX xthen xblk xcut xloop xng retX resX Calls PV Rd Con
attribute [local irreducible] hostA pgA PagerS.loadP PagerS.saveP
open SlotS (SL Acc Fit)
open PagerS (PS Over)
namespace SlW
def k1 : List Byte := 1#8 :: List.replicate 31 0#8
def h0 : HostS.HS := HostS.fresh 4 38 []
def p0 : PS := PagerS.freshP k1 3#64 2 4 10
def s0 : SL := ⟨1, 7, 3, 3, []⟩
theorem ok0 : PagerS.Ok p0 := PagerS.ok_fresh rfl (by decide) (by decide) (by decide)
theorem q0 : PagerS.Quiet p0 h0 fun _ => List.replicate 10 0#8 := PagerS.quiet_fresh ok0 rfl rfl (PagerS.calm_fresh _ _)
theorem f0 : Fit s0 p0 := ⟨by decide, by decide, by decide, by decide⟩
def b1 : Int → List Byte := SlotS.putB s0 (fun _ => List.replicate 10 0#8) 6 [1#8, 2#8, 3#8]
theorem set1 : (SlotS.setS s0 p0 h0 (6 : Nat) [1#8, 2#8, 3#8]).1 = 0 ∧ (SlotS.setS s0 p0 h0 (6 : Nat) [1#8, 2#8, 3#8]).2.1 = SlotS.touch s0 1 (6 : Nat) 0 ∧ PagerS.Quiet (SlotS.setS s0 p0 h0 (6 : Nat) [1#8, 2#8, 3#8]).2.2.1 (SlotS.setS s0 p0 h0 (6 : Nat) [1#8, 2#8, 3#8]).2.2.2 b1 := SlotS.set_q q0 f0 (by decide) (by decide) rfl
theorem slot1 : SlotS.slotB s0 b1 6 = [1#8, 2#8, 3#8] := by
 have := SlotS.putB_at (s := s0) (p := p0) (b := fun _ => List.replicate 10 0#8) f0 (fun _ => rfl) (x := [1#8, 2#8, 3#8]) rfl 6 6
 rw [if_pos rfl] at this
 exact this
theorem may : HostS.mayBe 4 38 [] := ⟨⟨by decide, by decide, by decide, by decide⟩, rfl⟩
end SlW
attribute [local irreducible] SlotS.setS SlotS.getS SlW.b1
open SlW in
theorem slWorks_x : Con Tryz.prog 15 [] [] (fun r M => r = .bool true ∧ M = []) := by
 obtain ⟨a1, a2, a3⟩ := set1
 have n1 := SlotS.set_near s0 p0 h0 (6 : Nat) [1#8, 2#8, 3#8]
 have f1 : Fit (SlotS.touch s0 1 (6 : Nat) 0) (SlotS.setS s0 p0 h0 (6 : Nat) [1#8, 2#8, 3#8]).2.2.1 := (f0.touch _ _ _).same n1.text n1.spages
 have hw0 : p0.writes = 0 := rfl
 have ho0 : h0.ops = 0 := rfl
 have hw1 := n1.writes
 have ho1 := n1.ops
 obtain ⟨c1, c2, c3⟩ := SlotS.get_q a3 f1 (i := 6) (by decide) (by omega)
 have hst := fun q pp ph b => sset_x (q := q) (pp := pp) (ph := ph) (L := [cl b #[u8b 1#8, u8b 2#8, u8b 3#8] 5]) f0 ok0 q0.sound.over (by omega) (by decide) (6 : Nat) (bs_full (l := [1#8, 2#8, 3#8]) (n := 3) .here rfl (by omega))
 rw [a1, a2] at hst
 have hgt := fun q pp ph => sget_x (q := q) (pp := pp) (ph := ph) f1 a3.sound.ok a3.sound.over (by omega) (by show (SlotS.touch s0 1 (6 : Nat) 0).log.length ≤ 4000000000000; exact Nat.le_of_ble_eq_true rfl) (6 : Nat)
 have hsl : SlotS.slotB (SlotS.touch s0 1 (6 : Nat) 0) b1 6 = [1#8, 2#8, 3#8] := slot1
 rw [c1, c2, hsl] at hgt
 generalize (SlotS.setS s0 p0 h0 (6 : Nat) [1#8, 2#8, 3#8]).2.2.1 = p1 at *
 generalize (SlotS.setS s0 p0 h0 (6 : Nat) [1#8, 2#8, 3#8]).2.2.2 = h1 at *
 have hlen : (SlotS.touch (SlotS.touch s0 1 (6 : Nat) 0) 0 (6 : Nat) 0).log.length = 2 := rfl
 have hlg := fun q pp => slog_x (q := q) (pp := pp) (s := SlotS.touch (SlotS.touch s0 1 (6 : Nat) 0) 0 (6 : Nat) 0) (by rw [hlen]; omega)
 rw [hlen] at hlg
 have hz : newR h0 2 = 0 := by with_unfolding_all rfl
 have hf : PagerS.freshP k1 3#64 (2 : Int).toNat h0.pages (h0.size - 28) = p0 := by with_unfolding_all rfl
 have hn := fun p => pnew_ok (ph := p) (h := h0) (key := k1) rfl 3#64 hz
 rw [hf] at hn
 have hh : HostS.fresh 4 (38 : Int).toNat [] = h0 := by with_unfolding_all rfl
 have hnw := new_ok (L := []) 4 38 (fv := .slice none 0 0) (fl := []) (by simp) (by simp) Rd.nil may
 rw [hh] at hnw
 have hsn := fun pp ph => slnew_ok (pp := pp) (ph := ph) (p := p0) ok0 (first := 1) (n := 7) (size := 3) (by omega) (by omega) (by omega) (by with_unfolding_all rfl)
 have hs0 : SlotS.freshS 1 7 3 p0 = s0 := by with_unfolding_all rfl
 rw [hs0] at hsn
 have hln := fun q pp => slen_x (q := q) (pp := pp) (s := s0)
 have hsi := fun q pp => ssize_x (q := q) (pp := pp) (s := s0)
 have hn7 : s0.n = 7 := rfl
 have hz3 : s0.size = 3 := rfl
 rw [hn7] at hln
 rw [hz3] at hsi
 clear hw0 ho0 hw1 ho1 n1 f1 a1 a2 a3 c1 c2 c3 hsl
 refine fn_y Tryz.func15 Tryz.mixed ?_
 intro w0
 refine Y4 ?_
 refine Zor (c := hnw) (k := ?_)
 rintro _ _ ⟨p, rfl, rfl⟩
 refine Y10 ?_
 refine Zot 14 rfl ((fun hh => hh rfl)) ?_
 refine Y3 ?_
 refine Zhn 17 rfl (rfl) ?_
 refine Y5 ?_
 refine Zhg (Zol rfl) ?_
 refine Zhg (Zdn (cs := (k1.map u8b).toArray) (by kernel_rfl)) ?_
 refine Zor (c := hn p) (k := ?_)
 rintro _ _ ⟨pp, rfl, rfl⟩
 refine Y10 ?_
 refine Zot 27 rfl ((fun hh => hh rfl)) ?_
 refine Y3 ?_
 refine Zhn 30 rfl (rfl) ?_
 refine Y5 ?_
 refine Zor (c := hsn pp p) (k := ?_)
 rintro _ _ ⟨q, rfl, rfl⟩
 refine Y10 ?_
 refine Zot 38 rfl ((fun hh => hh rfl)) ?_
 refine Y3 ?_
 refine Zhn 41 rfl (rfl) ?_
 refine Y3 ?_
 first|refine Y0 ?_|(refine Zhh rfl ?_; (refine Zor (c := hln q pp) (k := ?_)); (rintro _ _ ⟨rfl, rfl⟩); (refine Zg2 qA ?_))
 refine Y1 ?_
 refine Zot 46 rfl ((fun hh => hh rfl)) ?_
 refine Y3 ?_
 first|refine Y0 ?_|(refine Zhh rfl ?_; (refine Zor (c := hsi q pp) (k := ?_)); (rintro _ _ ⟨rfl, rfl⟩); (refine Zg2 qA ?_))
 refine Y1 ?_
 refine Zot 51 rfl ((fun hh => hh rfl)) ?_
 refine Y3 ?_
 first|refine Y0 ?_|(refine Zhh rfl ?_; (refine Zh7 (cs := #[u8b 1#8, u8b 2#8, u8b 3#8]) (by omega) (by omega) (by kernel_rfl) ?_; intro b55))
 first|refine Y0 ?_|(refine Zhh rfl ?_; (refine Zor (c := hst q pp p b55) (k := ?_)); (rintro _ _ ⟨rfl, rfl⟩); (refine Zg2 qA ?_))
 refine Y1 ?_
 refine Zot 57 rfl ((fun hh => hh rfl)) ?_
 refine Y5 ?_
 refine Zor (c := hgt q pp p) (k := ?_)
 rintro _ _ ⟨ga, gc, rfl, rfl⟩
 refine Y10 ?_
 refine Zos 65 rfl (rfl) ?_
 refine Y2 ?_
 first|refine Y0 ?_|(refine Zhh rfl ?_; (refine Zh7 (cs := #[u8b 1#8, u8b 2#8, u8b 3#8]) (by omega) (by omega) (by kernel_rfl) ?_; intro b68))
 first|refine Y0 ?_|(refine Zhh rfl ?_; (refine Zor (c := eqBytes_x (L := [ownB ga gc [1#8, 2#8, 3#8], cl b68 #[u8b 1#8, u8b 2#8, u8b 3#8] 5]) (a := [1#8, 2#8, 3#8]) (b := [1#8, 2#8, 3#8]) (Bs.own qH) (bs_full (l := [1#8, 2#8, 3#8]) (n := 3) qH rfl (by omega))) (k := ?_)); (rintro _ _ ⟨rfl, rfl⟩); (refine Zg2 qA ?_))
 refine Zos 69 rfl (rfl) ?_
 refine Y3 ?_
 first|refine Y0 ?_|(refine Zhh rfl ?_; (refine Zor (c := hlg q pp) (k := ?_)); (rintro _ _ ⟨la, lc, rfl, rfl⟩); (refine Zg2 qA ?_))
 refine Y2 ?_
 refine Zos 75 rfl (rfl) ?_
 refine V3 ?_
 refine rx1 (Zha rfl (Zg7)) ?_
 exact ⟨_, ⟨rfl, rfl⟩, qI⟩
end Go.Sl
namespace Go.Sl
open Go Go.Proofs Go.ChangeShapes Go.WideShapes Go.ChangeAt Go.RowKit
structure SizesV where
 first_ : Int
 n_ : Int
 size_ : Int
 text_ : Int
 pages_ : Int
 window_ : Int
def SizesV.cells (x : SizesV) : List Value := [.int .i64 x.first_] ++ ([.int .i64 x.n_] ++ ([.int .i64 x.size_] ++ ([.int .i64 x.text_] ++ ([.int .i64 x.pages_] ++ ([.int .i64 x.window_])))))
structure SizesVOk (w : World) (x : SizesV) : Prop where
 triv : True
 first_ : -9223372036854775808 ≤ x.first_ ∧ x.first_ ≤ 9223372036854775807
 n_ : -9223372036854775808 ≤ x.n_ ∧ x.n_ ≤ 9223372036854775807
 size_ : -9223372036854775808 ≤ x.size_ ∧ x.size_ ≤ 9223372036854775807
 text_ : -9223372036854775808 ≤ x.text_ ∧ x.text_ ≤ 9223372036854775807
 pages_ : -9223372036854775808 ≤ x.pages_ ∧ x.pages_ ≤ 9223372036854775807
 window_ : -9223372036854775808 ≤ x.window_ ∧ x.window_ ≤ 9223372036854775807
section
variable {H : Type} {enc : TypeId × Value → H} {w : World} {base : Nat} {spare : Nat → Bool} {held : Bool}
theorem open_SizesV {n : Nat} {cs : List Value} {y : DataW H × List MemPlace} (h : DataW.trod enc Tryz.prog w base spare held n 27 cs = some y) (hs : Small Tryz.prog 27 y.1) : ∃ x : SizesV, cs = x.cells ∧ SizesVOk w x := by
 obtain ⟨xs, m, _, hx, hl, hn, hf⟩ := DataW.trod_struct Tryz.underlying27 h
 rw [show Tryz.prog.cellsOf 27 = 6 by kernel_rfl] at hl
 have hn : xs.length = 6 := hn
 have g : ∀ i (hi : i < xs.length), xs[i]? = some xs[i] := fun i hi => List.getElem?_eq_getElem hi
 rw [hx] at hs
 have e0 : DataW.trod enc Tryz.prog w base spare held m 3 ((cs.drop 0).take (Tryz.prog.cellsOf 3)) = some (xs[0]'(by omega)) := (hf 0 _ rfl).trans (g 0 (by omega))
 rw [show Tryz.prog.cellsOf 3 = 1 by kernel_rfl] at e0
 obtain ⟨n0, c0, _, wf0⟩ := DataW.trod_int Tryz.underlying3 e0
 have e1 : DataW.trod enc Tryz.prog w base spare held m 3 ((cs.drop 1).take (Tryz.prog.cellsOf 3)) = some (xs[1]'(by omega)) := (hf 1 _ rfl).trans (g 1 (by omega))
 rw [show Tryz.prog.cellsOf 3 = 1 by kernel_rfl] at e1
 obtain ⟨n1, c1, _, wf1⟩ := DataW.trod_int Tryz.underlying3 e1
 have e2 : DataW.trod enc Tryz.prog w base spare held m 3 ((cs.drop 2).take (Tryz.prog.cellsOf 3)) = some (xs[2]'(by omega)) := (hf 2 _ rfl).trans (g 2 (by omega))
 rw [show Tryz.prog.cellsOf 3 = 1 by kernel_rfl] at e2
 obtain ⟨n2, c2, _, wf2⟩ := DataW.trod_int Tryz.underlying3 e2
 have e3 : DataW.trod enc Tryz.prog w base spare held m 3 ((cs.drop 3).take (Tryz.prog.cellsOf 3)) = some (xs[3]'(by omega)) := (hf 3 _ rfl).trans (g 3 (by omega))
 rw [show Tryz.prog.cellsOf 3 = 1 by kernel_rfl] at e3
 obtain ⟨n3, c3, _, wf3⟩ := DataW.trod_int Tryz.underlying3 e3
 have e4 : DataW.trod enc Tryz.prog w base spare held m 3 ((cs.drop 4).take (Tryz.prog.cellsOf 3)) = some (xs[4]'(by omega)) := (hf 4 _ rfl).trans (g 4 (by omega))
 rw [show Tryz.prog.cellsOf 3 = 1 by kernel_rfl] at e4
 obtain ⟨n4, c4, _, wf4⟩ := DataW.trod_int Tryz.underlying3 e4
 have e5 : DataW.trod enc Tryz.prog w base spare held m 3 ((cs.drop 5).take (Tryz.prog.cellsOf 3)) = some (xs[5]'(by omega)) := (hf 5 _ rfl).trans (g 5 (by omega))
 rw [show Tryz.prog.cellsOf 3 = 1 by kernel_rfl] at e5
 obtain ⟨n5, c5, _, wf5⟩ := DataW.trod_int Tryz.underlying3 e5
 refine ⟨⟨n0, n1, n2, n3, n4, n5⟩, ?_, ⟨trivial, i64_of wf0, i64_of wf1, i64_of wf2, i64_of wf3, i64_of wf4, i64_of wf5⟩⟩
 have d0 : cs.drop 0 = (cs.drop 0).take 1 ++ cs.drop 1 := by
  have := (List.take_append_drop 1 (cs.drop 0)).symm
  rwa [List.drop_drop] at this
 have d1 : cs.drop 1 = (cs.drop 1).take 1 ++ cs.drop 2 := by
  have := (List.take_append_drop 1 (cs.drop 1)).symm
  rwa [List.drop_drop] at this
 have d2 : cs.drop 2 = (cs.drop 2).take 1 ++ cs.drop 3 := by
  have := (List.take_append_drop 1 (cs.drop 2)).symm
  rwa [List.drop_drop] at this
 have d3 : cs.drop 3 = (cs.drop 3).take 1 ++ cs.drop 4 := by
  have := (List.take_append_drop 1 (cs.drop 3)).symm
  rwa [List.drop_drop] at this
 have d4 : cs.drop 4 = (cs.drop 4).take 1 ++ cs.drop 5 := by
  have := (List.take_append_drop 1 (cs.drop 4)).symm
  rwa [List.drop_drop] at this
 have d5 : cs.drop 5 = (cs.drop 5).take 1 := by rw [List.take_of_length_le (by simp; omega)]
 show cs = _ ++ (_ ++ (_ ++ (_ ++ (_ ++ (_)))))
 have dz : cs = cs.drop 0 := rfl
 rw [dz, d0, d1, d2, d3, d4, d5, c0, c1, c2, c3, c4, c5] <;> rfl
end
end Go.Sl
namespace Go.Sl
open Go Go.Proofs
attribute [local irreducible] pt pur ex all den denOps denS xOps xC cX CX xthen xblk xcut xloop xng retX resX Calls PV Rd Con
attribute [local irreducible] hostA pgA refA rpA
open SlotS (SL Acc Fit)
open PagerS (PS Over)
def withinN (a : Int) (n : Nat) : Nat := (if a.tmod n < 0 then a.tmod n + n else a.tmod n).toNat
theorem within_is (a : Int) {n : Nat} (hn : 1 ≤ n) : withinN a n < n ∧ (a.tmod n < 0 → a.tmod n + n = withinN a n) ∧ (¬ a.tmod n < 0 → a.tmod n = withinN a n) := by
 have h1 := Int.lt_tmod_of_pos a (b := (n : Int)) (by omega)
 have h2 := Int.tmod_lt_of_pos a (b := (n : Int)) (by omega)
 unfold withinN
 by_cases h : a.tmod n < 0
 ·rw [if_pos h]
  exact ⟨by omega, fun _ => by omega, fun hh => absurd h hh⟩
 ·rw [if_neg h]
  exact ⟨by omega, fun hh => absurd hh h, fun _ => by omega⟩
theorem within_x (a : Int) (n : Nat) (hn : 1 ≤ n) (hn2 : n ≤ 1000000000000) : Con Tryz.prog 18 [.int .i64 a, nvv n] [] (fun r M => r = nvv (withinN a n) ∧ M = []) := by
 obtain ⟨h1, h2, h3⟩ := within_is a hn
 by_cases h : a.tmod n < 0
 ·have e := h2 h
  refine fn_y Tryz.func18 Tryz.mixed ?_
  intro w0
  refine Y6 ?_
  refine Zhg (Zbk (a := a) (b := (n : Int)) rfl rfl (by omega)) ?_
  refine Y4 ?_
  refine Zhg (Zbn (a := a.tmod n) (b := 0) rfl rfl) ?_
  refine Zos 9 rfl (h) ?_
  refine Y5 ?_
  refine Zhg (Zbg (a := a.tmod n) (b := (n : Int)) rfl rfl (by omega)) ?_
  refine V2 ?_
  rw [e]
  refine V4 ?_
  refine rx1 (Zg9 rfl (Zg7)) ?_
  exact ⟨_, ⟨rfl, rfl⟩, qI⟩
 ·have e := h3 h
  refine fn_y Tryz.func18 Tryz.mixed ?_
  intro w0
  refine Y6 ?_
  refine Zhg (Zbk (a := a) (b := (n : Int)) rfl rfl (by omega)) ?_
  refine Y4 ?_
  refine Zhg (Zbn (a := a.tmod n) (b := 0) rfl rfl) ?_
  refine Zot 9 rfl (h) ?_
  refine V2 ?_
  rw [e]
  refine V4 ?_
  refine rx1 (Zg9 rfl (Zg7)) ?_
  exact ⟨_, ⟨rfl, rfl⟩, qI⟩
attribute [local irreducible] withinN
abbrev nilF : Value := .slice none 0 0
theorem faultsIn_nil {L : List Asrt} : FaultsIn L nilF [] := ⟨Rd.nil, fun f hf => (by cases hf), by decide⟩
theorem rnew_nil {L : List Asrt} (pn tx : Nat) (hm : HostS.mayBe (pn : Int) (tx : Int) []) : Con Tryz.prog 20 [nvv pn, nvv tx, nilF] L (fun r M => ∃ q, r = .tuple #[hp q, nvv 0] ∧ M = refA q (HostS.fresh (pn : Int) tx []) [] :: L) := (rNew_x (pn : Int) (tx : Int) faultsIn_nil).mono fun r M hh => ⟨M, Imp.refl _, hh.1 hm⟩
theorem hnew_nil {L : List Asrt} (pn tx : Nat) (hm : HostS.mayBe (pn : Int) (tx : Int) []) : Con Tryz.prog 19 [nvv pn, nvv tx, nilF] L (fun r M => ∃ q, r = .tuple #[hp q, nvv 0] ∧ M = hostA q (HostS.fresh (pn : Int) tx []) :: L) := new_ok (L := L) (pn : Int) (tx : Int) (fv := nilF) (fl := []) (by simp) (by simp) Rd.nil hm
abbrev key0 : List Byte := List.replicate 32 0#8
abbrev hsN (pn n : Nat) : HostS.HS := HostS.fresh (pn : Int) (n + 28) []
abbrev psN (key : List Byte) (round : BitVec 64) (wn pn n : Nat) : PS := PagerS.freshP key round wn (pn : Int) n
theorem newN {pn n wn : Nat} (hn : 1 ≤ n) (hw : 2 ≤ wn ∧ wn ≤ 16) : newR (hsN pn n) (wn : Int) = 0 := by
 unfold newR
 rw [if_neg (by omega), if_neg (show ¬ (hsN pn n).size ≤ 28 by show ¬ n + 28 ≤ 28; omega)]
theorem freshN {key : List Byte} {round : BitVec 64} {pn n wn : Nat} : PagerS.freshP key round ((wn : Int)).toNat (hsN pn n).pages ((hsN pn n).size - 28) = psN key round wn pn n := by
 show PagerS.freshP key round wn (pn : Int) (n + 28 - 28) = _
 rw [Nat.add_sub_cancel]
theorem pnewN {ph : Nat} {key : List Byte} (hk : key.length = 32) (round : BitVec 64) {pn n wn : Nat} (hn : 1 ≤ n) (hw : 2 ≤ wn ∧ wn ≤ 16) : Con Tryz.prog 21 [stV ph, .agg (key.map u8b).toArray, u64b round, nvv wn] [hostA ph (hsN pn n)] (fun r M => ∃ p, r = .tuple #[hp p, nvv 0] ∧ M = [pgA p ph (psN key round wn pn n), hostA ph (hsN pn n)]) := by
 have := pnew_ok (ph := ph) (h := hsN pn n) hk round (newN (pn := pn) hn hw)
 rwa [freshN] at this
theorem rpnewN {q : Nat} {key : List Byte} (hk : key.length = 32) (round : BitVec 64) {pn n wn : Nat} (hn : 1 ≤ n) (hw : 2 ≤ wn ∧ wn ≤ 16) : Con Tryz.prog 22 [hp q, .agg (key.map u8b).toArray, u64b round, nvv wn] [refA q (hsN pn n) []] (fun r M => ∃ p, r = .tuple #[hp p, nvv 0] ∧ M = [rpA p q (psN key round wn pn n), refA q (hsN pn n) []]) := by
 have := rpnew_ok (q := q) (h := hsN pn n) (fl := []) hk round (newN (pn := pn) hn hw)
 rwa [freshN] at this
theorem mayN {pn n : Nat} (hp : pn ≤ 65536) (hn : 1 ≤ n ∧ n ≤ 4096) : HostS.mayBe (pn : Int) ((n + 28 : Nat) : Int) [] := ⟨⟨by omega, by omega, by omega, by omega⟩, rfl⟩
abbrev Big (n : Int) : Prop := -9223372036854775808 ≤ n ∧ n ≤ 9223372036854775807
theorem fits_x (f n z t p w : Int) (hf : Big f) (hn : Big n) (hz : Big z) (ht : Big t) : Con Tryz.prog 4 [.agg #[.int .i64 f, .int .i64 n, .int .i64 z, .int .i64 t, .int .i64 p, .int .i64 w]] [] (fun r M => r = .bool true ∧ M = []) := by
 have hp1 := sPages_x n z t hn.2 hz.2 ht.2
 have hp2 := rsPages_x n z t hn.2 hz.2 ht.2
 obtain ⟨tx, hw1⟩ : ∃ k, withinN t 4096 = k := ⟨_, rfl⟩
 obtain ⟨pn, hw2⟩ : ∃ k, withinN p 71 = k := ⟨_, rfl⟩
 obtain ⟨wn, hw3⟩ : ∃ k, withinN w 15 = k := ⟨_, rfl⟩
 have l1 := (within_is t (n := 4096) (by omega)).1
 have l2 := (within_is p (n := 71) (by omega)).1
 have l3 := (within_is w (n := 15) (by omega)).1
 have x1 := within_x t 4096 (by omega) (by omega)
 have x2 := within_x p 71 (by omega) (by omega)
 have x3 := within_x w 15 (by omega) (by omega)
 rw [hw1] at l1 x1
 rw [hw2] at l2 x2
 rw [hw3] at l3 x3
 have hnw := fun (L : List Asrt) => hnew_nil (L := L) pn (1 + tx + 28) (mayN (n := 1 + tx) (by omega) ⟨by omega, by omega⟩)
 have hrn := fun (L : List Asrt) => rnew_nil (L := L) pn (1 + tx + 28) (mayN (n := 1 + tx) (by omega) ⟨by omega, by omega⟩)
 have hpn := fun ph => pnewN (ph := ph) (key := key0) rfl 1#64 (pn := pn) (n := 1 + tx) (wn := 2 + wn) (by omega) ⟨by omega, by omega⟩
 have hrp := fun q => rpnewN (q := q) (key := key0) rfl 1#64 (pn := pn) (n := 1 + tx) (wn := 2) (by omega) ⟨by omega, by omega⟩
 have hok : PagerS.Ok (psN key0 1#64 (2 + wn) pn (1 + tx)) := PagerS.ok_fresh rfl (by omega) (by omega) (by omega)
 have hnl : (PagerS.numbers (psN key0 1#64 (2 + wn) pn (1 + tx))).length = 0 := rfl
 have hll : (hsN pn (1 + tx)).log.length = 0 := rfl
 have hlx := fun ph => log_x (p := ph) (s := hsN pn (1 + tx)) (Nat.zero_le _)
 have hhx := fun p ph => held_x (p := p) (ph := ph) (s := psN key0 1#64 (2 + wn) pn (1 + tx))
 rw [hll] at hlx
 rw [hnl] at hhx
 have hNE : SlotS.newS f n z (psN key0 1#64 2 pn (1 + tx)) = SlotS.newS f n z (psN key0 1#64 (2 + wn) pn (1 + tx)) := rfl
 have hFE : SlotS.freshS f n z (psN key0 1#64 2 pn (1 + tx)) = SlotS.freshS f n z (psN key0 1#64 (2 + wn) pn (1 + tx)) := rfl
 generalize (SlotS.pagesS n z t).1 = pg1 at *
 generalize (SlotS.pagesS n z t).2 = pg2 at *
 refine fn_y Tryz.func4 Tryz.mixed ?_
 intro w0
 refine Y1 ?_
 refine Zh5 rfl ?_; intro b1
 refine Y9 ?_
 refine Zor (c := hp1) (k := ?_)
 rintro _ _ ⟨rfl, rfl⟩
 refine Y14 ?_
 refine Zor (c := hp2) (k := ?_)
 rintro _ _ ⟨rfl, rfl⟩
 refine Y10 ?_
 refine Zhg (Zbs (a := pg1) (b := pg1) rfl rfl) ?_
 refine Zot 45 rfl ((fun hh => hh rfl)) ?_
 refine Y3 ?_
 first|refine Y0 ?_|(refine Zhh rfl ?_; (refine Zhg (Zmk (a := pg2) (b := pg2) rfl rfl) ?_))
 refine Zot 49 rfl ((fun hh => hh rfl)) ?_
 refine Y10 ?_
 refine Zor (c := slnew_nil f n z) (k := ?_)
 rintro _ _ ⟨rfl, rfl⟩
 refine Y10 ?_
 refine Zor (c := x1) (k := ?_)
 rintro _ _ ⟨rfl, rfl⟩
 refine Y1 ?_
 refine Zhg (Zma (a := 1) (b := tx) rfl rfl) ?_
 refine Y5 ?_
 refine Zor (c := x2) (k := ?_)
 rintro _ _ ⟨rfl, rfl⟩
 refine Y7 ?_
 refine Zor (c := hnw []) (k := ?_)
 rintro _ _ ⟨ph, rfl, rfl⟩
 refine Y11 ?_
 refine Zor (c := hrn []) (k := ?_)
 rintro _ _ ⟨q, rfl, rfl⟩
 refine Y10 ?_
 refine Zot 83 rfl ((fun hh => hh rfl)) ?_
 refine Y3 ?_
 refine Zot 86 rfl ((fun hh => hh rfl)) ?_
 refine Y4 ?_
 refine Zhn 90 rfl (rfl) ?_
 refine Y4 ?_
 refine Zhn 94 rfl (rfl) ?_
 refine V3 ?_
 refine Zgp (Imp.arr (N := hostA ph (hsN pn (1 + tx)) :: refA q (hsN pn (1 + tx)) [] :: [cl b1 #[.int .i64 f, .int .i64 n, .int .i64 z, .int .i64 t, .int .i64 p, .int .i64 w] 27]) qV) ?_
 refine Y2 ?_
 refine Zhg (Zol rfl) ?_
 refine Zhg (Zdn (cs := (key0.map u8b).toArray) (by kernel_rfl)) ?_
 refine Y2 ?_
 refine Zor (c := x3) (k := ?_)
 rintro _ _ ⟨rfl, rfl⟩
 refine Y1 ?_
 refine Zhg (Zma (a := 2) (b := wn) rfl rfl) ?_
 refine Zor (c := hpn ph) (k := ?_)
 rintro _ _ ⟨pp, rfl, rfl⟩
 refine Y9 ?_
 refine Zhg (Zdn (cs := (key0.map u8b).toArray) (by kernel_rfl)) ?_
 refine Zor (c := hrp q) (k := ?_)
 rintro _ _ ⟨rp, rfl, rfl⟩
 refine Y10 ?_
 refine Zot 114 rfl ((fun hh => hh rfl)) ?_
 refine Y3 ?_
 refine Zhn 117 rfl (rfl) ?_
 refine Y4 ?_
 refine Zhn 121 rfl (rfl) ?_
 refine V3 ?_
 by_cases hs : SlotS.newS f n z (psN key0 1#64 (2 + wn) pn (1 + tx)) = 0
 ·have hs1 := fun pp ph => slnew_ok (pp := pp) (ph := ph) hok (first := f) (n := n) (size := z) hf.2 hn.2 hz.2 hs
  have hs2 := fun rp q => rslnew_ok (rp := rp) (q := q) (p := psN key0 1#64 2 pn (1 + tx)) (first := f) (n := n) (size := z) hf.2 hn.2 hz.2 (hNE.trans hs)
  rw [hFE] at hs2
  have hg : 0 ≤ n ∧ 1 ≤ z := by
   unfold SlotS.newS at hs
   split at hs
   ·cases hs
   ·omega
  have e1 : (SlotS.freshS f n z (psN key0 1#64 (2 + wn) pn (1 + tx))).n = n.toNat := rfl
  have e2 : (SlotS.freshS f n z (psN key0 1#64 (2 + wn) pn (1 + tx))).size = z.toNat := rfl
  have e3 : (SlotS.freshS f n z (psN key0 1#64 (2 + wn) pn (1 + tx))).log.length = 0 := rfl
  have hln := fun b pp => slen_x (q := b) (pp := pp) (s := SlotS.freshS f n z (psN key0 1#64 (2 + wn) pn (1 + tx)))
  have hsz := fun b pp => ssize_x (q := b) (pp := pp) (s := SlotS.freshS f n z (psN key0 1#64 (2 + wn) pn (1 + tx)))
  have hlg := fun b pp => slog_x (q := b) (pp := pp) (s := SlotS.freshS f n z (psN key0 1#64 (2 + wn) pn (1 + tx))) (by rw [e3]; omega)
  rw [e1] at hln
  rw [e2] at hsz
  rw [e3] at hlg
  refine Y8 ?_
  refine Zor (c := hs1 pp ph) (k := ?_)
  rintro _ _ ⟨b, rfl, rfl⟩
  refine Y15 ?_
  refine Zor (c := hs2 rp q) (k := ?_)
  rintro _ _ ⟨b', rfl, rfl⟩
  refine Y10 ?_
  refine Zhg (Zmk (a := 0) (b := 0) rfl rfl) ?_
  refine Zot 147 rfl ((fun hh => hh rfl)) ?_
  refine Y3 ?_
  refine Zhn 150 rfl (rfl) ?_
  refine Y2 ?_
  refine Zhn 152 rfl (rfl) ?_
  first|refine Y0 ?_|(refine Zhh rfl ?_; (refine Zhg (Zb8 (c := false) (d := false) rfl rfl) ?_))
  refine Zhn 153 rfl (rfl) ?_
  refine Y3 ?_
  first|refine Y0 ?_|(refine Zhh rfl ?_; (refine Zor (c := hlx ph) (k := ?_)); (rintro _ _ ⟨la, lc, rfl, rfl⟩); (refine Zg2 qA ?_))
  refine Y2 ?_
  refine Zot 159 rfl ((fun hh => hh rfl)) ?_
  refine Y3 ?_
  first|refine Y0 ?_|(refine Zhh rfl ?_; (refine Zor (c := hhx pp ph) (k := ?_)); (rintro _ _ ⟨ha, hc, rfl, rfl⟩); (refine Zg2 qA ?_))
  refine Y2 ?_
  refine Zot 165 rfl ((fun hh => hh rfl)) ?_
  refine V3 ?_
  refine Zij ([cl b1 #[.int .i64 f, .int .i64 n, .int .i64 z, .int .i64 t, .int .i64 p, .int .i64 w] 27]) [4, 10] (.q 0 (.q 1 (.q 2 (.q 3 (.q 5 (.r 6 (.e 4 true (.q 7 (.q 8 (.q 9 (.q 11 (.r 12 (.e 10 true (.q 13 (.q 14 (.q 15 (.q 16 (.e 17 false (.q 18 (.q 19 (.q 20 (.q 21 (.q 22 (.e 23 false (.q 24 (.q 25 .nil)))))))))))))))))))))))))) (by kernel_rfl) (by kernel_rfl) (Imp.arr qV) ?_
  refine W2 ?_
  refine Zi6 168 rfl (rfl) ?_
  refine W4 ?_
  refine Ziq rfl ?_
  first|refine Y0 ?_|(refine Zhh rfl ?_; (refine Zor (c := hln b pp) (k := ?_)); (rintro _ _ ⟨rfl, rfl⟩); (refine Zg2 qA ?_))
  refine Zg3 ⟨fun _ => Imp.arr qV, ?_⟩
  first|refine Zio rfl rfl ?_|refine Zip rfl rfl ?_|refine Zin rfl rfl (Zbr (a := ((n.toNat : Nat) : Int)) (b := n) rfl rfl) ?_
  refine Zou 174 rfl ((by omega)) ?_
  refine W4 ?_
  refine Ziq rfl ?_
  first|refine Y0 ?_|(refine Zhh rfl ?_; (refine Zor (c := hsz b pp) (k := ?_)); (rintro _ _ ⟨rfl, rfl⟩); (refine Zg2 qA ?_))
  refine Zg3 ⟨fun _ => Imp.arr qV, ?_⟩
  first|refine Zio rfl rfl ?_|refine Zip rfl rfl ?_|refine Zin rfl rfl (Zbr (a := ((z.toNat : Nat) : Int)) (b := z) rfl rfl) ?_
  refine Zou 180 rfl ((by omega)) ?_
  refine W3 ?_
  refine Ziq rfl ?_
  first|refine Y0 ?_|(refine Zhh rfl ?_; (refine Zor (c := hlg b pp) (k := ?_)); (rintro _ _ ⟨ya, yc, rfl, rfl⟩); (refine Zg2 qA ?_))
  refine Zg3 ⟨(fun hh => Bool.noConfusion hh), ?_⟩
  refine W2 ?_
  refine Zou 186 rfl (rfl) ?_
  refine W3 ?_
  refine Ziq rfl ?_
  first|refine Y0 ?_|(refine Zhh rfl ?_; (refine Zor (c := slWorks_x) (k := ?_)); (rintro _ _ ⟨rfl, rfl⟩); (refine Zg2 qA ?_))
  refine Zg3 ⟨(fun hh => Bool.noConfusion hh), ?_⟩
  refine W3 ?_
  refine Ct.o ?_
  refine rx1 (Zha rfl (Zg7)) ?_
  exact ⟨_, ⟨rfl, rfl⟩, qI⟩
 ·have hs1 := fun pp ph => slnew_no (pp := pp) (ph := ph) hok (first := f) (n := n) (size := z) hf.2 hn.2 hz.2 hs
  have hs2 := fun rp q => rslnew_no (rp := rp) (q := q) (p := psN key0 1#64 2 pn (1 + tx)) (first := f) (n := n) (size := z) hf.2 hn.2 hz.2 (fun hh => hs (hNE.symm.trans hh))
  rw [hNE] at hs2
  generalize SlotS.newS f n z (psN key0 1#64 (2 + wn) pn (1 + tx)) = er at *
  refine Y8 ?_
  refine Zor (c := hs1 pp ph) (k := ?_)
  rintro _ _ ⟨rfl, rfl⟩
  refine Y15 ?_
  refine Zor (c := hs2 rp q) (k := ?_)
  rintro _ _ ⟨rfl, rfl⟩
  refine Y10 ?_
  refine Zhg (Zmk (a := er) (b := er) rfl rfl) ?_
  refine Zot 147 rfl ((fun hh => hh rfl)) ?_
  refine Y3 ?_
  refine Zhm 150 rfl (rfl) ?_
  refine Y2 ?_
  refine Zhm 152 rfl (rfl) ?_
  first|refine Y0 ?_|(refine Zhh rfl ?_; (refine Zhg (Zb8 (c := true) (d := true) rfl rfl) ?_))
  refine Zhn 153 rfl (rfl) ?_
  refine Y3 ?_
  first|refine Y0 ?_|(refine Zhh rfl ?_; (refine Zor (c := hlx ph) (k := ?_)); (rintro _ _ ⟨la, lc, rfl, rfl⟩); (refine Zg2 qA ?_))
  refine Y2 ?_
  refine Zot 159 rfl ((fun hh => hh rfl)) ?_
  refine Y3 ?_
  first|refine Y0 ?_|(refine Zhh rfl ?_; (refine Zor (c := hhx pp ph) (k := ?_)); (rintro _ _ ⟨ha, hc, rfl, rfl⟩); (refine Zg2 qA ?_))
  refine Y2 ?_
  refine Zot 165 rfl ((fun hh => hh rfl)) ?_
  refine V3 ?_
  refine Zij ([cl b1 #[.int .i64 f, .int .i64 n, .int .i64 z, .int .i64 t, .int .i64 p, .int .i64 w] 27]) [4, 10] (.q 0 (.q 1 (.q 2 (.q 3 (.q 5 (.r 6 (.e 4 true (.q 7 (.q 8 (.q 9 (.q 11 (.r 12 (.e 10 true (.q 13 (.q 14 (.q 15 (.q 16 (.e 17 false (.q 18 (.q 19 (.q 20 (.q 21 (.q 22 (.e 23 false (.q 24 (.q 25 .nil)))))))))))))))))))))))))) (by kernel_rfl) (by kernel_rfl) (Imp.arr qV) ?_
  refine W2 ?_
  refine Zi5 168 rfl (rfl) ?_
  refine W4 ?_
  refine Ziq rfl ?_
  first|refine Y0 ?_|(refine Zhh rfl ?_; (refine Zor (c := slWorks_x) (k := ?_)); (rintro _ _ ⟨rfl, rfl⟩); (refine Zg2 qA ?_))
  refine Zg3 ⟨fun _ => Imp.arr qV, ?_⟩
  refine W5 ?_
  refine Ziq rfl ?_
  first|refine Y0 ?_|(refine Zhh rfl ?_; (refine Zor (c := slWorks_x) (k := ?_)); (rintro _ _ ⟨rfl, rfl⟩); (refine Zg2 qA ?_))
  refine Zg3 ⟨fun _ => Imp.arr qV, ?_⟩
  refine W4 ?_
  refine Ziq rfl ?_
  first|refine Y0 ?_|(refine Zhh rfl ?_; (refine Zor (c := slWorks_x) (k := ?_)); (rintro _ _ ⟨rfl, rfl⟩); (refine Zg2 qA ?_))
  refine Zg3 ⟨(fun hh => Bool.noConfusion hh), ?_⟩
  refine W5 ?_
  refine Ziq rfl ?_
  first|refine Y0 ?_|(refine Zhh rfl ?_; (refine Zor (c := slWorks_x) (k := ?_)); (rintro _ _ ⟨rfl, rfl⟩); (refine Zg2 qA ?_))
  refine Zg3 ⟨(fun hh => Bool.noConfusion hh), ?_⟩
  refine W3 ?_
  refine Ct.o ?_
  refine rx1 (Zha rfl (Zg7)) ?_
  exact ⟨_, ⟨rfl, rfl⟩, qI⟩
theorem fits_w (W : World) (x : SizesV) (ok : SizesVOk W x) : Con Tryz.prog 4 [.agg x.cells.toArray] [old W] (fun r M => r = .bool true ∧ [old W] = M) := (Con.frame (L := [old W]) (fits_x x.first_ x.n_ x.size_ x.text_ x.pages_ x.window_ ok.first_ ok.n_ ok.size_ ok.text_)).mono fun r M ⟨M', ⟨h1, h2⟩, h3⟩ => by
 subst h2
 exact ⟨_, Imp.refl _, h1, by rw [← h3]; rfl⟩
end Go.Sl
