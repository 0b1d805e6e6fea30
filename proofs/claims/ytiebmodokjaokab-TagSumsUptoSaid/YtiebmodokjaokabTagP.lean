/- tag: what a code is as a number. No program in sight. -/
import Derived.Test.YtiebmodokjaokabTagS
set_option linter.unusedVariables false
set_option linter.unusedSimpArgs false
namespace Go.Sl
open Go
/-- Bytes as a number, the lowest first. -/
def leN : List Byte → Nat
  | [] => 0
  | x :: l => x.toNat + 256 * leN l
theorem leN_append (a b : List Byte) : leN (a ++ b) = leN a + 256 ^ a.length * leN b := by
  induction a with
  | nil => simp [leN]
  | cons x a ih =>
    simp only [List.cons_append, leN, ih, List.length_cons, Nat.pow_succ, Nat.mul_add]
    rw [← Nat.mul_assoc, Nat.mul_comm 256 (256 ^ a.length)]; omega
theorem leN_lt (l : List Byte) : leN l < 256 ^ l.length := by
  induction l with
  | nil => simp [leN]
  | cons x l ih =>
    have := x.isLt
    simp only [leN, List.length_cons, Nat.pow_succ]; omega
theorem leN_zeros (n : Nat) : leN (List.replicate n 0#8) = 0 := by
  induction n with
  | zero => rfl
  | succ n ih => simp [List.replicate_succ, leN, ih]
theorem leN_inj : ∀ {a b : List Byte}, a.length = b.length → leN a = leN b → a = b
  | [], [], _, _ => rfl
  | x :: a, y :: b, hl, h => by
    have hx := x.isLt; have hy := y.isLt
    simp only [leN] at h
    have h1 : x.toNat = y.toNat := by omega
    have h2 : leN a = leN b := by omega
    rw [BitVec.eq_of_toNat_eq h1, leN_inj (by simpa using hl) h2]
  | [], _ :: _, hl, _ => by simp at hl
  | _ :: _, [], hl, _ => by simp at hl
theorem or_add (a b i : Nat) (h : b < 2 ^ i) : a <<< i ||| b = a * 2 ^ i + b := by rw [← Nat.shiftLeft_add_eq_or_of_lt h, Nat.shiftLeft_eq]
theorem wordB_val : ∀ (b : List Byte), b.length ≤ 8 → (wordB b).toNat = leN b
  | [], _ => rfl
  | x :: b, h => by
    simp only [List.length_cons] at h
    have ih := wordB_val b (by omega)
    have hl := leN_lt b
    have hx := x.isLt
    have hp : 256 ^ b.length ≤ 256 ^ 7 := Nat.pow_le_pow_right (by omega) (by omega)
    have h7 : (256 : Nat) ^ 7 = 72057594037927936 := by decide
    show (wordB b <<< 8 ||| x.setWidth 64).toNat = _
    rw [BitVec.toNat_or, BitVec.toNat_shiftLeft, BitVec.toNat_setWidth, ih, Nat.shiftLeft_eq, Nat.mod_eq_of_lt (show leN b * 2 ^ 8 < 2 ^ 64 by omega), Nat.mod_eq_of_lt (show x.toNat < 2 ^ 64 by omega), ← Nat.shiftLeft_eq, or_add _ _ _ (show x.toNat < 2 ^ 8 from hx)]
    simp only [leN]; omega

abbrev W128.val (x : W128) : Nat := x.1.toNat + 18446744073709551616 * x.2.toNat
abbrev W192.val (h : W192) : Nat := h.1.toNat + 18446744073709551616 * h.2.1.toNat + 340282366920938463463374607431768211456 * h.2.2.toNat
theorem mulW_val (x y : BitVec 64) : (mulW x y).val = x.toNat * y.toNat := by
  have hx := x.isLt; have hy := y.isLt
  have h : x.toNat * y.toNat / 18446744073709551616 < 18446744073709551616 := Nat.div_lt_of_lt_mul (Nat.mul_lt_mul'' hx hy)
  simp only [W128.val, mulW, mulHi, BitVec.toNat_mul, BitVec.toNat_ofNat]
  omega
theorem addW_val (x y : W128) (h : x.val + y.val < 340282366920938463463374607431768211456) : (addW x y).val = x.val + y.val := by
  have h1 := x.1.isLt; have h2 := x.2.isLt; have h3 := y.1.isLt; have h4 := y.2.isLt
  simp only [W128.val, addW, carry, BitVec.toNat_add, BitVec.toNat_ofNat] at *
  omega
theorem plusW_val (h : W192) (x : W128) (hh : h.val + x.val < 6277101735386680763835789423207666416102355444464034512896) : (plusW h x).val = h.val + x.val := by
  have h1 := x.1.isLt; have h2 := x.2.isLt; have h3 := h.1.isLt; have h4 := h.2.1.isLt; have h5 := h.2.2.isLt
  simp only [W128.val, W192.val, plusW, carry, BitVec.toNat_add, BitVec.toNat_ofNat] at *
  omega
theorem and3 (x : BitVec 64) : (x &&& 3#64).toNat = x.toNat % 4 := by
  rw [BitVec.toNat_and]; exact Nat.and_two_pow_sub_one_eq_mod x.toNat 2
theorem andn3 (x : BitVec 64) : (x &&& ~~~ 3#64).toNat = x.toNat / 4 * 4 := by
  have e : x &&& ~~~ 3#64 = (x >>> 2) <<< 2 := by
    apply BitVec.eq_of_getLsbD_eq
    intro i hi
    have hc : (~~~ 3#64).getLsbD i = decide (2 ≤ i) := by
      have : ∀ j : Fin 64, (~~~ 3#64).getLsbD j.val = decide (2 ≤ j.val) := by decide
      exact this ⟨i, hi⟩
    rw [BitVec.getLsbD_and, hc, BitVec.getLsbD_shiftLeft, BitVec.getLsbD_ushiftRight]
    by_cases h : 2 ≤ i
    · have e : 2 + (i - 2) = i := by omega
      simp [h, hi, e]
    · simp [h] <;> omega
  have hx := x.isLt
  rw [e, BitVec.toNat_shiftLeft, BitVec.toNat_ushiftRight, Nat.shiftLeft_eq, Nat.shiftRight_eq_div_pow]
  omega
theorem quarter (f : W128) (hf : f.1.toNat % 4 = 0) : W128.val (f.1 >>> 2 ||| f.2 <<< 62, f.2 >>> 2) = f.val / 4 := by
  have h1 := f.1.isLt; have h2 := f.2.isLt
  have e : (f.1 >>> 2 ||| f.2 <<< 62).toNat = f.2.toNat % 4 * 4611686018427387904 + f.1.toNat / 4 := by
    rw [BitVec.toNat_or, BitVec.toNat_ushiftRight, BitVec.toNat_shiftLeft, Nat.shiftRight_eq_div_pow, Nat.or_comm]
    have e2 : f.2.toNat <<< 62 % 2 ^ 64 = (f.2.toNat % 4) <<< 62 := by
      rw [Nat.shiftLeft_eq, Nat.shiftLeft_eq]; omega
    rw [e2, or_add _ _ _ (by omega)]
  simp only [W128.val, e, BitVec.toNat_ushiftRight, Nat.shiftRight_eq_div_pow]
  omega
def fold130 (t : Nat) : Nat := t % 1361129467683753853853498429727072845824 + 5 * (t / 1361129467683753853853498429727072845824)
theorem expand (h0 h1 h2 r0 r1 B B2 : Nat) (hB : B2 = B * B) : (h0 + B * h1 + B2 * h2) * (r0 + B * r1) = h0 * r0 + B * (h1 * r0 + h0 * r1) + B2 * (h2 * r0 + h1 * r1) + B2 * B * (h2 * r1) := by
  subst hB
  simp only [Nat.add_mul, Nat.mul_add, Nat.mul_assoc, Nat.mul_left_comm _ B, Nat.mul_comm h0 B, Nat.mul_comm h1 B, Nat.mul_comm h2 B]
  omega
theorem timesW_val (h : W192) (r : W128) (hh : h.val < 2722258935367507707706996859454145691648) (hr0 : r.1.toNat < 1152921504606846976) (hr1 : r.2.toNat < 1152921504606846976) : (timesW h r).val = fold130 (h.val * r.val) := by
  have b0 := h.1.isLt; have b1 := h.2.1.isLt
  have h2 : h.2.2.toNat ≤ 7 := by simp only [W192.val] at hh; omega
  have e := expand h.1.toNat h.2.1.toNat h.2.2.toNat r.1.toNat r.2.toNat 18446744073709551616 340282366920938463463374607431768211456 (by decide)
  have p00 : h.1.toNat * r.1.toNat < 18446744073709551616 * 1152921504606846976 := Nat.mul_lt_mul'' b0 hr0
  have p10 : h.2.1.toNat * r.1.toNat < 18446744073709551616 * 1152921504606846976 := Nat.mul_lt_mul'' b1 hr0
  have p01 : h.1.toNat * r.2.toNat < 18446744073709551616 * 1152921504606846976 := Nat.mul_lt_mul'' b0 hr1
  have p11 : h.2.1.toNat * r.2.toNat < 18446744073709551616 * 1152921504606846976 := Nat.mul_lt_mul'' b1 hr1
  have p20 : h.2.2.toNat * r.1.toNat ≤ 7 * 1152921504606846976 := Nat.mul_le_mul h2 (by omega)
  have p21 : h.2.2.toNat * r.2.toNat ≤ 7 * 1152921504606846976 := Nat.mul_le_mul h2 (by omega)
  have v0 := mulW_val h.1 r.1
  have v10 := mulW_val h.2.1 r.1
  have v01 := mulW_val h.1 r.2
  have v20 := mulW_val h.2.2 r.1
  have v11 := mulW_val h.2.1 r.2
  have v3 := mulW_val h.2.2 r.2
  have a1 := addW_val (mulW h.2.1 r.1) (mulW h.1 r.2) (by omega)
  have a2 := addW_val (mulW h.2.2 r.1) (mulW h.2.1 r.2) (by omega)
  rw [v10, v01] at a1
  rw [v20, v11] at a2
  have hv : h.val * r.val = h.1.toNat * r.1.toNat + 18446744073709551616 * (h.2.1.toNat * r.1.toNat + h.1.toNat * r.2.toNat) + 340282366920938463463374607431768211456 * (h.2.2.toNat * r.1.toNat + h.2.1.toNat * r.2.toNat) + 340282366920938463463374607431768211456 * 18446744073709551616 * (h.2.2.toNat * r.2.toNat) := e
  clear e v10 v01 v20 v11
  rw [hv]
  unfold timesW
  generalize mulW h.1 r.1 = m0 at *
  generalize addW (mulW h.2.1 r.1) (mulW h.1 r.2) = m1 at *
  generalize addW (mulW h.2.2 r.1) (mulW h.2.1 r.2) = m2 at *
  generalize mulW h.2.2 r.2 = m3 at *
  generalize h.1.toNat * r.1.toNat = q00 at *
  generalize h.2.1.toNat * r.1.toNat = q10 at *
  generalize h.1.toNat * r.2.toNat = q01 at *
  generalize h.2.1.toNat * r.2.toNat = q11 at *
  generalize h.2.2.toNat * r.1.toNat = q20 at *
  generalize h.2.2.toNat * r.2.toNat = q21 at *
  clear hh hv hr0 hr1 h2 b0 b1
  have i0 := m0.1.isLt; have i0' := m0.2.isLt; have i1 := m1.1.isLt; have i1' := m1.2.isLt; have i2 := m2.1.isLt; have i2' := m2.2.isLt; have i3 := m3.1.isLt; have i3' := m3.2.isLt
  simp only [W128.val] at v0 a1 a2 v3
  -- the four words
  obtain ⟨t1, ht1⟩ : ∃ t1, t1 = m1.1 + m0.2 + 0#64 := ⟨_, rfl⟩
  obtain ⟨c1, hc1⟩ : ∃ c1, c1 = carry m1.1 m0.2 0#64 := ⟨_, rfl⟩
  obtain ⟨t2, ht2⟩ : ∃ t2, t2 = m2.1 + m1.2 + c1 := ⟨_, rfl⟩
  obtain ⟨c2, hc2⟩ : ∃ c2, c2 = carry m2.1 m1.2 c1 := ⟨_, rfl⟩
  obtain ⟨t3, ht3⟩ : ∃ t3, t3 = m3.1 + m2.2 + c2 := ⟨_, rfl⟩
  have n1 : t1.toNat + 18446744073709551616 * c1.toNat = m1.1.toNat + m0.2.toNat := by
    rw [ht1, hc1]; simp only [carry, BitVec.toNat_add, BitVec.toNat_ofNat]; omega
  have n2 : t2.toNat + 18446744073709551616 * c2.toNat = m2.1.toNat + m1.2.toNat + c1.toNat := by
    rw [ht2, hc2]; simp only [carry, BitVec.toNat_add, BitVec.toNat_ofNat]; omega
  have n3 : t3.toNat = m3.1.toNat + m2.2.toNat + c2.toNat := by
    rw [ht3]; simp only [BitVec.toNat_add]; omega
  have k1 := t1.isLt; have k2 := t2.isLt; have k3 := t3.isLt
  have hf4 : (t2 &&& ~~~ 3#64).toNat % 4 = 0 := by rw [andn3]; omega
  have q := quarter (t2 &&& ~~~ 3#64, t3) hf4
  have hlow : W192.val (m0.1, t1, t2 &&& 3#64) = m0.1.toNat + 18446744073709551616 * t1.toNat + 340282366920938463463374607431768211456 * (t2.toNat % 4) := by
    simp only [W192.val, and3]
  have hfour : W128.val (t2 &&& ~~~ 3#64, t3) = t2.toNat / 4 * 4 + 18446744073709551616 * t3.toNat := by
    simp only [W128.val, andn3]
  have s1 := plusW_val (m0.1, t1, t2 &&& 3#64) (t2 &&& ~~~ 3#64, t3) (by rw [hlow, hfour]; omega)
  have s2 := plusW_val (plusW (m0.1, t1, t2 &&& 3#64) (t2 &&& ~~~ 3#64, t3)) ((t2 &&& ~~~ 3#64) >>> 2 ||| t3 <<< 62, t3 >>> 2) (by rw [s1, q, hlow, hfour]; omega)
  rw [hlow, hfour] at s1
  rw [s1, q, hfour] at s2
  show (plusW (plusW (m0.1, m1.1 + m0.2 + 0#64, (m2.1 + m1.2 + carry m1.1 m0.2 0#64) &&& 3#64) ((m2.1 + m1.2 + carry m1.1 m0.2 0#64) &&& ~~~ 3#64, m3.1 + m2.2 + carry m2.1 m1.2 (carry m1.1 m0.2 0#64))) _).val = _
  rw [← hc1, ← ht1, ← ht2, ← hc2, ← ht3, s2]
  unfold fold130
  omega
theorem fold130_lt {t : Nat} (h : t < 57896044618658097711785492504343953926634992332820282019728792003956564819968) : fold130 t < 1701411834604692317316873037158841057280 := by unfold fold130; omega
theorem fold130_mod (t : Nat) : fold130 t % 1361129467683753853853498429727072845819 = t % 1361129467683753853853498429727072845819 := by unfold fold130; omega
theorem split16 (b : List Byte) (hb : b.length = 16) : (wordB (b.take 8)).toNat + 18446744073709551616 * (wordB (b.drop 8)).toNat = leN b := by
  rw [wordB_val _ (by simp; omega), wordB_val _ (by simp; omega)]
  have h := leN_append (b.take 8) (b.drop 8)
  rw [List.take_append_drop, show (b.take 8).length = 8 by simp; omega] at h
  rw [h]
theorem takeW_val (h : W192) (r : W128) (b : List Byte) (top : BitVec 64) (hb : b.length = 16) (ht : top.toNat ≤ 1) (hh : h.val < 1701411834604692317316873037158841057280) (hr0 : r.1.toNat < 1152921504606846976) (hr1 : r.2.toNat < 1152921504606846976) :
    (takeW h r b top).val = fold130 ((h.val + leN b + 340282366920938463463374607431768211456 * top.toNat) * r.val) := by
  have hs := split16 b hb
  have i1 := h.1.isLt; have i2 := h.2.1.isLt; have i3 := (wordB (b.take 8)).isLt; have i4 := (wordB (b.drop 8)).isLt
  unfold takeW
  generalize wordB (b.take 8) = x at *
  generalize wordB (b.drop 8) = y at *
  have e : W192.val (h.1 + x + 0#64, h.2.1 + y + carry h.1 x 0#64, h.2.2 + (carry h.2.1 y (carry h.1 x 0#64) + top)) = h.val + leN b + 340282366920938463463374607431768211456 * top.toNat := by
    rw [← hs]
    simp only [W192.val, carry, BitVec.toNat_add, BitVec.toNat_ofNat] at hh ⊢
    omega
  have hl := leN_lt b
  rw [hb, show (256 : Nat) ^ 16 = 340282366920938463463374607431768211456 by decide] at hl
  show (timesW _ r).val = _
  rw [timesW_val _ _ (by rw [e]; omega) hr0 hr1, e]
/-- A code's way, in numbers: what has been taken in, and the bytes that wait. -/
def stepN (R : Nat) (s : Nat × List Byte) (x : Byte) : Nat × List Byte :=
  if s.2.length + 1 = 16 then (((s.1 + leN (s.2 ++ [x]) + 340282366920938463463374607431768211456) * R) % 1361129467683753853853498429727072845819, []) else (s.1, s.2 ++ [x])
def finN (R : Nat) (s : Nat × List Byte) : Nat := if s.2 = [] then s.1 else ((s.1 + leN (s.2 ++ [1#8])) * R) % 1361129467683753853853498429727072845819
structure SimN (R : Nat) (t : PolyS) (s : Nat × List Byte) : Prop where
  ok : PolyOk t
  h : t.h.val % 1361129467683753853853498429727072845819 = s.1
  lt : t.h.val < 1701411834604692317316873037158841057280
  p : s.2 = t.rest.take t.used
  r : t.r.val = R
  r0 : t.r.1.toNat < 1152921504606846976
  r1 : t.r.2.toNat < 1152921504606846976
theorem SimN.len {R : Nat} {t : PolyS} {s : Nat × List Byte} (h : SimN R t s) : s.2.length = t.used := by
  have := h.ok.used; have := h.ok.rest
  rw [h.p]; simp; omega
theorem val_lt (r : W128) (h1 : r.1.toNat < 1152921504606846976) (h2 : r.2.toNat < 1152921504606846976) : r.val < 21267647932558653966460912964485513216 := by simp only [W128.val]; omega
theorem mulmod (a b R P : Nat) (h : a % P = b % P) : (a * R) % P = (b * R) % P := by rw [Nat.mul_mod, h, ← Nat.mul_mod]
theorem simN_push {R : Nat} {t : PolyS} {s : Nat × List Byte} (hs : SimN R t s) (x : Byte) : SimN R (push t x) (stepN R s x) := by
  have hl := hs.len
  have hu := hs.ok.used
  have hr := hs.ok.rest
  have hset : t.rest.set t.used x = t.rest.take t.used ++ x :: t.rest.drop (t.used + 1) := set_split (by omega)
  unfold stepN push
  by_cases h16 : t.used + 1 = 16
  · rw [if_pos h16, if_pos (by omega)]
    have hb : t.rest.set t.used x = s.2 ++ [x] := by
      rw [hset, hs.p, List.drop_of_length_le (by omega)]
    have hbl : (s.2 ++ [x]).length = 16 := by simp; omega
    have hv := takeW_val t.h t.r (s.2 ++ [x]) 1#64 hbl (by decide) hs.lt hs.r0 hs.r1
    have hlt := leN_lt (s.2 ++ [x])
    rw [hbl, show (256 : Nat) ^ 16 = 340282366920938463463374607431768211456 by decide] at hlt
    have hR := val_lt t.r hs.r0 hs.r1
    rw [show (340282366920938463463374607431768211456 * (1#64).toNat) = 340282366920938463463374607431768211456 by decide] at hv
    have hbig : (t.h.val + leN (s.2 ++ [x]) + 340282366920938463463374607431768211456) * t.r.val < 57896044618658097711785492504343953926634992332820282019728792003956564819968 := by
      have := Nat.mul_lt_mul'' (show t.h.val + leN (s.2 ++ [x]) + 340282366920938463463374607431768211456 < 2722258935367507707706996859454145691648 by have := hs.lt; omega) hR
      omega
    refine ⟨⟨by simp [hr], by show 0 < 16; omega⟩, ?_, ?_, by simp, hs.r, hs.r0, hs.r1⟩
    · show (takeW t.h t.r (t.rest.set t.used x) 1#64).val % _ = _
      rw [hb, hv, fold130_mod, ← hs.r]
      apply mulmod
      have := hs.h
      omega
    · show (takeW t.h t.r (t.rest.set t.used x) 1#64).val < _
      rw [hb, hv]
      exact fold130_lt hbig
  · rw [if_neg h16, if_neg (by omega)]
    refine ⟨⟨by simp [hr], by show t.used + 1 < 16; omega⟩, hs.h, hs.lt, ?_, hs.r, hs.r0, hs.r1⟩
    show s.2 ++ [x] = List.take (t.used + 1) (t.rest.set t.used x)
    rw [hset, hs.p, List.take_append, List.take_take]
    have e2 : (t.rest.take t.used).length = t.used := by simp; omega
    rw [e2]; simp
theorem simN_write {R : Nat} {b : List Byte} : ∀ {t : PolyS} {s : Nat × List Byte}, SimN R t s → SimN R (writeS t b) (b.foldl (stepN R) s) := by
  induction b with
  | nil => exact fun h => h
  | cons x b ih => exact fun h => ih (simN_push h x)
theorem fin_val {R : Nat} {t : PolyS} {s : Nat × List Byte} (hs : SimN R t s) : (finS t).h.val % 1361129467683753853853498429727072845819 = finN R s ∧ (finS t).h.val < 1701411834604692317316873037158841057280 := by
  have hl := hs.len
  have hu := hs.ok.used
  have hr := hs.ok.rest
  unfold finS finN
  by_cases h0 : 0 < t.used
  · rw [if_pos h0, if_neg (fun e => by rw [e] at hl; simp at hl; omega)]
    have hlb : lastB t = s.2 ++ [1#8] ++ List.replicate (15 - t.used) 0#8 := by
      unfold lastB
      rw [← hs.p, show List.replicate (16 - t.used) (0#8) = 0#8 :: List.replicate (15 - t.used) 0#8 by rw [← List.replicate_succ]; congr 1; omega]
      rw [List.set_append_right _ _ (by omega), hl, Nat.sub_self]
      simp
    have hlen := lastB_len hr (by omega)
    have hv := takeW_val t.h t.r (lastB t) 0#64 hlen (by decide) hs.lt hs.r0 hs.r1
    have hle : leN (lastB t) = leN (s.2 ++ [1#8]) := by rw [hlb, leN_append, leN_zeros]; omega
    have hlt := leN_lt (lastB t)
    rw [hlen, show (256 : Nat) ^ 16 = 340282366920938463463374607431768211456 by decide, hle] at hlt
    have hR := val_lt t.r hs.r0 hs.r1
    rw [show (340282366920938463463374607431768211456 * (0#64).toNat) = 0 by decide, Nat.add_zero, hle] at hv
    show (takeW t.h t.r (lastB t) 0#64).val % _ = _ ∧ (takeW t.h t.r (lastB t) 0#64).val < _
    rw [hv]
    constructor
    · rw [fold130_mod, ← hs.r]
      apply mulmod
      have := hs.h
      omega
    · apply fold130_lt
      have := Nat.mul_lt_mul'' (show t.h.val + leN (s.2 ++ [1#8]) < 2722258935367507707706996859454145691648 by have := hs.lt; omega) hR
      omega
  · rw [if_neg h0, if_pos (List.eq_nil_of_length_eq_zero (by omega))]
    exact ⟨hs.h, hs.lt⟩
theorem sub_val (x y c : BitVec 64) (hc : c.toNat ≤ 1) : (x - y - c).toNat + y.toNat + c.toNat = x.toNat + 18446744073709551616 * (borrow x y c).toNat := by
  have hx := x.isLt; have hy := y.isLt
  have e : (x - y - c).toNat = (x.toNat + 36893488147419103232 - y.toNat - c.toNat) % 18446744073709551616 := by simp only [BitVec.toNat_sub]; omega
  rw [e]
  unfold borrow
  by_cases h : x.toNat < y.toNat + c.toNat
  · rw [if_pos h, show (1#64).toNat = 1 from rfl]; omega
  · rw [if_neg h, show (0#64).toNat = 0 from rfl]; omega
theorem out_val (h : W192) (s : W128) (hh : h.val < 1701411834604692317316873037158841057280) : (outW h s).val = (h.val % 1361129467683753853853498429727072845819 + s.val) % 340282366920938463463374607431768211456 := by
  have i1 := h.1.isLt; have i2 := h.2.1.isLt; have i3 := h.2.2.isLt; have i4 := s.1.isLt; have i5 := s.2.isLt
  unfold outW
  obtain ⟨b0, hb0⟩ : ∃ b0, b0 = borrow h.1 18446744073709551611#64 0#64 := ⟨_, rfl⟩
  obtain ⟨l0, hl0⟩ : ∃ l0, l0 = h.1 - 18446744073709551611#64 - 0#64 := ⟨_, rfl⟩
  simp only [← hb0, ← hl0]
  obtain ⟨l1, hl1⟩ : ∃ l1, l1 = h.2.1 - 18446744073709551615#64 - b0 := ⟨_, rfl⟩
  obtain ⟨b1, hb1⟩ : ∃ b1, b1 = borrow h.2.1 18446744073709551615#64 b0 := ⟨_, rfl⟩
  simp only [← hb1, ← hl1]
  obtain ⟨b2, hb2⟩ : ∃ b2, b2 = borrow h.2.2 3#64 b1 := ⟨_, rfl⟩
  simp only [← hb2]
  have le0 : b0.toNat ≤ 1 := by rw [hb0]; exact borrow_le _ _ _
  have le1 : b1.toNat ≤ 1 := by rw [hb1]; exact borrow_le _ _ _
  have s0 := sub_val h.1 18446744073709551611#64 0#64 (by decide)
  have s1 := sub_val h.2.1 18446744073709551615#64 b0 le0
  have s2 := sub_val h.2.2 3#64 b1 le1
  rw [← hb0, ← hl0, show (18446744073709551611#64).toNat = 18446744073709551611 from rfl, show (0#64).toNat = 0 from rfl] at s0
  rw [← hb1, ← hl1, show (18446744073709551615#64).toNat = 18446744073709551615 from rfl] at s1
  rw [← hb2, show (3#64).toNat = 3 from rfl] at s2
  have j0 := l0.isLt; have j1 := l1.isLt; have j2 := (h.2.2 - 3#64 - b1).isLt
  have hb2v : b2 = 1#64 ∨ b2 = 0#64 := by rw [hb2]; unfold borrow; split <;> simp
  have key : W128.val (h.1 &&& -b2 ||| l0 &&& ~~~(-b2), h.2.1 &&& -b2 ||| l1 &&& ~~~(-b2)) = (h.val % 1361129467683753853853498429727072845819) % 340282366920938463463374607431768211456 := by
    rcases hb2v with hc | hc
    · rw [hc] at s2 ⊢
      rw [show (1#64).toNat = 1 from rfl] at s2
      have e : ∀ a b : BitVec 64, a &&& -1#64 ||| b &&& ~~~(-1#64) = a := fun a b => by
        have h1 : (-1#64 : BitVec 64) = BitVec.allOnes 64 := by decide
        have h2 : (~~~(-1#64) : BitVec 64) = 0#64 := by decide
        rw [h2, h1, BitVec.and_allOnes, BitVec.and_zero, BitVec.or_zero]
      simp only [e, W128.val, W192.val] at hh ⊢
      have hN : h.1.toNat + 18446744073709551616 * h.2.1.toNat + 340282366920938463463374607431768211456 * h.2.2.toNat < 1361129467683753853853498429727072845819 := by omega
      rw [Nat.mod_eq_of_lt hN]
      clear s0 s1 s2
      omega
    · rw [hc] at s2 ⊢
      rw [show (0#64).toNat = 0 from rfl] at s2
      have e : ∀ a b : BitVec 64, a &&& -0#64 ||| b &&& ~~~(-0#64) = b := fun a b => by
        have h1 : (-0#64 : BitVec 64) = 0#64 := by decide
        have h2 : (~~~(-0#64) : BitVec 64) = BitVec.allOnes 64 := by decide
        rw [h2, h1, BitVec.and_allOnes, BitVec.and_zero, BitVec.zero_or]
      simp only [e, W128.val, W192.val] at hh ⊢
      have hN : h.1.toNat + 18446744073709551616 * h.2.1.toNat + 340282366920938463463374607431768211456 * h.2.2.toNat = 1361129467683753853853498429727072845819 + (l0.toNat + 18446744073709551616 * l1.toNat + 340282366920938463463374607431768211456 * (h.2.2 - 3#64 - b1).toNat) := by omega
      rw [hN, Nat.add_mod_left, Nat.mod_eq_of_lt (a := l0.toNat + 18446744073709551616 * l1.toNat + 340282366920938463463374607431768211456 * (h.2.2 - 3#64 - b1).toNat) (by omega)]
      clear s0 s1 s2 hN hh
      omega
  generalize (h.1 &&& -b2 ||| l0 &&& ~~~(-b2)) = k0 at *
  generalize (h.2.1 &&& -b2 ||| l1 &&& ~~~(-b2)) = k1 at *
  have j3 := k0.isLt; have j4 := k1.isLt
  clear s0 s1 s2 hb0 hb1 hb2 hl0 hl1 hb2v
  simp only [W128.val] at key ⊢
  simp only [carry, BitVec.toNat_add, BitVec.toNat_ofNat]
  omega
theorem bytesOf_val (o : W128) : leN (bytesOf o) = o.val := by
  have h1 := o.1.isLt; have h2 := o.2.isLt
  have e : bytesOf o = [outB o 0, outB o 1, outB o 2, outB o 3, outB o 4, outB o 5, outB o 6, outB o 7, outB o 8, outB o 9, outB o 10, outB o 11, outB o 12, outB o 13, outB o 14, outB o 15] := rfl
  have lo : ∀ i, i < 8 → (outB o i).toNat = o.1.toNat / 2 ^ (8 * i) % 256 := fun i hi => by
    unfold outB
    rw [if_pos (by omega), BitVec.toNat_setWidth, BitVec.toNat_ushiftRight, Nat.shiftRight_eq_div_pow, Nat.mod_eq_of_lt hi]
  have hi : ∀ i, i < 8 → (outB o (8 + i)).toNat = o.2.toNat / 2 ^ (8 * i) % 256 := fun i hi => by
    unfold outB
    rw [if_neg (by omega), BitVec.toNat_setWidth, BitVec.toNat_ushiftRight, Nat.shiftRight_eq_div_pow, show (8 + i) % 8 = i by omega]
  have l0 := lo 0 (by omega); have l1 := lo 1 (by omega); have l2 := lo 2 (by omega); have l3 := lo 3 (by omega); have l4 := lo 4 (by omega); have l5 := lo 5 (by omega); have l6 := lo 6 (by omega); have l7 := lo 7 (by omega)
  have g0 := hi 0 (by omega); have g1 := hi 1 (by omega); have g2 := hi 2 (by omega); have g3 := hi 3 (by omega); have g4 := hi 4 (by omega); have g5 := hi 5 (by omega); have g6 := hi 6 (by omega); have g7 := hi 7 (by omega)
  rw [e]
  simp only [leN, l0, l1, l2, l3, l4, l5, l6, l7, g0, g1, g2, g3, g4, g5, g6, g7, Nat.reduceAdd, Nat.reduceMul, Nat.reducePow, W128.val]
  clear l0 l1 l2 l3 l4 l5 l6 l7 g0 g1 g2 g3 g4 g5 g6 g7 lo hi e
  omega
/-- r and s of a key, as numbers. -/
def rN (key : List Byte) : Nat := (newS key).r.val
def sN (key : List Byte) : Nat := leN (key.drop 16)
theorem newS_sim (key : List Byte) : SimN (rN key) (newS key) (0, []) := by
  refine ⟨newS_ok key, rfl, (show (0#64 : BitVec 64).toNat + 18446744073709551616 * (0#64 : BitVec 64).toNat + 340282366920938463463374607431768211456 * (0#64 : BitVec 64).toNat < _ by decide), rfl, rfl, ?_, ?_⟩
  · show (_ &&& _ : BitVec 64).toNat < _
    rw [BitVec.toNat_and]
    exact Nat.lt_of_le_of_lt Nat.and_le_right (by decide)
  · show (_ &&& _ : BitVec 64).toNat < _
    rw [BitVec.toNat_and]
    exact Nat.lt_of_le_of_lt Nat.and_le_right (by decide)
theorem push_rs (t : PolyS) (x : Byte) : (push t x).s = t.s := by unfold push; split <;> rfl
theorem writeS_rs : ∀ (b : List Byte) (t : PolyS), (writeS t b).s = t.s
  | [], _ => rfl
  | x :: b, t => (writeS_rs b (push t x)).trans (push_rs t x)
theorem newS_s (key : List Byte) (hk : key.length = 32) : (newS key).s.val = sN key := by
  have h := split16 (key.drop 16) (by simp; omega)
  rw [List.drop_drop] at h
  exact h
/-- What a code is, as a number. -/
def polyN (key m : List Byte) : Nat := finN (rN key) (m.foldl (stepN (rN key)) (0, []))
theorem code_val (key m : List Byte) (hk : key.length = 32) : leN (code key m) = (polyN key m + sN key) % 340282366920938463463374607431768211456 := by
  have h := simN_write (b := m) (newS_sim key)
  have hf := fin_val h
  show leN (bytesOf (outW (finS (writeS (newS key) m)).h (finS (writeS (newS key) m)).s)) = _
  rw [bytesOf_val, out_val _ _ hf.2, hf.1, finS_s, writeS_rs, newS_s key hk]
  rfl
end Go.Sl
