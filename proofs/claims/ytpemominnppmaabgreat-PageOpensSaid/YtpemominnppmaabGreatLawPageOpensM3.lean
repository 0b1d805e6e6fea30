/- Parts of the proof, joined: TagP, RfeS, RfeA, RefA, RefD, RefB, RefPa, RfeB, RfeC, RfeD, RefF, RefG, RefH, RefI, RefJ, RefK, RefL, RefM, RefN, RefT. -/
import Derived.Test.YtpemominnppmaabGreatLawPageOpensM0
import Derived.Test.YtpemominnppmaabGreatLawPageOpensM1
import Derived.Test.YtpemominnppmaabGreatLawPageOpensM2
/- tag: what a code is as a number. No program in sight. -/
set_option linter.unusedVariables false
set_option linter.unusedSimpArgs false
namespace Go.Sl
open Go
/-- Bytes as a number, the lowest first. -/
def leN : List Byte → Nat
  | [] => 0
  | x :: l => x.toNat + 256 * leN l
theorem leN_append (a b : List Byte) : leN (a ++ b) = leN a + 256 ^ a.length * leN b := by
  induction a with
  | nil => simp [leN]
  | cons x a ih =>
    simp only [List.cons_append, leN, ih, List.length_cons, Nat.pow_succ, Nat.mul_add]
    rw [← Nat.mul_assoc, Nat.mul_comm 256 (256 ^ a.length)]; omega
theorem leN_lt (l : List Byte) : leN l < 256 ^ l.length := by
  induction l with
  | nil => simp [leN]
  | cons x l ih =>
    have := x.isLt
    simp only [leN, List.length_cons, Nat.pow_succ]; omega
theorem leN_zeros (n : Nat) : leN (List.replicate n 0#8) = 0 := by
  induction n with
  | zero => rfl
  | succ n ih => simp [List.replicate_succ, leN, ih]
theorem leN_inj : ∀ {a b : List Byte}, a.length = b.length → leN a = leN b → a = b
  | [], [], _, _ => rfl
  | x :: a, y :: b, hl, h => by
    have hx := x.isLt; have hy := y.isLt
    simp only [leN] at h
    have h1 : x.toNat = y.toNat := by omega
    have h2 : leN a = leN b := by omega
    rw [BitVec.eq_of_toNat_eq h1, leN_inj (by simpa using hl) h2]
  | [], _ :: _, hl, _ => by simp at hl
  | _ :: _, [], hl, _ => by simp at hl
theorem or_add (a b i : Nat) (h : b < 2 ^ i) : a <<< i ||| b = a * 2 ^ i + b := by rw [← Nat.shiftLeft_add_eq_or_of_lt h, Nat.shiftLeft_eq]
theorem wordB_val : ∀ (b : List Byte), b.length ≤ 8 → (wordB b).toNat = leN b
  | [], _ => rfl
  | x :: b, h => by
    simp only [List.length_cons] at h
    have ih := wordB_val b (by omega)
    have hl := leN_lt b
    have hx := x.isLt
    have hp : 256 ^ b.length ≤ 256 ^ 7 := Nat.pow_le_pow_right (by omega) (by omega)
    have h7 : (256 : Nat) ^ 7 = 72057594037927936 := by decide
    show (wordB b <<< 8 ||| x.setWidth 64).toNat = _
    rw [BitVec.toNat_or, BitVec.toNat_shiftLeft, BitVec.toNat_setWidth, ih, Nat.shiftLeft_eq, Nat.mod_eq_of_lt (show leN b * 2 ^ 8 < 2 ^ 64 by omega), Nat.mod_eq_of_lt (show x.toNat < 2 ^ 64 by omega), ← Nat.shiftLeft_eq, or_add _ _ _ (show x.toNat < 2 ^ 8 from hx)]
    simp only [leN]; omega

abbrev W128.val (x : W128) : Nat := x.1.toNat + 18446744073709551616 * x.2.toNat
abbrev W192.val (h : W192) : Nat := h.1.toNat + 18446744073709551616 * h.2.1.toNat + 340282366920938463463374607431768211456 * h.2.2.toNat
theorem mulW_val (x y : BitVec 64) : (mulW x y).val = x.toNat * y.toNat := by
  have hx := x.isLt; have hy := y.isLt
  have h : x.toNat * y.toNat / 18446744073709551616 < 18446744073709551616 := Nat.div_lt_of_lt_mul (Nat.mul_lt_mul'' hx hy)
  simp only [W128.val, mulW, mulHi, BitVec.toNat_mul, BitVec.toNat_ofNat]
  omega
theorem addW_val (x y : W128) (h : x.val + y.val < 340282366920938463463374607431768211456) : (addW x y).val = x.val + y.val := by
  have h1 := x.1.isLt; have h2 := x.2.isLt; have h3 := y.1.isLt; have h4 := y.2.isLt
  simp only [W128.val, addW, carry, BitVec.toNat_add, BitVec.toNat_ofNat] at *
  omega
theorem plusW_val (h : W192) (x : W128) (hh : h.val + x.val < 6277101735386680763835789423207666416102355444464034512896) : (plusW h x).val = h.val + x.val := by
  have h1 := x.1.isLt; have h2 := x.2.isLt; have h3 := h.1.isLt; have h4 := h.2.1.isLt; have h5 := h.2.2.isLt
  simp only [W128.val, W192.val, plusW, carry, BitVec.toNat_add, BitVec.toNat_ofNat] at *
  omega
theorem and3 (x : BitVec 64) : (x &&& 3#64).toNat = x.toNat % 4 := by
  rw [BitVec.toNat_and]; exact Nat.and_two_pow_sub_one_eq_mod x.toNat 2
theorem andn3 (x : BitVec 64) : (x &&& ~~~ 3#64).toNat = x.toNat / 4 * 4 := by
  have e : x &&& ~~~ 3#64 = (x >>> 2) <<< 2 := by
    apply BitVec.eq_of_getLsbD_eq
    intro i hi
    have hc : (~~~ 3#64).getLsbD i = decide (2 ≤ i) := by
      have : ∀ j : Fin 64, (~~~ 3#64).getLsbD j.val = decide (2 ≤ j.val) := by decide
      exact this ⟨i, hi⟩
    rw [BitVec.getLsbD_and, hc, BitVec.getLsbD_shiftLeft, BitVec.getLsbD_ushiftRight]
    by_cases h : 2 ≤ i
    · have e : 2 + (i - 2) = i := by omega
      simp [h, hi, e]
    · simp [h] <;> omega
  have hx := x.isLt
  rw [e, BitVec.toNat_shiftLeft, BitVec.toNat_ushiftRight, Nat.shiftLeft_eq, Nat.shiftRight_eq_div_pow]
  omega
theorem quarter (f : W128) (hf : f.1.toNat % 4 = 0) : W128.val (f.1 >>> 2 ||| f.2 <<< 62, f.2 >>> 2) = f.val / 4 := by
  have h1 := f.1.isLt; have h2 := f.2.isLt
  have e : (f.1 >>> 2 ||| f.2 <<< 62).toNat = f.2.toNat % 4 * 4611686018427387904 + f.1.toNat / 4 := by
    rw [BitVec.toNat_or, BitVec.toNat_ushiftRight, BitVec.toNat_shiftLeft, Nat.shiftRight_eq_div_pow, Nat.or_comm]
    have e2 : f.2.toNat <<< 62 % 2 ^ 64 = (f.2.toNat % 4) <<< 62 := by
      rw [Nat.shiftLeft_eq, Nat.shiftLeft_eq]; omega
    rw [e2, or_add _ _ _ (by omega)]
  simp only [W128.val, e, BitVec.toNat_ushiftRight, Nat.shiftRight_eq_div_pow]
  omega
def fold130 (t : Nat) : Nat := t % 1361129467683753853853498429727072845824 + 5 * (t / 1361129467683753853853498429727072845824)
theorem expand (h0 h1 h2 r0 r1 B B2 : Nat) (hB : B2 = B * B) : (h0 + B * h1 + B2 * h2) * (r0 + B * r1) = h0 * r0 + B * (h1 * r0 + h0 * r1) + B2 * (h2 * r0 + h1 * r1) + B2 * B * (h2 * r1) := by
  subst hB
  simp only [Nat.add_mul, Nat.mul_add, Nat.mul_assoc, Nat.mul_left_comm _ B, Nat.mul_comm h0 B, Nat.mul_comm h1 B, Nat.mul_comm h2 B]
  omega
theorem timesW_val (h : W192) (r : W128) (hh : h.val < 2722258935367507707706996859454145691648) (hr0 : r.1.toNat < 1152921504606846976) (hr1 : r.2.toNat < 1152921504606846976) : (timesW h r).val = fold130 (h.val * r.val) := by
  have b0 := h.1.isLt; have b1 := h.2.1.isLt
  have h2 : h.2.2.toNat ≤ 7 := by simp only [W192.val] at hh; omega
  have e := expand h.1.toNat h.2.1.toNat h.2.2.toNat r.1.toNat r.2.toNat 18446744073709551616 340282366920938463463374607431768211456 (by decide)
  have p00 : h.1.toNat * r.1.toNat < 18446744073709551616 * 1152921504606846976 := Nat.mul_lt_mul'' b0 hr0
  have p10 : h.2.1.toNat * r.1.toNat < 18446744073709551616 * 1152921504606846976 := Nat.mul_lt_mul'' b1 hr0
  have p01 : h.1.toNat * r.2.toNat < 18446744073709551616 * 1152921504606846976 := Nat.mul_lt_mul'' b0 hr1
  have p11 : h.2.1.toNat * r.2.toNat < 18446744073709551616 * 1152921504606846976 := Nat.mul_lt_mul'' b1 hr1
  have p20 : h.2.2.toNat * r.1.toNat ≤ 7 * 1152921504606846976 := Nat.mul_le_mul h2 (by omega)
  have p21 : h.2.2.toNat * r.2.toNat ≤ 7 * 1152921504606846976 := Nat.mul_le_mul h2 (by omega)
  have v0 := mulW_val h.1 r.1
  have v10 := mulW_val h.2.1 r.1
  have v01 := mulW_val h.1 r.2
  have v20 := mulW_val h.2.2 r.1
  have v11 := mulW_val h.2.1 r.2
  have v3 := mulW_val h.2.2 r.2
  have a1 := addW_val (mulW h.2.1 r.1) (mulW h.1 r.2) (by omega)
  have a2 := addW_val (mulW h.2.2 r.1) (mulW h.2.1 r.2) (by omega)
  rw [v10, v01] at a1
  rw [v20, v11] at a2
  have hv : h.val * r.val = h.1.toNat * r.1.toNat + 18446744073709551616 * (h.2.1.toNat * r.1.toNat + h.1.toNat * r.2.toNat) + 340282366920938463463374607431768211456 * (h.2.2.toNat * r.1.toNat + h.2.1.toNat * r.2.toNat) + 340282366920938463463374607431768211456 * 18446744073709551616 * (h.2.2.toNat * r.2.toNat) := e
  clear e v10 v01 v20 v11
  rw [hv]
  unfold timesW
  generalize mulW h.1 r.1 = m0 at *
  generalize addW (mulW h.2.1 r.1) (mulW h.1 r.2) = m1 at *
  generalize addW (mulW h.2.2 r.1) (mulW h.2.1 r.2) = m2 at *
  generalize mulW h.2.2 r.2 = m3 at *
  generalize h.1.toNat * r.1.toNat = q00 at *
  generalize h.2.1.toNat * r.1.toNat = q10 at *
  generalize h.1.toNat * r.2.toNat = q01 at *
  generalize h.2.1.toNat * r.2.toNat = q11 at *
  generalize h.2.2.toNat * r.1.toNat = q20 at *
  generalize h.2.2.toNat * r.2.toNat = q21 at *
  clear hh hv hr0 hr1 h2 b0 b1
  have i0 := m0.1.isLt; have i0' := m0.2.isLt; have i1 := m1.1.isLt; have i1' := m1.2.isLt; have i2 := m2.1.isLt; have i2' := m2.2.isLt; have i3 := m3.1.isLt; have i3' := m3.2.isLt
  simp only [W128.val] at v0 a1 a2 v3
  -- the four words
  obtain ⟨t1, ht1⟩ : ∃ t1, t1 = m1.1 + m0.2 + 0#64 := ⟨_, rfl⟩
  obtain ⟨c1, hc1⟩ : ∃ c1, c1 = carry m1.1 m0.2 0#64 := ⟨_, rfl⟩
  obtain ⟨t2, ht2⟩ : ∃ t2, t2 = m2.1 + m1.2 + c1 := ⟨_, rfl⟩
  obtain ⟨c2, hc2⟩ : ∃ c2, c2 = carry m2.1 m1.2 c1 := ⟨_, rfl⟩
  obtain ⟨t3, ht3⟩ : ∃ t3, t3 = m3.1 + m2.2 + c2 := ⟨_, rfl⟩
  have n1 : t1.toNat + 18446744073709551616 * c1.toNat = m1.1.toNat + m0.2.toNat := by
    rw [ht1, hc1]; simp only [carry, BitVec.toNat_add, BitVec.toNat_ofNat]; omega
  have n2 : t2.toNat + 18446744073709551616 * c2.toNat = m2.1.toNat + m1.2.toNat + c1.toNat := by
    rw [ht2, hc2]; simp only [carry, BitVec.toNat_add, BitVec.toNat_ofNat]; omega
  have n3 : t3.toNat = m3.1.toNat + m2.2.toNat + c2.toNat := by
    rw [ht3]; simp only [BitVec.toNat_add]; omega
  have k1 := t1.isLt; have k2 := t2.isLt; have k3 := t3.isLt
  have hf4 : (t2 &&& ~~~ 3#64).toNat % 4 = 0 := by rw [andn3]; omega
  have q := quarter (t2 &&& ~~~ 3#64, t3) hf4
  have hlow : W192.val (m0.1, t1, t2 &&& 3#64) = m0.1.toNat + 18446744073709551616 * t1.toNat + 340282366920938463463374607431768211456 * (t2.toNat % 4) := by
    simp only [W192.val, and3]
  have hfour : W128.val (t2 &&& ~~~ 3#64, t3) = t2.toNat / 4 * 4 + 18446744073709551616 * t3.toNat := by
    simp only [W128.val, andn3]
  have s1 := plusW_val (m0.1, t1, t2 &&& 3#64) (t2 &&& ~~~ 3#64, t3) (by rw [hlow, hfour]; omega)
  have s2 := plusW_val (plusW (m0.1, t1, t2 &&& 3#64) (t2 &&& ~~~ 3#64, t3)) ((t2 &&& ~~~ 3#64) >>> 2 ||| t3 <<< 62, t3 >>> 2) (by rw [s1, q, hlow, hfour]; omega)
  rw [hlow, hfour] at s1
  rw [s1, q, hfour] at s2
  show (plusW (plusW (m0.1, m1.1 + m0.2 + 0#64, (m2.1 + m1.2 + carry m1.1 m0.2 0#64) &&& 3#64) ((m2.1 + m1.2 + carry m1.1 m0.2 0#64) &&& ~~~ 3#64, m3.1 + m2.2 + carry m2.1 m1.2 (carry m1.1 m0.2 0#64))) _).val = _
  rw [← hc1, ← ht1, ← ht2, ← hc2, ← ht3, s2]
  unfold fold130
  omega
theorem fold130_lt {t : Nat} (h : t < 57896044618658097711785492504343953926634992332820282019728792003956564819968) : fold130 t < 1701411834604692317316873037158841057280 := by unfold fold130; omega
theorem fold130_mod (t : Nat) : fold130 t % 1361129467683753853853498429727072845819 = t % 1361129467683753853853498429727072845819 := by unfold fold130; omega
theorem split16 (b : List Byte) (hb : b.length = 16) : (wordB (b.take 8)).toNat + 18446744073709551616 * (wordB (b.drop 8)).toNat = leN b := by
  rw [wordB_val _ (by simp; omega), wordB_val _ (by simp; omega)]
  have h := leN_append (b.take 8) (b.drop 8)
  rw [List.take_append_drop, show (b.take 8).length = 8 by simp; omega] at h
  rw [h]
theorem takeW_val (h : W192) (r : W128) (b : List Byte) (top : BitVec 64) (hb : b.length = 16) (ht : top.toNat ≤ 1) (hh : h.val < 1701411834604692317316873037158841057280) (hr0 : r.1.toNat < 1152921504606846976) (hr1 : r.2.toNat < 1152921504606846976) :
    (takeW h r b top).val = fold130 ((h.val + leN b + 340282366920938463463374607431768211456 * top.toNat) * r.val) := by
  have hs := split16 b hb
  have i1 := h.1.isLt; have i2 := h.2.1.isLt; have i3 := (wordB (b.take 8)).isLt; have i4 := (wordB (b.drop 8)).isLt
  unfold takeW
  generalize wordB (b.take 8) = x at *
  generalize wordB (b.drop 8) = y at *
  have e : W192.val (h.1 + x + 0#64, h.2.1 + y + carry h.1 x 0#64, h.2.2 + (carry h.2.1 y (carry h.1 x 0#64) + top)) = h.val + leN b + 340282366920938463463374607431768211456 * top.toNat := by
    rw [← hs]
    simp only [W192.val, carry, BitVec.toNat_add, BitVec.toNat_ofNat] at hh ⊢
    omega
  have hl := leN_lt b
  rw [hb, show (256 : Nat) ^ 16 = 340282366920938463463374607431768211456 by decide] at hl
  show (timesW _ r).val = _
  rw [timesW_val _ _ (by rw [e]; omega) hr0 hr1, e]
/-- A code's way, in numbers: what has been taken in, and the bytes that wait. -/
def stepN (R : Nat) (s : Nat × List Byte) (x : Byte) : Nat × List Byte :=
  if s.2.length + 1 = 16 then (((s.1 + leN (s.2 ++ [x]) + 340282366920938463463374607431768211456) * R) % 1361129467683753853853498429727072845819, []) else (s.1, s.2 ++ [x])
def finN (R : Nat) (s : Nat × List Byte) : Nat := if s.2 = [] then s.1 else ((s.1 + leN (s.2 ++ [1#8])) * R) % 1361129467683753853853498429727072845819
structure SimN (R : Nat) (t : PolyS) (s : Nat × List Byte) : Prop where
  ok : PolyOk t
  h : t.h.val % 1361129467683753853853498429727072845819 = s.1
  lt : t.h.val < 1701411834604692317316873037158841057280
  p : s.2 = t.rest.take t.used
  r : t.r.val = R
  r0 : t.r.1.toNat < 1152921504606846976
  r1 : t.r.2.toNat < 1152921504606846976
theorem SimN.len {R : Nat} {t : PolyS} {s : Nat × List Byte} (h : SimN R t s) : s.2.length = t.used := by
  have := h.ok.used; have := h.ok.rest
  rw [h.p]; simp; omega
theorem val_lt (r : W128) (h1 : r.1.toNat < 1152921504606846976) (h2 : r.2.toNat < 1152921504606846976) : r.val < 21267647932558653966460912964485513216 := by simp only [W128.val]; omega
theorem mulmod (a b R P : Nat) (h : a % P = b % P) : (a * R) % P = (b * R) % P := by rw [Nat.mul_mod, h, ← Nat.mul_mod]
theorem simN_push {R : Nat} {t : PolyS} {s : Nat × List Byte} (hs : SimN R t s) (x : Byte) : SimN R (push t x) (stepN R s x) := by
  have hl := hs.len
  have hu := hs.ok.used
  have hr := hs.ok.rest
  have hset : t.rest.set t.used x = t.rest.take t.used ++ x :: t.rest.drop (t.used + 1) := set_split (by omega)
  unfold stepN push
  by_cases h16 : t.used + 1 = 16
  · rw [if_pos h16, if_pos (by omega)]
    have hb : t.rest.set t.used x = s.2 ++ [x] := by
      rw [hset, hs.p, List.drop_of_length_le (by omega)]
    have hbl : (s.2 ++ [x]).length = 16 := by simp; omega
    have hv := takeW_val t.h t.r (s.2 ++ [x]) 1#64 hbl (by decide) hs.lt hs.r0 hs.r1
    have hlt := leN_lt (s.2 ++ [x])
    rw [hbl, show (256 : Nat) ^ 16 = 340282366920938463463374607431768211456 by decide] at hlt
    have hR := val_lt t.r hs.r0 hs.r1
    rw [show (340282366920938463463374607431768211456 * (1#64).toNat) = 340282366920938463463374607431768211456 by decide] at hv
    have hbig : (t.h.val + leN (s.2 ++ [x]) + 340282366920938463463374607431768211456) * t.r.val < 57896044618658097711785492504343953926634992332820282019728792003956564819968 := by
      have := Nat.mul_lt_mul'' (show t.h.val + leN (s.2 ++ [x]) + 340282366920938463463374607431768211456 < 2722258935367507707706996859454145691648 by have := hs.lt; omega) hR
      omega
    refine ⟨⟨by simp [hr], by show 0 < 16; omega⟩, ?_, ?_, by simp, hs.r, hs.r0, hs.r1⟩
    · show (takeW t.h t.r (t.rest.set t.used x) 1#64).val % _ = _
      rw [hb, hv, fold130_mod, ← hs.r]
      apply mulmod
      have := hs.h
      omega
    · show (takeW t.h t.r (t.rest.set t.used x) 1#64).val < _
      rw [hb, hv]
      exact fold130_lt hbig
  · rw [if_neg h16, if_neg (by omega)]
    refine ⟨⟨by simp [hr], by show t.used + 1 < 16; omega⟩, hs.h, hs.lt, ?_, hs.r, hs.r0, hs.r1⟩
    show s.2 ++ [x] = List.take (t.used + 1) (t.rest.set t.used x)
    rw [hset, hs.p, List.take_append, List.take_take]
    have e2 : (t.rest.take t.used).length = t.used := by simp; omega
    rw [e2]; simp
theorem simN_write {R : Nat} {b : List Byte} : ∀ {t : PolyS} {s : Nat × List Byte}, SimN R t s → SimN R (writeS t b) (b.foldl (stepN R) s) := by
  induction b with
  | nil => exact fun h => h
  | cons x b ih => exact fun h => ih (simN_push h x)
theorem fin_val {R : Nat} {t : PolyS} {s : Nat × List Byte} (hs : SimN R t s) : (finS t).h.val % 1361129467683753853853498429727072845819 = finN R s ∧ (finS t).h.val < 1701411834604692317316873037158841057280 := by
  have hl := hs.len
  have hu := hs.ok.used
  have hr := hs.ok.rest
  unfold finS finN
  by_cases h0 : 0 < t.used
  · rw [if_pos h0, if_neg (fun e => by rw [e] at hl; simp at hl; omega)]
    have hlb : lastB t = s.2 ++ [1#8] ++ List.replicate (15 - t.used) 0#8 := by
      unfold lastB
      rw [← hs.p, show List.replicate (16 - t.used) (0#8) = 0#8 :: List.replicate (15 - t.used) 0#8 by rw [← List.replicate_succ]; congr 1; omega]
      rw [List.set_append_right _ _ (by omega), hl, Nat.sub_self]
      simp
    have hlen := lastB_len hr (by omega)
    have hv := takeW_val t.h t.r (lastB t) 0#64 hlen (by decide) hs.lt hs.r0 hs.r1
    have hle : leN (lastB t) = leN (s.2 ++ [1#8]) := by rw [hlb, leN_append, leN_zeros]; omega
    have hlt := leN_lt (lastB t)
    rw [hlen, show (256 : Nat) ^ 16 = 340282366920938463463374607431768211456 by decide, hle] at hlt
    have hR := val_lt t.r hs.r0 hs.r1
    rw [show (340282366920938463463374607431768211456 * (0#64).toNat) = 0 by decide, Nat.add_zero, hle] at hv
    show (takeW t.h t.r (lastB t) 0#64).val % _ = _ ∧ (takeW t.h t.r (lastB t) 0#64).val < _
    rw [hv]
    constructor
    · rw [fold130_mod, ← hs.r]
      apply mulmod
      have := hs.h
      omega
    · apply fold130_lt
      have := Nat.mul_lt_mul'' (show t.h.val + leN (s.2 ++ [1#8]) < 2722258935367507707706996859454145691648 by have := hs.lt; omega) hR
      omega
  · rw [if_neg h0, if_pos (List.eq_nil_of_length_eq_zero (by omega))]
    exact ⟨hs.h, hs.lt⟩
theorem sub_val (x y c : BitVec 64) (hc : c.toNat ≤ 1) : (x - y - c).toNat + y.toNat + c.toNat = x.toNat + 18446744073709551616 * (borrow x y c).toNat := by
  have hx := x.isLt; have hy := y.isLt
  have e : (x - y - c).toNat = (x.toNat + 36893488147419103232 - y.toNat - c.toNat) % 18446744073709551616 := by simp only [BitVec.toNat_sub]; omega
  rw [e]
  unfold borrow
  by_cases h : x.toNat < y.toNat + c.toNat
  · rw [if_pos h, show (1#64).toNat = 1 from rfl]; omega
  · rw [if_neg h, show (0#64).toNat = 0 from rfl]; omega
theorem out_val (h : W192) (s : W128) (hh : h.val < 1701411834604692317316873037158841057280) : (outW h s).val = (h.val % 1361129467683753853853498429727072845819 + s.val) % 340282366920938463463374607431768211456 := by
  have i1 := h.1.isLt; have i2 := h.2.1.isLt; have i3 := h.2.2.isLt; have i4 := s.1.isLt; have i5 := s.2.isLt
  unfold outW
  obtain ⟨b0, hb0⟩ : ∃ b0, b0 = borrow h.1 18446744073709551611#64 0#64 := ⟨_, rfl⟩
  obtain ⟨l0, hl0⟩ : ∃ l0, l0 = h.1 - 18446744073709551611#64 - 0#64 := ⟨_, rfl⟩
  simp only [← hb0, ← hl0]
  obtain ⟨l1, hl1⟩ : ∃ l1, l1 = h.2.1 - 18446744073709551615#64 - b0 := ⟨_, rfl⟩
  obtain ⟨b1, hb1⟩ : ∃ b1, b1 = borrow h.2.1 18446744073709551615#64 b0 := ⟨_, rfl⟩
  simp only [← hb1, ← hl1]
  obtain ⟨b2, hb2⟩ : ∃ b2, b2 = borrow h.2.2 3#64 b1 := ⟨_, rfl⟩
  simp only [← hb2]
  have le0 : b0.toNat ≤ 1 := by rw [hb0]; exact borrow_le _ _ _
  have le1 : b1.toNat ≤ 1 := by rw [hb1]; exact borrow_le _ _ _
  have s0 := sub_val h.1 18446744073709551611#64 0#64 (by decide)
  have s1 := sub_val h.2.1 18446744073709551615#64 b0 le0
  have s2 := sub_val h.2.2 3#64 b1 le1
  rw [← hb0, ← hl0, show (18446744073709551611#64).toNat = 18446744073709551611 from rfl, show (0#64).toNat = 0 from rfl] at s0
  rw [← hb1, ← hl1, show (18446744073709551615#64).toNat = 18446744073709551615 from rfl] at s1
  rw [← hb2, show (3#64).toNat = 3 from rfl] at s2
  have j0 := l0.isLt; have j1 := l1.isLt; have j2 := (h.2.2 - 3#64 - b1).isLt
  have hb2v : b2 = 1#64 ∨ b2 = 0#64 := by rw [hb2]; unfold borrow; split <;> simp
  have key : W128.val (h.1 &&& -b2 ||| l0 &&& ~~~(-b2), h.2.1 &&& -b2 ||| l1 &&& ~~~(-b2)) = (h.val % 1361129467683753853853498429727072845819) % 340282366920938463463374607431768211456 := by
    rcases hb2v with hc|hc
    · rw [hc] at s2 ⊢
      rw [show (1#64).toNat = 1 from rfl] at s2
      have e : ∀ a b : BitVec 64, a &&& -1#64 ||| b &&& ~~~(-1#64) = a := fun a b => by
        have h1 : (-1#64 : BitVec 64) = BitVec.allOnes 64 := by decide
        have h2 : (~~~(-1#64) : BitVec 64) = 0#64 := by decide
        rw [h2, h1, BitVec.and_allOnes, BitVec.and_zero, BitVec.or_zero]
      simp only [e, W128.val, W192.val] at hh ⊢
      have hN : h.1.toNat + 18446744073709551616 * h.2.1.toNat + 340282366920938463463374607431768211456 * h.2.2.toNat < 1361129467683753853853498429727072845819 := by omega
      rw [Nat.mod_eq_of_lt hN]
      clear s0 s1 s2
      omega
    · rw [hc] at s2 ⊢
      rw [show (0#64).toNat = 0 from rfl] at s2
      have e : ∀ a b : BitVec 64, a &&& -0#64 ||| b &&& ~~~(-0#64) = b := fun a b => by
        have h1 : (-0#64 : BitVec 64) = 0#64 := by decide
        have h2 : (~~~(-0#64) : BitVec 64) = BitVec.allOnes 64 := by decide
        rw [h2, h1, BitVec.and_allOnes, BitVec.and_zero, BitVec.zero_or]
      simp only [e, W128.val, W192.val] at hh ⊢
      have hN : h.1.toNat + 18446744073709551616 * h.2.1.toNat + 340282366920938463463374607431768211456 * h.2.2.toNat = 1361129467683753853853498429727072845819 + (l0.toNat + 18446744073709551616 * l1.toNat + 340282366920938463463374607431768211456 * (h.2.2 - 3#64 - b1).toNat) := by omega
      rw [hN, Nat.add_mod_left, Nat.mod_eq_of_lt (a := l0.toNat + 18446744073709551616 * l1.toNat + 340282366920938463463374607431768211456 * (h.2.2 - 3#64 - b1).toNat) (by omega)]
      clear s0 s1 s2 hN hh
      omega
  generalize (h.1 &&& -b2 ||| l0 &&& ~~~(-b2)) = k0 at *
  generalize (h.2.1 &&& -b2 ||| l1 &&& ~~~(-b2)) = k1 at *
  have j3 := k0.isLt; have j4 := k1.isLt
  clear s0 s1 s2 hb0 hb1 hb2 hl0 hl1 hb2v
  simp only [W128.val] at key ⊢
  simp only [carry, BitVec.toNat_add, BitVec.toNat_ofNat]
  omega
theorem bytesOf_val (o : W128) : leN (bytesOf o) = o.val := by
  have h1 := o.1.isLt; have h2 := o.2.isLt
  have e : bytesOf o = [outB o 0, outB o 1, outB o 2, outB o 3, outB o 4, outB o 5, outB o 6, outB o 7, outB o 8, outB o 9, outB o 10, outB o 11, outB o 12, outB o 13, outB o 14, outB o 15] := rfl
  have lo : ∀ i, i < 8 → (outB o i).toNat = o.1.toNat / 2 ^ (8 * i) % 256 := fun i hi => by
    unfold outB
    rw [if_pos (by omega), BitVec.toNat_setWidth, BitVec.toNat_ushiftRight, Nat.shiftRight_eq_div_pow, Nat.mod_eq_of_lt hi]
  have hi : ∀ i, i < 8 → (outB o (8 + i)).toNat = o.2.toNat / 2 ^ (8 * i) % 256 := fun i hi => by
    unfold outB
    rw [if_neg (by omega), BitVec.toNat_setWidth, BitVec.toNat_ushiftRight, Nat.shiftRight_eq_div_pow, show (8 + i) % 8 = i by omega]
  have l0 := lo 0 (by omega); have l1 := lo 1 (by omega); have l2 := lo 2 (by omega); have l3 := lo 3 (by omega); have l4 := lo 4 (by omega); have l5 := lo 5 (by omega); have l6 := lo 6 (by omega); have l7 := lo 7 (by omega)
  have g0 := hi 0 (by omega); have g1 := hi 1 (by omega); have g2 := hi 2 (by omega); have g3 := hi 3 (by omega); have g4 := hi 4 (by omega); have g5 := hi 5 (by omega); have g6 := hi 6 (by omega); have g7 := hi 7 (by omega)
  rw [e]
  simp only [leN, l0, l1, l2, l3, l4, l5, l6, l7, g0, g1, g2, g3, g4, g5, g6, g7, Nat.reduceAdd, Nat.reduceMul, Nat.reducePow, W128.val]
  clear l0 l1 l2 l3 l4 l5 l6 l7 g0 g1 g2 g3 g4 g5 g6 g7 lo hi e
  omega
/-- r and s of a key, as numbers. -/
def rN (key : List Byte) : Nat := (newS key).r.val
def sN (key : List Byte) : Nat := leN (key.drop 16)
theorem newS_sim (key : List Byte) : SimN (rN key) (newS key) (0, []) := by
  refine ⟨newS_ok key, rfl, (show (0#64 : BitVec 64).toNat + 18446744073709551616 * (0#64 : BitVec 64).toNat + 340282366920938463463374607431768211456 * (0#64 : BitVec 64).toNat < _ by decide), rfl, rfl, ?_, ?_⟩
  · show (_ &&& _ : BitVec 64).toNat < _
    rw [BitVec.toNat_and]
    exact Nat.lt_of_le_of_lt Nat.and_le_right (by decide)
  · show (_ &&& _ : BitVec 64).toNat < _
    rw [BitVec.toNat_and]
    exact Nat.lt_of_le_of_lt Nat.and_le_right (by decide)
theorem push_rs (t : PolyS) (x : Byte) : (push t x).s = t.s := by unfold push; split <;> rfl
theorem writeS_rs : ∀ (b : List Byte) (t : PolyS), (writeS t b).s = t.s
  | [], _ => rfl
  | x :: b, t => (writeS_rs b (push t x)).trans (push_rs t x)
theorem newS_s (key : List Byte) (hk : key.length = 32) : (newS key).s.val = sN key := by
  have h := split16 (key.drop 16) (by simp; omega)
  rw [List.drop_drop] at h
  exact h
/-- What a code is, as a number. -/
def polyN (key m : List Byte) : Nat := finN (rN key) (m.foldl (stepN (rN key)) (0, []))
theorem code_val (key m : List Byte) (hk : key.length = 32) : leN (code key m) = (polyN key m + sN key) % 340282366920938463463374607431768211456 := by
  have h := simN_write (b := m) (newS_sim key)
  have hf := fin_val h
  show leN (bytesOf (outW (finS (writeS (newS key) m)).h (finS (writeS (newS key) m)).s)) = _
  rw [bytesOf_val, out_val _ _ hf.2, hf.1, finS_s, writeS_rs, newS_s key hk]
  rfl
end Go.Sl

/- the document's key stream: words of 32 bits as numbers of 64; in plain Lean. -/
set_option linter.unusedVariables false
set_option linter.unusedSimpArgs false
namespace Go.Sl
open Go
theorem c32 : (4294967296#64).toNat = 4294967296 := by decide
theorem c256 : (256#64).toNat = 256 := by decide
theorem plus32 (x y : Wd) : (x.setWidth 64 + y.setWidth 64) % 4294967296#64 = (x + y).setWidth 64 := by
  apply BitVec.eq_of_toNat_eq
  have := x.isLt; have := y.isLt
  rw [BitVec.toNat_umod, BitVec.toNat_add, BitVec.toNat_setWidth, BitVec.toNat_setWidth, BitVec.toNat_setWidth, BitVec.toNat_add, c32]
  omega
theorem xor32 (x y : Wd) : x.setWidth 64 ^^^ y.setWidth 64 = (x ^^^ y).setWidth 64 := by rw [BitVec.setWidth_xor]
theorem rotW_val (x : Wd) (n : Nat) (hn : 0 < n ∧ n < 32) : (rotW x n).toNat = (x.toNat * 2 ^ n) % 4294967296 + x.toNat / 2 ^ (32 - n) := by
  have hx := x.isLt
  have hp : 2 ^ n * 2 ^ (32 - n) = 4294967296 := by rw [← Nat.pow_add, show n + (32 - n) = 32 by omega]
  have h0 : 0 < 2 ^ (32 - n) := Nat.two_pow_pos _
  have h1 : 0 < 2 ^ n := Nat.two_pow_pos _
  have e1 : (x.toNat * 2 ^ n) % 4294967296 = (x.toNat % 2 ^ (32 - n)) * 2 ^ n := by
    rw [← hp, Nat.mul_comm (2 ^ n) (2 ^ (32 - n)), Nat.mul_mod_mul_right]
  have e2 : x.toNat / 2 ^ (32 - n) < 2 ^ n := by
    apply Nat.div_lt_of_lt_mul
    rw [Nat.mul_comm, hp]; omega
  unfold rotW
  rw [BitVec.toNat_or, BitVec.toNat_shiftLeft, BitVec.toNat_ushiftRight, Nat.shiftLeft_eq, Nat.shiftRight_eq_div_pow, show (2 : Nat) ^ 32 = 4294967296 by decide, e1]
  have := or_add (x.toNat % 2 ^ (32 - n)) (x.toNat / 2 ^ (32 - n)) n e2
  rwa [Nat.shiftLeft_eq] at this
theorem left32 (x : Wd) (n : Nat) (hn : n = 7 ∨ n = 8 ∨ n = 12 ∨ n = 16) : (x.setWidth 64 <<< n) % 4294967296#64 + x.setWidth 64 >>> (32 - n) = (rotW x n).setWidth 64 := by
  apply BitVec.eq_of_toNat_eq
  have hx := x.isLt
  have hr := rotW_val x n (by omega)
  rw [BitVec.toNat_add, BitVec.toNat_umod, BitVec.toNat_shiftLeft, BitVec.toNat_ushiftRight, BitVec.toNat_setWidth, BitVec.toNat_setWidth, c32, hr, Nat.shiftLeft_eq, Nat.shiftRight_eq_div_pow]
  rw [Nat.mod_eq_of_lt (show x.toNat < 2 ^ 64 by omega), Nat.mod_mod_of_dvd _ (by decide : 4294967296 ∣ 2 ^ 64)]
/-- Half a quarter round. -/
def hrW (n m : Nat) (q : Wd × Wd × Wd × Wd) : Wd × Wd × Wd × Wd :=
  (q.1 + q.2.1, rotW (q.2.1 ^^^ (q.2.2.1 + rotW (q.2.2.2 ^^^ (q.1 + q.2.1)) n)) m, q.2.2.1 + rotW (q.2.2.2 ^^^ (q.1 + q.2.1)) n, rotW (q.2.2.2 ^^^ (q.1 + q.2.1)) n)
theorem quarter_hr (a b c d : Wd) : quarterW a b c d = hrW 8 7 (hrW 16 12 (a, b, c, d)) := rfl
theorem lowB_val (w : Nat) : ∀ (n : Nat) (b : List Byte), b.length = n → 8 * n ≤ w → (lowB w b).toNat = leN b
  | 0, b, h, _ => by
    have : b = [] := List.eq_nil_of_length_eq_zero h
    subst this; simp [lowB, leN]
  | n + 1, b, h, hw => by
    obtain ⟨a, x, rfl⟩ : ∃ a x, b = a ++ [x] := ⟨b.dropLast, b.getLast (by intro e; rw [e] at h; cases h), (List.dropLast_concat_getLast _).symm⟩
    have ha : a.length = n := by simpa using h
    have ih := lowB_val w n a ha (by omega)
    have hl := leN_lt a
    have hx := x.isLt
    rw [lowB_snoc, BitVec.toNat_or, BitVec.toNat_shiftLeft, BitVec.toNat_setWidth, ih, leN_append, ha, Nat.shiftLeft_eq]
    have hp : (256 : Nat) ^ n = 2 ^ (8 * n) := by rw [show (256 : Nat) = 2 ^ 8 by decide, ← Nat.pow_mul]
    have hw2 : 2 ^ (8 * n) * 256 ≤ 2 ^ w := by
      rw [show (256 : Nat) = 2 ^ 8 by decide, ← Nat.pow_add]; exact Nat.pow_le_pow_right (by omega) (by omega)
    have h1 : 0 < 2 ^ (8 * n) := Nat.two_pow_pos _
    have hxm : x.toNat % 2 ^ w = x.toNat := Nat.mod_eq_of_lt (by
      have : 256 ≤ 2 ^ (8 * n) * 256 := Nat.le_mul_of_pos_left _ h1
      omega)
    have hxl : x.toNat * 2 ^ (8 * n) < 2 ^ w := by
      have : x.toNat * 2 ^ (8 * n) < 256 * 2 ^ (8 * n) := Nat.mul_lt_mul_of_pos_right hx h1
      rw [Nat.mul_comm 256] at this; omega
    rw [ha, hp] at hl
    rw [hxm, Nat.mod_eq_of_lt hxl, Nat.or_comm]
    have := or_add x.toNat (leN a) (8 * n) hl
    rw [Nat.shiftLeft_eq] at this
    rw [this, hp]; simp only [leN]; rw [Nat.mul_zero, Nat.add_zero, Nat.mul_comm, Nat.add_comm]
theorem num32 (b : List Byte) (h : b.length = 4) : BitVec.ofNat 64 (leN b) = (lowB 32 b).setWidth 64 := by
  apply BitVec.eq_of_toNat_eq
  rw [BitVec.toNat_ofNat, BitVec.toNat_setWidth, lowB_val 32 4 b h (by omega)]
theorem numStep (v : Nat) (x : Byte) : BitVec.ofNat 64 v * 256#64 + x.setWidth 64 = BitVec.ofNat 64 (x.toNat + 256 * v) := by
  apply BitVec.eq_of_toNat_eq
  have := x.isLt
  rw [BitVec.toNat_add, BitVec.toNat_mul, c256, BitVec.toNat_ofNat, BitVec.toNat_ofNat, BitVec.toNat_setWidth]
  omega
theorem byteRem (x : BitVec 64) : (x % 256#64).setWidth 8 = x.setWidth 8 := by
  apply BitVec.eq_of_toNat_eq
  rw [BitVec.toNat_setWidth, BitVec.toNat_setWidth, BitVec.toNat_umod, c256]
  omega
theorem byteQuo (x : BitVec 64) : x / 256#64 = x >>> 8 := by
  apply BitVec.eq_of_toNat_eq
  rw [BitVec.toNat_udiv, c256, BitVec.toNat_ushiftRight, Nat.shiftRight_eq_div_pow]
end Go.Sl

/- the document's key stream: plus, against, left, Quarter, numbers of bytes, walked. -/
set_option maxHeartbeats 4000000
set_option maxRecDepth 10000
set_option linter.unusedVariables false
set_option linter.unusedSimpArgs false
namespace Go.Sl
open Go Go.Proofs
attribute [local irreducible] cl pt own old pur ex all den denOps denS xOps xC cX CX xthen xblk xcut xloop xgo xng retX resX Calls PV Rd Con
abbrev w64 (x : Wd) : Value := u64b (x.setWidth 64)
theorem wd_eq {a b : BitVec 64} (h : a = b) : u64b a = u64b b := by rw [h]
theorem plusR_x (x y : Wd) : Con Tryz.prog 79 [w64 x, w64 y] [] (fun r M => r = w64 (x + y) ∧ M = []) := by
  refine fn_x Tryz.func79 rfl rfl rfl Tryz.mixed (by kernel_rfl) ?_
  intro w0
  refine Ct.o ?_
  refine Zgb ?_
  first|refine Zhg (Zaz rfl) ?_|refine Zhg (Zas rfl) ?_
  refine Zg3 ?_
  refine Ct.o ?_
  refine Zgb ?_
  first|refine Zhg (Zat rfl) ?_|refine Zhg (Zar rfl) ?_
  first|refine Zhg (Zat rfl) ?_|refine Zhg (Zar rfl) ?_
  refine Zhg (Zlc rfl rfl) ?_
  refine Zhg (PV.eq (Zlu (y := 4294967296#64) rfl rfl) (wd_eq (plus32 x y))) ?_
  first|refine Zhg (Zaz rfl) ?_|refine Zhg (Zas rfl) ?_
  refine Zg3 ?_
  refine Ct.o ?_
  refine rx1 (Zg9 rfl (Zg7)) ?_
  exact ⟨_, ⟨rfl, rfl⟩, by exact Imp.arr (by repeat (first|exact Arr.nil|exact Arr.stop|refine Arr.cons (by repeat constructor) ?_|refine Arr.skip ?_))⟩
theorem againstR_x (x y : Wd) : Con Tryz.prog 74 [w64 x, w64 y] [] (fun r M => r = w64 (x ^^^ y) ∧ M = []) := by
  refine fn_x Tryz.func74 rfl rfl rfl Tryz.mixed (by kernel_rfl) ?_
  intro w0
  refine Ct.o ?_
  refine Zgb ?_
  first|refine Zhg (Zaz rfl) ?_|refine Zhg (Zas rfl) ?_
  refine Zg3 ?_
  refine Ct.o ?_
  refine Zgb ?_
  first|refine Zhg (Zat rfl) ?_|refine Zhg (Zar rfl) ?_
  first|refine Zhg (Zat rfl) ?_|refine Zhg (Zar rfl) ?_
  refine Zhg (PV.eq (Zlh rfl rfl) (wd_eq (xor32 x y))) ?_
  first|refine Zhg (Zaz rfl) ?_|refine Zhg (Zas rfl) ?_
  refine Zg3 ?_
  refine Ct.o ?_
  refine rx1 (Zg9 rfl (Zg7)) ?_
  exact ⟨_, ⟨rfl, rfl⟩, by exact Imp.arr (by repeat (first|exact Arr.nil|exact Arr.stop|refine Arr.cons (by repeat constructor) ?_|refine Arr.skip ?_))⟩
theorem leftR_x (x : Wd) (n : Nat) (hn : n = 7 ∨ n = 8 ∨ n = 12 ∨ n = 16) : Con Tryz.prog 89 [w64 x, nvv n] [] (fun r M => r = w64 (rotW x n) ∧ M = []) := by
  refine fn_x Tryz.func89 rfl rfl rfl Tryz.mixed (by kernel_rfl) ?_
  intro w0
  refine Ct.o ?_
  refine Zgb ?_
  first|refine Zhg (Zaz rfl) ?_|refine Zhg (Zas rfl) ?_
  refine Zg3 ?_
  refine Ct.o ?_
  refine Zij ([]) [] (.q 0 (.q 1 (.q 2 (.q 3 (.q 4 (.q 5 (.q 6 (.q 7 (.q 8 (.q 9 .nil)))))))))) (by kernel_rfl) (by kernel_rfl) (Imp.arr Arr.stop) ?_
  first|refine Zim rfl (Zat rfl) ?_|refine Zim rfl (Zar rfl) ?_
  first|refine Zim rfl (Zat rfl) ?_|refine Zim rfl (Zar rfl) ?_
  refine Zim rfl (Zlj rfl rfl) ?_
  refine Zim rfl (Zlu (y := 4294967296#64) rfl rfl (by decide)) ?_
  first|refine Zim rfl (Zat rfl) ?_|refine Zim rfl (Zar rfl) ?_
  first|refine Zim rfl (Zat rfl) ?_|refine Zim rfl (Zar rfl) ?_
  first|refine Zim rfl (Zmb (a := 32) rfl rfl) ?_|refine Zim rfl (Zbh rfl rfl) ?_
  refine Zim rfl (Zlk rfl rfl) ?_
  refine Zim rfl (PV.eq (Zlc rfl rfl) (wd_eq (left32 x n hn))) ?_
  first|refine Zim rfl (Zaz rfl) ?_|refine Zim rfl (Zas rfl) ?_
  refine Zik ?_
  refine Ct.o ?_
  refine rx1 (Zg9 rfl (Zg7)) ?_
  exact ⟨_, ⟨rfl, rfl⟩, by exact Imp.arr (by repeat (first|exact Arr.nil|exact Arr.stop|refine Arr.cons (by repeat constructor) ?_|refine Arr.skip ?_))⟩
def tA (k : Nat) : Nat := if k = 0 then 16 else 8
def tB (k : Nat) : Nat := if k = 0 then 12 else 7
theorem tA_ok (k : Nat) : tA k = 7 ∨ tA k = 8 ∨ tA k = 12 ∨ tA k = 16 := by unfold tA; split <;> omega
theorem tB_ok (k : Nat) : tB k = 7 ∨ tB k = 8 ∨ tB k = 12 ∨ tB k = 16 := by unfold tB; split <;> omega
def qK (a b c d : Wd) : Nat → Wd × Wd × Wd × Wd
  | 0 => (a, b, c, d)
  | 1 => hrW 16 12 (a, b, c, d)
  | _ => hrW 8 7 (hrW 16 12 (a, b, c, d))
theorem qK_succ (a b c d : Wd) (k : Nat) (h : k < 2) : qK a b c d (k + 1) = hrW (tA k) (tB k) (qK a b c d k) := by
  match k, h with
  | 0, _ => rfl
  | 1, _ => rfl
abbrev qcl (q : Wd × Wd × Wd × Wd) : Array Value := #[w64 q.1, w64 q.2.1, w64 q.2.2.1, w64 q.2.2.2]
attribute [local irreducible] rotW qK hrW
theorem quarterR_x (a b c d : Wd) : Con Tryz.prog 77 [.agg #[w64 a, w64 b, w64 c, w64 d]] [] (fun r M => r = .agg (qcl (quarterW a b c d)) ∧ M = []) := by
  have hq0 : qK a b c d 0 = (a, b, c, d) := by unfold qK; rfl
  have hq2 : qK a b c d 2 = quarterW a b c d := by rw [quarter_hr]; unfold qK; rfl
  have hturn : ∀ k, k < 2 → (#[.int .i64 16, .int .i64 12, .int .i64 8, .int .i64 7] : Array Value)[2 * k]? = some (nvv (tA k)) ∧ (#[.int .i64 16, .int .i64 12, .int .i64 8, .int .i64 7] : Array Value)[2 * k + 1]? = some (nvv (tB k)) := by
    intro k hk
    match k, hk with
    | 0, _ => exact ⟨rfl, rfl⟩
    | 1, _ => exact ⟨rfl, rfl⟩
  refine fn_x Tryz.func77 rfl rfl rfl Tryz.mixed (by kernel_rfl) ?_
  intro w0
  refine Ct.o ?_
  refine Zgb ?_
  refine Zh5 rfl ?_; intro b1
  refine Zhz (cs := ((List.replicate 4 0#64).map u64b).toArray) rfl ?_; intro b2
  refine Zg3 ?_
  refine Ct.o ?_
  refine Zgb ?_
  refine Zhg (Zdn (cs := #[.int .i64 16, .int .i64 12, .int .i64 8, .int .i64 7]) (by kernel_rfl)) ?_
  refine Zhz (cs := #[.int .i64 0, .int .i64 0, .int .i64 0, .int .i64 0]) rfl ?_; intro b3
  first|refine Zhy rfl rfl qR qZ qN qZ ?_|refine Zhx rfl rfl qR qZ qN qZ rfl ?_
  refine Zg3 ?_
  refine Ct.o ?_
  refine Zgb ?_
  first|refine Zhg (Zaz rfl) ?_|refine Zhg (Zas rfl) ?_
  refine Zg3 ?_
  refine Ct.o ?_
  refine Zgo [(4, 4), (6, 42)] (by kernel_rfl) (fun k : Nat => k ≤ 2) (fun k => [cl b3 #[.int .i64 16, .int .i64 12, .int .i64 8, .int .i64 7] 142, cl b1 (qcl (qK a b c d k)) 133, cl b2 #[u64b 0#64, u64b 0#64, u64b 0#64, u64b 0#64] 133])
    (fun k => [(4, nvv (2 * k))]) (fun k => 2 - k) 0 (by omega) (by rw [hq0]; exact qI) ⟨rfl, trivial⟩ ?_
  intro k u hk
  refine Ct.o ?_
  refine Zgb ?_
  first|refine Zhg (Zat rfl) ?_|refine Zhg (Zar rfl) ?_
  first|refine Zhg (Zmf (b := 4) rfl rfl) ?_|refine Zhg (Zbn rfl rfl) ?_
  refine Zg3 ?_
  refine Ct.o ?_
  refine Zgg rfl (fun hB => ?_) (fun hB => ?_)
  · have hk2 : k < 2 := by omega
    have hs := qK_succ a b c d k hk2
    obtain ⟨ht1, ht2⟩ := hturn k hk2
    generalize qK a b c d k = Q at hs
    obtain ⟨p, q, r, s⟩ := Q
    refine Ct.o ?_
    refine Zgb ?_
    first|refine Zhg (Zl5 (n := 0) rfl rfl) ?_|refine Zhg (Zl3 (n := 0) rfl rfl) ?_
    refine Zhp rfl qH rfl ?_
    first|refine Zhg (Zl5 (n := 1) rfl rfl) ?_|refine Zhg (Zl3 (n := 1) rfl rfl) ?_
    refine Zhp rfl qH rfl ?_
    refine Zh8 rfl (by kernel_rfl) (plusR_x p q) rfl qT ?_
    rintro _ _ ⟨rfl, rfl⟩
    refine Zg2 qA ?_
    first|refine Zhg (Zl5 (n := 0) rfl rfl) ?_|refine Zhg (Zl3 (n := 0) rfl rfl) ?_
    refine Zht rfl rfl qR qZ rfl ?_
    refine Zg3 ?_
    refine Ct.o ?_
    refine Zij (_) [3, 4, 7] (.q 0 (.q 2 (.q 5 (.q 6 (.r 1 (.r 3 (.r 7 (.e 4 true (.e 8 false (.q 9 (.e 10 false .nil))))))))))) (by kernel_rfl) (by kernel_rfl) (Imp.refl _) ?_
    first|refine Zim rfl (Zl5 (n := 3) rfl rfl) ?_|refine Zim rfl (Zl3 (n := 3) rfl rfl) ?_
    first|refine Zim rfl (Zl5 (n := 0) rfl rfl) ?_|refine Zim rfl (Zl3 (n := 0) rfl rfl) ?_
    first|refine Zim rfl (Zat rfl) ?_|refine Zim rfl (Zar rfl) ?_
    first|refine Zim rfl (Zl5 (n := 2 * k) rfl (int_eq (by push_cast; omega))) ?_|refine Zim rfl (Zl3 (n := 2 * k) rfl (int_eq (by push_cast; omega))) ?_
    refine Ziv rfl rfl qH rfl ?_
    refine Ziv rfl rfl qH rfl ?_
    refine Ziv rfl rfl qH (ht1) ?_
    refine Ziq rfl ?_
    refine Zh8 rfl (by kernel_rfl) (againstR_x s (p + q)) rfl qT ?_
    rintro _ _ ⟨rfl, rfl⟩
    refine Zg2 qA ?_
    refine Zg3 ⟨fun _ => Imp.arr qV, ?_⟩
    refine Ziq rfl ?_
    refine Zh8 rfl (by kernel_rfl) (leftR_x _ _ (tA_ok k)) rfl qT ?_
    rintro _ _ ⟨rfl, rfl⟩
    refine Zg2 qA ?_
    refine Zg3 ⟨(fun hh => Bool.noConfusion hh), ?_⟩
    first|refine Zim rfl (Zl5 (n := 3) rfl rfl) ?_|refine Zim rfl (Zl3 (n := 3) rfl rfl) ?_
    refine Ziq rfl ?_
    refine Zht rfl rfl qR qZ rfl ?_
    refine Zg3 ⟨(fun hh => Bool.noConfusion hh), ?_⟩
    refine Zik ?_
    refine Ct.o ?_
    refine Zgb ?_
    first|refine Zhg (Zl5 (n := 2) rfl rfl) ?_|refine Zhg (Zl3 (n := 2) rfl rfl) ?_
    refine Zhp rfl qH rfl ?_
    first|refine Zhg (Zl5 (n := 3) rfl rfl) ?_|refine Zhg (Zl3 (n := 3) rfl rfl) ?_
    refine Zhp rfl qH rfl ?_
    refine Zh8 rfl (by kernel_rfl) (plusR_x r _) rfl qT ?_
    rintro _ _ ⟨rfl, rfl⟩
    refine Zg2 qA ?_
    first|refine Zhg (Zl5 (n := 2) rfl rfl) ?_|refine Zhg (Zl3 (n := 2) rfl rfl) ?_
    refine Zht rfl rfl qR qZ rfl ?_
    refine Zg3 ?_
    refine Ct.o ?_
    refine Zij (_) [3, 4, 8] (.q 0 (.q 2 (.q 5 (.q 6 (.q 7 (.r 1 (.r 3 (.r 8 (.e 4 true (.e 9 false (.q 10 (.e 11 false .nil)))))))))))) (by kernel_rfl) (by kernel_rfl) (Imp.refl _) ?_
    first|refine Zim rfl (Zl5 (n := 1) rfl rfl) ?_|refine Zim rfl (Zl3 (n := 1) rfl rfl) ?_
    first|refine Zim rfl (Zl5 (n := 2) rfl rfl) ?_|refine Zim rfl (Zl3 (n := 2) rfl rfl) ?_
    first|refine Zim rfl (Zat rfl) ?_|refine Zim rfl (Zar rfl) ?_
    first|refine Zim rfl (Zma (b := 1) rfl rfl) ?_|refine Zim rfl (Zbg rfl rfl) ?_
    first|refine Zim rfl (Zl5 (n := 2 * k + 1) rfl (int_eq (by push_cast; omega))) ?_|refine Zim rfl (Zl3 (n := 2 * k + 1) rfl (int_eq (by push_cast; omega))) ?_
    refine Ziv rfl rfl qH rfl ?_
    refine Ziv rfl rfl qH rfl ?_
    refine Ziv rfl rfl qH (ht2) ?_
    refine Ziq rfl ?_
    refine Zh8 rfl (by kernel_rfl) (againstR_x q _) rfl qT ?_
    rintro _ _ ⟨rfl, rfl⟩
    refine Zg2 qA ?_
    refine Zg3 ⟨fun _ => Imp.arr qV, ?_⟩
    refine Ziq rfl ?_
    refine Zh8 rfl (by kernel_rfl) (leftR_x _ _ (tB_ok k)) rfl qT ?_
    rintro _ _ ⟨rfl, rfl⟩
    refine Zg2 qA ?_
    refine Zg3 ⟨(fun hh => Bool.noConfusion hh), ?_⟩
    first|refine Zim rfl (Zl5 (n := 1) rfl rfl) ?_|refine Zim rfl (Zl3 (n := 1) rfl rfl) ?_
    refine Ziq rfl ?_
    refine Zht rfl rfl qR qZ rfl ?_
    refine Zg3 ⟨(fun hh => Bool.noConfusion hh), ?_⟩
    refine Zik ?_
    refine Ct.o ?_
    refine Zgb ?_
    first|refine Zhg (Zat rfl) ?_|refine Zhg (Zar rfl) ?_
    first|refine Zhg (Zma (b := 2) rfl rfl) ?_|refine Zhg (Zbg rfl rfl) ?_
    first|refine Zhg (Zaz rfl) ?_|refine Zhg (Zas rfl) ?_
    refine Zg3 ?_
    refine Ct.o ?_
    refine Zgl (k + 1) qO (by omega) (by rw [hs]; unfold hrW; exact qI) ⟨by rw [show 2 * (k + 1) = 2 * k + 2 by omega]; rfl, trivial⟩
  · have hie : k = 2 := by omega
    subst hie
    rw [hq2]
    refine Ct.o ?_
    refine Zgb ?_
    first|refine Zhr rfl qH qZ ?_|refine Zhq rfl qH qZ rfl ?_
    first|refine Zhy rfl rfl qR qZ qN qZ ?_|refine Zhx rfl rfl qR qZ qN qZ rfl ?_
    refine Zg3 ?_
    refine Ct.o ?_
    refine rx1 (Zhe rfl qH qZ (Zg7)) ?_
    exact ⟨_, ⟨rfl, rfl⟩, by exact Imp.arr (by repeat (first|exact Arr.nil|exact Arr.stop|refine Arr.cons (by repeat constructor) ?_|refine Arr.skip ?_))⟩
theorem bytesR_x {L : List Asrt} (v : BitVec 64) (n : Nat) (hn : n ≤ 8) : Con Tryz.prog 78 [u64b v, nvv n] L (fun r M => ∃ a c, r = .slice a (leB v n).length c ∧ M = own 5 1 r (leB v n).length ((leB v n).map u8b) :: L) := by
  refine fn_x Tryz.func78 rfl rfl rfl Tryz.mixed (by kernel_rfl) ?_
  intro w0
  refine Ct.o ?_
  refine Zgb ?_
  first|refine Zhg (Za2 rfl) ?_|refine Zhg (Zas rfl) ?_
  refine Zg3 ?_
  refine Ct.o ?_
  refine Zgb ?_
  first|refine Zhg (Za2 rfl) ?_|refine Zhg (Zas rfl) ?_
  refine Zg3 ?_
  refine Ct.o ?_
  refine Zgb ?_
  first|refine Zhg (Zaz rfl) ?_|refine Zhg (Zas rfl) ?_
  refine Zg3 ?_
  refine Ct.o ?_
  refine Zgo [(0, 0), (5, 19)] (by kernel_rfl) (fun s : Nat × Option Addr × Nat => s.1 ≤ n) (fun s => own 5 1 (.slice s.2.1 (leB v s.1).length s.2.2) (leB v s.1).length ((leB v s.1).map u8b) :: L)
    (fun s => [(0, u64b (v >>> (8 * s.1))), (6, nvv s.1), (5, .slice s.2.1 (leB v s.1).length s.2.2)]) (fun s => n - s.1) (0, none, 0) (by show 0 ≤ _; omega) (Imp.own_nil) ⟨by show u64b v = u64b (v >>> 0); rw [BitVec.ushiftRight_zero], rfl, rfl, trivial⟩ ?_
  rintro ⟨i, a, c⟩ u hi
  dsimp only at hi ⊢
  have hll := leB_len v i
  refine Ct.o ?_
  refine Zgb ?_
  first|refine Zhg (Zat rfl) ?_|refine Zhg (Zar rfl) ?_
  first|refine Zhg (Zat rfl) ?_|refine Zhg (Zar rfl) ?_
  first|refine Zhg (Zmf rfl rfl) ?_|refine Zhg (Zbn rfl rfl) ?_
  refine Zg3 ?_
  refine Ct.o ?_
  refine Zgg rfl (fun hB => ?_) (fun hB => ?_)
  · refine Ct.o ?_
    refine Zgb ?_
    first|refine Zhg (Zaw rfl) ?_|refine Zhg (Zar rfl) ?_
    first|refine Zhg (Zat rfl) ?_|refine Zhg (Zar rfl) ?_
    refine Zhg (Zlu (y := 256#64) rfl rfl (by decide)) ?_
    refine Zhg (Zlx rfl) ?_
    refine Zh7 (cs := #[.int .u8 _]) (by omega) (by omega) rfl ?_; intro b16
    refine Zia rfl rfl qH (Rd.cl (xs := [u8b ((v >>> (8 * i) % 256#64).setWidth 8)]) qH rfl qZ rfl) qN (by omega) qS ?_; intro a3 c3
    first|refine Zhg (Za2 rfl) ?_|refine Zhg (Zas rfl) ?_
    refine Zg3 ?_
    refine Ct.o ?_
    have e2 : (leB v i).map u8b ++ [u8b ((v >>> (8 * i) % 256#64).setWidth 8)] = (leB v (i + 1)).map u8b := by rw [leB_succ, byteRem]; simp only [List.map_append, List.map_cons, List.map_nil]
    have e3 : (leB v i).length + 1 = (leB v (i + 1)).length := by rw [leB_len, leB_len]
    rw [e2, e3]
    refine Ct.o ?_
    refine Zgb ?_
    first|refine Zhg (Zat rfl) ?_|refine Zhg (Zar rfl) ?_
    refine Zhg (Zlt (y := 256#64) rfl rfl (by decide)) ?_
    first|refine Zhg (Zaz rfl) ?_|refine Zhg (Zas rfl) ?_
    refine Zg3 ?_
    refine Ct.o ?_
    refine Zgb ?_
    first|refine Zhg (Zat rfl) ?_|refine Zhg (Zar rfl) ?_
    first|refine Zhg (Zma (b := 1) rfl rfl) ?_|refine Zhg (Zbg rfl rfl) ?_
    first|refine Zhg (Zaz rfl) ?_|refine Zhg (Zas rfl) ?_
    refine Zg3 ?_
    refine Ct.o ?_
    exact Zgl (i + 1, a3, c3) qO qO qI ⟨by show u64b _ = u64b _; rw [byteQuo, ← BitVec.shiftRight_add]; rfl, rfl, rfl, trivial⟩
  · have hie : i = n := by omega
    subst hie
    refine Ct.o ?_
    refine Zgb ?_
    first|refine Zhg (Zaw rfl) ?_|refine Zhg (Zar rfl) ?_
    first|refine Zhg (Za2 rfl) ?_|refine Zhg (Zas rfl) ?_
    refine Zg3 ?_
    refine Ct.o ?_
    refine rx1 (Zhc rfl (Zg7)) ?_
    exact ⟨_, ⟨a, c, rfl, rfl⟩, qI⟩
theorem littleR_x {L : List Asrt} {v : Value} {b : List Byte} (h : Bs L v b) (hb : b.length ≤ 140737488351232) : Con Tryz.prog 101 [v, nvv b.length] L (fun r M => r = .tuple #[u64b (BitVec.ofNat 64 (leN b)), nvv 0] ∧ L = M) := by
  refine Con.get (fun w0 w F H => h.sh _ _ _ H) ?_
  rintro ⟨va, vc, rfl, hvc, hvcm⟩
  refine fn_x Tryz.func101 rfl rfl rfl Tryz.mixed (by kernel_rfl) ?_
  intro w0
  refine Ct.o ?_
  refine Zgb ?_
  first|refine Zhg (Zaz rfl) ?_|refine Zhg (Zas rfl) ?_
  first|refine Zhg (Zaz rfl) ?_|refine Zhg (Zas rfl) ?_
  refine Zg3 ?_
  refine Ct.o ?_
  refine Zgb ?_
  first|refine Zhg (Zaw rfl) ?_|refine Zhg (Zar rfl) ?_
  first|refine Zhg (Zcr rfl) ?_|refine Zhg (Zct) ?_|refine Zhg (Zcu rfl) ?_
  first|refine Zhg (Zat rfl) ?_|refine Zhg (Zar rfl) ?_
  first|refine Zhg (Zmf rfl rfl) ?_|refine Zhg (Zbn rfl rfl) ?_
  refine Zhn 11 rfl (decide_eq_false (by omega)) ?_
  refine Zg3 ?_
  refine Ct.o ?_
  refine Zgf rfl ?_
  refine Ct.o ?_
  refine Zgb ?_
  first|refine Zhg (Zaw rfl) ?_|refine Zhg (Zar rfl) ?_
  first|refine Zhg (Zcr rfl) ?_|refine Zhg (Zct) ?_|refine Zhg (Zcu rfl) ?_
  first|refine Zhg (Zat rfl) ?_|refine Zhg (Zar rfl) ?_
  first|refine Zhg (Zmh rfl rfl) ?_|refine Zhg (Zbp rfl rfl) ?_
  refine Zhn 15 rfl (decide_eq_false (by omega)) ?_
  refine Zg3 ?_
  refine Ct.o ?_
  refine Zgf rfl ?_
  refine Ct.o ?_
  refine Zgb ?_
  first|refine Zhg (Zaz rfl) ?_|refine Zhg (Zas rfl) ?_
  refine Zg3 ?_
  refine Ct.o ?_
  refine Zgb ?_
  first|refine Zhg (Zat rfl) ?_|refine Zhg (Zar rfl) ?_
  refine Zhg (Zbh (b := 1) rfl rfl (by omega)) ?_
  first|refine Zhg (Zaz rfl) ?_|refine Zhg (Zas rfl) ?_
  refine Zg3 ?_
  refine Ct.o ?_
  refine Zgo [(6, 7), (18, 29)] (by kernel_rfl) (fun i : Nat => i ≤ b.length) (fun _ => L) (fun i => [(6, u64b (BitVec.ofNat 64 (leN (b.drop i)))), (7, .int .i64 ((i : Int) - 1))]) (fun i => i) b.length (by omega) qI ⟨by rw [List.drop_length]; rfl, rfl, trivial⟩ ?_
  intro i u hi
  refine Ct.o ?_
  refine Zgb ?_
  first|refine Zhg (Zat rfl) ?_|refine Zhg (Zar rfl) ?_
  refine Zhg (Zbq (b := 0) rfl rfl) ?_
  refine Zg3 ?_
  refine Ct.o ?_
  refine Zgg rfl (fun hB => ?_) (fun hB => ?_)
  · obtain ⟨j, rfl⟩ : ∃ j, i = j + 1 := ⟨i - 1, by omega⟩
    have hj : j < b.length := by omega
    refine Zgt (fun F w H => h.some (by omega) H) ?_
    rintro ⟨a1, a2, rfl⟩
    refine Ct.o ?_
    refine Zgb ?_
    first|refine Zhg (Zat rfl) ?_|refine Zhg (Zar rfl) ?_
    refine Zhg (Zle (y := 256#64) rfl rfl) ?_
    first|refine Zhg (Zaw rfl) ?_|refine Zhg (Zar rfl) ?_
    first|refine Zhg (Zat rfl) ?_|refine Zhg (Zar rfl) ?_
    first|refine Zhg (Zl4 (n := j) rfl (int_eq (by push_cast; omega))) ?_|refine Zhg (Zl1 (n := j) rfl (int_eq (by push_cast; omega))) ?_
    refine Zff rfl (h.rd.at hj (getM hj)) ?_
    refine Zhg (Zjx rfl) ?_
    refine Zhg (Zlc rfl rfl) ?_
    first|refine Zhg (Zaz rfl) ?_|refine Zhg (Zas rfl) ?_
    refine Zg3 ?_
    refine Ct.o ?_
    refine Zgb ?_
    first|refine Zhg (Zat rfl) ?_|refine Zhg (Zar rfl) ?_
    refine Zhg (Zbh (b := 1) rfl rfl (by omega)) ?_
    first|refine Zhg (Zaz rfl) ?_|refine Zhg (Zas rfl) ?_
    refine Zg3 ?_
    refine Ct.o ?_
    exact Zgl j qO (by omega) qI ⟨by show u64b _ = u64b _; rw [numStep, List.drop_eq_getElem_cons hj]; rfl, int_eq (by omega), trivial⟩
  · have hie : i = 0 := by omega
    subst hie
    rw [List.drop_zero]
    refine Ct.o ?_
    refine Zgb ?_
    first|refine Zhg (Zat rfl) ?_|refine Zhg (Zar rfl) ?_
    first|refine Zhg (Zaz rfl) ?_|refine Zhg (Zas rfl) ?_
    first|refine Zhg (Zaz rfl) ?_|refine Zhg (Zas rfl) ?_
    refine Zg3 ?_
    refine Ct.o ?_
    refine rx2 (Zg9 rfl (Zg9 rfl (Zg7))) ?_
    exact ⟨_, ⟨rfl, rfl⟩, by exact Imp.arr (by repeat (first|exact Arr.nil|exact Arr.stop|refine Arr.cons (by repeat constructor) ?_|refine Arr.skip ?_))⟩
theorem numR_x {L : List Asrt} {v : Value} {b : List Byte} (h : Bs L v b) (hb : b.length = 4) : Con Tryz.prog 98 [v] L (fun r M => r = w64 (lowB 32 b) ∧ L = M) := by
  refine Con.get (fun w0 w F H => h.sh _ _ _ H) ?_
  rintro ⟨va, vc, rfl, hvc, hvcm⟩
  refine fn_x Tryz.func98 rfl rfl rfl Tryz.mixed (by kernel_rfl) ?_
  intro w0
  refine Ct.o ?_
  refine Zgb ?_
  first|refine Zhg (Zaz rfl) ?_|refine Zhg (Zas rfl) ?_
  refine Zg3 ?_
  refine Ct.o ?_
  refine Zgb ?_
  first|refine Zhg (Zaw rfl) ?_|refine Zhg (Zar rfl) ?_
  first|refine Zhg (Zaw rfl) ?_|refine Zhg (Zar rfl) ?_
  first|refine Zhg (Zcr rfl) ?_|refine Zhg (Zct) ?_|refine Zhg (Zcu rfl) ?_
  refine Zh8 rfl (by kernel_rfl) (littleR_x h (by omega)) rfl qT ?_
  rintro _ _ ⟨rfl, rfl⟩
  refine Zg2 qA ?_
  first|refine Zhg (Zmm rfl) ?_|refine Zhg (Zar rfl) ?_
  refine Zhg (Zco rfl rfl) ?_
  refine Zhg (Zco rfl rfl) ?_
  first|refine Zhg (Zaz rfl) ?_|refine Zhg (Zas rfl) ?_
  first|refine Zhg (Zaz rfl) ?_|refine Zhg (Zas rfl) ?_
  refine Zg3 ?_
  refine Ct.o ?_
  rw [num32 b hb]
  refine Ct.o ?_
  refine Zgb ?_
  first|refine Zhg (Zat rfl) ?_|refine Zhg (Zar rfl) ?_
  first|refine Zhg (Zaz rfl) ?_|refine Zhg (Zas rfl) ?_
  refine Zg3 ?_
  refine Ct.o ?_
  refine rx1 (Zg9 rfl (Zg7)) ?_
  exact ⟨_, ⟨rfl, rfl⟩, by exact Imp.arr (by repeat (first|exact Arr.nil|exact Arr.stop|refine Arr.cons (by repeat constructor) ?_|refine Arr.skip ?_))⟩
end Go.Sl

/- the statements' small helpers: lists of bytes compared, copied, joined. -/
set_option maxHeartbeats 4000000
set_option maxRecDepth 10000
set_option linter.unusedVariables false
set_option linter.unusedSimpArgs false
namespace Go.Sl
open Go Go.Proofs
attribute [local irreducible] cl pt own old pur ex all den denOps denS xOps xC cX CX xthen xblk xcut xloop xgo xng retX resX Calls PV Rd Con
theorem app_take_succ {α β : Type} {f : α → β} (a : List α) {l : List α} {k : Nat} (h : k < l.length) : (a ++ l.take (k + 1)).map f = (a ++ l.take k).map f ++ [f l[k]] := by
  rw [List.take_succ_eq_append_getElem h, ← List.append_assoc, List.map_append]; rfl
theorem eqBytes_x {L : List Asrt} {va vb : Value} {a b : List Byte} (ha : Bs L va a) (hb : Bs L vb b) : Con Tryz.prog 8 [va, vb] L (fun v M => v = .bool (decide (a = b)) ∧ L = M) := by
  refine Con.get (fun w0 w F H => ha.sh _ _ _ H) ?_
  rintro ⟨aa, ac, rfl, hac, hacm⟩
  refine Con.get (fun w0 w F H => hb.sh _ _ _ H) ?_
  rintro ⟨ba, bc, rfl, hbc, hbcm⟩
  refine fn_x Tryz.func8 rfl rfl rfl Tryz.mixed (by kernel_rfl) ?_
  intro w0
  refine Ct.o ?_
  refine Zgb ?_
  first|refine Zhg (Za0 rfl) ?_|refine Zhg (Zas rfl) ?_
  refine Zg3 ?_
  refine Ct.o ?_
  refine Zgb ?_
  first|refine Zhg (Zaw rfl) ?_|refine Zhg (Zar rfl) ?_
  first|refine Zhg (Zcr rfl) ?_|refine Zhg (Zct) ?_|refine Zhg (Zcu rfl) ?_
  first|refine Zhg (Zaw rfl) ?_|refine Zhg (Zar rfl) ?_
  first|refine Zhg (Zcr rfl) ?_|refine Zhg (Zct) ?_|refine Zhg (Zcu rfl) ?_
  first|refine Zhg (Zmk rfl rfl) ?_|refine Zhg (Zbs rfl rfl) ?_
  refine Zg3 ?_
  refine Ct.o ?_
  refine Zgg rfl (fun hB => ?_) (fun hB => ?_)
  · refine Ct.o ?_
    refine Zgb ?_
    first|refine Zhg (Za0 rfl) ?_|refine Zhg (Zas rfl) ?_
    refine Zg3 ?_
    refine Ct.o ?_
    refine rx1 (Zha rfl (Zg7)) ?_
    exact ⟨_, ⟨by rw [decide_eq_false (fun h => hB (by rw [h]))], rfl⟩, by exact Imp.arr (by repeat (first|exact Arr.nil|exact Arr.stop|refine Arr.cons (by repeat constructor) ?_|refine Arr.skip ?_))⟩
  have hlen : a.length = b.length := by omega
  refine Ct.o ?_
  refine Zgb ?_
  first|refine Zhg (Zaz rfl) ?_|refine Zhg (Zas rfl) ?_
  refine Zg3 ?_
  refine Ct.o ?_
  refine Zgo [(4, 5), (11, 25)] (by kernel_rfl) (fun i : Nat => i ≤ a.length ∧ a.take i = b.take i) (fun _ => L) (fun i => [(5, .int .i64 (i : Int))]) (fun i => a.length - i) 0 ⟨by omega, rfl⟩ (Imp.refl _) ⟨rfl, trivial⟩ ?_
  rintro i u ⟨hi, he⟩
  refine Ct.o ?_
  refine Zgb ?_
  first|refine Zhg (Zat rfl) ?_|refine Zhg (Zar rfl) ?_
  first|refine Zhg (Zaw rfl) ?_|refine Zhg (Zar rfl) ?_
  first|refine Zhg (Zcr rfl) ?_|refine Zhg (Zct) ?_|refine Zhg (Zcu rfl) ?_
  first|refine Zhg (Zmf rfl rfl) ?_|refine Zhg (Zbn rfl rfl) ?_
  refine Zg3 ?_
  refine Ct.o ?_
  refine Zgg rfl (fun hB => ?_) (fun hB => ?_)
  · have hib : i < b.length := by omega
    refine Zgt (fun F w H => ha.some (by omega) H) ?_
    rintro ⟨a1, a2, rfl⟩
    refine Zgt (fun F w H => hb.some (by omega) H) ?_
    rintro ⟨b1, b2, rfl⟩
    refine Ct.o ?_
    refine Zij (_) [7] (.q 0 (.q 1 (.q 2 (.q 4 (.q 5 (.q 6 (.r 3 (.r 7 (.q 8 .nil))))))))) (by kernel_rfl) (by kernel_rfl) (Imp.refl _) ?_
    first|refine Zim rfl (Zaw rfl) ?_|refine Zim rfl (Zar rfl) ?_
    first|refine Zim rfl (Zat rfl) ?_|refine Zim rfl (Zar rfl) ?_
    first|refine Zim rfl (Zl4 rfl rfl) ?_|refine Zim rfl (Zl1 rfl rfl) ?_
    first|refine Zim rfl (Zaw rfl) ?_|refine Zim rfl (Zar rfl) ?_
    first|refine Zim rfl (Zat rfl) ?_|refine Zim rfl (Zar rfl) ?_
    first|refine Zim rfl (Zl4 rfl rfl) ?_|refine Zim rfl (Zl1 rfl rfl) ?_
    refine Zi8 (j := i) rfl rfl ha.rd hB (getM (f := u8b) hB) ?_
    refine Zi8 (j := i) rfl rfl hb.rd hib (getM (f := u8b) hib) ?_
    refine Zim rfl (Zjl rfl rfl) ?_
    refine Zik ?_
    refine Ct.o ?_
    refine Zgg rfl (fun hB2 => ?_) (fun hB2 => ?_)
    · refine Ct.o ?_
      refine Zgb ?_
      first|refine Zhg (Za0 rfl) ?_|refine Zhg (Zas rfl) ?_
      refine Zg3 ?_
      refine Ct.o ?_
      refine rx1 (Zha rfl (Zg7)) ?_
      refine ⟨_, ⟨?_, rfl⟩, by exact Imp.arr (by repeat (first|exact Arr.nil|exact Arr.stop|refine Arr.cons (by repeat constructor) ?_|refine Arr.skip ?_))⟩
      rw [decide_eq_false]
      rintro rfl
      exact hB2 rfl
    · refine Ct.o ?_
      refine Zgb ?_
      first|refine Zhg (Zat rfl) ?_|refine Zhg (Zar rfl) ?_
      first|refine Zhg (Zma (b := 1) rfl rfl) ?_|refine Zhg (Zbg rfl rfl) ?_
      first|refine Zhg (Zaz rfl) ?_|refine Zhg (Zas rfl) ?_
      refine Zg3 ?_
      refine Ct.o ?_
      have hB2 : a[i] = b[i] := by simpa using hB2
      exact Zgl (i + 1) qO ⟨by omega, by rw [List.take_succ_eq_append_getElem hB, List.take_succ_eq_append_getElem hib, he, hB2]⟩ qI ⟨rfl, trivial⟩
  · have hie : i = a.length := by omega
    subst hie
    rw [List.take_length, hlen, List.take_length] at he
    refine Ct.o ?_
    refine Zgb ?_
    first|refine Zhg (Za0 rfl) ?_|refine Zhg (Zas rfl) ?_
    refine Zg3 ?_
    refine Ct.o ?_
    refine rx1 (Zha rfl (Zg7)) ?_
    exact ⟨_, ⟨by rw [decide_eq_true he], rfl⟩, by exact Imp.arr (by repeat (first|exact Arr.nil|exact Arr.stop|refine Arr.cons (by repeat constructor) ?_|refine Arr.skip ?_))⟩
theorem copyBytes_x {L : List Asrt} {v : Value} {l : List Byte} (h : Bs L v l) (hl : l.length ≤ 140737488355328) : Con Tryz.prog 10 [v] L (fun r M => ∃ a c, r = .slice a l.length c ∧ M = own 5 1 r l.length (l.map u8b) :: L) := by
  refine Con.get (fun w0 w F H => h.sh _ _ _ H) ?_
  rintro ⟨aa, ac, rfl, hac, hacm⟩
  refine fn_x Tryz.func10 rfl rfl rfl Tryz.mixed (by kernel_rfl) ?_
  intro w0
  refine Ct.o ?_
  refine Zgb ?_
  first|refine Zhg (Za2 rfl) ?_|refine Zhg (Zas rfl) ?_
  refine Zg3 ?_
  refine Ct.o ?_
  refine Zgb ?_
  first|refine Zhg (Zaw rfl) ?_|refine Zhg (Zar rfl) ?_
  first|refine Zhg (Zcr rfl) ?_|refine Zhg (Zct) ?_|refine Zhg (Zcu rfl) ?_
  refine Zm3 (f := u8b) (a := 0#8) (len := 0) rfl rfl rfl qS qS qS ?_; intro b7
  first|refine Zhg (Za2 rfl) ?_|refine Zhg (Zas rfl) ?_
  refine Zg3 ?_
  refine Ct.o ?_
  refine Zgb ?_
  first|refine Zhg (Zaz rfl) ?_|refine Zhg (Zas rfl) ?_
  refine Zg3 ?_
  refine Ct.o ?_
  refine Zgo [(3, 4), (8, 20)] (by kernel_rfl) (fun s : Nat × Option Addr × Nat × Nat => s.1 ≤ l.length ∧ s.2.2.2 = s.1) (fun s => own 5 1 (.slice s.2.1 s.1 s.2.2.1) s.1 ((l.take s.1).map u8b) :: L)
    (fun s => [(4, .int .i64 (s.1 : Int)), (3, .slice s.2.1 s.2.2.2 s.2.2.1)]) (fun s => l.length - s.1) (0, some ⟨b7, 0, none⟩, l.length, 0) ⟨Nat.zero_le _, rfl⟩ (Imp.own_mk (Nat.zero_le _) (by dsimp only; omega) (by simp) (by simp)) ⟨rfl, rfl, trivial⟩ ?_
  rintro ⟨i, a, c, n⟩ u ⟨hi, hn⟩
  dsimp only at hi hn ⊢
  subst hn
  refine Ct.o ?_
  refine Zgb ?_
  first|refine Zhg (Zat rfl) ?_|refine Zhg (Zar rfl) ?_
  first|refine Zhg (Zaw rfl) ?_|refine Zhg (Zar rfl) ?_
  first|refine Zhg (Zcr rfl) ?_|refine Zhg (Zct) ?_|refine Zhg (Zcu rfl) ?_
  first|refine Zhg (Zmf rfl rfl) ?_|refine Zhg (Zbn rfl rfl) ?_
  refine Zg3 ?_
  refine Ct.o ?_
  refine Zgg rfl (fun hB => ?_) (fun hB => ?_)
  · refine Zgt (fun F w H => (h.imp qI).some (by omega) H) ?_
    rintro ⟨a1, a2, rfl⟩
    refine Ct.o ?_
    refine Zgb ?_
    first|refine Zhg (Zaw rfl) ?_|refine Zhg (Zar rfl) ?_
    first|refine Zhg (Zaw rfl) ?_|refine Zhg (Zar rfl) ?_
    first|refine Zhg (Zat rfl) ?_|refine Zhg (Zar rfl) ?_
    first|refine Zhg (Zl4 rfl rfl) ?_|refine Zhg (Zl1 rfl rfl) ?_
    refine Zic (j := n) rfl (h.rd.imp qI) hB (getM (f := u8b) hB) ?_
    refine Zh7 (cs := #[.int .u8 _]) (by omega) (by omega) rfl ?_; intro b19
    refine Zia rfl rfl qH (Rd.cl (xs := [u8b l[n]]) qH rfl qZ rfl) qN (by omega) qS ?_; intro a2 c2
    first|refine Zhg (Za2 rfl) ?_|refine Zhg (Zas rfl) ?_
    refine Zg3 ?_
    refine Ct.o ?_
    refine Zgb ?_
    first|refine Zhg (Zat rfl) ?_|refine Zhg (Zar rfl) ?_
    first|refine Zhg (Zma (b := 1) rfl rfl) ?_|refine Zhg (Zbg rfl rfl) ?_
    first|refine Zhg (Zaz rfl) ?_|refine Zhg (Zas rfl) ?_
    refine Zg3 ?_
    refine Ct.o ?_
    refine Zgl (n + 1, a2, c2, n + 1) qO ⟨by dsimp only; omega, rfl⟩ ?_ ⟨rfl, rfl, trivial⟩
    dsimp only
    rw [List.take_succ_eq_append_getElem hB, List.map_append]
    exact Imp.arr (by repeat (first|exact Arr.nil|exact Arr.stop|refine Arr.cons (by repeat constructor) ?_|refine Arr.skip ?_))
  · have hie : n = l.length := by omega
    subst hie
    rw [List.take_length]
    refine Ct.o ?_
    refine Zgb ?_
    first|refine Zhg (Zaw rfl) ?_|refine Zhg (Zar rfl) ?_
    first|refine Zhg (Za2 rfl) ?_|refine Zhg (Zas rfl) ?_
    refine Zg3 ?_
    refine Ct.o ?_
    refine rx1 (Zhc rfl (Zg7)) ?_
    exact ⟨_, ⟨a, c, rfl, rfl⟩, by exact Imp.arr (by repeat (first|exact Arr.nil|exact Arr.stop|refine Arr.cons (by repeat constructor) ?_|refine Arr.skip ?_))⟩
end Go.Sl

/- the statements' small helpers: lists with marked room behind them. -/
set_option maxHeartbeats 4000000
set_option maxRecDepth 10000
set_option linter.unusedVariables false
set_option linter.unusedSimpArgs false
namespace Go.Sl
open Go Go.Proofs
attribute [local irreducible] cl pt own old pur ex all den denOps denS xOps xC cX CX xthen xblk xcut xloop xgo xng retX resX Calls PV Rd Con
def markB (i : Nat) : Byte := BitVec.ofInt 8 (IntKind.i64.wrap ((BitVec.ofInt IntKind.i64.bits 165 ^^^ BitVec.ofInt IntKind.i64.bits (i : Int)).toNat : Int))
def spF (l : List Byte) (j : Nat) : Byte := if j < l.length then l.getD j 0#8 else markB j
def spareL (l : List Byte) : List Byte := (List.range (l.length + 80)).map (spF l)
def uptoT (N : Nat) (f : Nat → Byte) (i : Nat) : List Byte := (List.range N).map fun j => if j < i then f j else 0#8
theorem uptoT_len (N : Nat) (f : Nat → Byte) (i : Nat) : (uptoT N f i).length = N := by simp [uptoT]
theorem uptoT_set (N : Nat) (f : Nat → Byte) (i : Nat) : (uptoT N f i).set i (f i) = uptoT N f (i + 1) := by
  apply List.ext_getElem (by simp [uptoT])
  intro j h1 h2
  simp only [uptoT, List.getElem_set, List.getElem_map, List.getElem_range]
  by_cases e : i = j
  · subst e; rw [if_pos rfl, if_pos (by omega)]
  · rw [if_neg e]
    by_cases h : j < i
    · rw [if_pos h, if_pos (by omega)]
    · rw [if_neg h, if_neg (by omega)]
theorem uptoT_zero (N : Nat) (f : Nat → Byte) : uptoT N f 0 = List.replicate N 0#8 := by
  apply List.ext_getElem (by simp [uptoT])
  intro j h1 h2
  simp [uptoT]
theorem uptoT_end (N : Nat) (f : Nat → Byte) : uptoT N f N = (List.range N).map f := by
  apply List.map_congr_left
  intro j hj
  rw [if_pos (by simpa using hj)]
theorem spareL_len (l : List Byte) : (spareL l).length = l.length + 80 := by simp [spareL]
theorem spareL_get (l : List Byte) (j : Nat) (h : j < l.length + 80) : (spareL l)[j]'(by rw [spareL_len]; exact h) = spF l j := by simp [spareL]
theorem spareL_take (l : List Byte) : (spareL l).take l.length = l := by
  apply List.ext_getElem (by rw [List.length_take, spareL_len]; omega)
  intro j h1 h2
  rw [List.getElem_take, spareL_get l j (by omega), spF, if_pos h2, List.getD_eq_getElem?_getD, List.getElem?_eq_getElem h2]; rfl
/-- A list that Spare made. -/
theorem bs_spare {M M' : List Asrt} {g : Nat} {l : List Byte} (hm : Has M (cl g ((spareL l).map u8b).toArray 5) M') (hl : l.length ≤ 140737488355328) : Bs M (.slice (some ⟨g, 0, none⟩) l.length (l.length + 80)) l :=
  Bs.cl (o := 0) hm (by rw [szL, spareL_len]; omega) (by
    simp only [Array.toList_extract, List.extract_eq_take_drop]
    rw [Nat.zero_add, Nat.sub_zero, List.drop_zero, ← List.map_take, spareL_take]) (by omega) (by omega)
theorem spare_x {L : List Asrt} {v : Value} {l : List Byte} (h : Bs L v l) (hl : l.length ≤ 140737488355328) : Con Tryz.prog 6 [v] L (fun r M => ∃ g, r = .slice (some ⟨g, 0, none⟩) l.length (l.length + 80) ∧ M = cl g ((spareL l).map u8b).toArray 5 :: L) := by
  refine Con.get (fun w0 w F H => h.sh _ _ _ H) ?_
  rintro ⟨aa, ac, rfl, hac, hacm⟩
  refine fn_x Tryz.func6 rfl rfl rfl Tryz.mixed (by kernel_rfl) ?_
  intro w0
  refine Ct.o ?_
  refine Zgb ?_
  first|refine Zhg (Za2 rfl) ?_|refine Zhg (Zas rfl) ?_
  refine Zg3 ?_
  refine Ct.o ?_
  refine Zgb ?_
  first|refine Zhg (Zaw rfl) ?_|refine Zhg (Zar rfl) ?_
  first|refine Zhg (Zcr rfl) ?_|refine Zhg (Zct) ?_|refine Zhg (Zcu rfl) ?_
  first|refine Zhg (Zma (b := 80) rfl rfl) ?_|refine Zhg (Zbg rfl rfl) ?_
  refine Zm3 (f := u8b) (a := 0#8) rfl rfl rfl qS qS qS ?_; intro b8
  first|refine Zhg (Za2 rfl) ?_|refine Zhg (Zas rfl) ?_
  refine Zg3 ?_
  refine Ct.o ?_
  refine Zgb ?_
  first|refine Zhg (Zaz rfl) ?_|refine Zhg (Zas rfl) ?_
  refine Zg3 ?_
  refine Ct.o ?_
  refine Zgo [(4, 4), (9, 31)] (by kernel_rfl) (fun i : Nat => i ≤ l.length + 80) (fun i => cl b8 ((uptoT (l.length + 80) (spF l) i).map u8b).toArray 5 :: L)
    (fun i => [(4, .int .i64 (i : Int))]) (fun i => l.length + 80 - i) 0 (by omega) (by rw [uptoT_zero]; exact Imp.arr (by repeat (first|exact Arr.nil|exact Arr.stop|refine Arr.cons (by repeat constructor) ?_|refine Arr.skip ?_))) ⟨rfl, trivial⟩ ?_
  intro i u hi
  have hul := uptoT_len (l.length + 80) (spF l) i
  refine Ct.o ?_
  refine Zgb ?_
  first|refine Zhg (Zat rfl) ?_|refine Zhg (Zar rfl) ?_
  first|refine Zhg (Zaw rfl) ?_|refine Zhg (Zar rfl) ?_
  first|refine Zhg (Zcr rfl) ?_|refine Zhg (Zct) ?_|refine Zhg (Zcu rfl) ?_
  first|refine Zhg (Zmf rfl rfl) ?_|refine Zhg (Zbn rfl rfl) ?_
  refine Zg3 ?_
  refine Ct.o ?_
  refine Zgg rfl (fun hB => ?_) (fun hB => ?_)
  · refine Ct.o ?_
    refine Zgb ?_
    first|refine Zhg (Zat rfl) ?_|refine Zhg (Zar rfl) ?_
    first|refine Zhg (Zaw rfl) ?_|refine Zhg (Zar rfl) ?_
    first|refine Zhg (Zcr rfl) ?_|refine Zhg (Zct) ?_|refine Zhg (Zcu rfl) ?_
    first|refine Zhg (Zmf rfl rfl) ?_|refine Zhg (Zbn rfl rfl) ?_
    refine Zg3 ?_
    refine Ct.o ?_
    refine Zgg rfl (fun hC => ?_) (fun hC => ?_)
    · have e : spF l i = l[i] := by rw [spF, if_pos hC, List.getD_eq_getElem?_getD, List.getElem?_eq_getElem hC]; rfl
      refine Zgt (fun F w H => (h.imp qI).some (by omega) H) ?_
      rintro ⟨a1, a2, rfl⟩
      refine Ct.o ?_
      refine Zgb ?_
      first|refine Zhg (Zaw rfl) ?_|refine Zhg (Zar rfl) ?_
      first|refine Zhg (Zat rfl) ?_|refine Zhg (Zar rfl) ?_
      first|refine Zhg (Zaw rfl) ?_|refine Zhg (Zar rfl) ?_
      first|refine Zhg (Zat rfl) ?_|refine Zhg (Zar rfl) ?_
      first|refine Zhg (Zl4 rfl rfl) ?_|refine Zhg (Zl1 rfl rfl) ?_
      refine Zic (j := i) rfl (h.rd.imp qI) hC (getM (f := u8b) hC) ?_
      first|refine Zhg (Zl4 rfl rfl) ?_|refine Zhg (Zl1 rfl rfl) ?_
      refine Zht rfl rfl qR qZ (setL (f := u8b) (l := uptoT (l.length + 80) (spF l) i)) ?_
      refine Zg3 ?_
      refine Ct.o ?_
      rw [← e, uptoT_set]
      refine Ct.o ?_
      refine Zgb ?_
      first|refine Zhg (Zat rfl) ?_|refine Zhg (Zar rfl) ?_
      first|refine Zhg (Zma (b := 1) rfl rfl) ?_|refine Zhg (Zbg rfl rfl) ?_
      first|refine Zhg (Zaz rfl) ?_|refine Zhg (Zas rfl) ?_
      refine Zg3 ?_
      refine Ct.o ?_
      exact Zgl (i + 1) qO qO qI ⟨rfl, trivial⟩
    · have e : spF l i = markB i := by rw [spF, if_neg hC]
      refine Ct.o ?_
      refine Zgb ?_
      first|refine Zhg (Zaw rfl) ?_|refine Zhg (Zar rfl) ?_
      first|refine Zhg (Zat rfl) ?_|refine Zhg (Zar rfl) ?_
      first|refine Zhg (Zat rfl) ?_|refine Zhg (Zar rfl) ?_
      first|refine Zhg (pv_xorn (a := 165) rfl rfl) ?_|refine Zhg (Zbw rfl rfl) ?_
      refine Zhg (Zjs rfl) ?_
      first|refine Zhg (Zl4 rfl rfl) ?_|refine Zhg (Zl1 rfl rfl) ?_
      refine Zht rfl rfl qR qZ (setL (f := u8b) (l := uptoT (l.length + 80) (spF l) i)) ?_
      refine Zg3 ?_
      refine Ct.o ?_
      rw [show BitVec.ofInt 8 (IntKind.i64.wrap ((BitVec.ofInt IntKind.i64.bits 165 ^^^ BitVec.ofInt IntKind.i64.bits (i : Int)).toNat : Int)) = spF l i from e.symm, uptoT_set]
      refine Ct.o ?_
      refine Zgb ?_
      first|refine Zhg (Zat rfl) ?_|refine Zhg (Zar rfl) ?_
      first|refine Zhg (Zma (b := 1) rfl rfl) ?_|refine Zhg (Zbg rfl rfl) ?_
      first|refine Zhg (Zaz rfl) ?_|refine Zhg (Zas rfl) ?_
      refine Zg3 ?_
      refine Ct.o ?_
      exact Zgl (i + 1) qO qO qI ⟨rfl, trivial⟩
  · have hie : i = l.length + 80 := by omega
    subst hie
    rw [uptoT_end]
    refine Ct.o ?_
    refine Zgb ?_
    first|refine Zhg (Zaw rfl) ?_|refine Zhg (Zar rfl) ?_
    first|refine Zhg (Zaw rfl) ?_|refine Zhg (Zar rfl) ?_
    first|refine Zhg (Zcr rfl) ?_|refine Zhg (Zct) ?_|refine Zhg (Zcu rfl) ?_
    refine Zhg (Zm0 rfl rfl) ?_
    first|refine Zhg (Za2 rfl) ?_|refine Zhg (Zas rfl) ?_
    refine Zg3 ?_
    refine Ct.o ?_
    refine rx1 (Zhc rfl (Zg7)) ?_
    exact ⟨_, ⟨b8, rfl, rfl⟩, by exact Imp.arr (by repeat (first|exact Arr.nil|exact Arr.stop|refine Arr.cons (by repeat constructor) ?_|refine Arr.skip ?_))⟩
theorem kept_r {L : List Asrt} {g : Nat} {vw : Value} {w : List Byte} (hrd : Rd L 1 (.slice (some ⟨g, 0, none⟩) (w.length + 80) (w.length + 80)) (w.length + 80) ((spareL w).map u8b)) (hb : Bs L (.slice (some ⟨g, 0, none⟩) w.length (w.length + 80)) w) (hw : Bs L vw w) (hl : w.length ≤ 140737488355328) :
    Con Tryz.prog 9 [.slice (some ⟨g, 0, none⟩) w.length (w.length + 80), vw] L (fun r M => r = .bool true ∧ L = M) := by
  refine Con.get (fun w0 w F H => hw.sh _ _ _ H) ?_
  rintro ⟨ba, bc, rfl, hbc, hbcm⟩
  have hsl := spareL_len w
  refine fn_x Tryz.func9 rfl rfl rfl Tryz.mixed (by kernel_rfl) ?_
  intro w0
  refine Ct.o ?_
  refine Zgb ?_
  first|refine Zhg (Za0 rfl) ?_|refine Zhg (Zas rfl) ?_
  refine Zg3 ?_
  refine Ct.o ?_
  refine Zgb ?_
  first|refine Zhg (Zaw rfl) ?_|refine Zhg (Zar rfl) ?_
  first|refine Zhg (Zaw rfl) ?_|refine Zhg (Zar rfl) ?_
  refine Zh8 rfl (by kernel_rfl) (eqBytes_x hb hw) rfl qT ?_
  rintro _ _ ⟨rfl, rfl⟩
  refine Zg2 qA ?_
  first|refine Zhg (Zb1 rfl) ?_|refine Zhg (Zb0 rfl) ?_
  refine Zhn 10 rfl (by simp) ?_
  refine Zg3 ?_
  refine Ct.o ?_
  refine Zgf rfl ?_
  refine Ct.o ?_
  refine Zgb ?_
  first|refine Zhg (Zaw rfl) ?_|refine Zhg (Zar rfl) ?_
  first|refine Zhg (Zaw rfl) ?_|refine Zhg (Zar rfl) ?_
  first|refine Zhg (Zcr rfl) ?_|refine Zhg (Zct) ?_|refine Zhg (Zcu rfl) ?_
  first|refine Zhg (Zma (b := 80) rfl rfl) ?_|refine Zhg (Zbg rfl rfl) ?_
  refine Zhg (Zm0 (h := w.length + 80) rfl rfl (by omega)) ?_
  first|refine Zhg (Za2 rfl) ?_|refine Zhg (Zas rfl) ?_
  refine Zg3 ?_
  refine Ct.o ?_
  refine Zgb ?_
  first|refine Zhg (Zaw rfl) ?_|refine Zhg (Zar rfl) ?_
  first|refine Zhg (Zcr rfl) ?_|refine Zhg (Zct) ?_|refine Zhg (Zcu rfl) ?_
  first|refine Zhg (Zaz rfl) ?_|refine Zhg (Zas rfl) ?_
  refine Zg3 ?_
  refine Ct.o ?_
  refine Zgo [(4, 4), (6, 6), (18, 31)] (by kernel_rfl) (fun i : Nat => w.length ≤ i ∧ i ≤ w.length + 80) (fun _ => L) (fun i => [(6, .int .i64 (i : Int))]) (fun i => w.length + 80 - i) w.length (by omega) (Imp.refl _) ⟨rfl, trivial⟩ ?_
  rintro i u ⟨hi0, hi⟩
  refine Ct.o ?_
  refine Zgb ?_
  first|refine Zhg (Zat rfl) ?_|refine Zhg (Zar rfl) ?_
  first|refine Zhg (Zaw rfl) ?_|refine Zhg (Zar rfl) ?_
  first|refine Zhg (Zcr rfl) ?_|refine Zhg (Zct) ?_|refine Zhg (Zcu rfl) ?_
  first|refine Zhg (Zmf rfl rfl) ?_|refine Zhg (Zbn rfl rfl) ?_
  refine Zg3 ?_
  refine Ct.o ?_
  refine Zgg rfl (fun hB => ?_) (fun hB => ?_)
  · have hg : ((spareL w).map u8b)[i]? = some (u8b (markB i)) := by
      rw [getM (by omega), spareL_get w i hB, spF, if_neg (by omega)]
    refine Ct.o ?_
    refine Zgb ?_
    first|refine Zhg (Zaw rfl) ?_|refine Zhg (Zar rfl) ?_
    first|refine Zhg (Zat rfl) ?_|refine Zhg (Zar rfl) ?_
    first|refine Zhg (Zl4 rfl rfl) ?_|refine Zhg (Zl1 rfl rfl) ?_
    refine Zm6 (j := i) rfl hrd hB hg ?_
    first|refine Zhg (Zat rfl) ?_|refine Zhg (Zar rfl) ?_
    first|refine Zhg (pv_xorn (a := 165) rfl rfl) ?_|refine Zhg (Zbw rfl rfl) ?_
    refine Zhg (Zjs rfl) ?_
    refine Zhg (Zjl (x := markB i) (y := markB i) rfl rfl) ?_
    refine Zhn 31 rfl (decide_eq_false (fun h => h rfl)) ?_
    refine Zg3 ?_
    refine Ct.o ?_
    refine Zgf rfl ?_
    refine Ct.o ?_
    refine Zgb ?_
    first|refine Zhg (Zat rfl) ?_|refine Zhg (Zar rfl) ?_
    first|refine Zhg (Zma (b := 1) rfl rfl) ?_|refine Zhg (Zbg rfl rfl) ?_
    first|refine Zhg (Zaz rfl) ?_|refine Zhg (Zas rfl) ?_
    refine Zg3 ?_
    refine Ct.o ?_
    exact Zgl (i + 1) qO ⟨by omega, by omega⟩ qI ⟨rfl, trivial⟩
  · refine Ct.o ?_
    refine Zgb ?_
    first|refine Zhg (Za0 rfl) ?_|refine Zhg (Zas rfl) ?_
    refine Zg3 ?_
    refine Ct.o ?_
    refine rx1 (Zha rfl (Zg7)) ?_
    exact ⟨_, ⟨rfl, rfl⟩, by exact Imp.arr (by repeat (first|exact Arr.nil|exact Arr.stop|refine Arr.cons (by repeat constructor) ?_|refine Arr.skip ?_))⟩
theorem rd_spare {L L' : List Asrt} {g : Nat} {w : List Byte} (hm : Has L (cl g ((spareL w).map u8b).toArray 5) L') : Rd L 1 (.slice (some ⟨g, 0, none⟩) (w.length + 80) (w.length + 80)) (w.length + 80) ((spareL w).map u8b) := by
  have hsl := spareL_len w
  exact Rd.cl (o := 0) hm (by simp [hsl]) (by rw [szL]; omega) (by simp only [Array.toList_extract, List.extract_eq_take_drop, Nat.zero_add, Nat.mul_one, Nat.sub_zero, List.drop_zero]; exact List.take_of_length_le (by simp [hsl]))
theorem kept_x {L L' : List Asrt} {g : Nat} {vw : Value} {w : List Byte} (hm : Has L (cl g ((spareL w).map u8b).toArray 5) L') (hw : Bs L vw w) (hl : w.length ≤ 140737488355328) :
    Con Tryz.prog 9 [.slice (some ⟨g, 0, none⟩) w.length (w.length + 80), vw] L (fun r M => r = .bool true ∧ L = M) := kept_r (rd_spare hm) (bs_spare hm hl) hw hl
end Go.Sl

/- the statements' small helpers: lists joined. -/
set_option maxHeartbeats 4000000
set_option maxRecDepth 10000
set_option linter.unusedVariables false
set_option linter.unusedSimpArgs false
namespace Go.Sl
open Go Go.Proofs
attribute [local irreducible] cl pt own old pur ex all den denOps denS xOps xC cX CX xthen xblk xcut xloop xgo xng retX resX Calls PV Rd Con
def joinB (ps : List (Value × List Byte)) : List Byte := (ps.map (·.2)).flatten
theorem joinB_succ (ps : List (Value × List Byte)) (i : Nat) (h : i < ps.length) : joinB (ps.take (i + 1)) = joinB (ps.take i) ++ ps[i].2 := by
  rw [List.take_succ_eq_append_getElem h]; simp only [joinB, List.map_append, List.flatten_append, List.map_cons, List.map_nil, List.flatten_cons, List.flatten_nil, List.append_nil]
theorem joinB_le (ps : List (Value × List Byte)) (i : Nat) : (joinB (ps.take i)).length ≤ (joinB ps).length := by
  have e : joinB ps = joinB (ps.take i) ++ joinB (ps.drop i) := by
    simp only [joinB, ← List.flatten_append, ← List.map_append, List.take_append_drop]
  rw [e]; simp
theorem join_x {L : List Asrt} {v : Value} {ps : List (Value × List Byte)} (h : Rs L v ps) (hl : (joinB ps).length ≤ 140737488355328) : Con Tryz.prog 37 [v] L (fun r M => ∃ a c, r = .slice a (joinB ps).length c ∧ M = own 5 1 r (joinB ps).length ((joinB ps).map u8b) :: L) := by
  refine Con.get (fun w0 w F H => h.sh _ _ _ H) ?_
  rintro ⟨aa, ac, rfl, hac, hacm⟩
  refine fn_x Tryz.func37 rfl rfl rfl Tryz.mixed (by kernel_rfl) ?_
  intro w0
  refine Ct.o ?_
  refine Zgb ?_
  first|refine Zhg (Za2 rfl) ?_|refine Zhg (Zas rfl) ?_
  refine Zg3 ?_
  refine Ct.o ?_
  refine Zgb ?_
  first|refine Zhg (Za2 rfl) ?_|refine Zhg (Zas rfl) ?_
  refine Zg3 ?_
  refine Ct.o ?_
  refine Zgb ?_
  first|refine Zhg (Zaz rfl) ?_|refine Zhg (Zas rfl) ?_
  refine Zg3 ?_
  refine Ct.o ?_
  refine Zgo [(3, 30)] (by kernel_rfl) (fun s : Nat × Option Addr × Nat × Nat => s.1 ≤ ps.length ∧ s.2.2.2 = (joinB (ps.take s.1)).length) (fun s => own 5 1 (.slice s.2.1 s.2.2.2 s.2.2.1) s.2.2.2 ((joinB (ps.take s.1)).map u8b) :: L)
    (fun s => [(4, .int .i64 (s.1 : Int)), (3, .slice s.2.1 s.2.2.2 s.2.2.1)]) (fun s => ps.length - s.1) (0, none, 0, 0) ⟨Nat.zero_le _, rfl⟩ Imp.own_nil ⟨rfl, rfl, trivial⟩ ?_
  rintro ⟨i, a, c, n⟩ u ⟨hi, hn⟩
  dsimp only at hi hn ⊢
  have hnl : n ≤ (joinB ps).length := by rw [hn]; exact joinB_le ps i
  refine Ct.o ?_
  refine Zgb ?_
  first|refine Zhg (Zat rfl) ?_|refine Zhg (Zar rfl) ?_
  first|refine Zhg (Zaw rfl) ?_|refine Zhg (Zar rfl) ?_
  first|refine Zhg (Zcr rfl) ?_|refine Zhg (Zct) ?_|refine Zhg (Zcu rfl) ?_
  first|refine Zhg (Zmf rfl rfl) ?_|refine Zhg (Zbn rfl rfl) ?_
  refine Zg3 ?_
  refine Ct.o ?_
  refine Zgg rfl (fun hB => ?_) (fun hB => ?_)
  · have hel := h.el _ (List.getElem_mem hB)
    refine Zgt (fun F w H => (h.rd.imp qI).someAt (by omega) H) ?_
    rintro ⟨a1, a2, rfl⟩
    refine Zgt (fun F w H => (hel.imp qI).sh _ _ _ H) ?_
    rintro ⟨ea, ec, hev, hecl, hecm⟩
    generalize hrow : ps[i].2 = row at hel hev hecl
    have htot : (joinB (ps.take i)).length + row.length ≤ (joinB ps).length := by
      have h1 := joinB_le ps (i + 1)
      rw [joinB_succ ps i hB, List.length_append, hrow] at h1; exact h1
    have hgi : (ps.map (·.1))[i]? = some (.slice ea row.length ec) := by simp [hB, hev]
    refine Ct.o ?_
    refine Zgb ?_
    first|refine Zhg (Zaz rfl) ?_|refine Zhg (Zas rfl) ?_
    refine Zg3 ?_
    refine Ct.o ?_
    refine Zgo [(3, 3), (5, 5), (12, 30)] (by kernel_rfl) (fun s : Nat × Option Addr × Nat × Nat => s.1 ≤ row.length ∧ s.2.2.2 = n + s.1) (fun s => own 5 1 (.slice s.2.1 s.2.2.2 s.2.2.1) s.2.2.2 ((joinB (ps.take i) ++ row.take s.1).map u8b) :: L)
      (fun s => [(5, .int .i64 (s.1 : Int)), (3, .slice s.2.1 s.2.2.2 s.2.2.1)]) (fun s => row.length - s.1) (0, a, c, n) ⟨Nat.zero_le _, rfl⟩ (by dsimp only; rw [List.take_zero, List.append_nil]; exact Imp.refl _) ⟨rfl, rfl, trivial⟩ ?_
    rintro ⟨k, a', c', n'⟩ u' ⟨hk, hn'⟩
    dsimp only at hk hn' ⊢
    refine Ct.o ?_
    refine Zgb ?_
    first|refine Zhg (Zat rfl) ?_|refine Zhg (Zar rfl) ?_
    first|refine Zhg (Zaw rfl) ?_|refine Zhg (Zar rfl) ?_
    first|refine Zhg (Zat rfl) ?_|refine Zhg (Zar rfl) ?_
    first|refine Zhg (Zl4 rfl rfl) ?_|refine Zhg (Zl1 rfl rfl) ?_
    refine Zic (j := i) rfl (h.rd.imp qI) hB hgi ?_
    first|refine Zhg (Zcr rfl) ?_|refine Zhg (Zct) ?_|refine Zhg (Zcu rfl) ?_
    first|refine Zhg (Zmf rfl rfl) ?_|refine Zhg (Zbn rfl rfl) ?_
    refine Zg3 ?_
    refine Ct.o ?_
    refine Zgg rfl (fun hK => ?_) (fun hK => ?_)
    · refine Zgt (fun F w H => (by rw [hev] at hel; exact (hel.imp qI).some (by omega) H)) ?_
      rintro ⟨e1, e2, rfl⟩
      rw [hev] at hel
      refine Ct.o ?_
      refine Zgb ?_
      first|refine Zhg (Zaw rfl) ?_|refine Zhg (Zar rfl) ?_
      first|refine Zhg (Zaw rfl) ?_|refine Zhg (Zar rfl) ?_
      first|refine Zhg (Zat rfl) ?_|refine Zhg (Zar rfl) ?_
      first|refine Zhg (Zl4 rfl rfl) ?_|refine Zhg (Zl1 rfl rfl) ?_
      refine Zic (j := i) rfl (h.rd.imp qI) hB hgi ?_
      first|refine Zhg (Zat rfl) ?_|refine Zhg (Zar rfl) ?_
      first|refine Zhg (Zl4 rfl rfl) ?_|refine Zhg (Zl1 rfl rfl) ?_
      refine Zic (j := k) rfl (hel.rd.imp qI) hK (getM (f := u8b) hK) ?_
      refine Zh7 (cs := #[.int .u8 _]) (by omega) (by omega) rfl ?_; intro b29
      refine Zia rfl rfl qH (Rd.cl (xs := [u8b row[k]]) qH rfl qZ rfl) qN (by omega) qS ?_; intro a3 c3
      first|refine Zhg (Za2 rfl) ?_|refine Zhg (Zas rfl) ?_
      refine Zg3 ?_
      refine Ct.o ?_
      refine Zgb ?_
      first|refine Zhg (Zat rfl) ?_|refine Zhg (Zar rfl) ?_
      first|refine Zhg (Zma (b := 1) rfl rfl) ?_|refine Zhg (Zbg rfl rfl) ?_
      first|refine Zhg (Zaz rfl) ?_|refine Zhg (Zas rfl) ?_
      refine Zg3 ?_
      refine Ct.o ?_
      refine Zgl (k + 1, a3, c3, n' + 1) qO ⟨by dsimp only; omega, by dsimp only; omega⟩ ?_ ⟨rfl, rfl, trivial⟩
      dsimp only
      rw [app_take_succ _ hK]
      exact Imp.arr (by repeat (first|exact Arr.nil|exact Arr.stop|refine Arr.cons (by repeat constructor) ?_|refine Arr.skip ?_))
    · have hke : k = row.length := by omega
      subst hke
      rw [List.take_length]
      refine Ct.o ?_
      refine Zgb ?_
      first|refine Zhg (Zat rfl) ?_|refine Zhg (Zar rfl) ?_
      first|refine Zhg (Zma (b := 1) rfl rfl) ?_|refine Zhg (Zbg rfl rfl) ?_
      first|refine Zhg (Zaz rfl) ?_|refine Zhg (Zas rfl) ?_
      refine Zg3 ?_
      refine Ct.o ?_
      refine Zgl (i + 1, a', c', n') qO ⟨by dsimp only; omega, by dsimp only; rw [joinB_succ ps i hB, List.length_append, hrow]; omega⟩ ?_ ⟨rfl, rfl, trivial⟩
      dsimp only
      rw [joinB_succ ps i hB, hrow]
      exact Imp.arr (by repeat (first|exact Arr.nil|exact Arr.stop|refine Arr.cons (by repeat constructor) ?_|refine Arr.skip ?_))
  · have hie : i = ps.length := by omega
    subst hie
    rw [List.take_length] at hn
    rw [List.take_length]
    subst hn
    refine Ct.o ?_
    refine Zgb ?_
    first|refine Zhg (Zaw rfl) ?_|refine Zhg (Zar rfl) ?_
    first|refine Zhg (Za2 rfl) ?_|refine Zhg (Zas rfl) ?_
    refine Zg3 ?_
    refine Ct.o ?_
    refine rx1 (Zhc rfl (Zg7)) ?_
    exact ⟨_, ⟨a, c, rfl, rfl⟩, by exact Imp.arr (by repeat (first|exact Arr.nil|exact Arr.stop|refine Arr.cons (by repeat constructor) ?_|refine Arr.skip ?_))⟩
theorem two_x {L : List Asrt} {va vb : Value} {a b : List Byte} (ha : Bs L va a) (hb : Bs L vb b) (hl : (a ++ b).length ≤ 140737488355328) : Con Tryz.prog 21 [va, vb] L (fun r M => ∃ x c, r = .slice x (a ++ b).length c ∧ M = own 5 1 r (a ++ b).length ((a ++ b).map u8b) :: L) := by
  refine Con.get (fun w0 w F H => ha.sh _ _ _ H) ?_
  rintro ⟨aa, ac, rfl, hac, hacm⟩
  refine Con.get (fun w0 w F H => hb.sh _ _ _ H) ?_
  rintro ⟨ba, bc, rfl, hbc, hbcm⟩
  have e : joinB [(.slice aa a.length ac, a), (.slice ba b.length bc, b)] = a ++ b := by simp [joinB]
  refine fn_x Tryz.func21 rfl rfl rfl Tryz.mixed (by kernel_rfl) ?_
  intro w0
  refine Ct.o ?_
  refine Zgb ?_
  first|refine Zhg (Za2 rfl) ?_|refine Zhg (Zas rfl) ?_
  refine Zg3 ?_
  refine Ct.o ?_
  refine Zgb ?_
  first|refine Zhg (Zaw rfl) ?_|refine Zhg (Zar rfl) ?_
  first|refine Zhg (Zaw rfl) ?_|refine Zhg (Zar rfl) ?_
  refine Zh7 (cs := #[.slice _ _ _, .slice _ _ _]) (by omega) (by omega) rfl ?_; intro b7
  refine Zh8 rfl (by kernel_rfl) (join_x (L := cl b7 #[.slice aa a.length ac, .slice ba b.length bc] 28 :: L) (ps := [(.slice aa a.length ac, a), (.slice ba b.length bc, b)]) (Rs.cl (o := 0) qH (by simp) rfl (by simp) (by simp) (by intro x hx; simp only [List.mem_cons, List.not_mem_nil, or_false] at hx; rcases hx with rfl|rfl; exact ha.imp Imp.tail; exact hb.imp Imp.tail)) (by rw [e]; exact hl)) rfl qT ?_
  rintro _ _ ⟨x, c, rfl, rfl⟩
  refine Zg2 qA ?_
  first|refine Zhg (Za2 rfl) ?_|refine Zhg (Zas rfl) ?_
  refine Zg3 ?_
  refine Ct.o ?_
  rw [e]
  refine rx1 (Zhc rfl (Zg7)) ?_
  exact ⟨_, ⟨x, c, rfl, rfl⟩, by exact Imp.arr (by repeat (first|exact Arr.nil|exact Arr.stop|refine Arr.cons (by repeat constructor) ?_|refine Arr.skip ?_))⟩
end Go.Sl

/- the statements' small helpers: numbers as bytes, the lowest first; a list copied into noughts. -/
set_option maxHeartbeats 4000000
set_option maxRecDepth 10000
set_option linter.unusedVariables false
set_option linter.unusedSimpArgs false
namespace Go.Sl
open Go Go.Proofs
attribute [local irreducible] cl pt own old pur ex all den denOps denS xOps xC cX CX xthen xblk xcut xloop xgo xng retX resX Calls PV Rd Con
theorem leB_wide (x : BitVec 32) (n : Nat) : leB (x.setWidth 64) n = leB x n := by
  unfold leB
  apply List.map_congr_left
  intro i _
  apply BitVec.eq_of_getLsbD_eq
  intro j hj
  simp only [BitVec.getLsbD_setWidth, BitVec.getLsbD_ushiftRight, hj, decide_true, Bool.true_and]
  by_cases h : 8 * i + j < 64
  · simp [h]
  · simp [h]; exact (BitVec.getLsbD_of_ge x (8 * i + j) (by omega))
theorem little_x {L : List Asrt} (v : BitVec 64) (n : Nat) (hn : n ≤ 16) : Con Tryz.prog 34 [u64b v, nvv n] L (fun r M => ∃ a c, r = .slice a (leB v n).length c ∧ M = own 5 1 r (leB v n).length ((leB v n).map u8b) :: L) := by
  refine fn_x Tryz.func34 rfl rfl rfl Tryz.mixed (by kernel_rfl) ?_
  intro w0
  refine Ct.o ?_
  refine Zgb ?_
  first|refine Zhg (Za2 rfl) ?_|refine Zhg (Zas rfl) ?_
  refine Zg3 ?_
  refine Ct.o ?_
  refine Zgb ?_
  first|refine Zhg (Za2 rfl) ?_|refine Zhg (Zas rfl) ?_
  refine Zg3 ?_
  refine Ct.o ?_
  refine Zgb ?_
  first|refine Zhg (Zaz rfl) ?_|refine Zhg (Zas rfl) ?_
  refine Zg3 ?_
  refine Ct.o ?_
  refine Zgo [(5, 19)] (by kernel_rfl) (fun s : Nat × Option Addr × Nat => s.1 ≤ n) (fun s => own 5 1 (.slice s.2.1 (leB v s.1).length s.2.2) (leB v s.1).length ((leB v s.1).map u8b) :: L)
    (fun s => [(6, nvv s.1), (5, .slice s.2.1 (leB v s.1).length s.2.2)]) (fun s => n - s.1) (0, none, 0) (by show 0 ≤ _; omega) (Imp.own_nil) ⟨rfl, rfl, trivial⟩ ?_
  rintro ⟨i, a, c⟩ u hi
  dsimp only at hi ⊢
  have hll := leB_len v i
  refine Ct.o ?_
  refine Zgb ?_
  first|refine Zhg (Zat rfl) ?_|refine Zhg (Zar rfl) ?_
  first|refine Zhg (Zat rfl) ?_|refine Zhg (Zar rfl) ?_
  first|refine Zhg (Zmf rfl rfl) ?_|refine Zhg (Zbn rfl rfl) ?_
  refine Zg3 ?_
  refine Ct.o ?_
  refine Zgg rfl (fun hB => ?_) (fun hB => ?_)
  · refine Ct.o ?_
    refine Zgb ?_
    first|refine Zhg (Zaw rfl) ?_|refine Zhg (Zar rfl) ?_
    first|refine Zhg (Zat rfl) ?_|refine Zhg (Zar rfl) ?_
    first|refine Zhg (Zat rfl) ?_|refine Zhg (Zar rfl) ?_
    first|refine Zhg (Zmc (a := 8) rfl rfl) ?_|refine Zhg (Zbi rfl rfl) ?_
    refine Zhg (Zlk rfl rfl) ?_
    refine Zhg (Zlx rfl) ?_
    refine Zh7 (cs := #[.int .u8 _]) (by omega) (by omega) rfl ?_; intro b18
    refine Zia rfl rfl qH (Rd.cl (xs := [u8b ((v >>> (8 * i)).setWidth 8)]) qH rfl qZ rfl) qN (by omega) qS ?_; intro a3 c3
    first|refine Zhg (Za2 rfl) ?_|refine Zhg (Zas rfl) ?_
    refine Zg3 ?_
    refine Ct.o ?_
    have e2 : (leB v i).map u8b ++ [u8b ((v >>> (8 * i)).setWidth 8)] = (leB v (i + 1)).map u8b := by rw [leB_succ]; simp only [List.map_append, List.map_cons, List.map_nil]
    have e3 : (leB v i).length + 1 = (leB v (i + 1)).length := by rw [leB_len, leB_len]
    rw [e2, e3]
    refine Ct.o ?_
    refine Zgb ?_
    first|refine Zhg (Zat rfl) ?_|refine Zhg (Zar rfl) ?_
    first|refine Zhg (Zma (b := 1) rfl rfl) ?_|refine Zhg (Zbg rfl rfl) ?_
    first|refine Zhg (Zaz rfl) ?_|refine Zhg (Zas rfl) ?_
    refine Zg3 ?_
    refine Ct.o ?_
    exact Zgl (i + 1, a3, c3) qO qO qI ⟨rfl, rfl, trivial⟩
  · have hie : i = n := by omega
    subst hie
    refine Ct.o ?_
    refine Zgb ?_
    first|refine Zhg (Zaw rfl) ?_|refine Zhg (Zar rfl) ?_
    first|refine Zhg (Za2 rfl) ?_|refine Zhg (Zas rfl) ?_
    refine Zg3 ?_
    refine Ct.o ?_
    refine rx1 (Zhc rfl (Zg7)) ?_
    exact ⟨_, ⟨a, c, rfl, rfl⟩, qI⟩
/-- A list copied into one of noughts, up to a place. -/
def cpK (l : List Byte) (n i : Nat) : List Byte := l.take i ++ List.replicate (n - i) 0#8
theorem cpK_len (l : List Byte) (n i : Nat) (hi : i ≤ n) (hl : i ≤ l.length) : (cpK l n i).length = n := by simp [cpK]; omega
theorem cpK_set (l : List Byte) (n i : Nat) (hi : i < n) (hl : i < l.length) : (cpK l n i).set i l[i] = cpK l n (i + 1) := by
  unfold cpK
  rw [List.set_append_right _ _ (by simp; omega), List.length_take, Nat.min_eq_left (by omega), Nat.sub_self, show n - i = (n - (i + 1)) + 1 by omega, List.replicate_succ, List.set_cons_zero, List.take_succ_eq_append_getElem hl, List.append_assoc]; rfl
theorem cpK_end (l : List Byte) (n : Nat) (hl : n ≤ l.length) : cpK l n n = l.take n := by simp [cpK]
end Go.Sl

/- the document's key stream: words, state, places, a block, walked. -/
set_option maxHeartbeats 4000000
set_option maxRecDepth 10000
set_option linter.unusedVariables false
set_option linter.unusedSimpArgs false
namespace Go.Sl
open Go Go.Proofs
attribute [local irreducible] cl pt own old pur ex all den denOps denS xOps xC cX CX xthen xblk xcut xloop xgo xng retX resX Calls PV Rd Con
theorem x_own {P : Program} {w0 : World} {c : Code} {ρ : Env} {Q : XQ} {E n cp : Nat} {a : Option Addr} {xs : List Value} {M M' : List Asrt} (hm : Has M (own E 1 (.slice a n cp) n xs) M') (hn : 0 < n)
    (k : ∀ g rest, a = some ⟨g, 0, none⟩ → n ≤ cp → cp ≤ 9223372036854775807 → rest.length + n = cp → xC P w0 c ρ (cl g (xs ++ rest).toArray E :: M') Q) : xC P w0 c ρ M Q := by
  refine Zgu (α := { p : Nat × List Value // a = some ⟨p.1, 0, none⟩ ∧ n ≤ cp ∧ cp ≤ 9223372036854775807 ∧ p.2.length + n = cp }) (A := fun p => cl p.val.1 (xs ++ p.val.2).toArray E :: M') ?_ (fun p => k p.val.1 p.val.2 p.property.1 p.property.2.1 p.property.2.2.1 p.property.2.2.2)
  intro F w H
  rcases (H.pick (.there hm)).own_get with ⟨hv, rfl, _⟩|⟨g, cap, cur, hv, h2, h3, h4, h5, h6, H'⟩
  · omega
  · simp only [Value.slice.injEq] at hv
    obtain ⟨rfl, _, rfl⟩ := hv
    have e : cur = (xs ++ cur.toList.drop n).toArray := by
      rw [← h5, Nat.mul_one, List.take_append_drop]
    refine ⟨⟨(g, cur.toList.drop n), rfl, h2, h3, by rw [List.length_drop, Array.length_toList, h4]; omega⟩, ?_⟩
    dsimp only
    rw [← e]
    exact H'.swap
/-- The words of some bytes. -/
def wsB (b : List Byte) (n : Nat) : List Wd := (List.range n).map fun i => lowB 32 ((b.drop (4 * i)).take 4)
theorem wsB_len (b : List Byte) (n : Nat) : (wsB b n).length = n := by simp [wsB]
theorem wsB_succ (b : List Byte) (n : Nat) : wsB b (n + 1) = wsB b n ++ [lowB 32 ((b.drop (4 * n)).take 4)] := by simp [wsB, List.range_succ]
theorem stateW_ws (key : List Byte) (ctr : Wd) (nonce : List Byte) : stateW key ctr nonce = st0 ++ (wsB key 8 ++ (ctr :: wsB nonce 3)) := rfl
attribute [local irreducible] lowB wsB
theorem wordsR_x {L M' : List Asrt} {g E n m : Nat} {b : List Byte} (hm : Has L (cl g (b.map u8b).toArray E) M') (hb : b.length = m) (hmn : m = 4 * n) (hn : n ≤ 8) : Con Tryz.prog 88 [.slice (some ⟨g, 0, none⟩) m m] L (fun r M => ∃ a c, r = .slice a (wsB b n).length c ∧ M = own 24 1 r (wsB b n).length ((wsB b n).map w64) :: L) := by
  have h0 : wsB b 0 = [] := by unfold wsB; rfl
  refine fn_x Tryz.func88 rfl rfl rfl Tryz.mixed (by kernel_rfl) ?_
  intro w0
  refine Ct.o ?_
  refine Zgb ?_
  first|refine Zhg (Za2 rfl) ?_|refine Zhg (Zas rfl) ?_
  refine Zg3 ?_
  refine Ct.o ?_
  refine Zgb ?_
  first|refine Zhg (Za2 rfl) ?_|refine Zhg (Zas rfl) ?_
  refine Zg3 ?_
  refine Ct.o ?_
  refine Zgb ?_
  first|refine Zhg (Zaz rfl) ?_|refine Zhg (Zas rfl) ?_
  refine Zg3 ?_
  refine Ct.o ?_
  refine Zgo [(3, 20)] (by kernel_rfl) (fun s : Nat × Option Addr × Nat => s.1 ≤ n) (fun s => own 24 1 (.slice s.2.1 (wsB b s.1).length s.2.2) (wsB b s.1).length ((wsB b s.1).map w64) :: L)
    (fun s => [(4, nvv (4 * s.1)), (3, .slice s.2.1 (wsB b s.1).length s.2.2)]) (fun s => n - s.1) (0, none, 0) (by show 0 ≤ _; omega) (by show Imp _ (own _ 1 (.slice none (wsB b 0).length 0) (wsB b 0).length ((wsB b 0).map w64) :: L); rw [h0]; exact Imp.own_nil) ⟨rfl, by show Value.slice none 0 0 = .slice none (wsB b 0).length 0; rw [h0]; rfl, trivial⟩ ?_
  rintro ⟨i, a, c⟩ u hi
  dsimp only at hi ⊢
  have hll := wsB_len b i
  refine Ct.o ?_
  refine Zgb ?_
  first|refine Zhg (Zat rfl) ?_|refine Zhg (Zar rfl) ?_
  first|refine Zhg (Zma (b := 4) rfl rfl) ?_|refine Zhg (Zbg rfl rfl) ?_
  first|refine Zhg (Zaw rfl) ?_|refine Zhg (Zar rfl) ?_
  first|refine Zhg (Zcr rfl) ?_|refine Zhg (Zct) ?_|refine Zhg (Zcu rfl) ?_
  first|refine Zhg (Zmg rfl rfl) ?_|refine Zhg (Zbo rfl rfl) ?_
  refine Zg3 ?_
  refine Ct.o ?_
  refine Zgg rfl (fun hB => ?_) (fun hB => ?_)
  · have hB' : i < n := by omega
    refine Ct.o ?_
    refine Zgb ?_
    first|refine Zhg (Zaw rfl) ?_|refine Zhg (Zar rfl) ?_
    first|refine Zhg (Zaw rfl) ?_|refine Zhg (Zar rfl) ?_
    first|refine Zhg (Zat rfl) ?_|refine Zhg (Zar rfl) ?_
    first|refine Zhg (Zat rfl) ?_|refine Zhg (Zar rfl) ?_
    first|refine Zhg (Zma (b := 4) rfl rfl) ?_|refine Zhg (Zbg rfl rfl) ?_
    first|refine Zhg (Zna (l := 4 * i) (h := 4 * i + 4) rfl qB qB) ?_|refine Zhg (Zmz (l := 4 * i) (h := 4 * i + 4) rfl qB qB) ?_
    refine Zh8 rfl (by kernel_rfl) (numR_x (L := L) (b := (b.drop (4 * i)).take (4 * i + 4 - 4 * i)) (bs_piece (o := 4 * i) (n := 4 * i + 4 - 4 * i) (c := m - 4 * i) hm (by omega) (by omega) (by omega)) (by simp; omega)) rfl qT ?_
    rintro _ _ ⟨rfl, rfl⟩
    refine Zg2 qA ?_
    refine Zh7 (cs := #[.int .u64 _]) (by omega) (by omega) rfl ?_; intro b19
    refine Zia rfl rfl qH (Rd.cl (xs := [w64 (lowB 32 ((b.drop (4 * i)).take (4 * i + 4 - 4 * i)))]) qH rfl qZ rfl) qN (by omega) qS ?_; intro a3 c3
    first|refine Zhg (Za2 rfl) ?_|refine Zhg (Zas rfl) ?_
    refine Zg3 ?_
    refine Ct.o ?_
    have e1 : 4 * i + 4 - 4 * i = 4 := by omega
    have e2 : (wsB b i).map w64 ++ [w64 (lowB 32 ((b.drop (4 * i)).take (4 * i + 4 - 4 * i)))] = (wsB b (i + 1)).map w64 := by rw [e1, wsB_succ]; simp only [List.map_append, List.map_cons, List.map_nil]
    have e3 : (wsB b i).length + 1 = (wsB b (i + 1)).length := by rw [wsB_len, wsB_len]
    rw [e2, e3]
    refine Ct.o ?_
    refine Zgb ?_
    first|refine Zhg (Zat rfl) ?_|refine Zhg (Zar rfl) ?_
    first|refine Zhg (Zma (b := 4) rfl rfl) ?_|refine Zhg (Zbg rfl rfl) ?_
    first|refine Zhg (Zaz rfl) ?_|refine Zhg (Zas rfl) ?_
    refine Zg3 ?_
    refine Ct.o ?_
    exact Zgl (i + 1, a3, c3) qO qO qI ⟨int_eq (by omega), rfl, trivial⟩
  · have hie : i = n := by omega
    subst hie
    refine Ct.o ?_
    refine Zgb ?_
    first|refine Zhg (Zaw rfl) ?_|refine Zhg (Zar rfl) ?_
    first|refine Zhg (Za2 rfl) ?_|refine Zhg (Zas rfl) ?_
    refine Zg3 ?_
    refine Ct.o ?_
    refine rx1 (Zhc rfl (Zg7)) ?_
    exact ⟨_, ⟨a, c, rfl, rfl⟩, qI⟩
theorem stateR_x (key : List Byte) (ctr : Wd) (nonce : List Byte) (hk : key.length = 32) (hn : nonce.length = 12) : Con Tryz.prog 75 [.agg (key.map u8b).toArray, u32b ctr, .agg (nonce.map u8b).toArray] [] (fun r M => ∃ a c, r = .slice a 16 c ∧ M = [own 24 1 r 16 ((stateW key ctr nonce).map w64)]) := by
  have hl8 := wsB_len key 8
  have hl3 := wsB_len nonce 3
  refine fn_x Tryz.func75 rfl rfl rfl Tryz.mixed (by kernel_rfl) ?_
  intro w0
  refine Ct.o ?_
  refine Zgb ?_
  refine Zh5 rfl ?_; intro b3
  refine Zh5 rfl ?_; intro b5
  first|refine Zhg (Za2 rfl) ?_|refine Zhg (Zas rfl) ?_
  refine Zg3 ?_
  refine Ct.o ?_
  refine Zgb ?_
  refine Zh7 (cs := #[u64b 1634760805#64, u64b 857760878#64, u64b 2036477234#64, u64b 1797285236#64]) (by omega) (by omega) (by kernel_rfl) ?_; intro b8
  first|refine Zhg (Za2 rfl) ?_|refine Zhg (Zas rfl) ?_
  refine Zg3 ?_
  refine Ct.o ?_
  refine Zgp (Imp.own_mk (n := 4) (cap := 4) (size := 1) (xs := st0.map w64) (by omega) (by omega) rfl rfl) ?_
  refine Ct.o ?_
  refine Zgb ?_
  first|refine Zhg (Zaw rfl) ?_|refine Zhg (Zar rfl) ?_
  refine Zhg (Zmy (h := 32) rfl rfl) ?_
  refine Zh8 rfl (by kernel_rfl) (wordsR_x (L := [cl b3 (key.map u8b).toArray 23]) (b := key) (n := 8) .here hk rfl (by omega)) rfl qT ?_
  rintro _ _ ⟨xa, xc, rfl, rfl⟩
  refine Zg2 qA ?_
  refine Zia rfl rfl qH (Rd.own qH) qN (by omega) qS ?_; intro a1 c1
  first|refine Zhg (Za2 rfl) ?_|refine Zhg (Zas rfl) ?_
  refine Zg3 ?_
  refine Ct.o ?_
  refine Zgb ?_
  first|refine Zhg (Zaw rfl) ?_|refine Zhg (Zar rfl) ?_
  first|refine Zhg (Zat rfl) ?_|refine Zhg (Zar rfl) ?_
  refine Zhg (Zlb rfl) ?_
  refine Zh7 (cs := #[.int .u64 _]) (by omega) (by omega) rfl ?_; intro b16
  refine Zia rfl rfl qH (Rd.cl (xs := [w64 ctr]) qH rfl qZ rfl) qN (by omega) qS ?_; intro a2 c2
  first|refine Zhg (Za2 rfl) ?_|refine Zhg (Zas rfl) ?_
  refine Zg3 ?_
  refine Ct.o ?_
  refine Zgb ?_
  first|refine Zhg (Zaw rfl) ?_|refine Zhg (Zar rfl) ?_
  refine Zhg (Zmy (h := 12) rfl rfl) ?_
  refine Zh8 rfl (by kernel_rfl) (wordsR_x (L := [cl b5 (nonce.map u8b).toArray 45]) (b := nonce) (n := 3) .here hn rfl (by omega)) rfl qT ?_
  rintro _ _ ⟨ya, yc, rfl, rfl⟩
  refine Zg2 qA ?_
  refine Zia rfl rfl qH (Rd.own qH) qN (by omega) qS ?_; intro a3 c3
  first|refine Zhg (Za2 rfl) ?_|refine Zhg (Zas rfl) ?_
  refine Zg3 ?_
  refine Ct.o ?_
  have e : st0.map w64 ++ (wsB key 8).map w64 ++ [w64 ctr] ++ (wsB nonce 3).map w64 = (stateW key ctr nonce).map w64 := by rw [stateW_ws]; simp only [List.map_append, List.map_cons, List.append_assoc, List.cons_append, List.nil_append]
  have e2 : 4 + (wsB key 8).length + 1 + (wsB nonce 3).length = 16 := by omega
  rw [e, e2]
  refine rx1 (Zhc rfl (Zg7)) ?_
  exact ⟨_, ⟨a3, c3, rfl, rfl⟩, qI⟩
end Go.Sl

/- the document's key stream: places, a block, walked. -/
set_option maxHeartbeats 4000000
set_option maxRecDepth 10000
set_option linter.unusedVariables false
set_option linter.unusedSimpArgs false
namespace Go.Sl
open Go Go.Proofs
attribute [local irreducible] cl pt own old pur ex all den denOps denS xOps xC cX CX xthen xblk xcut xloop xgo xng retX resX Calls PV Rd Con
def plA : List Nat := [0, 4, 8, 12, 1, 5, 9, 13, 2, 6, 10, 14, 3, 7, 11, 15, 0, 5, 10, 15, 1, 6, 11, 12, 2, 7, 8, 13, 3, 4, 9, 14]
def qi (q : Quad) : Nat → Nat
  | 0 => q.1
  | 1 => q.2.1
  | 2 => q.2.2.1
  | _ => q.2.2.2
def ri (r : Wd × Wd × Wd × Wd) : Nat → Wd
  | 0 => r.1
  | 1 => r.2.1
  | 2 => r.2.2.1
  | _ => r.2.2.2
def putQ (s : List Wd) (q : Quad) (r : Wd × Wd × Wd × Wd) : Nat → List Wd
  | 0 => s
  | j + 1 => (putQ s q r j).set (qi q j) (ri r j)
theorem putQ_len (s : List Wd) (q : Quad) (r : Wd × Wd × Wd × Wd) (j : Nat) : (putQ s q r j).length = s.length := by
  induction j with
  | zero => rfl
  | succ j ih => rw [putQ, List.length_set, ih]
theorem putQ_at (s : List Wd) (q : Quad) : putQ s q (quarterW (s.getD (qi q 0) 0#32) (s.getD (qi q 1) 0#32) (s.getD (qi q 2) 0#32) (s.getD (qi q 3) 0#32)) 4 = qAt s q := rfl
theorem plA_at (k j : Nat) (hk : k < 8) (hj : j < 4) : plA[4 * k + j]? = some (qi (quadOf (k / 4) (k % 4)) j) := by
  have : ∀ k : Fin 8, ∀ j : Fin 4, plA[4 * k.val + j.val]? = some (qi (quadOf (k.val / 4) (k.val % 4)) j.val) := by decide
  exact this ⟨k, hk⟩ ⟨j, hj⟩
theorem plV_at (k j : Nat) (hk : k < 8) (hj : j < 4) : ((plA.map nvv).toArray)[4 * k + j]? = some (nvv (qi (quadOf (k / 4) (k % 4)) j)) := by
  simp [plA_at k j hk hj]
theorem qi_lt (k j : Nat) (hk : k < 8) (hj : j < 4) : qi (quadOf (k / 4) (k % 4)) j < 16 := by
  have : ∀ k : Fin 8, ∀ j : Fin 4, qi (quadOf (k.val / 4) (k.val % 4)) j.val < 16 := by decide
  exact this ⟨k, hk⟩ ⟨j, hj⟩
theorem ri_at (r : Wd × Wd × Wd × Wd) (j : Nat) (hj : j < 4) : (qcl r)[j]? = some (w64 (ri r j)) := by
  match j, hj with
  | 0, _ => rfl
  | 1, _ => rfl
  | 2, _ => rfl
  | 3, _ => rfl
theorem getR64 {l : List Wd} {rest : List Value} {i : Nat} (h : i < l.length) : ((l.map w64 ++ rest).toArray)[i]? = some (w64 (l.getD i 0#32)) := by
  rw [List.getElem?_toArray, List.getElem?_append_left (by simpa using h), List.getElem?_map, List.getElem?_eq_getElem h, List.getD_eq_getElem?_getD, List.getElem?_eq_getElem h]; rfl
theorem setR64 {l : List Wd} {rest : List Value} {i : Nat} {x : Wd} (h : i < l.length) : ((l.map w64 ++ rest).toArray).setIfInBounds i (w64 x) = ((l.set i x).map w64 ++ rest).toArray := by
  rw [List.setIfInBounds_toArray, List.set_append_left _ _ (by simpa using h), List.map_set]
theorem outW64_at (s f : List Wd) : ∀ (n i j : Nat), i < n → j < 4 → (outW64 s f n)[4 * i + j]? = (leB (sumW s f i) 4)[j]?
  | 0, i, j, h, _ => by omega
  | n + 1, i, j, h, hj => by
    rw [outW64_succ]
    by_cases e : i < n
    · rw [List.getElem?_append_left (by rw [outW64_len]; omega)]; exact outW64_at s f n i j e hj
    · have : i = n := by omega
      subst this
      rw [List.getElem?_append_right (by rw [outW64_len]; omega), outW64_len, Nat.add_sub_cancel_left]
theorem plA_len : plA.length = 32 := rfl
theorem sz_pl : ((plA.map nvv).toArray).size = 32 := by rw [szL, plA_len]
theorem sz_r {l : List Wd} {rest : List Value} : ((l.map w64 ++ rest).toArray).size = l.length + rest.length := by simp
theorem placesR_x : Con Tryz.prog 76 [] [] (fun r M => ∃ g, r = .slice (some ⟨g, 0, none⟩) 32 32 ∧ M = [cl g (plA.map nvv).toArray 3]) := by
  refine fn_x Tryz.func76 rfl rfl rfl Tryz.mixed (by kernel_rfl) ?_
  intro w0
  refine Ct.o ?_
  refine Zgb ?_
  first|refine Zhg (Za2 rfl) ?_|refine Zhg (Zas rfl) ?_
  refine Zg3 ?_
  refine Ct.o ?_
  refine Zgb ?_
  refine Zh7 (cs := #[.int .i64 _, .int .i64 _, .int .i64 _, .int .i64 _, .int .i64 _, .int .i64 _, .int .i64 _, .int .i64 _, .int .i64 _, .int .i64 _, .int .i64 _, .int .i64 _, .int .i64 _, .int .i64 _, .int .i64 _, .int .i64 _, .int .i64 _, .int .i64 _, .int .i64 _, .int .i64 _, .int .i64 _, .int .i64 _, .int .i64 _, .int .i64 _, .int .i64 _, .int .i64 _, .int .i64 _, .int .i64 _, .int .i64 _, .int .i64 _, .int .i64 _, .int .i64 _]) (by omega) (by omega) rfl ?_; intro b1
  first|refine Zhg (Za2 rfl) ?_|refine Zhg (Zas rfl) ?_
  refine Zg3 ?_
  refine Ct.o ?_
  refine rx1 (Zhc rfl (Zg7)) ?_
  exact ⟨_, ⟨b1, rfl, rfl⟩, qI⟩
attribute [local irreducible] outW64 stateW twiceW iterW twiceN qAt quarterW plA putQ qi ri blockB leB cpK
theorem blockR_x (key : List Byte) (ctr : Wd) (nonce : List Byte) (hk : key.length = 32) (hn : nonce.length = 12) : Con Tryz.prog 64 [.agg (key.map u8b).toArray, u32b ctr, .agg (nonce.map u8b).toArray] [] (fun r M => r = .agg ((blockB key ctr nonce).map u8b).toArray ∧ M = []) := by
  have hsl := stateW_len key ctr nonce
  have hsc := stateR_x key ctr nonce hk hn
  have hbl : blockB key ctr nonce = outW64 (iterW 10 (stateW key ctr nonce)) (stateW key ctr nonce) 16 := by unfold blockB; rfl
  have hB := blockB_len key ctr nonce
  obtain ⟨S, hS⟩ : ∃ S, S = stateW key ctr nonce := ⟨_, rfl⟩
  rw [← hS] at hsl hsc hbl
  have hi0 : iterW 0 S = S := by unfold iterW; rfl
  have his : ∀ n, iterW (n + 1) S = twiceN (iterW n S) 8 := fun n => by conv => lhs; unfold iterW; unfold twiceW; rfl
  have hil : ∀ n, (iterW n S).length = 16 := fun n => by rw [iterW_len, hsl]
  refine fn_x Tryz.func64 rfl rfl rfl Tryz.mixed (by kernel_rfl) ?_
  intro w0
  refine Ct.o ?_
  refine Zgb ?_
  refine Zh5 rfl ?_; intro b3
  refine Zh5 rfl ?_; intro b5
  refine Zhz (cs := ((List.replicate 64 0#8).map u8b).toArray) rfl ?_; intro b6
  refine Zg3 ?_
  refine Ct.o ?_
  refine Zgb ?_
  first|refine Zhr rfl qH qZ ?_|refine Zhq rfl qH qZ rfl ?_
  first|refine Zhg (Zat rfl) ?_|refine Zhg (Zar rfl) ?_
  first|refine Zhr rfl qH qZ ?_|refine Zhq rfl qH qZ rfl ?_
  refine Zh8 rfl (by kernel_rfl) (hsc) rfl qT ?_
  rintro _ _ ⟨fa, fc, rfl, rfl⟩
  refine Zg2 qA ?_
  first|refine Zhg (Za2 rfl) ?_|refine Zhg (Zas rfl) ?_
  refine Zg3 ?_
  refine Ct.o ?_
  refine Zgb ?_
  first|refine Zhr rfl qH qZ ?_|refine Zhq rfl qH qZ rfl ?_
  first|refine Zhg (Zat rfl) ?_|refine Zhg (Zar rfl) ?_
  first|refine Zhr rfl qH qZ ?_|refine Zhq rfl qH qZ rfl ?_
  refine Zh8 rfl (by kernel_rfl) (hsc) rfl qT ?_
  rintro _ _ ⟨la, lc, rfl, rfl⟩
  refine Zg2 qA ?_
  first|refine Zhg (Za2 rfl) ?_|refine Zhg (Zas rfl) ?_
  refine Zg3 ?_
  refine Ct.o ?_
  refine Zgb ?_
  refine Zh8 rfl (by kernel_rfl) (placesR_x) rfl qT ?_
  rintro _ _ ⟨gp, rfl, rfl⟩
  refine Zg2 qA ?_
  first|refine Zhg (Za2 rfl) ?_|refine Zhg (Zas rfl) ?_
  refine Zg3 ?_
  refine Ct.o ?_
  refine x_own (n := 16) (a := la) (.there .here) (by omega) ?_
  rintro gl rl rfl hlc1 hlc2 hlc3
  refine x_own (n := 16) (a := fa) (.there (.there .here)) (by omega) ?_
  rintro gf rf rfl hfc1 hfc2 hfc3
  refine Ct.o ?_
  refine Zgb ?_
  first|refine Zhg (Zaz rfl) ?_|refine Zhg (Zas rfl) ?_
  refine Zg3 ?_
  refine Ct.o ?_
  refine Zgo [(10, 13), (27, 84)] (by kernel_rfl) (fun i : Nat => i ≤ 10) (fun i => [cl gl ((iterW i S).map w64 ++ rl).toArray 24, cl gf (S.map w64 ++ rf).toArray 24, cl gp (plA.map nvv).toArray 3, cl b6 ((List.replicate 64 0#8).map u8b).toArray 83])
    (fun i => [(10, nvv i)]) (fun i => 10 - i) 0 (by omega) (by rw [hi0]; exact qI) ⟨rfl, trivial⟩ ?_
  intro i u hi
  refine Ct.o ?_
  refine Zgb ?_
  first|refine Zhg (Zat rfl) ?_|refine Zhg (Zar rfl) ?_
  first|refine Zhg (Zmf (b := 10) rfl rfl) ?_|refine Zhg (Zbn rfl rfl) ?_
  refine Zg3 ?_
  refine Ct.o ?_
  refine Zgg rfl (fun hB => ?_) (fun hB => ?_)
  · refine Ct.o ?_
    refine Zgb ?_
    first|refine Zhg (Zaz rfl) ?_|refine Zhg (Zas rfl) ?_
    refine Zg3 ?_
    refine Ct.o ?_
    refine Zgo [(11, 13), (31, 84)] (by kernel_rfl) (fun k : Nat => k ≤ 8) (fun k => [cl gl ((twiceN (iterW i S) k).map w64 ++ rl).toArray 24, cl gf (S.map w64 ++ rf).toArray 24, cl gp (plA.map nvv).toArray 3, cl b6 ((List.replicate 64 0#8).map u8b).toArray 83])
      (fun k => [(11, nvv (4 * k))]) (fun k => 8 - k) 0 (by omega) (by rw [show twiceN (iterW i S) 0 = iterW i S by unfold twiceN; rfl]; exact qI) ⟨rfl, trivial⟩ ?_
    intro k u2 hk8
    refine Ct.o ?_
    refine Zgb ?_
    first|refine Zhg (Zat rfl) ?_|refine Zhg (Zar rfl) ?_
    first|refine Zhg (Zaw rfl) ?_|refine Zhg (Zar rfl) ?_
    first|refine Zhg (Zcr rfl) ?_|refine Zhg (Zct) ?_|refine Zhg (Zcu rfl) ?_
    first|refine Zhg (Zmf rfl rfl) ?_|refine Zhg (Zbn rfl rfl) ?_
    refine Zg3 ?_
    refine Ct.o ?_
    refine Zgg rfl (fun hB2 => ?_) (fun hB2 => ?_)
    · have hk : k < 8 := by omega
      have hs := twiceN_succ (iterW i S) k hk
      have htl : (twiceN (iterW i S) k).length = 16 := by rw [twiceN_len, hil]
      have hp0 : ((plA.map nvv).toArray)[4 * k]? = some (nvv (qi (quadOf (k / 4) (k % 4)) 0)) := plV_at k 0 hk (by omega)
      have hp1 := plV_at k 1 hk (by omega)
      have hp2 := plV_at k 2 hk (by omega)
      have hp3 := plV_at k 3 hk (by omega)
      have hpj := fun j hj => plV_at k j hk hj
      have hq0 := qi_lt k 0 hk (by omega)
      have hq1 := qi_lt k 1 hk (by omega)
      have hq2 := qi_lt k 2 hk (by omega)
      have hq3 := qi_lt k 3 hk (by omega)
      have hqj := fun j hj => qi_lt k j hk hj
      generalize quadOf (k / 4) (k % 4) = q at *
      generalize twiceN (iterW i S) k = T at *
      refine Ct.o ?_
      refine Zij (_) [12, 13, 14, 20, 21, 22, 28, 29, 30, 32, 33] (.q 0 (.q 1 (.q 2 (.q 3 (.q 7 (.q 8 (.q 9 (.q 10 (.q 11 (.q 15 (.q 16 (.q 17 (.q 18 (.q 19 (.q 23 (.q 24 (.q 25 (.q 26 (.q 27 (.r 4 (.q 5 (.r 6 (.r 12 (.r 13 (.r 14 (.r 20 (.r 21 (.r 22 (.r 28 (.r 29 (.r 30 (.q 31 (.e 32 true (.a 33 (.e 34 false .nil))))))))))))))))))))))))))))))))))) (by kernel_rfl) (by kernel_rfl) (Imp.refl _) ?_
      first|refine Zim rfl (Zaw rfl) ?_|refine Zim rfl (Zar rfl) ?_
      first|refine Zim rfl (Zaw rfl) ?_|refine Zim rfl (Zar rfl) ?_
      first|refine Zim rfl (Zat rfl) ?_|refine Zim rfl (Zar rfl) ?_
      first|refine Zim rfl (Zl4 (n := 4 * k) rfl (int_eq (by push_cast; omega))) ?_|refine Zim rfl (Zl1 (n := 4 * k) rfl (int_eq (by push_cast; omega))) ?_
      first|refine Zim rfl (Zaw rfl) ?_|refine Zim rfl (Zar rfl) ?_
      first|refine Zim rfl (Zaw rfl) ?_|refine Zim rfl (Zar rfl) ?_
      first|refine Zim rfl (Zat rfl) ?_|refine Zim rfl (Zar rfl) ?_
      first|refine Zim rfl (Zma (b := 1) rfl rfl) ?_|refine Zim rfl (Zbg rfl rfl) ?_
      first|refine Zim rfl (Zl4 (n := 4 * k + 1) rfl (int_eq (by push_cast; omega))) ?_|refine Zim rfl (Zl1 (n := 4 * k + 1) rfl (int_eq (by push_cast; omega))) ?_
      first|refine Zim rfl (Zaw rfl) ?_|refine Zim rfl (Zar rfl) ?_
      first|refine Zim rfl (Zaw rfl) ?_|refine Zim rfl (Zar rfl) ?_
      first|refine Zim rfl (Zat rfl) ?_|refine Zim rfl (Zar rfl) ?_
      first|refine Zim rfl (Zma (b := 2) rfl rfl) ?_|refine Zim rfl (Zbg rfl rfl) ?_
      first|refine Zim rfl (Zl4 (n := 4 * k + 2) rfl (int_eq (by push_cast; omega))) ?_|refine Zim rfl (Zl1 (n := 4 * k + 2) rfl (int_eq (by push_cast; omega))) ?_
      first|refine Zim rfl (Zaw rfl) ?_|refine Zim rfl (Zar rfl) ?_
      first|refine Zim rfl (Zaw rfl) ?_|refine Zim rfl (Zar rfl) ?_
      first|refine Zim rfl (Zat rfl) ?_|refine Zim rfl (Zar rfl) ?_
      first|refine Zim rfl (Zma (b := 3) rfl rfl) ?_|refine Zim rfl (Zbg rfl rfl) ?_
      first|refine Zim rfl (Zl4 (n := 4 * k + 3) rfl (int_eq (by push_cast; omega))) ?_|refine Zim rfl (Zl1 (n := 4 * k + 3) rfl (int_eq (by push_cast; omega))) ?_
      refine Ziv rfl rfl qH (hp0) ?_
      first|refine Zim rfl (Zl4 (n := qi q 0) rfl (int_eq (by push_cast; omega))) ?_|refine Zim rfl (Zl1 (n := qi q 0) rfl (int_eq (by push_cast; omega))) ?_
      refine Ziv rfl rfl qH (getR64 (by omega)) ?_
      refine Ziv rfl rfl qH (hp1) ?_
      first|refine Ziz rfl (Zl4 (n := qi q 1) rfl (int_eq (by push_cast; omega))) ?_|refine Ziz rfl (Zl1 (n := qi q 1) rfl (int_eq (by push_cast; omega))) ?_
      refine Ziv rfl rfl qH (getR64 (by omega)) ?_
      refine Ziv rfl rfl qH (hp2) ?_
      first|refine Ziz rfl (Zl4 (n := qi q 2) rfl (int_eq (by push_cast; omega))) ?_|refine Ziz rfl (Zl1 (n := qi q 2) rfl (int_eq (by push_cast; omega))) ?_
      refine Ziv rfl rfl qH (getR64 (by omega)) ?_
      refine Ziv rfl rfl qH (hp3) ?_
      first|refine Ziz rfl (Zl4 (n := qi q 3) rfl (int_eq (by push_cast; omega))) ?_|refine Ziz rfl (Zl1 (n := qi q 3) rfl (int_eq (by push_cast; omega))) ?_
      refine Ziv rfl rfl qH (getR64 (by omega)) ?_
      refine Zim rfl (Zdn (cs := #[.int .u64 _, .int .u64 _, .int .u64 _, .int .u64 _]) rfl) ?_
      refine Ziq rfl ?_
      refine Zh8 rfl (by kernel_rfl) (quarterR_x _ _ _ _) rfl qT ?_
      rintro _ _ ⟨rfl, rfl⟩
      refine Zg2 qA ?_
      refine Zg3 ⟨fun _ => Imp.arr qV, ?_⟩
      refine Zir rfl (cs := ((List.replicate 4 0#64).map u64b).toArray) rfl ?_; intro b12
      refine Ziq rfl ?_
      first|refine Zhy rfl rfl qR qZ qN qZ ?_|refine Zhx rfl rfl qR qZ qN qZ rfl ?_
      refine Zg3 ⟨(fun hh => Bool.noConfusion hh), ?_⟩
      refine Zik ?_
      refine Ct.o ?_
      have hqa := putQ_at T q
      generalize quarterW (T.getD (qi q 0) 0#32) (T.getD (qi q 1) 0#32) (T.getD (qi q 2) 0#32) (T.getD (qi q 3) 0#32) = R at *
      refine Ct.o ?_
      refine Zgb ?_
      first|refine Zhg (Zaz rfl) ?_|refine Zhg (Zas rfl) ?_
      refine Zg3 ?_
      refine Ct.o ?_
      refine Zgo [(13, 13), (70, 84)] (by kernel_rfl) (fun j : Nat => j ≤ 4) (fun j => [cl b12 (qcl R) 133, cl gl ((putQ T q R j).map w64 ++ rl).toArray 24, cl gf (S.map w64 ++ rf).toArray 24, cl gp (plA.map nvv).toArray 3, cl b6 ((List.replicate 64 0#8).map u8b).toArray 83])
        (fun j => [(13, nvv j)]) (fun j => 4 - j) 0 (by omega) (by rw [show putQ T q R 0 = T by unfold putQ; rfl]; exact qI) ⟨rfl, trivial⟩ ?_
      intro j u3 hj4
      refine Ct.o ?_
      refine Zgb ?_
      first|refine Zhg (Zat rfl) ?_|refine Zhg (Zar rfl) ?_
      first|refine Zhg (Zmf (b := 4) rfl rfl) ?_|refine Zhg (Zbn rfl rfl) ?_
      refine Zg3 ?_
      refine Ct.o ?_
      refine Zgg rfl (fun hB3 => ?_) (fun hB3 => ?_)
      · have hj : j < 4 := by omega
        have hpl := putQ_len T q R j
        have hjq := hqj j hj
        refine Ct.o ?_
        refine Zij (_) [9] (.q 0 (.q 1 (.q 2 (.q 3 (.q 4 (.q 5 (.q 7 (.q 8 (.r 6 (.r 9 (.q 10 (.e 11 false .nil)))))))))))) (by kernel_rfl) (by kernel_rfl) (Imp.refl _) ?_
        first|refine Zim rfl (Zaw rfl) ?_|refine Zim rfl (Zar rfl) ?_
        first|refine Zim rfl (Zaw rfl) ?_|refine Zim rfl (Zar rfl) ?_
        first|refine Zim rfl (Zat rfl) ?_|refine Zim rfl (Zar rfl) ?_
        first|refine Zim rfl (Zat rfl) ?_|refine Zim rfl (Zar rfl) ?_
        first|refine Zim rfl (Zma rfl rfl) ?_|refine Zim rfl (Zbg rfl rfl) ?_
        first|refine Zim rfl (Zl4 (n := 4 * k + j) rfl (int_eq (by push_cast; omega))) ?_|refine Zim rfl (Zl1 (n := 4 * k + j) rfl (int_eq (by push_cast; omega))) ?_
        first|refine Zim rfl (Zat rfl) ?_|refine Zim rfl (Zar rfl) ?_
        first|refine Zim rfl (Zl5 (n := j) rfl (int_eq (by push_cast; omega))) ?_|refine Zim rfl (Zl3 (n := j) rfl (int_eq (by push_cast; omega))) ?_
        refine Ziv rfl rfl qH (hpj j hj) ?_
        refine Ziv rfl rfl qH (ri_at R j hj) ?_
        first|refine Zim rfl (Zl4 (n := qi q j) rfl (int_eq (by push_cast; omega))) ?_|refine Zim rfl (Zl1 (n := qi q j) rfl (int_eq (by push_cast; omega))) ?_
        refine Ziq rfl ?_
        refine Zht rfl rfl qR qZ (setR64 (by omega)) ?_
        refine Zg3 ⟨(fun hh => Bool.noConfusion hh), ?_⟩
        refine Zik ?_
        refine Ct.o ?_
        rw [show (putQ T q R j).set (qi q j) (ri R j) = putQ T q R (j + 1) by conv => rhs; unfold putQ; rfl]
        refine Ct.o ?_
        refine Zgb ?_
        first|refine Zhg (Zat rfl) ?_|refine Zhg (Zar rfl) ?_
        first|refine Zhg (Zma (b := 1) rfl rfl) ?_|refine Zhg (Zbg rfl rfl) ?_
        first|refine Zhg (Zaz rfl) ?_|refine Zhg (Zas rfl) ?_
        refine Zg3 ?_
        refine Ct.o ?_
        exact Zgl (j + 1) qO (by omega) qI ⟨rfl, trivial⟩
      · have hje : j = 4 := by omega
        subst hje
        rw [hqa, ← hs]
        refine Ct.o ?_
        refine Zgb ?_
        first|refine Zhg (Zat rfl) ?_|refine Zhg (Zar rfl) ?_
        first|refine Zhg (Zma (b := 4) rfl rfl) ?_|refine Zhg (Zbg rfl rfl) ?_
        first|refine Zhg (Zaz rfl) ?_|refine Zhg (Zas rfl) ?_
        refine Zg3 ?_
        refine Ct.o ?_
        exact Zgl (k + 1) qO (by omega) qI ⟨int_eq (by omega), trivial⟩
    · have hke : k = 8 := by omega
      subst hke
      rw [← his]
      refine Ct.o ?_
      refine Zgb ?_
      first|refine Zhg (Zat rfl) ?_|refine Zhg (Zar rfl) ?_
      first|refine Zhg (Zma (b := 1) rfl rfl) ?_|refine Zhg (Zbg rfl rfl) ?_
      first|refine Zhg (Zaz rfl) ?_|refine Zhg (Zas rfl) ?_
      refine Zg3 ?_
      refine Ct.o ?_
      exact Zgl (i + 1) qO (by omega) qI ⟨rfl, trivial⟩
  · have hie : i = 10 := by omega
    subst hie
    have hli := hil 10
    have hat : ∀ i j, i < 16 → j < 4 → (blockB key ctr nonce)[4 * i + j]? = (leB (sumW (iterW 10 S) S i) 4)[j]? := fun i j h1 h2 => by rw [hbl]; exact outW64_at _ _ 16 i j h1 h2
    generalize blockB key ctr nonce = B at *
    generalize iterW 10 S = T at *
    refine Ct.o ?_
    refine Zgb ?_
    refine Zhz (cs := ((List.replicate 64 0#8).map u8b).toArray) rfl ?_; intro b14
    refine Zg3 ?_
    refine Ct.o ?_
    refine Zgb ?_
    first|refine Zhg (Zaz rfl) ?_|refine Zhg (Zas rfl) ?_
    refine Zg3 ?_
    refine Ct.o ?_
    refine Zgo [(15, 17), (85, 111)] (by kernel_rfl) (fun i : Nat => i ≤ 16) (fun i => [cl b14 ((cpK B 64 (4 * i)).map u8b).toArray 83, cl gl (T.map w64 ++ rl).toArray 24, cl gf (S.map w64 ++ rf).toArray 24, cl b6 ((List.replicate 64 0#8).map u8b).toArray 83])
      (fun i => [(15, nvv i)]) (fun i => 16 - i) 0 (by omega) (by rw [show cpK B 64 (4 * 0) = List.replicate 64 0#8 by unfold cpK; rfl]; exact qI) ⟨rfl, trivial⟩ ?_
    intro i u2 hi
    refine Ct.o ?_
    refine Zgb ?_
    first|refine Zhg (Zat rfl) ?_|refine Zhg (Zar rfl) ?_
    first|refine Zhg (Zmf (b := 16) rfl rfl) ?_|refine Zhg (Zbn rfl rfl) ?_
    refine Zg3 ?_
    refine Ct.o ?_
    refine Zgg rfl (fun hB2 => ?_) (fun hB2 => ?_)
    · refine Ct.o ?_
      refine Zij (_) [7] (.q 0 (.q 1 (.q 2 (.q 4 (.q 5 (.q 6 (.r 3 (.r 7 (.e 8 false (.e 9 false (.q 10 .nil))))))))))) (by kernel_rfl) (by kernel_rfl) (Imp.refl _) ?_
      first|refine Zim rfl (Zaw rfl) ?_|refine Zim rfl (Zar rfl) ?_
      first|refine Zim rfl (Zat rfl) ?_|refine Zim rfl (Zar rfl) ?_
      first|refine Zim rfl (Zl4 (n := i) rfl (int_eq (by push_cast; omega))) ?_|refine Zim rfl (Zl1 (n := i) rfl (int_eq (by push_cast; omega))) ?_
      first|refine Zim rfl (Zaw rfl) ?_|refine Zim rfl (Zar rfl) ?_
      first|refine Zim rfl (Zat rfl) ?_|refine Zim rfl (Zar rfl) ?_
      first|refine Zim rfl (Zl4 (n := i) rfl (int_eq (by push_cast; omega))) ?_|refine Zim rfl (Zl1 (n := i) rfl (int_eq (by push_cast; omega))) ?_
      refine Ziv rfl rfl qH (getR64 (by omega)) ?_
      refine Ziv rfl rfl qH (getR64 (by omega)) ?_
      refine Ziq rfl ?_
      refine Zh8 rfl (by kernel_rfl) (plusR_x _ _) rfl qT ?_
      rintro _ _ ⟨rfl, rfl⟩
      refine Zg2 qA ?_
      refine Zg3 ⟨(fun hh => Bool.noConfusion hh), ?_⟩
      refine Ziq rfl ?_
      refine Zh8 rfl (by kernel_rfl) (bytesR_x (L := []) _ 4 (by omega)) rfl qT ?_
      rintro _ _ ⟨ya, yc, rfl, rfl⟩
      refine Zg2 qA ?_
      refine Zg3 ⟨(fun hh => Bool.noConfusion hh), ?_⟩
      first|refine Zim rfl (Za2 rfl) ?_|refine Zim rfl (Zas rfl) ?_
      refine Zik ?_
      refine Ct.o ?_
      rw [leB_wide]
      have hai := fun j => hat i j hB2
      rw [show sumW T S i = T.getD i 0#32 + S.getD i 0#32 from rfl] at hai
      have hll := leB_len (T.getD i 0#32 + S.getD i 0#32) 4
      generalize leB (T.getD i 0#32 + S.getD i 0#32) 4 = Y at *
      refine x_own (a := ya) .here (by omega) ?_
      rintro gy ry rfl hyc1 hyc2 hyc3
      refine Ct.o ?_
      refine Zgb ?_
      first|refine Zhg (Zaz rfl) ?_|refine Zhg (Zas rfl) ?_
      refine Zg3 ?_
      refine Ct.o ?_
      refine Zgo [(17, 17), (99, 111)] (by kernel_rfl) (fun j : Nat => j ≤ 4) (fun j => [cl b14 ((cpK B 64 (4 * i + j)).map u8b).toArray 83, cl gy (Y.map u8b ++ ry).toArray 5, cl gl (T.map w64 ++ rl).toArray 24, cl gf (S.map w64 ++ rf).toArray 24, cl b6 ((List.replicate 64 0#8).map u8b).toArray 83])
        (fun j => [(17, nvv j)]) (fun j => 4 - j) 0 (by omega) qI ⟨rfl, trivial⟩ ?_
      intro j u3 hj
      have hkl := cpK_len B 64 (4 * i + j) (by omega) (by omega)
      refine Ct.o ?_
      refine Zgb ?_
      first|refine Zhg (Zat rfl) ?_|refine Zhg (Zar rfl) ?_
      first|refine Zhg (Zmf (b := 4) rfl rfl) ?_|refine Zhg (Zbn rfl rfl) ?_
      refine Zg3 ?_
      refine Ct.o ?_
      refine Zgg rfl (fun hB3 => ?_) (fun hB3 => ?_)
      · have hb1 : 4 * i + j < B.length := by omega
        have hy : (Y.map u8b ++ ry).toArray[j]? = some (u8b (B[4 * i + j])) := by
          have h1 := hai j hB3
          rw [List.getElem?_eq_getElem hb1] at h1
          rw [List.getElem?_toArray, List.getElem?_append_left (by simp; omega), List.getElem?_map, ← h1]; rfl
        refine Ct.o ?_
        refine Zgb ?_
        first|refine Zhg (Zat rfl) ?_|refine Zhg (Zar rfl) ?_
        first|refine Zhg (Zmc (a := 4) rfl rfl) ?_|refine Zhg (Zbi rfl rfl) ?_
        first|refine Zhg (Zat rfl) ?_|refine Zhg (Zar rfl) ?_
        first|refine Zhg (Zma rfl rfl) ?_|refine Zhg (Zbg rfl rfl) ?_
        first|refine Zhg (Zaw rfl) ?_|refine Zhg (Zar rfl) ?_
        first|refine Zhg (Zat rfl) ?_|refine Zhg (Zar rfl) ?_
        first|refine Zhg (Zl4 (n := j) rfl (int_eq (by push_cast; omega))) ?_|refine Zhg (Zl1 (n := j) rfl (int_eq (by push_cast; omega))) ?_
        refine Zhp rfl qH (hy) ?_
        first|refine Zhg (Zl5 (n := 4 * i + j) rfl (int_eq (by push_cast; omega))) ?_|refine Zhg (Zl3 (n := 4 * i + j) rfl (int_eq (by push_cast; omega))) ?_
        refine Zht rfl rfl qR qZ (setL (f := u8b)) ?_
        refine Zg3 ?_
        refine Ct.o ?_
        rw [cpK_set B 64 (4 * i + j) (by omega) hb1]
        refine Ct.o ?_
        refine Zgb ?_
        first|refine Zhg (Zat rfl) ?_|refine Zhg (Zar rfl) ?_
        first|refine Zhg (Zma (b := 1) rfl rfl) ?_|refine Zhg (Zbg rfl rfl) ?_
        first|refine Zhg (Zaz rfl) ?_|refine Zhg (Zas rfl) ?_
        refine Zg3 ?_
        refine Ct.o ?_
        exact Zgl (j + 1) qO (by omega) qI ⟨rfl, trivial⟩
      · have hje : j = 4 := by omega
        subst hje
        refine Ct.o ?_
        refine Zgb ?_
        first|refine Zhg (Zat rfl) ?_|refine Zhg (Zar rfl) ?_
        first|refine Zhg (Zma (b := 1) rfl rfl) ?_|refine Zhg (Zbg rfl rfl) ?_
        first|refine Zhg (Zaz rfl) ?_|refine Zhg (Zas rfl) ?_
        refine Zg3 ?_
        refine Ct.o ?_
        exact Zgl (i + 1) qO (by omega) (by rw [show 4 * (i + 1) = 4 * i + 4 by omega]; exact qI) ⟨rfl, trivial⟩
    · have hie : i = 16 := by omega
      subst hie
      have hcl := cpK_len B 64 (4 * 16) (by omega) (by omega)
      rw [show cpK B 64 (4 * 16) = B by rw [show 4 * 16 = 64 from rfl, cpK_end B 64 (by omega), List.take_of_length_le (by omega)]]
      refine Ct.o ?_
      refine Zgb ?_
      first|refine Zhr rfl qH qZ ?_|refine Zhq rfl qH qZ rfl ?_
      first|refine Zhy rfl rfl qR qZ qN qZ ?_|refine Zhx rfl rfl qR qZ qN qZ rfl ?_
      refine Zg3 ?_
      refine Ct.o ?_
      refine rx1 (Zhe rfl qH qZ (Zg7)) ?_
      exact ⟨_, ⟨rfl, rfl⟩, qI⟩
end Go.Sl

/- the document's key stream: New, Xor, walked. -/
set_option maxHeartbeats 4000000
set_option maxRecDepth 10000
set_option linter.unusedVariables false
set_option linter.unusedSimpArgs false
namespace Go.Sl
open Go Go.Proofs
attribute [local irreducible] cl pt own old pur ex all den denOps denS xOps xC cX CX xthen xblk xcut xloop xgo xng retX resX Calls PV Rd Con
attribute [local irreducible] blockB ksB
theorem xor8 (x y : Byte) : (x.setWidth 64 ^^^ y.setWidth 64).setWidth 8 = x ^^^ y := by
  apply BitVec.eq_of_getLsbD_eq
  intro j hj
  simp only [BitVec.getLsbD_setWidth, BitVec.getLsbD_xor, hj, decide_true, Bool.true_and, show j < 64 by omega]
theorem against64_x (x y : BitVec 64) : Con Tryz.prog 74 [u64b x, u64b y] [] (fun r M => r = u64b (x ^^^ y) ∧ M = []) := by
  refine fn_x Tryz.func74 rfl rfl rfl Tryz.mixed (by kernel_rfl) ?_
  intro w0
  refine Ct.o ?_
  refine Zgb ?_
  first|refine Zhg (Zaz rfl) ?_|refine Zhg (Zas rfl) ?_
  refine Zg3 ?_
  refine Ct.o ?_
  refine Zgb ?_
  first|refine Zhg (Zat rfl) ?_|refine Zhg (Zar rfl) ?_
  first|refine Zhg (Zat rfl) ?_|refine Zhg (Zar rfl) ?_
  refine Zhg (Zlh rfl rfl) ?_
  first|refine Zhg (Zaz rfl) ?_|refine Zhg (Zas rfl) ?_
  refine Zg3 ?_
  refine Ct.o ?_
  refine rx1 (Zg9 rfl (Zg7)) ?_
  exact ⟨_, ⟨rfl, rfl⟩, by exact Imp.arr (by repeat (first|exact Arr.nil|exact Arr.stop|refine Arr.cons (by repeat constructor) ?_|refine Arr.skip ?_))⟩
theorem newR_x (key nonce : List Byte) (ctr : Wd) (hk : key.length = 32) (hn : nonce.length = 12) : Con Tryz.prog 62 [.agg (key.map u8b).toArray, .agg (nonce.map u8b).toArray, u32b ctr] [] (fun r M => ∃ s, r = .pointer (some ⟨s, 0, none⟩) ∧ M = [cl s (scl key nonce (64#64 * ctr.setWidth 64)) 127]) := by
  refine fn_x Tryz.func62 rfl rfl rfl Tryz.mixed (by kernel_rfl) ?_
  intro w0
  refine Ct.o ?_
  refine Zgb ?_
  refine Zh5 rfl ?_; intro b3
  refine Zh5 rfl ?_; intro b4
  first|refine Zhg (Za1 rfl) ?_|refine Zhg (Zas rfl) ?_
  refine Zg3 ?_
  refine Ct.o ?_
  refine Zgb ?_
  first|refine Zhr rfl qH qZ ?_|refine Zhq rfl qH qZ rfl ?_
  first|refine Zhr rfl qH qZ ?_|refine Zhq rfl qH qZ rfl ?_
  first|refine Zhg (Zat rfl) ?_|refine Zhg (Zar rfl) ?_
  refine Zhg (Zlb rfl) ?_
  refine Zhg (Zle (x := 64#64) rfl rfl) ?_
  refine Zhg (Zdm (cs := scl key nonce (64#64 * ctr.setWidth 64)) (new_fill key nonce _ hk hn rfl rfl rfl)) ?_
  refine Zh5 rfl ?_; intro b13
  first|refine Zhg (Za1 rfl) ?_|refine Zhg (Zas rfl) ?_
  refine Zg3 ?_
  refine Ct.o ?_
  refine rx1 (Zhb rfl (Zg7)) ?_
  exact ⟨_, ⟨b13, rfl, rfl⟩, qI⟩
attribute [local irreducible] scl xorB
theorem sxorR_x {L : List Asrt} {s : Nat} (key nonce : List Byte) (hk : key.length = 32) (hn : nonce.length = 12) (p : Nat) (hp : p + 1099511627776 ≤ 18446744073709551616) {v : Value} {b : List Byte} (h : Bs L v b) (hb : b.length + p ≤ 274877906944) :
    Con Tryz.prog 63 [.pointer (some ⟨s, 0, none⟩), v] (cl s (scl key nonce (BitVec.ofNat 64 p)) 127 :: L)
      (fun r M => ∃ a c, r = .tuple #[.slice a b.length c, nvv 0] ∧ M = own 5 1 (.slice a b.length c) b.length ((xorB key nonce p b).map u8b) :: cl s (scl key nonce (BitVec.ofNat 64 (p + b.length))) 127 :: L) := by
  refine Con.get (fun w0 w F H => (h.imp Imp.tail).sh _ _ _ H) ?_
  rintro ⟨va, vc, rfl, hvc, hvcm⟩
  have hsz := fun q => scl_size (p := q) hk hn
  have hsp := hsz (BitVec.ofNat 64 p)
  have hxl := xorB_len key nonce p b
  have hle : ¬ ((274877906944#64 - BitVec.ofNat 64 p).toNat < (BitVec.ofInt 64 ((b.length : Nat) : Int)).toNat) := by
    rw [BitVec.toNat_sub, BitVec.toNat_ofNat, BitVec.toNat_ofNat, BitVec.toNat_ofInt]
    omega
  refine fn_x Tryz.func63 rfl rfl rfl Tryz.mixed (by kernel_rfl) ?_
  intro w0
  refine Ct.o ?_
  refine Zgb ?_
  first|refine Zhg (Za2 rfl) ?_|refine Zhg (Zas rfl) ?_
  first|refine Zhg (Zaz rfl) ?_|refine Zhg (Zas rfl) ?_
  refine Zg3 ?_
  refine Ct.o ?_
  refine Zgb ?_
  first|refine Zhg (Zaw rfl) ?_|refine Zhg (Zar rfl) ?_
  first|refine Zhg (Zcr rfl) ?_|refine Zhg (Zct) ?_|refine Zhg (Zcu rfl) ?_
  refine Zhg (Zlv rfl) ?_
  first|refine Zhg (Zav rfl) ?_|refine Zhg (Zar rfl) ?_
  refine Zhg (Zba rfl) ?_
  first|refine Zhg (Zl8 rfl) ?_|refine Zhg (Zce rfl) ?_
  refine Zhp rfl qH (scl_p hk hn) ?_
  refine Zhg (Zld (x := 274877906944#64) rfl rfl) ?_
  refine Zhg (Zlr rfl rfl) ?_
  refine Zhn 18 rfl (decide_eq_false (hle)) ?_
  refine Zg3 ?_
  refine Ct.o ?_
  refine Zgf rfl ?_
  refine Ct.o ?_
  refine Zgb ?_
  first|refine Zhg (Za2 rfl) ?_|refine Zhg (Zas rfl) ?_
  refine Zg3 ?_
  refine Ct.o ?_
  refine Zgb ?_
  refine Zhz (cs := ((List.replicate 64 0#8).map u8b).toArray) rfl ?_; intro b7
  refine Zg3 ?_
  refine Ct.o ?_
  refine Zgb ?_
  first|refine Zhg (Zaz rfl) ?_|refine Zhg (Zas rfl) ?_
  refine Zg3 ?_
  refine Ct.o ?_
  refine Zgo [(6, 6), (8, 9), (19, 65)] (by kernel_rfl) (fun s : Nat × Option Addr × Nat × List Byte => s.1 ≤ b.length ∧ s.2.2.2.length = 64 ∧ (s.1 ≠ 0 → s.2.2.2 = blockB key (BitVec.ofNat 32 ((p + s.1 - 1) / 64)) nonce))
    (fun t => own 5 1 (.slice t.2.1 t.1 t.2.2.1) t.1 (((xorB key nonce p b).take t.1).map u8b) :: cl b7 (t.2.2.2.map u8b).toArray 83 :: cl s (scl key nonce (BitVec.ofNat 64 p)) 127 :: L)
    (fun t => [(8, nvv t.1), (6, .slice t.2.1 t.1 t.2.2.1)]) (fun t => b.length - t.1) (0, none, 0, List.replicate 64 0#8) ⟨by dsimp only; omega, by simp, fun h => absurd rfl h⟩ (Imp.trans (Imp.arr (N := cl b7 ((List.replicate 64 0#8).map u8b).toArray 83 :: cl s (scl key nonce (BitVec.ofNat 64 p)) 127 :: L) qV) Imp.own_nil) ⟨rfl, rfl, trivial⟩ ?_
  rintro ⟨d, a, c, Y⟩ u ⟨hd, hYl, hYb⟩
  dsimp only at hd hYl hYb ⊢
  refine Ct.o ?_
  refine Zgb ?_
  first|refine Zhg (Zat rfl) ?_|refine Zhg (Zar rfl) ?_
  first|refine Zhg (Zaw rfl) ?_|refine Zhg (Zar rfl) ?_
  first|refine Zhg (Zcr rfl) ?_|refine Zhg (Zct) ?_|refine Zhg (Zcu rfl) ?_
  first|refine Zhg (Zmf rfl rfl) ?_|refine Zhg (Zbn rfl rfl) ?_
  refine Zg3 ?_
  refine Ct.o ?_
  refine Zgg rfl (fun hA => ?_) (fun hA => ?_)
  · refine Zgt (fun F w H => (h.imp (Imp.arr qV)).some (by omega) H) ?_
    rintro ⟨a1, a2, rfl⟩
    have hoff : (p + d) % 64 < 64 := Nat.mod_lt _ (by omega)
    refine Ct.o ?_
    refine Zgb ?_
    first|refine Zhg (Zav rfl) ?_|refine Zhg (Zar rfl) ?_
    refine Zhg (Zba rfl) ?_
    first|refine Zhg (Zl8 rfl) ?_|refine Zhg (Zce rfl) ?_
    refine Zhp rfl qH (scl_p hk hn) ?_
    first|refine Zhg (Zat rfl) ?_|refine Zhg (Zar rfl) ?_
    refine Zhg (Zlv rfl) ?_
    refine Zhg (Zlc rfl rfl) ?_
    first|refine Zhg (Zaz rfl) ?_|refine Zhg (Zas rfl) ?_
    refine Zg3 ?_
    refine Ct.o ?_
    rw [plus_eq]
    have hbl := fun c => blockB_len key c nonce
    have hb1 := hbl ((BitVec.ofNat 64 (p + d) / 64#64).setWidth 32)
    by_cases hd0 : d = 0
    · refine Ct.o ?_
      refine Zgb ?_
      first|refine Zhg (Zat rfl) ?_|refine Zhg (Zar rfl) ?_
      first|refine Zhg (Zmj (b := 0) rfl rfl) ?_|refine Zhg (Zbr rfl rfl) ?_
      refine Zhm 33 rfl (decide_eq_true (hd0)) ?_
      first|refine Zhg (Zau rfl) ?_|refine Zhg (Zar rfl) ?_
      first|refine Zhi rfl ?_|refine Zhj rfl ?_|(refine Zhh rfl ?_; (first|refine Zhg (Zat rfl) ?_|refine Zhg (Zar rfl) ?_))
      first|refine Zhi rfl ?_|refine Zhj rfl ?_|(refine Zhh rfl ?_; (refine Zhg (Zlu (y := 64#64) rfl rfl) ?_))
      first|refine Zhi rfl ?_|refine Zhj rfl ?_|(refine Zhh rfl ?_; (refine Zhg (Zln (y := 0#64) rfl rfl) ?_))
      first|refine Zhg (Zdz rfl rfl) ?_|refine Zhg (Zd0 rfl rfl) ?_|refine Zhg (Za8 rfl rfl) ?_|refine Zhg (Za9 rfl rfl) ?_|refine Zhg (Za6 rfl rfl) ?_|refine Zhg (Za7 rfl rfl) ?_
      refine Zg3 ?_
      refine Ct.o ?_
      refine Zge rfl ?_
      refine Ct.o ?_
      refine Zij (_) [10] (.q 0 (.q 1 (.q 2 (.q 4 (.q 5 (.q 6 (.q 7 (.q 8 (.q 9 (.r 3 (.r 10 (.e 11 false (.e 12 false .nil))))))))))))) (by kernel_rfl) (by kernel_rfl) (Imp.refl _) ?_
      first|refine Zim rfl (Zav rfl) ?_|refine Zim rfl (Zar rfl) ?_
      refine Zim rfl (Zba rfl) ?_
      first|refine Zim rfl (Zl8 rfl) ?_|refine Zim rfl (Zce rfl) ?_
      first|refine Zim rfl (Zat rfl) ?_|refine Zim rfl (Zar rfl) ?_
      refine Zim rfl (Zlt (y := 64#64) rfl rfl) ?_
      refine Zim rfl (Zlz rfl) ?_
      first|refine Zim rfl (Zav rfl) ?_|refine Zim rfl (Zar rfl) ?_
      refine Zim rfl (Zba rfl) ?_
      first|refine Zim rfl (Zl8 rfl) ?_|refine Zim rfl (Zce rfl) ?_
      refine Zix (n := 32) rfl rfl qH qZ (scl_key hk) ?_
      refine Zfj rfl rfl (RdAg.cl (n := 12) (o := 32) qH (by omega) (scl_nonce hk hn)) ?_
      refine Ziq rfl ?_
      refine Zh8 rfl (by kernel_rfl) (blockR_x key _ nonce hk hn) rfl qT ?_
      rintro _ _ ⟨rfl, rfl⟩
      refine Zg2 qA ?_
      refine Zg3 ⟨(fun hh => Bool.noConfusion hh), ?_⟩
      refine Ziq rfl ?_
      first|refine Zhy rfl rfl qR qZ qN qZ ?_|refine Zhx rfl rfl qR qZ qN qZ rfl ?_
      refine Zg3 ⟨(fun hh => Bool.noConfusion hh), ?_⟩
      refine Zik ?_
      refine Ct.o ?_
      rw [ctr_eq (p + d) (by omega)]
      obtain ⟨Y, hY⟩ : ∃ Y, Y = blockB key (BitVec.ofNat 32 ((p + d) / 64)) nonce := ⟨_, rfl⟩
      rw [← hY]
      have hYl : Y.length = 64 := by rw [hY]; exact hbl _
      have hg : ((Y.map u8b).toArray)[(p + d) % 64]? = some (u8b (ksB key nonce (p + d))) := by
        rw [hY]; unfold ksB
        rw [getL (by rw [blockB_len]; exact hoff), List.getD_eq_getElem?_getD, List.getElem?_eq_getElem (by rw [blockB_len]; exact hoff)]; rfl
      refine Ct.o ?_
      refine Zij (_) [9, 10] (.q 0 (.q 1 (.q 2 (.q 3 (.q 6 (.q 7 (.q 8 (.r 4 (.q 5 (.r 9 (.r 10 (.e 11 false (.q 12 (.e 13 false (.e 14 false (.q 15 .nil)))))))))))))))) (by kernel_rfl) (by kernel_rfl) (Imp.refl _) ?_
      first|refine Zim rfl (Zaw rfl) ?_|refine Zim rfl (Zar rfl) ?_
      first|refine Zim rfl (Zaw rfl) ?_|refine Zim rfl (Zar rfl) ?_
      first|refine Zim rfl (Zat rfl) ?_|refine Zim rfl (Zar rfl) ?_
      first|refine Zim rfl (Zl4 rfl rfl) ?_|refine Zim rfl (Zl1 rfl rfl) ?_
      first|refine Zim rfl (Zat rfl) ?_|refine Zim rfl (Zar rfl) ?_
      refine Zim rfl (PV.eq (v' := .int .u64 (((p + d) % 64 : Nat) : Int)) (Zlu (y := 64#64) rfl rfl) (by rw [rem_eq (p + d) (by omega)])) ?_
      first|refine Zim rfl (Zl5 (n := (p + d) % 64) rfl (int_eq (by push_cast; omega))) ?_|refine Zim rfl (Zl3 (n := (p + d) % 64) rfl (int_eq (by push_cast; omega))) ?_
      refine Zfh rfl rfl (((h.imp (Imp.arr qV)).rd.at hA (getM hA))) ?_
      refine Zim rfl (Zjx rfl) ?_
      refine Ziv rfl rfl qH (hg) ?_
      refine Ziz rfl (Zjx rfl) ?_
      refine Ziq rfl ?_
      refine Zh8 rfl (by kernel_rfl) (against64_x _ _) rfl qT ?_
      rintro _ _ ⟨rfl, rfl⟩
      refine Zg2 qA ?_
      refine Zg3 ⟨(fun hh => Bool.noConfusion hh), ?_⟩
      refine Zim rfl (Zlx rfl) ?_
      refine Ziq rfl ?_
      refine Zh7 (cs := #[.int .u8 _]) (by omega) (by omega) rfl ?_; intro b64
      refine Zg3 ⟨(fun hh => Bool.noConfusion hh), ?_⟩
      refine Ziq rfl ?_
      refine Zia rfl rfl qH (Rd.cl (xs := [u8b ((b[d].setWidth 64 ^^^ (ksB key nonce (p + d)).setWidth 64).setWidth 8)]) qH rfl qZ rfl) qN (by omega) qS ?_; intro a3 c3
      refine Zg3 ⟨(fun hh => Bool.noConfusion hh), ?_⟩
      first|refine Zim rfl (Za2 rfl) ?_|refine Zim rfl (Zas rfl) ?_
      refine Zik ?_
      refine Ct.o ?_
      have e2 : ((xorB key nonce p b).take d).map u8b ++ [u8b ((b[d].setWidth 64 ^^^ (ksB key nonce (p + d)).setWidth 64).setWidth 8)] = ((xorB key nonce p b).take (d + 1)).map u8b := by
        rw [List.take_succ_eq_append_getElem (by rw [xorB_len]; exact hA), xorB_get key nonce p b d hA, xor8]; simp only [List.map_append, List.map_cons, List.map_nil]
      rw [e2]
      refine Ct.o ?_
      refine Zgb ?_
      first|refine Zhg (Zat rfl) ?_|refine Zhg (Zar rfl) ?_
      first|refine Zhg (Zma (b := 1) rfl rfl) ?_|refine Zhg (Zbg rfl rfl) ?_
      first|refine Zhg (Zaz rfl) ?_|refine Zhg (Zas rfl) ?_
      refine Zg3 ?_
      refine Ct.o ?_
      exact Zgl (d + 1, a3, c3, Y) qO ⟨by dsimp only; omega, hYl, fun _ => by dsimp only; rw [hY, show p + (d + 1) - 1 = p + d by omega]⟩ qI ⟨rfl, rfl, trivial⟩
    · by_cases hm : BitVec.ofNat 64 (p + d) % 64#64 = 0#64
      · refine Ct.o ?_
        refine Zgb ?_
        first|refine Zhg (Zat rfl) ?_|refine Zhg (Zar rfl) ?_
        first|refine Zhg (Zmj (b := 0) rfl rfl) ?_|refine Zhg (Zbr rfl rfl) ?_
        refine Zhn 33 rfl (decide_eq_false (hd0)) ?_
        first|refine Zhg (Zau rfl) ?_|refine Zhg (Zar rfl) ?_
        first|refine Zhi rfl ?_|refine Zhj rfl ?_|(refine Zhh rfl ?_; (first|refine Zhg (Zat rfl) ?_|refine Zhg (Zar rfl) ?_))
        first|refine Zhi rfl ?_|refine Zhj rfl ?_|(refine Zhh rfl ?_; (refine Zhg (Zlu (y := 64#64) rfl rfl (by decide)) ?_))
        first|refine Zhi rfl ?_|refine Zhj rfl ?_|(refine Zhh rfl ?_; (refine Zhg (Zln (y := 0#64) rfl rfl) ?_))
        refine Zhm 37 rfl (decide_eq_true (hm)) ?_
        first|refine Zhg (Zdz rfl rfl) ?_|refine Zhg (Zd0 rfl rfl) ?_|refine Zhg (Za8 rfl rfl) ?_|refine Zhg (Za9 rfl rfl) ?_|refine Zhg (Za6 rfl rfl) ?_|refine Zhg (Za7 rfl rfl) ?_
        refine Zg3 ?_
        refine Ct.o ?_
        refine Zge rfl ?_
        refine Ct.o ?_
        refine Zij (_) [10] (.q 0 (.q 1 (.q 2 (.q 4 (.q 5 (.q 6 (.q 7 (.q 8 (.q 9 (.r 3 (.r 10 (.e 11 false (.e 12 false .nil))))))))))))) (by kernel_rfl) (by kernel_rfl) (Imp.refl _) ?_
        first|refine Zim rfl (Zav rfl) ?_|refine Zim rfl (Zar rfl) ?_
        refine Zim rfl (Zba rfl) ?_
        first|refine Zim rfl (Zl8 rfl) ?_|refine Zim rfl (Zce rfl) ?_
        first|refine Zim rfl (Zat rfl) ?_|refine Zim rfl (Zar rfl) ?_
        refine Zim rfl (Zlt (y := 64#64) rfl rfl) ?_
        refine Zim rfl (Zlz rfl) ?_
        first|refine Zim rfl (Zav rfl) ?_|refine Zim rfl (Zar rfl) ?_
        refine Zim rfl (Zba rfl) ?_
        first|refine Zim rfl (Zl8 rfl) ?_|refine Zim rfl (Zce rfl) ?_
        refine Zix (n := 32) rfl rfl qH qZ (scl_key hk) ?_
        refine Zfj rfl rfl (RdAg.cl (n := 12) (o := 32) qH (by omega) (scl_nonce hk hn)) ?_
        refine Ziq rfl ?_
        refine Zh8 rfl (by kernel_rfl) (blockR_x key _ nonce hk hn) rfl qT ?_
        rintro _ _ ⟨rfl, rfl⟩
        refine Zg2 qA ?_
        refine Zg3 ⟨(fun hh => Bool.noConfusion hh), ?_⟩
        refine Ziq rfl ?_
        first|refine Zhy rfl rfl qR qZ qN qZ ?_|refine Zhx rfl rfl qR qZ qN qZ rfl ?_
        refine Zg3 ⟨(fun hh => Bool.noConfusion hh), ?_⟩
        refine Zik ?_
        refine Ct.o ?_
        rw [ctr_eq (p + d) (by omega)]
        obtain ⟨Y, hY⟩ : ∃ Y, Y = blockB key (BitVec.ofNat 32 ((p + d) / 64)) nonce := ⟨_, rfl⟩
        rw [← hY]
        have hYl : Y.length = 64 := by rw [hY]; exact hbl _
        have hg : ((Y.map u8b).toArray)[(p + d) % 64]? = some (u8b (ksB key nonce (p + d))) := by
          rw [hY]; unfold ksB
          rw [getL (by rw [blockB_len]; exact hoff), List.getD_eq_getElem?_getD, List.getElem?_eq_getElem (by rw [blockB_len]; exact hoff)]; rfl
        refine Ct.o ?_
        refine Zij (_) [9, 10] (.q 0 (.q 1 (.q 2 (.q 3 (.q 6 (.q 7 (.q 8 (.r 4 (.q 5 (.r 9 (.r 10 (.e 11 false (.q 12 (.e 13 false (.e 14 false (.q 15 .nil)))))))))))))))) (by kernel_rfl) (by kernel_rfl) (Imp.refl _) ?_
        first|refine Zim rfl (Zaw rfl) ?_|refine Zim rfl (Zar rfl) ?_
        first|refine Zim rfl (Zaw rfl) ?_|refine Zim rfl (Zar rfl) ?_
        first|refine Zim rfl (Zat rfl) ?_|refine Zim rfl (Zar rfl) ?_
        first|refine Zim rfl (Zl4 rfl rfl) ?_|refine Zim rfl (Zl1 rfl rfl) ?_
        first|refine Zim rfl (Zat rfl) ?_|refine Zim rfl (Zar rfl) ?_
        refine Zim rfl (PV.eq (v' := .int .u64 (((p + d) % 64 : Nat) : Int)) (Zlu (y := 64#64) rfl rfl) (by rw [rem_eq (p + d) (by omega)])) ?_
        first|refine Zim rfl (Zl5 (n := (p + d) % 64) rfl (int_eq (by push_cast; omega))) ?_|refine Zim rfl (Zl3 (n := (p + d) % 64) rfl (int_eq (by push_cast; omega))) ?_
        refine Zfh rfl rfl (((h.imp (Imp.arr qV)).rd.at hA (getM hA))) ?_
        refine Zim rfl (Zjx rfl) ?_
        refine Ziv rfl rfl qH (hg) ?_
        refine Ziz rfl (Zjx rfl) ?_
        refine Ziq rfl ?_
        refine Zh8 rfl (by kernel_rfl) (against64_x _ _) rfl qT ?_
        rintro _ _ ⟨rfl, rfl⟩
        refine Zg2 qA ?_
        refine Zg3 ⟨(fun hh => Bool.noConfusion hh), ?_⟩
        refine Zim rfl (Zlx rfl) ?_
        refine Ziq rfl ?_
        refine Zh7 (cs := #[.int .u8 _]) (by omega) (by omega) rfl ?_; intro b64
        refine Zg3 ⟨(fun hh => Bool.noConfusion hh), ?_⟩
        refine Ziq rfl ?_
        refine Zia rfl rfl qH (Rd.cl (xs := [u8b ((b[d].setWidth 64 ^^^ (ksB key nonce (p + d)).setWidth 64).setWidth 8)]) qH rfl qZ rfl) qN (by omega) qS ?_; intro a3 c3
        refine Zg3 ⟨(fun hh => Bool.noConfusion hh), ?_⟩
        first|refine Zim rfl (Za2 rfl) ?_|refine Zim rfl (Zas rfl) ?_
        refine Zik ?_
        refine Ct.o ?_
        have e2 : ((xorB key nonce p b).take d).map u8b ++ [u8b ((b[d].setWidth 64 ^^^ (ksB key nonce (p + d)).setWidth 64).setWidth 8)] = ((xorB key nonce p b).take (d + 1)).map u8b := by
          rw [List.take_succ_eq_append_getElem (by rw [xorB_len]; exact hA), xorB_get key nonce p b d hA, xor8]; simp only [List.map_append, List.map_cons, List.map_nil]
        rw [e2]
        refine Ct.o ?_
        refine Zgb ?_
        first|refine Zhg (Zat rfl) ?_|refine Zhg (Zar rfl) ?_
        first|refine Zhg (Zma (b := 1) rfl rfl) ?_|refine Zhg (Zbg rfl rfl) ?_
        first|refine Zhg (Zaz rfl) ?_|refine Zhg (Zas rfl) ?_
        refine Zg3 ?_
        refine Ct.o ?_
        exact Zgl (d + 1, a3, c3, Y) qO ⟨by dsimp only; omega, hYl, fun _ => by dsimp only; rw [hY, show p + (d + 1) - 1 = p + d by omega]⟩ qI ⟨rfl, rfl, trivial⟩
      · refine Ct.o ?_
        refine Zgb ?_
        first|refine Zhg (Zat rfl) ?_|refine Zhg (Zar rfl) ?_
        first|refine Zhg (Zmj (b := 0) rfl rfl) ?_|refine Zhg (Zbr rfl rfl) ?_
        refine Zhn 33 rfl (decide_eq_false (hd0)) ?_
        first|refine Zhg (Zau rfl) ?_|refine Zhg (Zar rfl) ?_
        first|refine Zhi rfl ?_|refine Zhj rfl ?_|(refine Zhh rfl ?_; (first|refine Zhg (Zat rfl) ?_|refine Zhg (Zar rfl) ?_))
        first|refine Zhi rfl ?_|refine Zhj rfl ?_|(refine Zhh rfl ?_; (refine Zhg (Zlu (y := 64#64) rfl rfl (by decide)) ?_))
        first|refine Zhi rfl ?_|refine Zhj rfl ?_|(refine Zhh rfl ?_; (refine Zhg (Zln (y := 0#64) rfl rfl) ?_))
        refine Zhn 37 rfl (decide_eq_false (hm)) ?_
        first|refine Zhg (Zdz rfl rfl) ?_|refine Zhg (Zd0 rfl rfl) ?_|refine Zhg (Za8 rfl rfl) ?_|refine Zhg (Za9 rfl rfl) ?_|refine Zhg (Za6 rfl rfl) ?_|refine Zhg (Za7 rfl rfl) ?_
        refine Zg3 ?_
        refine Ct.o ?_
        refine Zgf rfl ?_
        refine Ct.o ?_
        have hm2 : (p + d) % 64 ≠ 0 := fun h => hm (by apply BitVec.eq_of_toNat_eq; rw [rem_eq (p + d) (by omega), h]; rfl)
        have hY : Y = blockB key (BitVec.ofNat 32 ((p + d) / 64)) nonce := by rw [hYb hd0]; congr 2; omega
        have hg : ((Y.map u8b).toArray)[(p + d) % 64]? = some (u8b (ksB key nonce (p + d))) := by
          rw [hY]; unfold ksB
          rw [getL (by rw [blockB_len]; exact hoff), List.getD_eq_getElem?_getD, List.getElem?_eq_getElem (by rw [blockB_len]; exact hoff)]; rfl
        refine Ct.o ?_
        refine Zij (_) [9, 10] (.q 0 (.q 1 (.q 2 (.q 3 (.q 6 (.q 7 (.q 8 (.r 4 (.q 5 (.r 9 (.r 10 (.e 11 false (.q 12 (.e 13 false (.e 14 false (.q 15 .nil)))))))))))))))) (by kernel_rfl) (by kernel_rfl) (Imp.refl _) ?_
        first|refine Zim rfl (Zaw rfl) ?_|refine Zim rfl (Zar rfl) ?_
        first|refine Zim rfl (Zaw rfl) ?_|refine Zim rfl (Zar rfl) ?_
        first|refine Zim rfl (Zat rfl) ?_|refine Zim rfl (Zar rfl) ?_
        first|refine Zim rfl (Zl4 rfl rfl) ?_|refine Zim rfl (Zl1 rfl rfl) ?_
        first|refine Zim rfl (Zat rfl) ?_|refine Zim rfl (Zar rfl) ?_
        refine Zim rfl (PV.eq (v' := .int .u64 (((p + d) % 64 : Nat) : Int)) (Zlu (y := 64#64) rfl rfl) (by rw [rem_eq (p + d) (by omega)])) ?_
        first|refine Zim rfl (Zl5 (n := (p + d) % 64) rfl (int_eq (by push_cast; omega))) ?_|refine Zim rfl (Zl3 (n := (p + d) % 64) rfl (int_eq (by push_cast; omega))) ?_
        refine Zfh rfl rfl (((h.imp (Imp.arr qV)).rd.at hA (getM hA))) ?_
        refine Zim rfl (Zjx rfl) ?_
        refine Ziv rfl rfl qH (hg) ?_
        refine Ziz rfl (Zjx rfl) ?_
        refine Ziq rfl ?_
        refine Zh8 rfl (by kernel_rfl) (against64_x _ _) rfl qT ?_
        rintro _ _ ⟨rfl, rfl⟩
        refine Zg2 qA ?_
        refine Zg3 ⟨(fun hh => Bool.noConfusion hh), ?_⟩
        refine Zim rfl (Zlx rfl) ?_
        refine Ziq rfl ?_
        refine Zh7 (cs := #[.int .u8 _]) (by omega) (by omega) rfl ?_; intro b64
        refine Zg3 ⟨(fun hh => Bool.noConfusion hh), ?_⟩
        refine Ziq rfl ?_
        refine Zia rfl rfl qH (Rd.cl (xs := [u8b ((b[d].setWidth 64 ^^^ (ksB key nonce (p + d)).setWidth 64).setWidth 8)]) qH rfl qZ rfl) qN (by omega) qS ?_; intro a3 c3
        refine Zg3 ⟨(fun hh => Bool.noConfusion hh), ?_⟩
        first|refine Zim rfl (Za2 rfl) ?_|refine Zim rfl (Zas rfl) ?_
        refine Zik ?_
        refine Ct.o ?_
        have e2 : ((xorB key nonce p b).take d).map u8b ++ [u8b ((b[d].setWidth 64 ^^^ (ksB key nonce (p + d)).setWidth 64).setWidth 8)] = ((xorB key nonce p b).take (d + 1)).map u8b := by
          rw [List.take_succ_eq_append_getElem (by rw [xorB_len]; exact hA), xorB_get key nonce p b d hA, xor8]; simp only [List.map_append, List.map_cons, List.map_nil]
        rw [e2]
        refine Ct.o ?_
        refine Zgb ?_
        first|refine Zhg (Zat rfl) ?_|refine Zhg (Zar rfl) ?_
        first|refine Zhg (Zma (b := 1) rfl rfl) ?_|refine Zhg (Zbg rfl rfl) ?_
        first|refine Zhg (Zaz rfl) ?_|refine Zhg (Zas rfl) ?_
        refine Zg3 ?_
        refine Ct.o ?_
        exact Zgl (d + 1, a3, c3, Y) qO ⟨by dsimp only; omega, hYl, fun _ => by dsimp only; rw [hY, show p + (d + 1) - 1 = p + d by omega]⟩ qI ⟨rfl, rfl, trivial⟩
  · have hie : d = b.length := by omega
    subst hie
    rw [List.take_of_length_le (by omega)]
    refine Ct.o ?_
    refine Zgb ?_
    first|refine Zhg (Zav rfl) ?_|refine Zhg (Zar rfl) ?_
    first|refine Zhg (Zav rfl) ?_|refine Zhg (Zar rfl) ?_
    refine Zhg (Zba rfl) ?_
    first|refine Zhg (Zl8 rfl) ?_|refine Zhg (Zce rfl) ?_
    refine Zhp rfl qH (scl_p hk hn) ?_
    first|refine Zhg (Zaw rfl) ?_|refine Zhg (Zar rfl) ?_
    first|refine Zhg (Zcr rfl) ?_|refine Zhg (Zct) ?_|refine Zhg (Zcu rfl) ?_
    refine Zhg (Zlv rfl) ?_
    refine Zhg (Zlc rfl rfl) ?_
    refine Zhg (Zba rfl) ?_
    first|refine Zhg (Zl8 rfl) ?_|refine Zhg (Zce rfl) ?_
    refine Zht rfl rfl qR qZ (scl_set hk hn) ?_
    refine Zg3 ?_
    refine Ct.o ?_
    rw [plus_eq]
    refine Ct.o ?_
    refine Zgb ?_
    first|refine Zhg (Zaw rfl) ?_|refine Zhg (Zar rfl) ?_
    first|refine Zhg (Za2 rfl) ?_|refine Zhg (Zas rfl) ?_
    first|refine Zhg (Zaz rfl) ?_|refine Zhg (Zas rfl) ?_
    refine Zg3 ?_
    refine Ct.o ?_
    refine rx2 (Zhc rfl (Zg9 rfl (Zg7))) ?_
    exact ⟨_, ⟨a, c, rfl, rfl⟩, qI⟩
theorem xorR_x {L : List Asrt} (key nonce : List Byte) (hk : key.length = 32) (hn : nonce.length = 12) {v : Value} {b : List Byte} (h : Bs L v b) (hb : b.length ≤ 274877906880) :
    Con Tryz.prog 49 [.agg (key.map u8b).toArray, .agg (nonce.map u8b).toArray, u32b 1#32, v] L
      (fun r M => ∃ a c, r = .slice a b.length c ∧ M = own 5 1 (.slice a b.length c) b.length ((xorB key nonce 64 b).map u8b) :: L) := by
  refine Con.get (fun w0 w F H => h.sh _ _ _ H) ?_
  rintro ⟨va, vc, rfl, hvc, hvcm⟩
  have hnew := newR_x key nonce 1#32 hk hn
  rw [show 64#64 * (1#32 : Wd).setWidth 64 = BitVec.ofNat 64 64 by decide] at hnew
  refine fn_x Tryz.func49 rfl rfl rfl Tryz.mixed (by kernel_rfl) ?_
  intro w0
  refine Ct.o ?_
  refine Zgb ?_
  refine Zh5 rfl ?_; intro b4
  refine Zh5 rfl ?_; intro b5
  first|refine Zhg (Za2 rfl) ?_|refine Zhg (Zas rfl) ?_
  refine Zg3 ?_
  refine Ct.o ?_
  refine Zgb ?_
  first|refine Zhr rfl qH qZ ?_|refine Zhq rfl qH qZ rfl ?_
  first|refine Zhr rfl qH qZ ?_|refine Zhq rfl qH qZ rfl ?_
  first|refine Zhg (Zat rfl) ?_|refine Zhg (Zar rfl) ?_
  refine Zh8 rfl (by kernel_rfl) (hnew) rfl qT ?_
  rintro _ _ ⟨s, rfl, rfl⟩
  refine Zg2 qA ?_
  first|refine Zhg (Zaw rfl) ?_|refine Zhg (Zar rfl) ?_
  refine Zh8 rfl (by kernel_rfl) (sxorR_x (L := L) (s := s) key nonce hk hn 64 (by omega) h (by omega)) rfl qT ?_
  rintro _ _ ⟨a, c, rfl, rfl⟩
  refine Zg2 qA ?_
  first|refine Zhg (Zmm rfl) ?_|refine Zhg (Zar rfl) ?_
  refine Zhg (Zco rfl rfl) ?_
  refine Zhg (Zco rfl rfl) ?_
  first|refine Zhg (Za2 rfl) ?_|refine Zhg (Zas rfl) ?_
  first|refine Zhg (Zaz rfl) ?_|refine Zhg (Zas rfl) ?_
  refine Zg3 ?_
  refine Ct.o ?_
  refine Zgb ?_
  first|refine Zhg (Zaw rfl) ?_|refine Zhg (Zar rfl) ?_
  first|refine Zhg (Za2 rfl) ?_|refine Zhg (Zas rfl) ?_
  refine Zg3 ?_
  refine Ct.o ?_
  refine rx1 (Zhc rfl (Zg7)) ?_
  exact ⟨_, ⟨a, c, rfl, rfl⟩, qI⟩
end Go.Sl

/- the document's answer for the code, in digits: clean, nought. -/
set_option maxHeartbeats 4000000
set_option maxRecDepth 10000
set_option linter.unusedVariables false
set_option linter.unusedSimpArgs false
namespace Go.Sl
open Go Go.Proofs
attribute [local irreducible] cl pt own old pur ex all den denOps denS xOps xC cX CX xthen xblk xcut xloop xgo xng retX resX Calls PV Rd Con
/-- A number that an int holds. -/
abbrev nv (n : Nat) : Value := .int .i64 (n : Int)
def valD : List Nat → Nat
  | [] => 0
  | x :: l => x + 256 * valD l
theorem valD_app (a b : List Nat) : valD (a ++ b) = valD a + 256 ^ a.length * valD b := by
  induction a with
  | nil => simp [valD]
  | cons x a ih =>
    simp only [List.cons_append, valD, ih, List.length_cons, Nat.pow_succ, Nat.mul_add]
    rw [← Nat.mul_assoc, Nat.mul_comm 256 (256 ^ a.length)]; omega
theorem valD_lt : ∀ (l : List Nat), (∀ x ∈ l, x < 256) → valD l < 256 ^ l.length
  | [], _ => by simp [valD]
  | x :: l, h => by
    have h1 := h x (by simp)
    have h2 := valD_lt l (fun y hy => h y (by simp [hy]))
    simp only [valD, List.length_cons, Nat.pow_succ]; omega
theorem valD_zeros (n : Nat) : valD (List.replicate n 0) = 0 := by
  induction n with
  | zero => rfl
  | succ n ih => simp [List.replicate_succ, valD, ih]
/-- Digits below 256. -/
def Dig (l : List Nat) : Prop := ∀ x ∈ l, x < 256
theorem clean_x {L : List Asrt} {a : Option Addr} {c n : Nat} {l : List Nat} (h : Rd L 1 (.slice a l.length c) l.length (l.map nv)) (hb : ∀ x ∈ l, x ≤ 1099511627776) (hl : l.length ≤ n) (hn : n ≤ 4096) (hv : valD l < 256 ^ n) :
    Con Tryz.prog 92 [.slice a l.length c] L (fun r M => ∃ a2 c2 d, Dig d ∧ valD d = valD l ∧ d.length ≤ n ∧ l.length ≤ d.length ∧ r = .slice a2 d.length c2 ∧ M = own 3 1 r d.length (d.map nv) :: L) := by
  refine fn_x Tryz.func92 rfl rfl rfl Tryz.mixed (by kernel_rfl) ?_
  intro w0
  refine Ct.o ?_
  refine Zgb ?_
  first|refine Zhg (Za2 rfl) ?_|refine Zhg (Zas rfl) ?_
  refine Zg3 ?_
  refine Ct.o ?_
  refine Zgb ?_
  first|refine Zhg (Za2 rfl) ?_|refine Zhg (Zas rfl) ?_
  refine Zg3 ?_
  refine Ct.o ?_
  refine Zgb ?_
  first|refine Zhg (Zaz rfl) ?_|refine Zhg (Zas rfl) ?_
  refine Zg3 ?_
  refine Ct.o ?_
  refine Zgb ?_
  first|refine Zhg (Zaz rfl) ?_|refine Zhg (Zas rfl) ?_
  refine Zg3 ?_
  refine Ct.o ?_
  refine Zgo [(3, 32)] (by kernel_rfl) (fun s : Nat × Nat × Option Addr × Nat × List Nat => s.1 ≤ n ∧ s.2.2.2.2.length = s.1 ∧ s.2.1 ≤ 4398046511104 ∧ Dig s.2.2.2.2 ∧ valD s.2.2.2.2 + 256 ^ s.1 * (s.2.1 + valD (l.drop s.1)) = valD l)
    (fun s => own 3 1 (.slice s.2.2.1 s.2.2.2.2.length s.2.2.2.1) s.2.2.2.2.length (s.2.2.2.2.map nv) :: L)
    (fun s => [(5, .int .i64 (s.1 : Int)), (4, .int .i64 (s.2.1 : Int)), (3, .slice s.2.2.1 s.2.2.2.2.length s.2.2.2.1)]) (fun s => (l.length - s.1) * 4398046511105 + s.2.1) (0, 0, none, 0, []) ⟨Nat.zero_le _, rfl, by show 0 ≤ _; omega, by intro x hx; simp at hx, by simp [valD]⟩ Imp.own_nil ⟨rfl, rfl, rfl, trivial⟩ ?_
  rintro ⟨i, cy, da, dc, d⟩ u ⟨hi, hdl, hcy, hd, hval⟩
  dsimp only at hi hdl hcy hd hval ⊢
  have hdrop : ∀ hA : i < l.length, l.drop i = l[i] :: l.drop (i + 1) := fun hA => List.drop_eq_getElem_cons hA
  have step : ∀ x cy' : Nat, x = cy + (l[i]?.getD 0) → cy' = x / 256 → valD (d ++ [x % 256]) + 256 ^ (i + 1) * (cy' + valD (l.drop (i + 1))) = valD l := by
    intro x cy' hx hc
    rw [← hval, valD_app, hdl, Nat.pow_succ]
    have e : cy + valD (l.drop i) = x % 256 + 256 * (cy' + valD (l.drop (i + 1))) := by
      by_cases hA : i < l.length
      · rw [hdrop hA, List.getElem?_eq_getElem hA] at *
        simp only [Option.getD_some, valD] at *
        omega
      · rw [List.drop_eq_nil_of_le (by omega), List.drop_eq_nil_of_le (by omega), List.getElem?_eq_none (by omega)] at *
        simp only [Option.getD_none, valD] at *
        omega
    rw [e]
    simp only [valD, Nat.mul_add, Nat.mul_assoc]
    omega
  have room : 0 < cy ∨ i < l.length → i < n := by
    intro h0
    rcases h0 with h0|h0
    · apply Nat.lt_of_not_le
      intro hc
      have h1 : 256 ^ n ≤ 256 ^ i := Nat.pow_le_pow_right (by omega) hc
      have h2 : 256 ^ i * 1 ≤ 256 ^ i * (cy + valD (l.drop i)) := Nat.mul_le_mul_left _ (by omega)
      omega
    · omega
  have dig : ∀ x, Dig (d ++ [x % 256]) := by
    intro x y hy
    rcases List.mem_append.mp hy with h1|h1
    · exact hd y h1
    · simp only [List.mem_singleton] at h1; omega
  by_cases hA : i < l.length
  · have hx : l[i] ≤ 1099511627776 := hb _ (List.getElem_mem hA)
    refine Ct.o ?_
    refine Zgb ?_
    first|refine Zhg (Zat rfl) ?_|refine Zhg (Zar rfl) ?_
    first|refine Zhg (Zaw rfl) ?_|refine Zhg (Zar rfl) ?_
    first|refine Zhg (Zcr rfl) ?_|refine Zhg (Zct) ?_|refine Zhg (Zcu rfl) ?_
    first|refine Zhg (Zmf rfl rfl) ?_|refine Zhg (Zbn rfl rfl) ?_
    refine Zhm 9 rfl (decide_eq_true (hA)) ?_
    first|refine Zhg (Zau rfl) ?_|refine Zhg (Zar rfl) ?_
    first|refine Zhi rfl ?_|refine Zhj rfl ?_|(refine Zhh rfl ?_; (first|refine Zhg (Zat rfl) ?_|refine Zhg (Zar rfl) ?_))
    first|refine Zhi rfl ?_|refine Zhj rfl ?_|(refine Zhh rfl ?_; (first|refine Zhg (Zmh (b := 0) rfl rfl) ?_|refine Zhg (Zbp rfl rfl) ?_))
    first|refine Zhg (Zdz rfl rfl) ?_|refine Zhg (Zd0 rfl rfl) ?_|refine Zhg (Za8 rfl rfl) ?_|refine Zhg (Za9 rfl rfl) ?_|refine Zhg (Za6 rfl rfl) ?_|refine Zhg (Za7 rfl rfl) ?_
    refine Zg3 ?_
    refine Ct.o ?_
    refine Zge rfl ?_
    refine Ct.o ?_
    refine Zgb ?_
    first|refine Zhg (Zat rfl) ?_|refine Zhg (Zar rfl) ?_
    first|refine Zhg (Zaw rfl) ?_|refine Zhg (Zar rfl) ?_
    first|refine Zhg (Zcr rfl) ?_|refine Zhg (Zct) ?_|refine Zhg (Zcu rfl) ?_
    first|refine Zhg (Zmf rfl rfl) ?_|refine Zhg (Zbn rfl rfl) ?_
    refine Zhm 19 rfl (decide_eq_true (hA)) ?_
    refine Zg3 ?_
    refine Ct.o ?_
    refine Zge rfl ?_
    refine Zgt (fun F w H => (h.imp qI).someAt (by omega) H) ?_
    rintro ⟨a1, a2, rfl⟩
    refine Ct.o ?_
    refine Zgb ?_
    first|refine Zhg (Zat rfl) ?_|refine Zhg (Zar rfl) ?_
    first|refine Zhg (Zaw rfl) ?_|refine Zhg (Zar rfl) ?_
    first|refine Zhg (Zat rfl) ?_|refine Zhg (Zar rfl) ?_
    first|refine Zhg (Zl4 rfl rfl) ?_|refine Zhg (Zl1 rfl rfl) ?_
    refine Zic (j := i) rfl (h.imp qI) hA (getM hA) ?_
    first|refine Zhg (Zma rfl rfl) ?_|refine Zhg (Zbg rfl rfl) ?_
    first|refine Zhg (Zaz rfl) ?_|refine Zhg (Zas rfl) ?_
    refine Zg3 ?_
    refine Ct.o ?_
    refine Zgb ?_
    first|refine Zhg (Zaw rfl) ?_|refine Zhg (Zar rfl) ?_
    first|refine Zhg (Zat rfl) ?_|refine Zhg (Zar rfl) ?_
    first|refine Zhg (Zme (b := 256) rfl rfl) ?_|refine Zhg (Zbl rfl rfl) ?_
    refine Zh7 (cs := #[.int .i64 _]) (by omega) (by omega) rfl ?_; intro b29
    refine Zia rfl rfl qH (Rd.cl (xs := [nv ((cy + l[i]) % 256)]) qH rfl qZ rfl) qN (by omega) qS ?_; intro a3 c3
    first|refine Zhg (Za2 rfl) ?_|refine Zhg (Zas rfl) ?_
    refine Zg3 ?_
    refine Ct.o ?_
    refine Zgb ?_
    first|refine Zhg (Zat rfl) ?_|refine Zhg (Zar rfl) ?_
    first|refine Zhg (Zmd (b := 256) rfl rfl) ?_|refine Zhg (Zbj rfl rfl) ?_
    first|refine Zhg (Zaz rfl) ?_|refine Zhg (Zas rfl) ?_
    refine Zg3 ?_
    refine Ct.o ?_
    refine Zgb ?_
    first|refine Zhg (Zat rfl) ?_|refine Zhg (Zar rfl) ?_
    first|refine Zhg (Zma (b := 1) rfl rfl) ?_|refine Zhg (Zbg rfl rfl) ?_
    first|refine Zhg (Zaz rfl) ?_|refine Zhg (Zas rfl) ?_
    refine Zg3 ?_
    refine Ct.o ?_
    refine Zgl (i + 1, (cy + l[i]) / 256, a3, c3, d ++ [(cy + l[i]) % 256]) qO ⟨room (.inr hA), by simp [hdl], by dsimp only; omega, dig _, step _ _ (by rw [List.getElem?_eq_getElem hA]; rfl) rfl⟩ ?_ ?_
    · dsimp only; rw [List.length_append, List.map_append]; exact Imp.arr (by repeat (first|exact Arr.nil|exact Arr.stop|refine Arr.cons (by repeat constructor) ?_|refine Arr.skip ?_))
    · dsimp only; rw [List.length_append]; exact ⟨rfl, rfl, rfl, trivial⟩
  · refine Ct.o ?_
    refine Zgb ?_
    first|refine Zhg (Zat rfl) ?_|refine Zhg (Zar rfl) ?_
    first|refine Zhg (Zaw rfl) ?_|refine Zhg (Zar rfl) ?_
    first|refine Zhg (Zcr rfl) ?_|refine Zhg (Zct) ?_|refine Zhg (Zcu rfl) ?_
    first|refine Zhg (Zmf rfl rfl) ?_|refine Zhg (Zbn rfl rfl) ?_
    refine Zhn 9 rfl (decide_eq_false (hA)) ?_
    first|refine Zhg (Zau rfl) ?_|refine Zhg (Zar rfl) ?_
    first|refine Zhi rfl ?_|refine Zhj rfl ?_|(refine Zhh rfl ?_; (first|refine Zhg (Zat rfl) ?_|refine Zhg (Zar rfl) ?_))
    first|refine Zhi rfl ?_|refine Zhj rfl ?_|(refine Zhh rfl ?_; (first|refine Zhg (Zmh (b := 0) rfl rfl) ?_|refine Zhg (Zbp rfl rfl) ?_))
    first|refine Zhg (Zdz rfl rfl) ?_|refine Zhg (Zd0 rfl rfl) ?_|refine Zhg (Za8 rfl rfl) ?_|refine Zhg (Za9 rfl rfl) ?_|refine Zhg (Za6 rfl rfl) ?_|refine Zhg (Za7 rfl rfl) ?_
    refine Zg3 ?_
    refine Ct.o ?_
    refine Zgg rfl (fun hB => ?_) (fun hB => ?_)
    · refine Ct.o ?_
      refine Zgb ?_
      first|refine Zhg (Zat rfl) ?_|refine Zhg (Zar rfl) ?_
      first|refine Zhg (Zaw rfl) ?_|refine Zhg (Zar rfl) ?_
      first|refine Zhg (Zcr rfl) ?_|refine Zhg (Zct) ?_|refine Zhg (Zcu rfl) ?_
      first|refine Zhg (Zmf rfl rfl) ?_|refine Zhg (Zbn rfl rfl) ?_
      refine Zhn 19 rfl (decide_eq_false (hA)) ?_
      refine Zg3 ?_
      refine Ct.o ?_
      refine Zgf rfl ?_
      refine Ct.o ?_
      refine Zgb ?_
      first|refine Zhg (Zaw rfl) ?_|refine Zhg (Zar rfl) ?_
      first|refine Zhg (Zat rfl) ?_|refine Zhg (Zar rfl) ?_
      first|refine Zhg (Zme (b := 256) rfl rfl) ?_|refine Zhg (Zbl rfl rfl) ?_
      refine Zh7 (cs := #[.int .i64 _]) (by omega) (by omega) rfl ?_; intro b29
      refine Zia rfl rfl qH (Rd.cl (xs := [nv (cy % 256)]) qH rfl qZ rfl) qN (by omega) qS ?_; intro a3 c3
      first|refine Zhg (Za2 rfl) ?_|refine Zhg (Zas rfl) ?_
      refine Zg3 ?_
      refine Ct.o ?_
      refine Zgb ?_
      first|refine Zhg (Zat rfl) ?_|refine Zhg (Zar rfl) ?_
      first|refine Zhg (Zmd (b := 256) rfl rfl) ?_|refine Zhg (Zbj rfl rfl) ?_
      first|refine Zhg (Zaz rfl) ?_|refine Zhg (Zas rfl) ?_
      refine Zg3 ?_
      refine Ct.o ?_
      refine Zgb ?_
      first|refine Zhg (Zat rfl) ?_|refine Zhg (Zar rfl) ?_
      first|refine Zhg (Zma (b := 1) rfl rfl) ?_|refine Zhg (Zbg rfl rfl) ?_
      first|refine Zhg (Zaz rfl) ?_|refine Zhg (Zas rfl) ?_
      refine Zg3 ?_
      refine Ct.o ?_
      refine Zgl (i + 1, cy / 256, a3, c3, d ++ [cy % 256]) qO ⟨room (.inl hB), by simp [hdl], by dsimp only; omega, dig _, step _ _ (by rw [List.getElem?_eq_none (by omega)]; rfl) rfl⟩ ?_ ?_
      · dsimp only; rw [List.length_append, List.map_append]; exact Imp.arr (by repeat (first|exact Arr.nil|exact Arr.stop|refine Arr.cons (by repeat constructor) ?_|refine Arr.skip ?_))
      · dsimp only; rw [List.length_append]; exact ⟨rfl, rfl, rfl, trivial⟩
    · have hc0 : cy = 0 := by omega
      subst hc0
      rw [List.drop_eq_nil_of_le (by omega)] at hval
      refine Ct.o ?_
      refine Zgb ?_
      first|refine Zhg (Zaw rfl) ?_|refine Zhg (Zar rfl) ?_
      first|refine Zhg (Za2 rfl) ?_|refine Zhg (Zas rfl) ?_
      refine Zg3 ?_
      refine Ct.o ?_
      refine rx1 (Zhc rfl (Zg7)) ?_
      exact ⟨_, ⟨da, dc, d, hd, by simp only [valD] at hval; omega, by omega, by omega, rfl, rfl⟩, by exact Imp.arr (by repeat (first|exact Arr.nil|exact Arr.stop|refine Arr.cons (by repeat constructor) ?_|refine Arr.skip ?_))⟩
theorem noughtD_x {L : List Asrt} {a : Option Addr} {c : Nat} {l : List Nat} (h : Rd L 1 (.slice a l.length c) l.length (l.map nv)) (hl : l.length ≤ 4096) :
    Con Tryz.prog 91 [.slice a l.length c] L (fun r M => r = .bool (decide (valD l = 0)) ∧ L = M) := by
  refine fn_x Tryz.func91 rfl rfl rfl Tryz.mixed (by kernel_rfl) ?_
  intro w0
  refine Ct.o ?_
  refine Zgb ?_
  first|refine Zhg (Za0 rfl) ?_|refine Zhg (Zas rfl) ?_
  refine Zg3 ?_
  refine Ct.o ?_
  refine Zgb ?_
  first|refine Zhg (Zaz rfl) ?_|refine Zhg (Zas rfl) ?_
  refine Zg3 ?_
  refine Ct.o ?_
  refine Zgo [(2, 14)] (by kernel_rfl) (fun i : Nat => i ≤ l.length ∧ valD (l.take i) = 0) (fun _ => L) (fun i => [(3, .int .i64 (i : Int))]) (fun i => l.length - i) 0 ⟨Nat.zero_le _, rfl⟩ (Imp.refl _) ⟨rfl, trivial⟩ ?_
  rintro i u ⟨hi, hz⟩
  refine Ct.o ?_
  refine Zgb ?_
  first|refine Zhg (Zat rfl) ?_|refine Zhg (Zar rfl) ?_
  first|refine Zhg (Zaw rfl) ?_|refine Zhg (Zar rfl) ?_
  first|refine Zhg (Zcr rfl) ?_|refine Zhg (Zct) ?_|refine Zhg (Zcu rfl) ?_
  first|refine Zhg (Zmf rfl rfl) ?_|refine Zhg (Zbn rfl rfl) ?_
  refine Zg3 ?_
  refine Ct.o ?_
  refine Zgg rfl (fun hA => ?_) (fun hA => ?_)
  · refine Zgt (fun F w H => h.someAt (by omega) H) ?_
    rintro ⟨a1, a2, rfl⟩
    have hs : valD l = 256 ^ i * (l[i] + 256 * valD (l.drop (i + 1))) := by
      have e := valD_app (l.take i) (l.drop i)
      rw [List.take_append_drop, hz, List.drop_eq_getElem_cons hA, List.length_take, Nat.min_eq_left hi, Nat.zero_add] at e
      exact e
    refine Ct.o ?_
    refine Zgb ?_
    first|refine Zhg (Zaw rfl) ?_|refine Zhg (Zar rfl) ?_
    first|refine Zhg (Zat rfl) ?_|refine Zhg (Zar rfl) ?_
    first|refine Zhg (Zl4 rfl rfl) ?_|refine Zhg (Zl1 rfl rfl) ?_
    refine Zic (j := i) rfl h hA (getM hA) ?_
    first|refine Zhg (Zmk (b := 0) rfl rfl) ?_|refine Zhg (Zbs rfl rfl) ?_
    refine Zg3 ?_
    refine Ct.o ?_
    refine Zgg rfl (fun h0 => ?_) (fun h0 => ?_)
    · refine Ct.o ?_
      refine Zgb ?_
      first|refine Zhg (Za0 rfl) ?_|refine Zhg (Zas rfl) ?_
      refine Zg3 ?_
      refine Ct.o ?_
      refine rx1 (Zha rfl (Zg7)) ?_
      refine ⟨_, ⟨?_, rfl⟩, by exact Imp.arr (by repeat (first|exact Arr.nil|exact Arr.stop|refine Arr.cons (by repeat constructor) ?_|refine Arr.skip ?_))⟩
      have hz1 : ¬ l[i] = 0 := fun e => by rw [e] at h0; exact h0 rfl
      have : ¬ valD l = 0 := by
        rw [hs]
        exact Nat.ne_of_gt (Nat.mul_pos (Nat.pow_pos (by omega)) (by omega))
      rw [decide_eq_false this]
    · have hz1 : l[i] = 0 := by
        apply Classical.byContradiction; intro e; exact h0 (fun e2 => e (by first|exact e2|(simp at e2; omega)))
      refine Ct.o ?_
      refine Zgb ?_
      first|refine Zhg (Zat rfl) ?_|refine Zhg (Zar rfl) ?_
      first|refine Zhg (Zma (b := 1) rfl rfl) ?_|refine Zhg (Zbg rfl rfl) ?_
      first|refine Zhg (Zaz rfl) ?_|refine Zhg (Zas rfl) ?_
      refine Zg3 ?_
      refine Ct.o ?_
      refine Zgl (i + 1) qO ⟨by omega, ?_⟩ qI ⟨rfl, trivial⟩
      rw [List.take_succ_eq_append_getElem hA, valD_app, hz, hz1]; simp [valD]
  · refine Ct.o ?_
    refine Zgb ?_
    first|refine Zhg (Za0 rfl) ?_|refine Zhg (Zas rfl) ?_
    refine Zg3 ?_
    refine Ct.o ?_
    refine rx1 (Zha rfl (Zg7)) ?_
    have hie : i = l.length := by omega
    rw [hie, List.take_length] at hz
    exact ⟨_, ⟨by rw [decide_eq_true hz], rfl⟩, by exact Imp.arr (by repeat (first|exact Arr.nil|exact Arr.stop|refine Arr.cons (by repeat constructor) ?_|refine Arr.skip ?_))⟩
end Go.Sl

/- the document's answer for the code, in digits: add, mul. -/
set_option maxHeartbeats 4000000
set_option maxRecDepth 10000
set_option linter.unusedVariables false
set_option linter.unusedSimpArgs false
namespace Go.Sl
open Go Go.Proofs
attribute [local irreducible] cl pt own old pur ex all den denOps denS xOps xC cX CX xthen xblk xcut xloop xgo xng retX resX Calls PV Rd Con
theorem valD_set : ∀ (s : List Nat) (i y : Nat) (h : i < s.length), valD (s.set i (s[i] + y)) = valD s + 256 ^ i * y
  | x :: s, 0, y, _ => by simp [valD]; omega
  | x :: s, i + 1, y, h => by
    have := valD_set s i y (by simpa using h)
    simp only [List.set_cons_succ, List.getElem_cons_succ, valD, this, Nat.pow_succ, Nat.mul_add]
    rw [← Nat.mul_assoc, Nat.mul_comm 256 (256 ^ i)]; omega
theorem bnd_set {s : List Nat} {i y B C : Nat} (hs : ∀ x ∈ s, x ≤ B) (h : i < s.length) (hy : B + y ≤ C) : ∀ x ∈ s.set i (s[i] + y), x ≤ C := by
  intro x hx
  rcases List.mem_or_eq_of_mem_set hx with h1|h1
  · have := hs x h1; omega
  · have := hs _ (List.getElem_mem h); omega
theorem valD_take (l : List Nat) (i : Nat) (h : i < l.length) : valD (l.take (i + 1)) = valD (l.take i) + 256 ^ i * l[i] := by
  rw [List.take_succ_eq_append_getElem h, valD_app, List.length_take, Nat.min_eq_left (by omega)]; simp [valD]
theorem add_x {L : List Asrt} {aa ab : Option Addr} {ca cb n : Nat} {la lb : List Nat} (ha : Rd L 1 (.slice aa la.length ca) la.length (la.map nv)) (hb : Rd L 1 (.slice ab lb.length cb) lb.length (lb.map nv)) (da : Dig la) (db : Dig lb)
    (hla : la.length ≤ n) (hlb : lb.length ≤ n) (hn : n ≤ 4096) (hv : valD la + valD lb < 256 ^ n) :
    Con Tryz.prog 83 [.slice aa la.length ca, .slice ab lb.length cb] L (fun r M => ∃ a2 c2 d, Dig d ∧ valD d = valD la + valD lb ∧ d.length ≤ n ∧ r = .slice a2 d.length c2 ∧ M = own 3 1 r d.length (d.map nv) :: L) := by
  refine fn_x Tryz.func83 rfl rfl rfl Tryz.mixed (by kernel_rfl) ?_
  intro w0
  refine Ct.o ?_
  refine Zgb ?_
  first|refine Zhg (Za2 rfl) ?_|refine Zhg (Zas rfl) ?_
  refine Zg3 ?_
  refine Ct.o ?_
  refine Zgb ?_
  first|refine Zhg (Zaw rfl) ?_|refine Zhg (Zar rfl) ?_
  first|refine Zhg (Zcr rfl) ?_|refine Zhg (Zct) ?_|refine Zhg (Zcu rfl) ?_
  first|refine Zhg (Zaz rfl) ?_|refine Zhg (Zas rfl) ?_
  refine Zg3 ?_
  refine Ct.o ?_
  refine Zgb ?_
  first|refine Zhg (Zaw rfl) ?_|refine Zhg (Zar rfl) ?_
  first|refine Zhg (Zcr rfl) ?_|refine Zhg (Zct) ?_|refine Zhg (Zcu rfl) ?_
  first|refine Zhg (Zat rfl) ?_|refine Zhg (Zar rfl) ?_
  first|refine Zhg (Zmh rfl rfl) ?_|refine Zhg (Zbp rfl rfl) ?_
  refine Zg3 ?_
  refine Ct.o ?_
  refine Zgn [(5, 5), (15, 16)] (by kernel_rfl) (fun N : Nat => la.length ≤ N ∧ lb.length ≤ N ∧ N ≤ n) (fun _ => L) (fun N => [(5, .int .i64 (N : Int))]) ?_ ?_
  · refine Zgg rfl (fun hA => ?_) (fun hA => ?_)
    · refine Ct.o ?_
      refine Zgb ?_
      first|refine Zhg (Zaw rfl) ?_|refine Zhg (Zar rfl) ?_
      first|refine Zhg (Zcr rfl) ?_|refine Zhg (Zct) ?_|refine Zhg (Zcu rfl) ?_
      first|refine Zhg (Zaz rfl) ?_|refine Zhg (Zas rfl) ?_
      refine Zg3 ?_
      refine Ct.o ?_
      exact Zgk lb.length ⟨by omega, by omega, by omega⟩ qI ⟨rfl, trivial⟩
    · refine Ct.o ?_
      exact Zgk la.length ⟨by omega, by omega, by omega⟩ qI ⟨rfl, trivial⟩
  rintro N u ⟨h1, h2, h3⟩
  refine Ct.o ?_
  refine Zgb ?_
  first|refine Zhg (Zat rfl) ?_|refine Zhg (Zar rfl) ?_
  refine Zm3 (f := nv) (a := 0) rfl rfl rfl qS qS qS ?_; intro b18
  first|refine Zhg (Za2 rfl) ?_|refine Zhg (Zas rfl) ?_
  refine Zg3 ?_
  refine Ct.o ?_
  refine Zgb ?_
  first|refine Zhg (Zaz rfl) ?_|refine Zhg (Zas rfl) ?_
  refine Zg3 ?_
  refine Ct.o ?_
  refine Zgo [(7, 7), (19, 36)] (by kernel_rfl) (fun s : Nat × List Nat => s.1 ≤ la.length ∧ s.2.length = N ∧ (∀ x ∈ s.2, x ≤ 256 * s.1) ∧ valD s.2 = valD (la.take s.1))
    (fun s => cl b18 ((s.2.map nv).toArray) 3 :: L) (fun s => [(7, .int .i64 (s.1 : Int))]) (fun s => la.length - s.1) (0, List.replicate N 0) ⟨by show 0 ≤ _; omega, by simp, by intro x hx; simp at hx; show x ≤ 256 * 0; omega, by simp [valD_zeros, valD]⟩ qI ⟨rfl, trivial⟩ ?_
  rintro ⟨i, s⟩ u2 ⟨hi, hsl, hsb, hsv⟩
  dsimp only at hi hsl hsb hsv ⊢
  refine Ct.o ?_
  refine Zgb ?_
  first|refine Zhg (Zat rfl) ?_|refine Zhg (Zar rfl) ?_
  first|refine Zhg (Zaw rfl) ?_|refine Zhg (Zar rfl) ?_
  first|refine Zhg (Zcr rfl) ?_|refine Zhg (Zct) ?_|refine Zhg (Zcu rfl) ?_
  first|refine Zhg (Zmf rfl rfl) ?_|refine Zhg (Zbn rfl rfl) ?_
  refine Zg3 ?_
  refine Ct.o ?_
  refine Zgg rfl (fun hA => ?_) (fun hA => ?_)
  · refine Zgt (fun F w H => (ha.imp qI).someAt (by omega) H) ?_
    rintro ⟨a1, a2, rfl⟩
    have hsi : i < s.length := by omega
    have hx : s[i] ≤ 256 * i := hsb _ (List.getElem_mem hsi)
    have hy : la[i] < 256 := da _ (List.getElem_mem hA)
    refine Ct.o ?_
    refine Zij (_) [9] (.q 0 (.q 1 (.q 2 (.q 3 (.q 4 (.q 6 (.q 7 (.q 8 (.r 5 (.r 9 (.q 10 (.q 11 (.e 12 false .nil))))))))))))) (by kernel_rfl) (by kernel_rfl) (Imp.refl _) ?_
    first|refine Zim rfl (Zaw rfl) ?_|refine Zim rfl (Zar rfl) ?_
    first|refine Zim rfl (Zat rfl) ?_|refine Zim rfl (Zar rfl) ?_
    first|refine Zim rfl (Zaw rfl) ?_|refine Zim rfl (Zar rfl) ?_
    first|refine Zim rfl (Zat rfl) ?_|refine Zim rfl (Zar rfl) ?_
    first|refine Zim rfl (Zl4 rfl rfl) ?_|refine Zim rfl (Zl1 rfl rfl) ?_
    first|refine Zim rfl (Zaw rfl) ?_|refine Zim rfl (Zar rfl) ?_
    first|refine Zim rfl (Zat rfl) ?_|refine Zim rfl (Zar rfl) ?_
    first|refine Zim rfl (Zl4 rfl rfl) ?_|refine Zim rfl (Zl1 rfl rfl) ?_
    refine Ziv rfl rfl qH (by rw [List.getElem?_toArray]; exact getM hsi) ?_
    refine Zi8 (j := i) rfl rfl (ha.imp qI) hA (getM hA) ?_
    first|refine Zim rfl (Zma rfl rfl) ?_|refine Zim rfl (Zbg rfl rfl) ?_
    first|refine Zim rfl (Zl4 rfl rfl) ?_|refine Zim rfl (Zl1 rfl rfl) ?_
    refine Ziq rfl ?_
    refine Zht rfl rfl qR qZ (setL (f := nv) (l := s)) ?_
    refine Zg3 ⟨(fun hh => Bool.noConfusion hh), ?_⟩
    refine Zik ?_
    refine Ct.o ?_
    refine Zgb ?_
    first|refine Zhg (Zat rfl) ?_|refine Zhg (Zar rfl) ?_
    first|refine Zhg (Zma (b := 1) rfl rfl) ?_|refine Zhg (Zbg rfl rfl) ?_
    first|refine Zhg (Zaz rfl) ?_|refine Zhg (Zas rfl) ?_
    refine Zg3 ?_
    refine Ct.o ?_
    refine Zgl (i + 1, s.set i (s[i] + la[i])) qO ⟨by dsimp only; omega, by simp [hsl], bnd_set hsb hsi (by dsimp only; omega), by dsimp only; rw [valD_set, hsv, valD_take _ _ hA]⟩ qI ⟨rfl, trivial⟩
  have hie : i = la.length := by omega
  subst hie
  rw [List.take_length] at hsv
  refine Ct.o ?_
  refine Zgb ?_
  first|refine Zhg (Zaz rfl) ?_|refine Zhg (Zas rfl) ?_
  refine Zg3 ?_
  refine Ct.o ?_
  refine Zgo [(8, 8), (37, 54)] (by kernel_rfl) (fun s : Nat × List Nat => s.1 ≤ lb.length ∧ s.2.length = N ∧ (∀ x ∈ s.2, x ≤ 256 * (la.length + s.1)) ∧ valD s.2 = valD la + valD (lb.take s.1))
    (fun s => cl b18 ((s.2.map nv).toArray) 3 :: L) (fun s => [(8, .int .i64 (s.1 : Int))]) (fun s => lb.length - s.1) (0, s) ⟨by show 0 ≤ _; omega, hsl, hsb, by rw [hsv]; simp [valD]⟩ qI ⟨rfl, trivial⟩ ?_
  rintro ⟨i, s2⟩ u3 ⟨hi, hsl, hsb, hsv⟩
  dsimp only at hi hsl hsb hsv ⊢
  refine Ct.o ?_
  refine Zgb ?_
  first|refine Zhg (Zat rfl) ?_|refine Zhg (Zar rfl) ?_
  first|refine Zhg (Zaw rfl) ?_|refine Zhg (Zar rfl) ?_
  first|refine Zhg (Zcr rfl) ?_|refine Zhg (Zct) ?_|refine Zhg (Zcu rfl) ?_
  first|refine Zhg (Zmf rfl rfl) ?_|refine Zhg (Zbn rfl rfl) ?_
  refine Zg3 ?_
  refine Ct.o ?_
  refine Zgg rfl (fun hA => ?_) (fun hA => ?_)
  · refine Zgt (fun F w H => (hb.imp qI).someAt (by omega) H) ?_
    rintro ⟨a1, a2, rfl⟩
    have hsi : i < s2.length := by omega
    have hx : s2[i] ≤ 256 * (la.length + i) := hsb _ (List.getElem_mem hsi)
    have hy : lb[i] < 256 := db _ (List.getElem_mem hA)
    refine Ct.o ?_
    refine Zij (_) [9] (.q 0 (.q 1 (.q 2 (.q 3 (.q 4 (.q 6 (.q 7 (.q 8 (.r 5 (.r 9 (.q 10 (.q 11 (.e 12 false .nil))))))))))))) (by kernel_rfl) (by kernel_rfl) (Imp.refl _) ?_
    first|refine Zim rfl (Zaw rfl) ?_|refine Zim rfl (Zar rfl) ?_
    first|refine Zim rfl (Zat rfl) ?_|refine Zim rfl (Zar rfl) ?_
    first|refine Zim rfl (Zaw rfl) ?_|refine Zim rfl (Zar rfl) ?_
    first|refine Zim rfl (Zat rfl) ?_|refine Zim rfl (Zar rfl) ?_
    first|refine Zim rfl (Zl4 rfl rfl) ?_|refine Zim rfl (Zl1 rfl rfl) ?_
    first|refine Zim rfl (Zaw rfl) ?_|refine Zim rfl (Zar rfl) ?_
    first|refine Zim rfl (Zat rfl) ?_|refine Zim rfl (Zar rfl) ?_
    first|refine Zim rfl (Zl4 rfl rfl) ?_|refine Zim rfl (Zl1 rfl rfl) ?_
    refine Ziv rfl rfl qH (by rw [List.getElem?_toArray]; exact getM hsi) ?_
    refine Zi8 (j := i) rfl rfl (hb.imp qI) hA (getM hA) ?_
    first|refine Zim rfl (Zma rfl rfl) ?_|refine Zim rfl (Zbg rfl rfl) ?_
    first|refine Zim rfl (Zl4 rfl rfl) ?_|refine Zim rfl (Zl1 rfl rfl) ?_
    refine Ziq rfl ?_
    refine Zht rfl rfl qR qZ (setL (f := nv) (l := s2)) ?_
    refine Zg3 ⟨(fun hh => Bool.noConfusion hh), ?_⟩
    refine Zik ?_
    refine Ct.o ?_
    refine Zgb ?_
    first|refine Zhg (Zat rfl) ?_|refine Zhg (Zar rfl) ?_
    first|refine Zhg (Zma (b := 1) rfl rfl) ?_|refine Zhg (Zbg rfl rfl) ?_
    first|refine Zhg (Zaz rfl) ?_|refine Zhg (Zas rfl) ?_
    refine Zg3 ?_
    refine Ct.o ?_
    refine Zgl (i + 1, s2.set i (s2[i] + lb[i])) qO ⟨by dsimp only; omega, by simp [hsl], bnd_set hsb hsi (by dsimp only; omega), by dsimp only; rw [valD_set, hsv, valD_take _ _ hA, Nat.add_assoc]⟩ qI ⟨rfl, trivial⟩
  have hie : i = lb.length := by omega
  subst hie
  rw [List.take_length] at hsv
  subst hsl
  have hbb : ∀ x ∈ s2, x ≤ 1099511627776 := fun x hx => by have := hsb x hx; omega
  have hrd : Rd (cl b18 (s2.map nv).toArray 3 :: L) 1 (.slice (some ⟨b18, 0, none⟩) s2.length s2.length) s2.length (s2.map nv) := Rd.cl (o := 0) .here (by simp) (by rw [szL]; omega) (by simp; exact List.take_of_length_le (by simp))
  refine Ct.o ?_
  refine Zgb ?_
  first|refine Zhg (Zaw rfl) ?_|refine Zhg (Zar rfl) ?_
  refine Zh8 rfl (by kernel_rfl) (clean_x (n := n) (l := s2) hrd hbb h3 hn (by omega)) rfl qT ?_
  rintro _ _ ⟨a2, c2, d, hd, hdv, hdn, _, rfl, rfl⟩
  refine Zg2 qA ?_
  first|refine Zhg (Za2 rfl) ?_|refine Zhg (Zas rfl) ?_
  refine Zg3 ?_
  refine Ct.o ?_
  refine rx1 (Zhc rfl (Zg7)) ?_
  exact ⟨_, ⟨a2, c2, d, hd, by omega, hdn, rfl, rfl⟩, by exact Imp.arr (by repeat (first|exact Arr.nil|exact Arr.stop|refine Arr.cons (by repeat constructor) ?_|refine Arr.skip ?_))⟩
end Go.Sl

/- the document's answer for the code, in digits: mul. -/
set_option maxHeartbeats 4000000
set_option maxRecDepth 10000
set_option linter.unusedVariables false
set_option linter.unusedSimpArgs false
namespace Go.Sl
open Go Go.Proofs
attribute [local irreducible] cl pt own old pur ex all den denOps denS xOps xC cX CX xthen xblk xcut xloop xgo xng retX resX Calls PV Rd Con
theorem mul_x {L : List Asrt} {aa ab : Option Addr} {ca cb n : Nat} {la lb : List Nat} (ha : Rd L 1 (.slice aa la.length ca) la.length (la.map nv)) (hb : Rd L 1 (.slice ab lb.length cb) lb.length (lb.map nv)) (da : Dig la) (db : Dig lb)
    (hla : la.length ≤ 1024) (hlb : lb.length ≤ 1024) (hln : la.length + lb.length ≤ n) (hn : n ≤ 4096) (hv : valD la * valD lb < 256 ^ n) :
    Con Tryz.prog 82 [.slice aa la.length ca, .slice ab lb.length cb] L (fun r M => ∃ a2 c2 d, Dig d ∧ valD d = valD la * valD lb ∧ d.length ≤ n ∧ r = .slice a2 d.length c2 ∧ M = own 3 1 r d.length (d.map nv) :: L) := by
  refine fn_x Tryz.func82 rfl rfl rfl Tryz.mixed (by kernel_rfl) ?_
  intro w0
  refine Ct.o ?_
  refine Zgb ?_
  first|refine Zhg (Za2 rfl) ?_|refine Zhg (Zas rfl) ?_
  refine Zg3 ?_
  refine Ct.o ?_
  refine Zgb ?_
  first|refine Zhg (Zaw rfl) ?_|refine Zhg (Zar rfl) ?_
  first|refine Zhg (Zcr rfl) ?_|refine Zhg (Zct) ?_|refine Zhg (Zcu rfl) ?_
  first|refine Zhg (Zaw rfl) ?_|refine Zhg (Zar rfl) ?_
  first|refine Zhg (Zcr rfl) ?_|refine Zhg (Zct) ?_|refine Zhg (Zcu rfl) ?_
  first|refine Zhg (Zma rfl rfl) ?_|refine Zhg (Zbg rfl rfl) ?_
  refine Zm3 (f := nv) (a := 0) rfl rfl rfl qS qS qS ?_; intro b13
  first|refine Zhg (Za2 rfl) ?_|refine Zhg (Zas rfl) ?_
  refine Zg3 ?_
  refine Ct.o ?_
  refine Zgb ?_
  first|refine Zhg (Zaz rfl) ?_|refine Zhg (Zas rfl) ?_
  refine Zg3 ?_
  refine Ct.o ?_
  refine Zgo [(6, 7), (14, 46)] (by kernel_rfl) (fun s : Nat × List Nat => s.1 ≤ la.length ∧ s.2.length = la.length + lb.length ∧ (∀ x ∈ s.2, x ≤ 65536 * (1024 * s.1)) ∧ valD s.2 = valD (la.take s.1) * valD lb)
    (fun s => cl b13 ((s.2.map nv).toArray) 3 :: L) (fun s => [(6, .int .i64 (s.1 : Int))]) (fun s => la.length - s.1) (0, List.replicate (la.length + lb.length) 0) ⟨by show 0 ≤ _; omega, by simp, by intro x hx; simp at hx; show x ≤ 65536 * (1024 * 0); omega, by simp [valD_zeros, valD]⟩ qI ⟨rfl, trivial⟩ ?_
  rintro ⟨i, s⟩ u2 ⟨hi, hsl, hsb, hsv⟩
  dsimp only at hi hsl hsb hsv ⊢
  refine Ct.o ?_
  refine Zgb ?_
  first|refine Zhg (Zat rfl) ?_|refine Zhg (Zar rfl) ?_
  first|refine Zhg (Zaw rfl) ?_|refine Zhg (Zar rfl) ?_
  first|refine Zhg (Zcr rfl) ?_|refine Zhg (Zct) ?_|refine Zhg (Zcu rfl) ?_
  first|refine Zhg (Zmf rfl rfl) ?_|refine Zhg (Zbn rfl rfl) ?_
  refine Zg3 ?_
  refine Ct.o ?_
  refine Zgg rfl (fun hA => ?_) (fun hA => ?_)
  · refine Ct.o ?_
    refine Zgb ?_
    first|refine Zhg (Zaz rfl) ?_|refine Zhg (Zas rfl) ?_
    refine Zg3 ?_
    refine Ct.o ?_
    refine Zgo [(7, 7), (20, 46)] (by kernel_rfl) (fun t : Nat × List Nat => t.1 ≤ lb.length ∧ t.2.length = la.length + lb.length ∧ (∀ x ∈ t.2, x ≤ 65536 * (1024 * i + t.1)) ∧ valD t.2 = valD (la.take i) * valD lb + 256 ^ i * (la[i] * valD (lb.take t.1)))
      (fun t => cl b13 ((t.2.map nv).toArray) 3 :: L) (fun t => [(7, .int .i64 (t.1 : Int))]) (fun t => lb.length - t.1) (0, s) ⟨by show 0 ≤ _; omega, hsl, hsb, by rw [hsv]; simp [valD]⟩ qI ⟨rfl, trivial⟩ ?_
    rintro ⟨k, t⟩ u3 ⟨hk, htl, htb, htv⟩
    dsimp only at hk htl htb htv ⊢
    refine Ct.o ?_
    refine Zgb ?_
    first|refine Zhg (Zat rfl) ?_|refine Zhg (Zar rfl) ?_
    first|refine Zhg (Zaw rfl) ?_|refine Zhg (Zar rfl) ?_
    first|refine Zhg (Zcr rfl) ?_|refine Zhg (Zct) ?_|refine Zhg (Zcu rfl) ?_
    first|refine Zhg (Zmf rfl rfl) ?_|refine Zhg (Zbn rfl rfl) ?_
    refine Zg3 ?_
    refine Ct.o ?_
    refine Zgg rfl (fun hB => ?_) (fun hB => ?_)
    · refine Zgt (fun F w H => (ha.imp qI).someAt (by omega) H) ?_
      rintro ⟨a1, a2, rfl⟩
      refine Zgt (fun F w H => (hb.imp qI).someAt (by omega) H) ?_
      rintro ⟨a3, a4, rfl⟩
      have hti : i + k < t.length := by omega
      have hx : t[i + k] ≤ 65536 * (1024 * i + k) := htb _ (List.getElem_mem hti)
      have hy : la[i] < 256 := da _ (List.getElem_mem hA)
      have hz : lb[k] < 256 := db _ (List.getElem_mem hB)
      have hp : la[i] * lb[k] ≤ 65536 := Nat.le_trans (Nat.mul_le_mul (Nat.le_of_lt hy) (Nat.le_of_lt hz)) (by omega)
      refine Ct.o ?_
      refine Zij (_) [13, 17, 18] (.q 0 (.q 1 (.q 2 (.q 3 (.q 4 (.q 5 (.q 6 (.q 7 (.q 8 (.q 10 (.q 11 (.q 12 (.q 14 (.q 15 (.q 16 (.r 9 (.r 13 (.r 17 (.r 18 (.q 19 (.q 20 (.e 21 false .nil)))))))))))))))))))))) (by kernel_rfl) (by kernel_rfl) (Imp.refl _) ?_
      first|refine Zim rfl (Zaw rfl) ?_|refine Zim rfl (Zar rfl) ?_
      first|refine Zim rfl (Zat rfl) ?_|refine Zim rfl (Zar rfl) ?_
      first|refine Zim rfl (Zat rfl) ?_|refine Zim rfl (Zar rfl) ?_
      first|refine Zim rfl (Zma rfl rfl) ?_|refine Zim rfl (Zbg rfl rfl) ?_
      first|refine Zim rfl (Zaw rfl) ?_|refine Zim rfl (Zar rfl) ?_
      first|refine Zim rfl (Zat rfl) ?_|refine Zim rfl (Zar rfl) ?_
      first|refine Zim rfl (Zat rfl) ?_|refine Zim rfl (Zar rfl) ?_
      first|refine Zim rfl (Zma rfl rfl) ?_|refine Zim rfl (Zbg rfl rfl) ?_
      first|refine Zim rfl (Zl4 (n := i + k) rfl (int_eq (by push_cast; omega))) ?_|refine Zim rfl (Zl1 (n := i + k) rfl (int_eq (by push_cast; omega))) ?_
      first|refine Zim rfl (Zaw rfl) ?_|refine Zim rfl (Zar rfl) ?_
      first|refine Zim rfl (Zat rfl) ?_|refine Zim rfl (Zar rfl) ?_
      first|refine Zim rfl (Zl4 rfl rfl) ?_|refine Zim rfl (Zl1 rfl rfl) ?_
      first|refine Zim rfl (Zaw rfl) ?_|refine Zim rfl (Zar rfl) ?_
      first|refine Zim rfl (Zat rfl) ?_|refine Zim rfl (Zar rfl) ?_
      first|refine Zim rfl (Zl4 rfl rfl) ?_|refine Zim rfl (Zl1 rfl rfl) ?_
      refine Ziv rfl rfl qH (by rw [List.getElem?_toArray]; exact getM hti) ?_
      refine Zi8 (j := i) rfl rfl (ha.imp qI) hA (getM hA) ?_
      refine Zi8 (j := k) rfl rfl (hb.imp qI) hB (getM hB) ?_
      first|refine Ziz rfl (Zmc rfl rfl) ?_|refine Ziz rfl (Zbi rfl rfl) ?_
      first|refine Zim rfl (Zma rfl rfl) ?_|refine Zim rfl (Zbg rfl rfl) ?_
      first|refine Zim rfl (Zl4 (n := i + k) rfl (int_eq (by push_cast; omega))) ?_|refine Zim rfl (Zl1 (n := i + k) rfl (int_eq (by push_cast; omega))) ?_
      refine Ziq rfl ?_
      refine Zht rfl rfl qR qZ (setL (f := nv) (l := t)) ?_
      refine Zg3 ⟨(fun hh => Bool.noConfusion hh), ?_⟩
      refine Zik ?_
      refine Ct.o ?_
      refine Zgb ?_
      first|refine Zhg (Zat rfl) ?_|refine Zhg (Zar rfl) ?_
      first|refine Zhg (Zma (b := 1) rfl rfl) ?_|refine Zhg (Zbg rfl rfl) ?_
      first|refine Zhg (Zaz rfl) ?_|refine Zhg (Zas rfl) ?_
      refine Zg3 ?_
      refine Ct.o ?_
      refine Zgl (k + 1, t.set (i + k) (t[i + k] + la[i] * lb[k])) qO ⟨by dsimp only; omega, by simp [htl], bnd_set htb hti (by dsimp only; omega), ?_⟩ qI ⟨rfl, trivial⟩
      dsimp only
      rw [valD_set, htv, valD_take _ _ hB, Nat.pow_add]
      simp only [Nat.mul_add, Nat.add_assoc]
      rw [show 256 ^ i * (la[i] * (256 ^ k * lb[k])) = 256 ^ i * 256 ^ k * (la[i] * lb[k]) by rw [Nat.mul_left_comm la[i], Nat.mul_assoc]]
    · have hke : k = lb.length := by omega
      subst hke
      rw [List.take_length] at htv
      refine Ct.o ?_
      refine Zgb ?_
      first|refine Zhg (Zat rfl) ?_|refine Zhg (Zar rfl) ?_
      first|refine Zhg (Zma (b := 1) rfl rfl) ?_|refine Zhg (Zbg rfl rfl) ?_
      first|refine Zhg (Zaz rfl) ?_|refine Zhg (Zas rfl) ?_
      refine Zg3 ?_
      refine Ct.o ?_
      refine Zgl (i + 1, t) qO ⟨by dsimp only; omega, htl, fun x hx => by have := htb x hx; dsimp only; omega, by dsimp only; rw [htv, valD_take _ _ hA, Nat.add_mul, Nat.mul_assoc]⟩ qI ⟨rfl, trivial⟩
  · have hie : i = la.length := by omega
    subst hie
    rw [List.take_length] at hsv
    have hbb : ∀ x ∈ s, x ≤ 1099511627776 := fun x hx => by have := hsb x hx; omega
    have hrd : Rd (cl b13 (s.map nv).toArray 3 :: L) 1 (.slice (some ⟨b13, 0, none⟩) s.length s.length) s.length (s.map nv) := Rd.cl (o := 0) .here (by simp) (by rw [szL]; omega) (by simp; exact List.take_of_length_le (by simp))
    rw [← hsl]
    refine Ct.o ?_
    refine Zgb ?_
    first|refine Zhg (Zaw rfl) ?_|refine Zhg (Zar rfl) ?_
    refine Zh8 rfl (by kernel_rfl) (clean_x (n := n) (l := s) hrd hbb (by omega) hn (by rw [hsv]; exact hv)) rfl qT ?_
    rintro _ _ ⟨a2, c2, d, hd, hdv, hdn, _, rfl, rfl⟩
    refine Zg2 qA ?_
    first|refine Zhg (Za2 rfl) ?_|refine Zhg (Zas rfl) ?_
    refine Zg3 ?_
    refine Ct.o ?_
    refine rx1 (Zhc rfl (Zg7)) ?_
    exact ⟨_, ⟨a2, c2, d, hd, by rw [hdv, hsv], hdn, rfl, rfl⟩, by exact Imp.arr (by repeat (first|exact Arr.nil|exact Arr.stop|refine Arr.cons (by repeat constructor) ?_|refine Arr.skip ?_))⟩
end Go.Sl

/- the document's answer for the code, in digits: part, low. -/
set_option maxHeartbeats 4000000
set_option maxRecDepth 10000
set_option linter.unusedVariables false
set_option linter.unusedSimpArgs false
namespace Go.Sl
open Go Go.Proofs
attribute [local irreducible] cl pt own old pur ex all den denOps denS xOps xC cX CX xthen xblk xcut xloop xgo xng retX resX Calls PV Rd Con
/-- The digits below 2^130. -/
def lowD (l : List Nat) (i : Nat) : List Nat := if i ≤ 16 then l.take i else l.take 16 ++ [(l[16]?.getD 0) % 4]
theorem low_x {L : List Asrt} {a : Option Addr} {c : Nat} {l : List Nat} (h : Rd L 1 (.slice a l.length c) l.length (l.map nv)) (hl : l.length ≤ 4096) :
    Con Tryz.prog 90 [.slice a l.length c, .bool false] L (fun r M => ∃ a2 c2 d, d = lowD l l.length ∧ r = .slice a2 d.length c2 ∧ M = own 3 1 r d.length (d.map nv) :: L) := by
  refine fn_x Tryz.func90 rfl rfl rfl Tryz.mixed (by kernel_rfl) ?_
  intro w0
  refine Ct.o ?_
  refine Zgb ?_
  first|refine Zhg (Za2 rfl) ?_|refine Zhg (Zas rfl) ?_
  refine Zg3 ?_
  refine Ct.o ?_
  refine Zgb ?_
  first|refine Zhg (Za2 rfl) ?_|refine Zhg (Zas rfl) ?_
  refine Zg3 ?_
  refine Ct.o ?_
  refine Zgb ?_
  first|refine Zhg (Zaz rfl) ?_|refine Zhg (Zas rfl) ?_
  refine Zg3 ?_
  refine Ct.o ?_
  refine Zgo [(5, 85)] (by kernel_rfl) (fun s : Nat × Option Addr × Nat × List Nat => s.1 ≤ l.length ∧ s.2.2.2 = lowD l s.1)
    (fun s => own 3 1 (.slice s.2.1 s.2.2.2.length s.2.2.1) s.2.2.2.length (s.2.2.2.map nv) :: L)
    (fun s => [(6, .int .i64 (s.1 : Int)), (5, .slice s.2.1 s.2.2.2.length s.2.2.1)]) (fun s => l.length - s.1) (0, none, 0, []) ⟨Nat.zero_le _, by simp [lowD]⟩ Imp.own_nil ⟨rfl, rfl, trivial⟩ ?_
  rintro ⟨i, da, dc, d⟩ u ⟨hi, hd⟩
  dsimp only at hi hd ⊢
  have hdl : d.length ≤ 17 := by rw [hd]; unfold lowD; split <;> simp <;> omega
  refine Ct.o ?_
  refine Zgb ?_
  first|refine Zhg (Zat rfl) ?_|refine Zhg (Zar rfl) ?_
  first|refine Zhg (Zaw rfl) ?_|refine Zhg (Zar rfl) ?_
  first|refine Zhg (Zcr rfl) ?_|refine Zhg (Zct) ?_|refine Zhg (Zcu rfl) ?_
  first|refine Zhg (Zmf rfl rfl) ?_|refine Zhg (Zbn rfl rfl) ?_
  refine Zg3 ?_
  refine Ct.o ?_
  refine Zgg rfl (fun hA => ?_) (fun hA => ?_)
  · refine Zgt (fun F w H => (h.imp qI).someAt (by omega) H) ?_
    rintro ⟨a1, a2, rfl⟩
    refine Ct.o ?_
    refine Zgb ?_
    first|refine Zhg (Zau rfl) ?_|refine Zhg (Zar rfl) ?_
    first|refine Zhg (Zb1 rfl) ?_|refine Zhg (Zb0 rfl) ?_
    first|refine Zhg (Zau rfl) ?_|refine Zhg (Zar rfl) ?_
    first|refine Zhi rfl ?_|refine Zhj rfl ?_|(refine Zhh rfl ?_; (first|refine Zhg (Zat rfl) ?_|refine Zhg (Zar rfl) ?_))
    first|refine Zhi rfl ?_|refine Zhj rfl ?_|(refine Zhh rfl ?_; (first|refine Zhg (Zmf (b := 16) rfl rfl) ?_|refine Zhg (Zbn rfl rfl) ?_))
    first|refine Zhg (Zdz rfl rfl) ?_|refine Zhg (Zd0 rfl rfl) ?_|refine Zhg (Za8 rfl rfl) ?_|refine Zhg (Za9 rfl rfl) ?_|refine Zhg (Za6 rfl rfl) ?_|refine Zhg (Za7 rfl rfl) ?_
    first|refine Zhg (Za0 rfl) ?_|refine Zhg (Zas rfl) ?_
    refine Zg3 ?_
    refine Ct.o ?_
    refine Zgg rfl (fun hB => ?_) (fun hB => ?_)
    · refine Ct.o ?_
      refine Zgb ?_
      first|refine Zhg (Zaw rfl) ?_|refine Zhg (Zar rfl) ?_
      first|refine Zhg (Zaw rfl) ?_|refine Zhg (Zar rfl) ?_
      first|refine Zhg (Zat rfl) ?_|refine Zhg (Zar rfl) ?_
      first|refine Zhg (Zl4 rfl rfl) ?_|refine Zhg (Zl1 rfl rfl) ?_
      refine Zic (j := i) rfl (h.imp qI) hA (getM hA) ?_
      refine Zh7 (cs := #[.int .i64 _]) (by omega) (by omega) rfl ?_; intro b25
      refine Zia rfl rfl qH (Rd.cl (xs := [nv l[i]]) qH rfl qZ rfl) qN (by omega) qS ?_; intro a3 c3
      first|refine Zhg (Za2 rfl) ?_|refine Zhg (Zas rfl) ?_
      refine Zg3 ?_
      refine Ct.o ?_
      refine Zgb ?_
      first|refine Zhg (Zat rfl) ?_|refine Zhg (Zar rfl) ?_
      first|refine Zhg (Zma (b := 1) rfl rfl) ?_|refine Zhg (Zbg rfl rfl) ?_
      first|refine Zhg (Zaz rfl) ?_|refine Zhg (Zas rfl) ?_
      refine Zg3 ?_
      refine Ct.o ?_
      refine Zgl (i + 1, a3, c3, d ++ [l[i]]) qO ⟨by dsimp only; omega, ?_⟩ ?_ ?_
      · dsimp only; rw [hd, lowD, lowD, if_pos (by omega), if_pos (by omega), List.take_succ_eq_append_getElem hA]
      · dsimp only; rw [List.length_append, List.map_append]; exact Imp.arr (by repeat (first|exact Arr.nil|exact Arr.stop|refine Arr.cons (by repeat constructor) ?_|refine Arr.skip ?_))
      · dsimp only; rw [List.length_append]; exact ⟨rfl, rfl, trivial⟩
    · refine Ct.o ?_
      refine Zgb ?_
      first|refine Zhg (Zau rfl) ?_|refine Zhg (Zar rfl) ?_
      first|refine Zhg (Zb1 rfl) ?_|refine Zhg (Zb0 rfl) ?_
      first|refine Zhg (Zau rfl) ?_|refine Zhg (Zar rfl) ?_
      first|refine Zhi rfl ?_|refine Zhj rfl ?_|(refine Zhh rfl ?_; (first|refine Zhg (Zat rfl) ?_|refine Zhg (Zar rfl) ?_))
      first|refine Zhi rfl ?_|refine Zhj rfl ?_|(refine Zhh rfl ?_; (first|refine Zhg (Zmj (b := 16) rfl rfl) ?_|refine Zhg (Zbr rfl rfl) ?_))
      first|refine Zhg (Zdz rfl rfl) ?_|refine Zhg (Zd0 rfl rfl) ?_|refine Zhg (Za8 rfl rfl) ?_|refine Zhg (Za9 rfl rfl) ?_|refine Zhg (Za6 rfl rfl) ?_|refine Zhg (Za7 rfl rfl) ?_
      first|refine Zhg (Za0 rfl) ?_|refine Zhg (Zas rfl) ?_
      refine Zg3 ?_
      refine Ct.o ?_
      refine Zgg rfl (fun hC => ?_) (fun hC => ?_)
      · have hi16 : i = 16 := by omega
        subst hi16
        refine Ct.o ?_
        refine Zgb ?_
        first|refine Zhg (Zaw rfl) ?_|refine Zhg (Zar rfl) ?_
        first|refine Zhg (Zaw rfl) ?_|refine Zhg (Zar rfl) ?_
        first|refine Zhg (Zat rfl) ?_|refine Zhg (Zar rfl) ?_
        first|refine Zhg (Zl4 rfl rfl) ?_|refine Zhg (Zl1 rfl rfl) ?_
        refine Zic (j := 16) rfl (h.imp qI) hA (getM hA) ?_
        first|refine Zhg (Zme (b := 4) rfl rfl) ?_|refine Zhg (Zbl rfl rfl) ?_
        refine Zh7 (cs := #[.int .i64 _]) (by omega) (by omega) rfl ?_; intro b40
        refine Zia rfl rfl qH (Rd.cl (xs := [nv (l[16] % 4)]) qH rfl qZ rfl) qN (by omega) qS ?_; intro a3 c3
        first|refine Zhg (Za2 rfl) ?_|refine Zhg (Zas rfl) ?_
        refine Zg3 ?_
        refine Ct.o ?_
        refine Zgb ?_
        first|refine Zhg (Zat rfl) ?_|refine Zhg (Zar rfl) ?_
        first|refine Zhg (Zma (b := 1) rfl rfl) ?_|refine Zhg (Zbg rfl rfl) ?_
        first|refine Zhg (Zaz rfl) ?_|refine Zhg (Zas rfl) ?_
        refine Zg3 ?_
        refine Ct.o ?_
        refine Zgl (16 + 1, a3, c3, d ++ [l[16] % 4]) qO ⟨by dsimp only; omega, ?_⟩ ?_ ?_
        · dsimp only; rw [hd, lowD, lowD, if_pos (by omega), if_neg (by omega), List.getElem?_eq_getElem hA]; rfl
        · dsimp only; rw [List.length_append, List.map_append]; exact Imp.arr (by repeat (first|exact Arr.nil|exact Arr.stop|refine Arr.cons (by repeat constructor) ?_|refine Arr.skip ?_))
        · dsimp only; rw [List.length_append]; exact ⟨rfl, rfl, trivial⟩
      · refine Ct.o ?_
        refine Zgb ?_
        first|refine Zhg (Zau rfl) ?_|refine Zhg (Zar rfl) ?_
        first|refine Zhg (Zau rfl) ?_|refine Zhg (Zar rfl) ?_
        first|refine Zhi rfl ?_|refine Zhj rfl ?_|(refine Zhh rfl ?_; (first|refine Zhg (Zat rfl) ?_|refine Zhg (Zar rfl) ?_))
        first|refine Zhi rfl ?_|refine Zhj rfl ?_|(refine Zhh rfl ?_; (first|refine Zhg (Zmj (b := 16) rfl rfl) ?_|refine Zhg (Zbr rfl rfl) ?_))
        first|refine Zhg (Zdz rfl rfl) ?_|refine Zhg (Zd0 rfl rfl) ?_|refine Zhg (Za8 rfl rfl) ?_|refine Zhg (Za9 rfl rfl) ?_|refine Zhg (Za6 rfl rfl) ?_|refine Zhg (Za7 rfl rfl) ?_
        first|refine Zhg (Za0 rfl) ?_|refine Zhg (Zas rfl) ?_
        refine Zg3 ?_
        refine Ct.o ?_
        refine Zgf rfl ?_
        refine Ct.o ?_
        refine Zgb ?_
        first|refine Zhg (Zau rfl) ?_|refine Zhg (Zar rfl) ?_
        first|refine Zhg (Zau rfl) ?_|refine Zhg (Zar rfl) ?_
        first|refine Zhi rfl ?_|refine Zhj rfl ?_|(refine Zhh rfl ?_; (first|refine Zhg (Zat rfl) ?_|refine Zhg (Zar rfl) ?_))
        first|refine Zhi rfl ?_|refine Zhj rfl ?_|(refine Zhh rfl ?_; (first|refine Zhg (Zmh (b := 16) rfl rfl) ?_|refine Zhg (Zbp rfl rfl) ?_))
        first|refine Zhg (Zdz rfl rfl) ?_|refine Zhg (Zd0 rfl rfl) ?_|refine Zhg (Za8 rfl rfl) ?_|refine Zhg (Za9 rfl rfl) ?_|refine Zhg (Za6 rfl rfl) ?_|refine Zhg (Za7 rfl rfl) ?_
        first|refine Zhg (Za0 rfl) ?_|refine Zhg (Zas rfl) ?_
        refine Zg3 ?_
        refine Ct.o ?_
        refine Zgf rfl ?_
        refine Ct.o ?_
        refine Zgb ?_
        first|refine Zhg (Zat rfl) ?_|refine Zhg (Zar rfl) ?_
        first|refine Zhg (Zma (b := 1) rfl rfl) ?_|refine Zhg (Zbg rfl rfl) ?_
        first|refine Zhg (Zaz rfl) ?_|refine Zhg (Zas rfl) ?_
        refine Zg3 ?_
        refine Ct.o ?_
        exact Zgl (i + 1, da, dc, d) qO ⟨by dsimp only; omega, by dsimp only; rw [hd, lowD, lowD, if_neg (by omega), if_neg (by omega)]⟩ qI ⟨rfl, rfl, trivial⟩
  · have hie : i = l.length := by omega
    subst hie
    refine Ct.o ?_
    refine Zgb ?_
    first|refine Zhg (Zaw rfl) ?_|refine Zhg (Zar rfl) ?_
    first|refine Zhg (Za2 rfl) ?_|refine Zhg (Zas rfl) ?_
    refine Zg3 ?_
    refine Ct.o ?_
    refine rx1 (Zhc rfl (Zg7)) ?_
    exact ⟨_, ⟨da, dc, d, hd, rfl, rfl⟩, by exact Imp.arr (by repeat (first|exact Arr.nil|exact Arr.stop|refine Arr.cons (by repeat constructor) ?_|refine Arr.skip ?_))⟩
theorem lowD_val (l : List Nat) (h : Dig l) : valD (lowD l l.length) = valD l % 1361129467683753853853498429727072845824 ∧ Dig (lowD l l.length) ∧ (lowD l l.length).length ≤ 17 := by
  unfold lowD
  have p16 : (256 : Nat) ^ 16 = 340282366920938463463374607431768211456 := by decide
  have hall : ∀ k, Dig (l.take k) := fun k x hx => h x (List.mem_of_mem_take hx)
  split
  · rename_i h16
    rw [List.take_length]
    have hlt := valD_lt l h
    have hle : 256 ^ l.length ≤ 256 ^ 16 := Nat.pow_le_pow_right (by omega) h16
    exact ⟨by omega, h, by omega⟩
  · rename_i h16
    have h16 : 16 < l.length := by omega
    have e := valD_app (l.take 16) (l.drop 16)
    have hlt := valD_lt (l.take 16) (hall 16)
    have hlen : (l.take 16).length = 16 := by simp; omega
    rw [List.take_append_drop, hlen, p16, List.drop_eq_getElem_cons h16] at e
    rw [hlen, p16] at hlt
    simp only [valD] at e
    refine ⟨?_, ?_, by simp; omega⟩
    · rw [valD_app, hlen, p16, List.getElem?_eq_getElem h16]
      simp only [valD, Option.getD_some]
      omega
    · intro x hx
      rcases List.mem_append.mp hx with h1|h1
      · exact hall 16 x h1
      · simp only [List.mem_singleton] at h1; omega
end Go.Sl

/- the document's answer for the code, in digits: part, high. -/
set_option maxHeartbeats 4000000
set_option maxRecDepth 10000
set_option linter.unusedVariables false
set_option linter.unusedSimpArgs false
namespace Go.Sl
open Go Go.Proofs
attribute [local irreducible] cl pt own old pur ex all den denOps denS xOps xC cX CX xthen xblk xcut xloop xgo xng retX resX Calls PV Rd Con
theorem high_step (l : List Nat) (i : Nat) (hi : 17 ≤ i) (hA : i < l.length) : valD (l.take (i + 1)) / 1361129467683753853853498429727072845824 = valD (l.take i) / 1361129467683753853853498429727072845824 + 256 ^ (i - 17) * (64 * l[i]) := by
  have p17 : (256 : Nat) ^ 17 = 1361129467683753853853498429727072845824 * 64 := by decide
  have e : 256 ^ i * l[i] = 1361129467683753853853498429727072845824 * (256 ^ (i - 17) * (64 * l[i])) := by
    have : 256 ^ i = 256 ^ 17 * 256 ^ (i - 17) := by rw [← Nat.pow_add]; congr 1; omega
    rw [this, p17]
    simp only [Nat.mul_assoc, Nat.mul_left_comm (64 : Nat)]
  rw [valD_take _ _ hA, e, Nat.add_mul_div_left _ _ (by omega)]
theorem high_16 (l : List Nat) (hA : 16 < l.length) (h : Dig l) : valD (l.take 17) / 1361129467683753853853498429727072845824 = l[16] / 4 := by
  have p16 : (256 : Nat) ^ 16 = 340282366920938463463374607431768211456 := by decide
  have hlt := valD_lt (l.take 16) (fun x hx => h x (List.mem_of_mem_take hx))
  have hlen : (l.take 16).length = 16 := by simp; omega
  rw [hlen, p16] at hlt
  rw [valD_take _ _ hA, p16]
  omega
theorem high_lo (l : List Nat) (i : Nat) (hi : i ≤ 16) (h : Dig l) : valD (l.take i) / 1361129467683753853853498429727072845824 = 0 := by
  have p16 : (256 : Nat) ^ 16 = 340282366920938463463374607431768211456 := by decide
  have hlt := valD_lt (l.take i) (fun x hx => h x (List.mem_of_mem_take hx))
  have hle : 256 ^ (l.take i).length ≤ 256 ^ 16 := Nat.pow_le_pow_right (by omega) (by simp; omega)
  rw [p16] at hle
  omega
theorem high_x {L : List Asrt} {a : Option Addr} {c : Nat} {l : List Nat} (h : Rd L 1 (.slice a l.length c) l.length (l.map nv)) (hl : l.length ≤ 4096) (hd0 : Dig l) :
    Con Tryz.prog 90 [.slice a l.length c, .bool true] L (fun r M => ∃ a2 c2 d, Dig d ∧ valD d = valD l / 1361129467683753853853498429727072845824 ∧ d.length = l.length - 16 ∧ r = .slice a2 d.length c2 ∧ M = own 3 1 r d.length (d.map nv) :: L) := by
  refine fn_x Tryz.func90 rfl rfl rfl Tryz.mixed (by kernel_rfl) ?_
  intro w0
  refine Ct.o ?_
  refine Zgb ?_
  first|refine Zhg (Za2 rfl) ?_|refine Zhg (Zas rfl) ?_
  refine Zg3 ?_
  refine Ct.o ?_
  refine Zgb ?_
  first|refine Zhg (Za2 rfl) ?_|refine Zhg (Zas rfl) ?_
  refine Zg3 ?_
  refine Ct.o ?_
  refine Zgb ?_
  first|refine Zhg (Zaz rfl) ?_|refine Zhg (Zas rfl) ?_
  refine Zg3 ?_
  refine Ct.o ?_
  refine Zgo [(5, 85)] (by kernel_rfl) (fun s : Nat × Option Addr × Nat × List Nat => s.1 ≤ l.length ∧ Dig s.2.2.2 ∧ s.2.2.2.length = s.1 - 16 ∧ valD s.2.2.2 = valD (l.take s.1) / 1361129467683753853853498429727072845824 ∧ (∀ x, s.2.2.2.getLast? = some x → x ≤ 63))
    (fun s => own 3 1 (.slice s.2.1 s.2.2.2.length s.2.2.1) s.2.2.2.length (s.2.2.2.map nv) :: L)
    (fun s => [(6, .int .i64 (s.1 : Int)), (5, .slice s.2.1 s.2.2.2.length s.2.2.1)]) (fun s => l.length - s.1) (0, none, 0, []) ⟨Nat.zero_le _, by intro x hx; simp at hx, rfl, by simp [valD], by simp⟩ Imp.own_nil ⟨rfl, rfl, trivial⟩ ?_
  rintro ⟨i, da, dc, d⟩ u ⟨hi, hd, hdl, hdv, hlast⟩
  dsimp only at hi hd hdl hdv hlast ⊢
  refine Ct.o ?_
  refine Zgb ?_
  first|refine Zhg (Zat rfl) ?_|refine Zhg (Zar rfl) ?_
  first|refine Zhg (Zaw rfl) ?_|refine Zhg (Zar rfl) ?_
  first|refine Zhg (Zcr rfl) ?_|refine Zhg (Zct) ?_|refine Zhg (Zcu rfl) ?_
  first|refine Zhg (Zmf rfl rfl) ?_|refine Zhg (Zbn rfl rfl) ?_
  refine Zg3 ?_
  refine Ct.o ?_
  refine Zgg rfl (fun hA => ?_) (fun hA => ?_)
  · refine Zgt (fun F w H => (h.imp qI).someAt (by omega) H) ?_
    rintro ⟨a1, a2, rfl⟩
    refine Ct.o ?_
    refine Zgb ?_
    first|refine Zhg (Zau rfl) ?_|refine Zhg (Zar rfl) ?_
    first|refine Zhg (Zb1 rfl) ?_|refine Zhg (Zb0 rfl) ?_
    first|refine Zhg (Zau rfl) ?_|refine Zhg (Zar rfl) ?_
    first|refine Zhi rfl ?_|refine Zhj rfl ?_|(refine Zhh rfl ?_; (first|refine Zhg (Zat rfl) ?_|refine Zhg (Zar rfl) ?_))
    first|refine Zhi rfl ?_|refine Zhj rfl ?_|(refine Zhh rfl ?_; (first|refine Zhg (Zmf (b := 16) rfl rfl) ?_|refine Zhg (Zbn rfl rfl) ?_))
    first|refine Zhg (Zdz rfl rfl) ?_|refine Zhg (Zd0 rfl rfl) ?_|refine Zhg (Za8 rfl rfl) ?_|refine Zhg (Za9 rfl rfl) ?_|refine Zhg (Za6 rfl rfl) ?_|refine Zhg (Za7 rfl rfl) ?_
    first|refine Zhg (Za0 rfl) ?_|refine Zhg (Zas rfl) ?_
    refine Zg3 ?_
    refine Ct.o ?_
    refine Zgf rfl ?_
    refine Ct.o ?_
    refine Zgb ?_
    first|refine Zhg (Zau rfl) ?_|refine Zhg (Zar rfl) ?_
    first|refine Zhg (Zb1 rfl) ?_|refine Zhg (Zb0 rfl) ?_
    first|refine Zhg (Zau rfl) ?_|refine Zhg (Zar rfl) ?_
    first|refine Zhi rfl ?_|refine Zhj rfl ?_|(refine Zhh rfl ?_; (first|refine Zhg (Zat rfl) ?_|refine Zhg (Zar rfl) ?_))
    first|refine Zhi rfl ?_|refine Zhj rfl ?_|(refine Zhh rfl ?_; (first|refine Zhg (Zmj (b := 16) rfl rfl) ?_|refine Zhg (Zbr rfl rfl) ?_))
    first|refine Zhg (Zdz rfl rfl) ?_|refine Zhg (Zd0 rfl rfl) ?_|refine Zhg (Za8 rfl rfl) ?_|refine Zhg (Za9 rfl rfl) ?_|refine Zhg (Za6 rfl rfl) ?_|refine Zhg (Za7 rfl rfl) ?_
    first|refine Zhg (Za0 rfl) ?_|refine Zhg (Zas rfl) ?_
    refine Zg3 ?_
    refine Ct.o ?_
    refine Zgf rfl ?_
    have hx : l[i] < 256 := hd0 _ (List.getElem_mem hA)
    by_cases hB : i = 16
    · subst hB
      have hdn : d = [] := List.eq_nil_of_length_eq_zero (by omega)
      subst hdn
      refine Ct.o ?_
      refine Zgb ?_
      first|refine Zhg (Zau rfl) ?_|refine Zhg (Zar rfl) ?_
      first|refine Zhg (Zau rfl) ?_|refine Zhg (Zar rfl) ?_
      first|refine Zhi rfl ?_|refine Zhj rfl ?_|(refine Zhh rfl ?_; (first|refine Zhg (Zat rfl) ?_|refine Zhg (Zar rfl) ?_))
      first|refine Zhi rfl ?_|refine Zhj rfl ?_|(refine Zhh rfl ?_; (first|refine Zhg (Zmj (b := 16) rfl rfl) ?_|refine Zhg (Zbr rfl rfl) ?_))
      first|refine Zhg (Zdz rfl rfl) ?_|refine Zhg (Zd0 rfl rfl) ?_|refine Zhg (Za8 rfl rfl) ?_|refine Zhg (Za9 rfl rfl) ?_|refine Zhg (Za6 rfl rfl) ?_|refine Zhg (Za7 rfl rfl) ?_
      first|refine Zhg (Za0 rfl) ?_|refine Zhg (Zas rfl) ?_
      refine Zg3 ?_
      refine Ct.o ?_
      refine Zge rfl ?_
      refine Ct.o ?_
      refine Zgb ?_
      first|refine Zhg (Zaw rfl) ?_|refine Zhg (Zar rfl) ?_
      first|refine Zhg (Zaw rfl) ?_|refine Zhg (Zar rfl) ?_
      first|refine Zhg (Zat rfl) ?_|refine Zhg (Zar rfl) ?_
      first|refine Zhg (Zl4 rfl rfl) ?_|refine Zhg (Zl1 rfl rfl) ?_
      refine Zic (j := 16) rfl (h.imp qI) hA (getM hA) ?_
      first|refine Zhg (Zmd (b := 4) rfl rfl) ?_|refine Zhg (Zbj rfl rfl) ?_
      refine Zh7 (cs := #[.int .i64 _]) (by omega) (by omega) rfl ?_; intro b54
      refine Zia rfl rfl qH (Rd.cl (xs := [nv (l[16] / 4)]) qH rfl qZ rfl) qN (by omega) qS ?_; intro a3 c3
      first|refine Zhg (Za2 rfl) ?_|refine Zhg (Zas rfl) ?_
      refine Zg3 ?_
      refine Ct.o ?_
      refine Zgb ?_
      first|refine Zhg (Zat rfl) ?_|refine Zhg (Zar rfl) ?_
      first|refine Zhg (Zma (b := 1) rfl rfl) ?_|refine Zhg (Zbg rfl rfl) ?_
      first|refine Zhg (Zaz rfl) ?_|refine Zhg (Zas rfl) ?_
      refine Zg3 ?_
      refine Ct.o ?_
      refine Zgl (16 + 1, a3, c3, [l[16] / 4]) qO ⟨by dsimp only; omega, ?_, rfl, ?_, ?_⟩ qI ⟨rfl, rfl, trivial⟩
      · intro x hx; simp only [List.mem_singleton] at hx; omega
      · dsimp only; rw [high_16 l hA hd0]; simp [valD]
      · intro x hx; simp at hx; omega
    · refine Ct.o ?_
      refine Zgb ?_
      first|refine Zhg (Zau rfl) ?_|refine Zhg (Zar rfl) ?_
      first|refine Zhg (Zau rfl) ?_|refine Zhg (Zar rfl) ?_
      first|refine Zhi rfl ?_|refine Zhj rfl ?_|(refine Zhh rfl ?_; (first|refine Zhg (Zat rfl) ?_|refine Zhg (Zar rfl) ?_))
      first|refine Zhi rfl ?_|refine Zhj rfl ?_|(refine Zhh rfl ?_; (first|refine Zhg (Zmj (b := 16) rfl rfl) ?_|refine Zhg (Zbr rfl rfl) ?_))
      first|refine Zhg (Zdz rfl rfl) ?_|refine Zhg (Zd0 rfl rfl) ?_|refine Zhg (Za8 rfl rfl) ?_|refine Zhg (Za9 rfl rfl) ?_|refine Zhg (Za6 rfl rfl) ?_|refine Zhg (Za7 rfl rfl) ?_
      first|refine Zhg (Za0 rfl) ?_|refine Zhg (Zas rfl) ?_
      refine Zg3 ?_
      refine Ct.o ?_
      refine Zgf (by show Value.bool (decide _) = _; rw [decide_eq_false (by omega)]) ?_
      refine Ct.o ?_
      refine Zgb ?_
      first|refine Zhg (Zau rfl) ?_|refine Zhg (Zar rfl) ?_
      first|refine Zhg (Zau rfl) ?_|refine Zhg (Zar rfl) ?_
      first|refine Zhi rfl ?_|refine Zhj rfl ?_|(refine Zhh rfl ?_; (first|refine Zhg (Zat rfl) ?_|refine Zhg (Zar rfl) ?_))
      first|refine Zhi rfl ?_|refine Zhj rfl ?_|(refine Zhh rfl ?_; (first|refine Zhg (Zmh (b := 16) rfl rfl) ?_|refine Zhg (Zbp rfl rfl) ?_))
      first|refine Zhg (Zdz rfl rfl) ?_|refine Zhg (Zd0 rfl rfl) ?_|refine Zhg (Za8 rfl rfl) ?_|refine Zhg (Za9 rfl rfl) ?_|refine Zhg (Za6 rfl rfl) ?_|refine Zhg (Za7 rfl rfl) ?_
      first|refine Zhg (Za0 rfl) ?_|refine Zhg (Zas rfl) ?_
      refine Zg3 ?_
      refine Ct.o ?_
      refine Zgg rfl (fun hC => ?_) (fun hC => ?_)
      · have hli : i - 17 < d.length := by omega
        have hlv : d[i - 17] ≤ 63 := hlast _ (by rw [List.getLast?_eq_getElem?, show d.length - 1 = i - 17 by omega, List.getElem?_eq_getElem hli])
        refine Zgt (fun F w H => own_some .here (by omega) H) ?_
        rintro ⟨g, rfl⟩
        have gl : (d.map nv)[i - 17]? = some (nv d[i - 17]) := getM hli
        refine Ct.o ?_
        refine Zij (_) [11, 12, 13] (.q 0 (.q 1 (.q 2 (.q 3 (.q 4 (.q 5 (.q 6 (.q 8 (.q 9 (.q 10 (.r 7 (.r 11 (.r 12 (.r 13 (.q 14 (.q 15 (.e 16 false .nil))))))))))))))))) (by kernel_rfl) (by kernel_rfl) (Imp.refl _) ?_
        first|refine Zim rfl (Zaw rfl) ?_|refine Zim rfl (Zar rfl) ?_
        first|refine Zim rfl (Zat rfl) ?_|refine Zim rfl (Zar rfl) ?_
        first|refine Zim rfl (Zmb (b := 17) rfl rfl) ?_|refine Zim rfl (Zbh rfl rfl) ?_
        first|refine Zim rfl (Zaw rfl) ?_|refine Zim rfl (Zar rfl) ?_
        first|refine Zim rfl (Zat rfl) ?_|refine Zim rfl (Zar rfl) ?_
        first|refine Zim rfl (Zmb (b := 17) rfl rfl) ?_|refine Zim rfl (Zbh rfl rfl) ?_
        first|refine Zim rfl (Zl4 rfl rfl) ?_|refine Zim rfl (Zl1 rfl rfl) ?_
        first|refine Zim rfl (Zaw rfl) ?_|refine Zim rfl (Zar rfl) ?_
        first|refine Zim rfl (Zat rfl) ?_|refine Zim rfl (Zar rfl) ?_
        first|refine Zim rfl (Zl4 rfl rfl) ?_|refine Zim rfl (Zl1 rfl rfl) ?_
        refine Zi8 (b := g) (o := 0) (j := i - 17) rfl (by rw [Nat.zero_add]; rfl) (Rd.own qH) hli gl ?_
        refine Zi8 (j := i) rfl rfl (h.imp qI) hA (getM hA) ?_
        first|refine Ziz rfl (Zme (b := 4) rfl rfl) ?_|refine Ziz rfl (Zbl rfl rfl) ?_
        first|refine Ziz rfl (Zmc (b := 64) rfl rfl) ?_|refine Ziz rfl (Zbi rfl rfl) ?_
        first|refine Zim rfl (Zma rfl rfl) ?_|refine Zim rfl (Zbg rfl rfl) ?_
        first|refine Zim rfl (Zl4 rfl rfl) ?_|refine Zim rfl (Zl1 rfl rfl) ?_
        refine Ziq rfl ?_; refine Zm7 (u := nv (d[i - 17] + l[i] % 4 * 64)) (i := i - 17) (xs := d.map nv) (ys := (d.set (i - 17) (d[i - 17] + l[i] % 4 * 64)).map nv) rfl rfl rfl qR hli (by rw [List.map_set]) ?_; refine Zg3 ⟨(fun hh => Bool.noConfusion hh), ?_⟩
        refine Zik ?_
        refine Ct.o ?_
        refine Zgb ?_
        first|refine Zhg (Zaw rfl) ?_|refine Zhg (Zar rfl) ?_
        first|refine Zhg (Zaw rfl) ?_|refine Zhg (Zar rfl) ?_
        first|refine Zhg (Zat rfl) ?_|refine Zhg (Zar rfl) ?_
        first|refine Zhg (Zl4 rfl rfl) ?_|refine Zhg (Zl1 rfl rfl) ?_
        refine Zic (j := i) rfl (h.imp qI) hA (getM hA) ?_
        first|refine Zhg (Zmd (b := 4) rfl rfl) ?_|refine Zhg (Zbj rfl rfl) ?_
        refine Zh7 (cs := #[.int .i64 _]) (by omega) (by omega) rfl ?_; intro b84
        refine Zia rfl rfl qH (Rd.cl (xs := [nv (l[i] / 4)]) qH rfl qZ rfl) qN (by omega) qS ?_; intro a3 c3
        first|refine Zhg (Za2 rfl) ?_|refine Zhg (Zas rfl) ?_
        refine Zg3 ?_
        refine Ct.o ?_
        refine Zgb ?_
        first|refine Zhg (Zat rfl) ?_|refine Zhg (Zar rfl) ?_
        first|refine Zhg (Zma (b := 1) rfl rfl) ?_|refine Zhg (Zbg rfl rfl) ?_
        first|refine Zhg (Zaz rfl) ?_|refine Zhg (Zas rfl) ?_
        refine Zg3 ?_
        refine Ct.o ?_
        refine Zgl (i + 1, a3, c3, d.set (i - 17) (d[i - 17] + l[i] % 4 * 64) ++ [l[i] / 4]) qO ⟨by dsimp only; omega, ?_, by simp; omega, ?_, ?_⟩ ?_ ?_
        · intro x hx
          rcases List.mem_append.mp hx with h1|h1
          · rcases List.mem_or_eq_of_mem_set h1 with h2|h2
            · exact hd x h2
            · omega
          · simp only [List.mem_singleton] at h1; omega
        · dsimp only
          rw [high_step l i (by omega) hA, ← hdv, valD_app, valD_set, List.length_set, hdl, show i - 16 = (i - 17) + 1 by omega, Nat.pow_succ]
          simp only [valD, Nat.add_assoc, Nat.mul_assoc, ← Nat.mul_add, Nat.mul_zero, Nat.add_zero]
          congr 2; omega
        · intro x hx; simp at hx; omega
        · dsimp only; rw [List.length_append, List.length_set, List.map_append]; exact Imp.arr (by repeat (first|exact Arr.nil|exact Arr.stop|refine Arr.cons (by repeat constructor) ?_|refine Arr.skip ?_))
        · dsimp only; rw [List.length_append, List.length_set]; exact ⟨rfl, rfl, trivial⟩
      · refine Ct.o ?_
        refine Zgb ?_
        first|refine Zhg (Zat rfl) ?_|refine Zhg (Zar rfl) ?_
        first|refine Zhg (Zma (b := 1) rfl rfl) ?_|refine Zhg (Zbg rfl rfl) ?_
        first|refine Zhg (Zaz rfl) ?_|refine Zhg (Zas rfl) ?_
        refine Zg3 ?_
        refine Ct.o ?_
        exact Zgl (i + 1, da, dc, d) qO ⟨by dsimp only; omega, hd, by dsimp only; omega, by dsimp only; rw [hdv, high_lo l i (by omega) hd0, high_lo l (i + 1) (by omega) hd0], hlast⟩ qI ⟨rfl, rfl, trivial⟩
  · have hie : i = l.length := by omega
    subst hie
    rw [List.take_length] at hdv
    refine Ct.o ?_
    refine Zgb ?_
    first|refine Zhg (Zaw rfl) ?_|refine Zhg (Zar rfl) ?_
    first|refine Zhg (Za2 rfl) ?_|refine Zhg (Zas rfl) ?_
    refine Zg3 ?_
    refine Ct.o ?_
    refine rx1 (Zhc rfl (Zg7)) ?_
    exact ⟨_, ⟨da, dc, d, hd, hdv, hdl, rfl, rfl⟩, by exact Imp.arr (by repeat (first|exact Arr.nil|exact Arr.stop|refine Arr.cons (by repeat constructor) ?_|refine Arr.skip ?_))⟩
end Go.Sl

/- the document's answer for the code, in digits: fold. -/
set_option maxHeartbeats 4000000
set_option maxRecDepth 10000
set_option linter.unusedVariables false
set_option linter.unusedSimpArgs false
namespace Go.Sl
open Go Go.Proofs
attribute [local irreducible] cl pt own old pur ex all den denOps denS xOps xC cX CX xthen xblk xcut xloop xgo xng retX resX Calls PV Rd Con
theorem rd_five {b : Nat} {M M' : List Asrt} (h : Has M (cl b #[.int .i64 5] 3) M') : Rd M 1 (.slice (some ⟨b, 0, none⟩) ([5] : List Nat).length 1) ([5] : List Nat).length (([5] : List Nat).map nv) :=
  Rd.cl (o := 0) h rfl qZ rfl
theorem rd_own {E : Nat} {v : Value} {n : Nat} {l : List Nat} {M M' : List Asrt} (h : Has M (own E 1 v n (l.map nv)) M') : Rd M 1 v n (l.map nv) := Rd.own h
theorem dig_five : Dig [5] := by intro x hx; simp at hx; omega
theorem valD_le {l : List Nat} {n : Nat} (h : Dig l) (hl : l.length ≤ n) : valD l < 256 ^ n := Nat.lt_of_lt_of_le (valD_lt l h) (Nat.pow_le_pow_right (by omega) hl)
theorem mul5_le {l : List Nat} (h : Dig l) (hl : l.length ≤ 46) : valD l * valD [5] < 256 ^ 47 := by
  have := valD_le h hl
  rw [show (256 : Nat) ^ 47 = 256 ^ 46 * 256 from Nat.pow_succ ..]
  simp only [valD]; omega
theorem add_le2 {a b : List Nat} (ha : Dig a) (hb : Dig b) (hl : a.length ≤ 61) (hl2 : b.length ≤ 61) : valD a + valD b < 256 ^ 62 := by
  have := valD_le ha hl; have := valD_le hb hl2
  rw [show (256 : Nat) ^ 62 = 256 ^ 61 * 256 from Nat.pow_succ ..]
  omega
theorem fold_fin (v m : Nat) (h : v < 1361129467683753853853498429727072845824) (hm : m = v + 5) :
    (m / 1361129467683753853853498429727072845824 = 0 → v % 1361129467683753853853498429727072845824 = v % 1361129467683753853853498429727072845819) ∧ (¬ m / 1361129467683753853853498429727072845824 = 0 → m % 1361129467683753853853498429727072845824 = v % 1361129467683753853853498429727072845819) := by
  subst hm; constructor <;> intro h2 <;> omega
theorem fold_x {L : List Asrt} {a : Option Addr} {c : Nat} {l : List Nat} (h : Rd L 1 (.slice a l.length c) l.length (l.map nv)) (hl : l.length ≤ 62) (hd0 : Dig l) :
    Con Tryz.prog 81 [.slice a l.length c] L (fun r M => ∃ a2 c2 d, Dig d ∧ valD d = valD l % 1361129467683753853853498429727072845819 ∧ d.length ≤ 17 ∧ r = .slice a2 d.length c2 ∧ M = own 3 1 r d.length (d.map nv) :: L) := by
  refine fn_x Tryz.func81 rfl rfl rfl Tryz.mixed (by kernel_rfl) ?_
  intro w0
  refine Ct.o ?_
  refine Zgb ?_
  first|refine Zhg (Za2 rfl) ?_|refine Zhg (Zas rfl) ?_
  refine Zg3 ?_
  refine Ct.o ?_
  refine Zgb ?_
  first|refine Zhg (Zaw rfl) ?_|refine Zhg (Zar rfl) ?_
  refine Zh8 rfl (by kernel_rfl) (high_x h (by omega) hd0) rfl qT ?_
  rintro _ _ ⟨ah, ch, hh, hhd, hhv, hhl, rfl, rfl⟩
  refine Zg2 qA ?_
  first|refine Zhg (Za2 rfl) ?_|refine Zhg (Zas rfl) ?_
  refine Zg3 ?_
  refine Ct.o ?_
  refine Zgo [(0, 0), (3, 3), (7, 17)] (by kernel_rfl) (fun s : List Asrt × (Option Addr × Nat × List Nat) × (Option Addr × Nat × List Nat) => Imp s.1 L ∧ Rd s.1 1 (.slice s.2.1.1 s.2.1.2.2.length s.2.1.2.1) s.2.1.2.2.length (s.2.1.2.2.map nv) ∧ Dig s.2.1.2.2 ∧ s.2.1.2.2.length ≤ 62 ∧ valD s.2.1.2.2 % 1361129467683753853853498429727072845819 = valD l % 1361129467683753853853498429727072845819 ∧
      Rd s.1 1 (.slice s.2.2.1 s.2.2.2.2.length s.2.2.2.1) s.2.2.2.2.length (s.2.2.2.2.map nv) ∧ Dig s.2.2.2.2 ∧ valD s.2.2.2.2 = valD s.2.1.2.2 / 1361129467683753853853498429727072845824 ∧ s.2.2.2.2.length = s.2.1.2.2.length - 16)
    (fun s => s.1)
    (fun s => [(0, .slice s.2.1.1 s.2.1.2.2.length s.2.1.2.1), (3, .slice s.2.2.1 s.2.2.2.2.length s.2.2.2.1)]) (fun s => valD s.2.1.2.2) (own 3 1 (.slice ah hh.length ch) hh.length (hh.map nv) :: L, (a, c, l), (ah, ch, hh)) ⟨Imp.tail, h.imp Imp.tail, hd0, hl, rfl, rd_own .here, hhd, hhv, hhl⟩ (Imp.refl _) ⟨rfl, rfl, trivial⟩ ?_
  clear hhd hhv hhl
  rintro ⟨E, ⟨da, dc, d⟩, ⟨ah2, ch2, hi⟩⟩ u ⟨hE, hrd, hd, hdl, hdv, hrh, hhd, hhv, hhl⟩
  dsimp only at hE hrd hd hdl hdv hrh hhd hhv hhl ⊢
  refine Ct.o ?_
  refine Zgb ?_
  first|refine Zhg (Zaw rfl) ?_|refine Zhg (Zar rfl) ?_
  refine Zh8 rfl (by kernel_rfl) (noughtD_x (L := E) hrh (by omega)) rfl qT ?_
  rintro _ _ ⟨rfl, rfl⟩
  refine Zg2 qA ?_
  first|refine Zhg (Zb1 rfl) ?_|refine Zhg (Zb0 rfl) ?_
  refine Zg3 ?_
  refine Ct.o ?_
  refine Zgg (p := ¬ valD hi = 0) (by show Value.bool _ = _; simp) (fun hA => ?_) (fun hA => ?_)
  · have hlv := (lowD_val d hd).2.2
    refine Ct.o ?_
    refine Zgb ?_
    first|refine Zhg (Zaw rfl) ?_|refine Zhg (Zar rfl) ?_
    refine Zh8 rfl (by kernel_rfl) (low_x (L := E) hrd (by omega)) rfl qT ?_
    rintro _ _ ⟨al, ccl, lo, rfl, rfl, rfl⟩
    refine Zg2 qA ?_
    first|refine Zhg (Zaw rfl) ?_|refine Zhg (Zar rfl) ?_
    refine Zh7 (cs := #[.int .i64 _]) (by omega) (by omega) rfl ?_; intro b13
    refine Zh8 rfl (by kernel_rfl) (mul_x (L := cl b13 #[.int .i64 5] 3 :: E) (n := 47) (la := hi) (lb := [5]) (hrh.imp Imp.tail) (rd_five .here) hhd dig_five (by omega) (by simp) (by simp; omega) (by omega) (mul5_le hhd (by omega))) rfl qT ?_
    rintro _ _ ⟨am, cm, mm, hmd, hmv, hml, rfl, rfl⟩
    refine Zg2 qA ?_
    refine Zh8 rfl (by kernel_rfl) (add_x (L := own 3 1 (.slice al (lowD d d.length).length ccl) (lowD d d.length).length ((lowD d d.length).map nv) :: own 3 1 (.slice am mm.length cm) mm.length (mm.map nv) :: E) (n := 62) (rd_own .here) (rd_own (.there .here)) (lowD_val d hd).2.1 hmd (by omega) (by omega) (by omega) (add_le2 (lowD_val d hd).2.1 hmd (by omega) (by omega))) rfl qT ?_
    rintro _ _ ⟨a5, c5, ss, hsd, hsv, hsl, rfl, rfl⟩
    refine Zg2 qA ?_
    first|refine Zhg (Za2 rfl) ?_|refine Zhg (Zas rfl) ?_
    refine Zg3 ?_
    refine Ct.o ?_
    have hss : ss.length ≤ 62 := hsl
    refine Ct.o ?_
    refine Zgb ?_
    first|refine Zhg (Zaw rfl) ?_|refine Zhg (Zar rfl) ?_
    refine Zh8 rfl (by kernel_rfl) (high_x (L := own 3 1 (.slice a5 ss.length c5) ss.length (ss.map nv) :: E) (rd_own .here) (by omega) hsd) rfl qT ?_
    rintro _ _ ⟨ah3, ch3, h3, h3d, h3v, h3l, rfl, rfl⟩
    refine Zg2 qA ?_
    first|refine Zhg (Za2 rfl) ?_|refine Zhg (Zas rfl) ?_
    refine Zg3 ?_
    refine Ct.o ?_
    refine Zgl (own 3 1 (.slice ah3 h3.length ch3) h3.length (h3.map nv) :: own 3 1 (.slice a5 ss.length c5) ss.length (ss.map nv) :: E, (a5, c5, ss), (ah3, ch3, h3)) ?_ ⟨Imp.tail.trans (Imp.tail.trans hE), rd_own (.there .here), hsd, hss, ?_, rd_own .here, h3d, h3v, h3l⟩ qI ⟨rfl, rfl, trivial⟩
    · dsimp only
      rw [hsv, (lowD_val d hd).1, hmv, hhv]
      simp only [valD]
      omega
    · dsimp only
      rw [hsv, (lowD_val d hd).1, hmv, hhv, ← hdv]
      simp only [valD]
      omega
  · have hA : valD hi = 0 := Classical.not_not.1 hA
    have hv0 : valD d < 1361129467683753853853498429727072845824 := by rw [hhv] at hA; omega
    have hlo := lowD_val d hd
    refine Ct.o ?_
    refine Zgb ?_
    first|refine Zhg (Zaw rfl) ?_|refine Zhg (Zar rfl) ?_
    refine Zh7 (cs := #[.int .i64 _]) (by omega) (by omega) rfl ?_; intro b19
    refine Zh8 rfl (by kernel_rfl) (add_x (L := cl b19 #[.int .i64 5] 3 :: E) (n := 62) (la := d) (lb := [5]) (hrd.imp Imp.tail) (rd_five .here) hd dig_five (by omega) (by simp) (by omega) (by
          have : valD d < 256 ^ 61 := Nat.lt_of_lt_of_le hv0 (by decide)
          rw [show (256 : Nat) ^ 62 = 256 ^ 61 * 256 from Nat.pow_succ ..]; simp only [valD]; omega)) rfl qT ?_
    rintro _ _ ⟨a5, c5, mo, hmd, hmv, hml, rfl, rfl⟩
    refine Zg2 qA ?_
    first|refine Zhg (Za2 rfl) ?_|refine Zhg (Zas rfl) ?_
    refine Zg3 ?_
    refine Ct.o ?_
    have hf := fold_fin (valD d) (valD mo) hv0 (by rw [hmv]; simp [valD])
    refine Ct.o ?_
    refine Zgb ?_
    first|refine Zhg (Zaw rfl) ?_|refine Zhg (Zar rfl) ?_
    refine Zh8 rfl (by kernel_rfl) (high_x (L := own 3 1 (.slice a5 mo.length c5) mo.length (mo.map nv) :: E) (rd_own .here) (by omega) hmd) rfl qT ?_
    rintro _ _ ⟨ah3, ch3, h3, h3d, h3v, h3l, rfl, rfl⟩
    refine Zg2 qA ?_
    refine Zh8 rfl (by kernel_rfl) (noughtD_x (L := own 3 1 (.slice ah3 h3.length ch3) h3.length (h3.map nv) :: E) (rd_own .here) (by omega)) rfl qT ?_
    rintro _ _ ⟨rfl, rfl⟩
    refine Zg2 qA ?_
    first|refine Zhg (Zb1 rfl) ?_|refine Zhg (Zb0 rfl) ?_
    refine Zg3 ?_
    refine Ct.o ?_
    refine Zgg (p := ¬ valD h3 = 0) (by show Value.bool _ = _; simp) (fun hB => ?_) (fun hB => ?_)
    · refine Ct.o ?_
      refine Zgb ?_
      first|refine Zhg (Zaw rfl) ?_|refine Zhg (Zar rfl) ?_
      refine Zh8 rfl (by kernel_rfl) (low_x (L := own 3 1 (.slice a5 mo.length c5) mo.length (mo.map nv) :: E) (rd_own .here) (by omega)) rfl qT ?_
      rintro _ _ ⟨al, ccl, lo, rfl, rfl, rfl⟩
      refine Zg2 qA ?_
      first|refine Zhg (Za2 rfl) ?_|refine Zhg (Zas rfl) ?_
      refine Zg3 ?_
      refine Ct.o ?_
      have hlm := lowD_val mo hmd
      refine rx1 (Zhc rfl (Zg7)) ?_
      exact ⟨_, ⟨al, ccl, _, hlm.2.1, by rw [hlm.1, hf.2 (by rw [← h3v]; exact hB), hdv], hlm.2.2, rfl, rfl⟩, (Imp.arr (N := own 3 1 (.slice al (lowD mo mo.length).length ccl) (lowD mo mo.length).length ((lowD mo mo.length).map nv) :: E) qV).trans hE.cons⟩
    · have hB : valD h3 = 0 := Classical.not_not.1 hB
      refine Ct.o ?_
      refine Zgb ?_
      first|refine Zhg (Zaw rfl) ?_|refine Zhg (Zar rfl) ?_
      refine Zh8 rfl (by kernel_rfl) (low_x (L := E) hrd (by omega)) rfl qT ?_
      rintro _ _ ⟨al, ccl, lo, rfl, rfl, rfl⟩
      refine Zg2 qA ?_
      first|refine Zhg (Za2 rfl) ?_|refine Zhg (Zas rfl) ?_
      refine Zg3 ?_
      refine Ct.o ?_
      refine rx1 (Zhc rfl (Zg7)) ?_
      exact ⟨_, ⟨al, ccl, _, hlo.2.1, by rw [hlo.1, hf.1 (by rw [← h3v]; exact hB), hdv], hlo.2.2, rfl, rfl⟩, (Imp.arr (N := own 3 1 (.slice al (lowD d d.length).length ccl) (lowD d d.length).length ((lowD d d.length).map nv) :: E) qV).trans hE.cons⟩
end Go.Sl

/- the document's answer for the code: chunks, digits of bytes, the halves of a key. -/
set_option maxHeartbeats 4000000
set_option maxRecDepth 10000
set_option linter.unusedVariables false
set_option linter.unusedSimpArgs false
namespace Go.Sl
open Go Go.Proofs
attribute [local irreducible] cl pt own old pur ex all den denOps denS xOps xC cX CX xthen xblk xcut xloop xgo xng retX resX Calls PV Rd Con
abbrev P130 : Nat := 1361129467683753853853498429727072845819
def digL (l : List Byte) : List Nat := l.map BitVec.toNat
theorem digL_val (l : List Byte) : valD (digL l) = leN l := by
  induction l with
  | nil => rfl
  | cons x l ih => show x.toNat + 256 * valD (digL l) = x.toNat + 256 * leN l; rw [ih]
theorem digL_dig (l : List Byte) : Dig (digL l) := by
  intro x hx
  obtain ⟨b, _, rfl⟩ := List.mem_map.1 hx
  exact b.isLt
theorem digL_len (l : List Byte) : (digL l).length = l.length := by simp [digL]
theorem digL_app (a b : List Byte) : digL (a ++ b) = digL a ++ digL b := by simp [digL]
theorem stepN_few (R : Nat) : ∀ (c : List Byte) (v : Nat) (p : List Byte), p.length + c.length < 16 → c.foldl (stepN R) (v, p) = (v, p ++ c)
  | [], v, p, _ => by simp
  | x :: c, v, p, h => by
    simp only [List.length_cons] at h
    have e : stepN R (v, p) x = (v, p ++ [x]) := by unfold stepN; rw [if_neg (by dsimp only; omega)]
    rw [List.foldl_cons, e, stepN_few R c v (p ++ [x]) (by simp; omega)]
    simp
theorem leN_snoc1 (c : List Byte) (h : c.length = 16) : leN (c ++ [1#8]) = leN c + 340282366920938463463374607431768211456 := by
  rw [leN_append, h, show (256 : Nat) ^ 16 = 340282366920938463463374607431768211456 by decide]; simp [leN]
theorem stepN_chunk (R : Nat) (c : List Byte) (v : Nat) (h : c.length = 16) : c.foldl (stepN R) (v, []) = (((v + leN (c ++ [1#8])) * R) % P130, []) := by
  obtain ⟨a, x, rfl⟩ : ∃ a x, c = a ++ [x] := ⟨c.dropLast, c.getLast (by intro e; rw [e] at h; cases h), (List.dropLast_concat_getLast _).symm⟩
  have ha : a.length = 15 := by simpa using h
  rw [List.foldl_append, stepN_few R a v [] (by simp; omega), leN_snoc1 _ h]
  simp only [List.foldl_cons, List.foldl_nil, List.nil_append]
  unfold stepN
  rw [if_pos (by dsimp only; omega)]
  dsimp only
  rw [Nat.add_assoc]
/-- The number behind so many bytes. -/
def accN (R : Nat) (m : List Byte) (i : Nat) : Nat := finN R ((m.take i).foldl (stepN R) (0, []))
theorem accN_step (R : Nat) (m : List Byte) (i : Nat) (hi : i < m.length) (h0 : ((m.take i).foldl (stepN R) (0, [])).2 = []) :
    accN R m (i + 16) = ((accN R m i + leN ((m.drop i).take 16 ++ [1#8])) * R) % P130 ∧ (((m.take (i + 16)).foldl (stepN R) (0, [])).2 = [] ∨ m.length ≤ i + 16) := by
  have e : m.take (i + 16) = m.take i ++ (m.drop i).take 16 := List.take_add ..
  obtain ⟨v, hv⟩ : ∃ v, (m.take i).foldl (stepN R) (0, []) = (v, []) := ⟨_, Prod.ext rfl h0⟩
  have hacc : accN R m i = v := by unfold accN; rw [hv]; rfl
  unfold accN
  rw [e, List.foldl_append, hv]
  have hf : finN R (v, []) = v := rfl
  rw [hf]
  by_cases h16 : i + 16 ≤ m.length
  · have hl : ((m.drop i).take 16).length = 16 := by simp; omega
    rw [stepN_chunk R _ v hl]
    exact ⟨rfl, .inl rfl⟩
  · have hl : ((m.drop i).take 16).length = m.length - i := by simp; omega
    rw [stepN_few R _ v [] (by rw [hl]; simp; omega)]
    refine ⟨?_, .inr (by omega)⟩
    unfold finN
    rw [if_neg (by simp only [List.nil_append]; intro e; rw [e] at hl; simp at hl; omega)]
    simp
theorem accN_end (R : Nat) (m : List Byte) (i : Nat) (hi : m.length ≤ i) : accN R m i = finN R (m.foldl (stepN R) (0, [])) := by
  unfold accN; rw [List.take_of_length_le hi]
-- the halves of a key
def halfF (key : List Byte) (s : Bool) (i : Nat) : Nat :=
  if s then (key.getD (16 + i) 0#8).toNat else if i % 4 = 3 then (key.getD i 0#8).toNat % 16 else if i % 4 = 0 ∧ 0 < i then (key.getD i 0#8).toNat / 4 * 4 else (key.getD i 0#8).toNat
def halfD (key : List Byte) (s : Bool) (n : Nat) : List Nat := (List.range n).map (halfF key s)
theorem halfD_len (key : List Byte) (s : Bool) (n : Nat) : (halfD key s n).length = n := by simp [halfD]
theorem halfD_succ (key : List Byte) (s : Bool) (n : Nat) : halfD key s (n + 1) = halfD key s n ++ [halfF key s n] := by simp [halfD, List.range_succ]
theorem halfD_dig (key : List Byte) (s : Bool) (n : Nat) : Dig (halfD key s n) := by
  intro x hx
  obtain ⟨i, _, rfl⟩ := List.mem_map.1 hx
  have h1 := (key.getD (16 + i) 0#8).isLt
  have h2 := (key.getD i 0#8).isLt
  unfold halfF
  split
  · omega
  · split
    · omega
    · split <;> omega
theorem halfD_true (key : List Byte) (hk : key.length = 32) : valD (halfD key true 16) = sN key := by
  have e : halfD key true 16 = digL (key.drop 16) := by
    apply List.ext_getElem (by simp [halfD, digL, hk])
    intro j h1 h2
    simp only [halfD, List.getElem_map, List.getElem_range, halfF, if_true, digL, List.getElem_drop]
    rw [List.getD_eq_getElem?_getD, List.getElem?_eq_getElem (by simp [digL] at h2; omega)]; rfl
  rw [e, digL_val]; rfl
def maskR : List Byte := [255#8, 255#8, 255#8, 15#8, 252#8, 255#8, 255#8, 15#8]
def maskR2 : List Byte := [252#8, 255#8, 255#8, 15#8, 252#8, 255#8, 255#8, 15#8]
theorem wordB_and : ∀ (a b : List Byte), a.length = b.length → wordB a &&& wordB b = wordB (List.zipWith (· &&& ·) a b)
  | [], [], _ => by decide
  | x :: a, y :: b, h => by
    have ih := wordB_and a b (by simpa using h)
    have e : ∀ (x : Byte) (a : List Byte), wordB (x :: a) = wordB a <<< 8 ||| x.setWidth 64 := fun _ _ => rfl
    rw [List.zipWith_cons_cons, e, e, e, ← ih]
    apply BitVec.eq_of_getLsbD_eq
    intro i hi
    simp only [BitVec.getLsbD_and, BitVec.getLsbD_or, BitVec.getLsbD_shiftLeft, BitVec.getLsbD_setWidth, hi, decide_true, Bool.true_and]
    by_cases h8 : i < 8
    · simp [h8]
    · have hx : ∀ z : Byte, z.getLsbD i = false := fun z => BitVec.getLsbD_of_ge z i (by omega)
      simp [h8, hx]
  | [], _ :: _, h => by simp at h
  | _ :: _, [], h => by simp at h
theorem and255 (a : Byte) : (a &&& 255#8) = a := by
  have : (255#8 : Byte) = BitVec.allOnes 8 := by decide
  rw [this, BitVec.and_allOnes]
theorem and15 (a : Byte) : (a &&& 15#8).toNat = a.toNat % 16 := by
  rw [BitVec.toNat_and]; exact Nat.and_two_pow_sub_one_eq_mod a.toNat 4
theorem and252 (a : Byte) : (a &&& 252#8).toNat = a.toNat / 4 * 4 := by
  have h : ∀ n : Fin 256, (BitVec.ofFin n &&& 252#8).toNat = n.val / 4 * 4 := by decide +kernel
  exact h a.toFin
theorem list16 {α : Type} (l : List α) (d : α) (h : l.length = 16) : l = [l.getD 0 d, l.getD 1 d, l.getD 2 d, l.getD 3 d, l.getD 4 d, l.getD 5 d, l.getD 6 d, l.getD 7 d, l.getD 8 d, l.getD 9 d, l.getD 10 d, l.getD 11 d, l.getD 12 d, l.getD 13 d, l.getD 14 d, l.getD 15 d] := by
  match l, h with
  | [_, _, _, _, _, _, _, _, _, _, _, _, _, _, _, _], _ => rfl
theorem num16 (a0 a1 a2 a3 a4 a5 a6 a7 a8 a9 b0 b1 b2 b3 b4 b5 : Nat) : (a0 + 256 * (a1 + 256 * (a2 + 256 * (a3 + 256 * (a4 + 256 * (a5 + 256 * (a6 + 256 * (a7 + 256 * 0)))))))) + 18446744073709551616 * (a8 + 256 * (a9 + 256 * (b0 + 256 * (b1 + 256 * (b2 + 256 * (b3 + 256 * (b4 + 256 * (b5 + 256 * 0)))))))) =
    a0 + 256 * (a1 + 256 * (a2 + 256 * (a3 + 256 * (a4 + 256 * (a5 + 256 * (a6 + 256 * (a7 + 256 * (a8 + 256 * (a9 + 256 * (b0 + 256 * (b1 + 256 * (b2 + 256 * (b3 + 256 * (b4 + 256 * (b5 + 256 * 0))))))))))))))) := by omega
theorem half_num (k : Nat → Byte) : leN (List.zipWith (· &&& ·) [k 0, k 1, k 2, k 3, k 4, k 5, k 6, k 7] maskR) + 18446744073709551616 * leN (List.zipWith (· &&& ·) [k 8, k 9, k 10, k 11, k 12, k 13, k 14, k 15] maskR2) =
    valD [(k 0).toNat, (k 1).toNat, (k 2).toNat, (k 3).toNat % 16, (k 4).toNat / 4 * 4, (k 5).toNat, (k 6).toNat, (k 7).toNat % 16, (k 8).toNat / 4 * 4, (k 9).toNat, (k 10).toNat, (k 11).toNat % 16, (k 12).toNat / 4 * 4, (k 13).toNat, (k 14).toNat, (k 15).toNat % 16] := by
  simp only [maskR, maskR2, List.zipWith_cons_cons, List.zipWith_nil_left, leN, and255, and15, and252, valD]
  exact num16 ..
theorem halfD_false (key : List Byte) (hk : key.length = 32) : valD (halfD key false 16) = rN key := by
  have hw1 : wordB maskR = 1152921487695413247#64 := by decide +kernel
  have hw2 : wordB maskR2 = 1152921487695413244#64 := by decide +kernel
  show _ = (wordB (key.take 8) &&& 1152921487695413247#64).toNat + 18446744073709551616 * (wordB ((key.drop 8).take 8) &&& 1152921487695413244#64).toNat
  rw [← hw1, ← hw2, wordB_and _ _ (by simp [maskR, hk]), wordB_and _ _ (by simp [maskR2, hk]), wordB_val _ (by simp [maskR]; omega), wordB_val _ (by simp [maskR2]; omega)]
  have e := list16 (key.take 16) 0#8 (by simp [hk])
  have e0 : ∀ j, j < 16 → (key.take 16).getD j 0#8 = key.getD j 0#8 := fun j hj => by
    rw [List.getD_eq_getElem?_getD, List.getElem?_take_of_lt hj, List.getD_eq_getElem?_getD]
  rw [e0 0 (by omega), e0 1 (by omega), e0 2 (by omega), e0 3 (by omega), e0 4 (by omega), e0 5 (by omega), e0 6 (by omega), e0 7 (by omega),
    e0 8 (by omega), e0 9 (by omega), e0 10 (by omega), e0 11 (by omega), e0 12 (by omega), e0 13 (by omega), e0 14 (by omega), e0 15 (by omega)] at e
  have e1 : key.take 8 = (key.take 16).take 8 := by rw [List.take_take]; rfl
  have e2 : (key.drop 8).take 8 = (key.take 16).drop 8 := by rw [List.drop_take]
  rw [e1, e2, e]
  exact (half_num fun j => key.getD j 0#8).symm
end Go.Sl

/- the document's answer for the code: half. -/
set_option maxHeartbeats 4000000
set_option maxRecDepth 10000
set_option linter.unusedVariables false
set_option linter.unusedSimpArgs false
namespace Go.Sl
open Go Go.Proofs
attribute [local irreducible] cl pt own old pur ex all den denOps denS xOps xC cX CX xthen xblk xcut xloop xgo xng retX resX Calls PV Rd Con
theorem half_x {L : List Asrt} (key : List Byte) (hk : key.length = 32) (s : Bool) :
    Con Tryz.prog 80 [.agg (key.map u8b).toArray, .bool s] L (fun r M => ∃ a2 c2, r = .slice a2 (halfD key s 16).length c2 ∧ M = own 3 1 r (halfD key s 16).length ((halfD key s 16).map nv) :: L) := by
  refine fn_x Tryz.func80 rfl rfl rfl Tryz.mixed (by kernel_rfl) ?_
  intro w0
  refine Ct.o ?_
  refine Zgb ?_
  refine Zh5 rfl ?_; intro b2
  first|refine Zhg (Za2 rfl) ?_|refine Zhg (Zas rfl) ?_
  refine Zg3 ?_
  refine Ct.o ?_
  refine Zgb ?_
  first|refine Zhg (Za2 rfl) ?_|refine Zhg (Zas rfl) ?_
  refine Zg3 ?_
  refine Ct.o ?_
  refine Zgb ?_
  first|refine Zhg (Zaz rfl) ?_|refine Zhg (Zas rfl) ?_
  refine Zg3 ?_
  refine Ct.o ?_
  refine Zgo [(5, 40)] (by kernel_rfl) (fun t : Nat × Option Addr × Nat => t.1 ≤ 16) (fun t => own 3 1 (.slice t.2.1 (halfD key s t.1).length t.2.2) (halfD key s t.1).length ((halfD key s t.1).map nv) :: cl b2 (key.map u8b).toArray 23 :: L)
    (fun t => [(6, nv t.1), (5, .slice t.2.1 (halfD key s t.1).length t.2.2)]) (fun t => 16 - t.1) (0, none, 0) (by omega) (Imp.own_nil) ⟨rfl, rfl, trivial⟩ ?_
  rintro ⟨i, da, dc⟩ u hi
  dsimp only at hi ⊢
  have hdl := halfD_len key s i
  have hg : i < 16 → ((key.map u8b).toArray)[i]? = some (u8b (key.getD i 0#8)) := fun h => by
    rw [getL (by omega), List.getD_eq_getElem?_getD, List.getElem?_eq_getElem (by omega)]; rfl
  have hg2 : i < 16 → ((key.map u8b).toArray)[16 + i]? = some (u8b (key.getD (16 + i) 0#8)) := fun h => by
    rw [getL (by omega), List.getD_eq_getElem?_getD, List.getElem?_eq_getElem (by omega)]; rfl
  have hb := (key.getD i 0#8).isLt
  refine Ct.o ?_
  refine Zgb ?_
  first|refine Zhg (Zat rfl) ?_|refine Zhg (Zar rfl) ?_
  first|refine Zhg (Zmf (b := 16) rfl rfl) ?_|refine Zhg (Zbn rfl rfl) ?_
  refine Zg3 ?_
  refine Ct.o ?_
  refine Zgg rfl (fun hA => ?_) (fun hA => ?_)
  · refine Ct.o ?_
    refine Zgb ?_
    first|refine Zhg (Zat rfl) ?_|refine Zhg (Zar rfl) ?_
    first|refine Zhg (Zl5 rfl rfl) ?_|refine Zhg (Zl3 rfl rfl) ?_
    refine Zhp rfl qH (hg hA) ?_
    refine Zhg (Zjt rfl) ?_
    first|refine Zhg (Zaz rfl) ?_|refine Zhg (Zas rfl) ?_
    refine Zg3 ?_
    refine Ct.o ?_
    refine Zgb ?_
    first|refine Zhg (Zau rfl) ?_|refine Zhg (Zar rfl) ?_
    refine Zg3 ?_
    refine Ct.o ?_
    refine Zgn [(7, 7), (17, 36)] (by kernel_rfl) (fun _ : Unit => True) (fun _ => own 3 1 (.slice da (halfD key s i).length dc) (halfD key s i).length ((halfD key s i).map nv) :: cl b2 (key.map u8b).toArray 23 :: L) (fun _ => [(7, nv (halfF key s i))]) ?_ ?_
    · cases s with
      | true =>
        refine Zge rfl ?_
        have e : halfF key true i = (key.getD (16 + i) 0#8).toNat := by unfold halfF; rw [if_pos rfl]
        rw [e]
        refine Ct.o ?_
        refine Zgb ?_
        first|refine Zhg (Zat rfl) ?_|refine Zhg (Zar rfl) ?_
        first|refine Zhg (Zma (a := 16) rfl rfl) ?_|refine Zhg (Zbg rfl rfl) ?_
        first|refine Zhg (Zl5 (n := 16 + i) rfl (int_eq (by push_cast; omega))) ?_|refine Zhg (Zl3 (n := 16 + i) rfl (int_eq (by push_cast; omega))) ?_
        refine Zhp rfl qH (hg2 hA) ?_
        refine Zhg (Zjt rfl) ?_
        first|refine Zhg (Zaz rfl) ?_|refine Zhg (Zas rfl) ?_
        refine Zg3 ?_
        refine Ct.o ?_
        exact Zgk () trivial qI ⟨rfl, trivial⟩
      | false =>
        refine Zgf rfl ?_
        by_cases h3 : i % 4 = 3
        · have e : halfF key false i = (key.getD i 0#8).toNat % 16 := by unfold halfF; rw [if_neg (by decide), if_pos h3]
          rw [e]
          refine Ct.o ?_
          refine Zgb ?_
          first|refine Zhg (Zat rfl) ?_|refine Zhg (Zar rfl) ?_
          first|refine Zhg (Zme (b := 4) rfl rfl) ?_|refine Zhg (Zbl rfl rfl) ?_
          first|refine Zhg (Zmj (b := 3) rfl rfl) ?_|refine Zhg (Zbr rfl rfl) ?_
          refine Zhm 24 rfl (decide_eq_true (h3)) ?_
          refine Zg3 ?_
          refine Ct.o ?_
          refine Zge rfl ?_
          refine Ct.o ?_
          refine Zgb ?_
          first|refine Zhg (Zat rfl) ?_|refine Zhg (Zar rfl) ?_
          first|refine Zhg (Zme (b := 16) rfl rfl) ?_|refine Zhg (Zbl rfl rfl) ?_
          first|refine Zhg (Zaz rfl) ?_|refine Zhg (Zas rfl) ?_
          refine Zg3 ?_
          refine Ct.o ?_
          exact Zgk () trivial qI ⟨rfl, trivial⟩
        · refine Ct.o ?_
          refine Zgb ?_
          first|refine Zhg (Zat rfl) ?_|refine Zhg (Zar rfl) ?_
          first|refine Zhg (Zme (b := 4) rfl rfl) ?_|refine Zhg (Zbl rfl rfl) ?_
          first|refine Zhg (Zmj (b := 3) rfl rfl) ?_|refine Zhg (Zbr rfl rfl) ?_
          refine Zhn 24 rfl (decide_eq_false (h3)) ?_
          refine Zg3 ?_
          refine Ct.o ?_
          refine Zgf rfl ?_
          by_cases h0 : i % 4 = 0
          · by_cases hp : 0 < i
            · have e : halfF key false i = (key.getD i 0#8).toNat / 4 * 4 := by unfold halfF; rw [if_neg (by decide), if_neg h3, if_pos ⟨h0, hp⟩]
              rw [e]
              refine Ct.o ?_
              refine Zgb ?_
              first|refine Zhg (Zat rfl) ?_|refine Zhg (Zar rfl) ?_
              first|refine Zhg (Zme (b := 4) rfl rfl) ?_|refine Zhg (Zbl rfl rfl) ?_
              first|refine Zhg (Zmj (b := 0) rfl rfl) ?_|refine Zhg (Zbr rfl rfl) ?_
              refine Zhm 29 rfl (decide_eq_true (h0)) ?_
              first|refine Zhg (Zau rfl) ?_|refine Zhg (Zar rfl) ?_
              first|refine Zhi rfl ?_|refine Zhj rfl ?_|(refine Zhh rfl ?_; (first|refine Zhg (Zat rfl) ?_|refine Zhg (Zar rfl) ?_))
              first|refine Zhi rfl ?_|refine Zhj rfl ?_|(refine Zhh rfl ?_; (first|refine Zhg (Zmh (b := 0) rfl rfl) ?_|refine Zhg (Zbp rfl rfl) ?_))
              refine Zhm 32 rfl (decide_eq_true (hp)) ?_
              first|refine Zhg (Zdz rfl rfl) ?_|refine Zhg (Zd0 rfl rfl) ?_|refine Zhg (Za8 rfl rfl) ?_|refine Zhg (Za9 rfl rfl) ?_|refine Zhg (Za6 rfl rfl) ?_|refine Zhg (Za7 rfl rfl) ?_
              refine Zg3 ?_
              refine Ct.o ?_
              refine Zge rfl ?_
              refine Ct.o ?_
              refine Zgb ?_
              first|refine Zhg (Zat rfl) ?_|refine Zhg (Zar rfl) ?_
              first|refine Zhg (Zmd (b := 4) rfl rfl) ?_|refine Zhg (Zbj rfl rfl) ?_
              first|refine Zhg (Zmc (b := 4) rfl rfl) ?_|refine Zhg (Zbi rfl rfl) ?_
              first|refine Zhg (Zaz rfl) ?_|refine Zhg (Zas rfl) ?_
              refine Zg3 ?_
              refine Ct.o ?_
              exact Zgk () trivial qI ⟨rfl, trivial⟩
            · have e : halfF key false i = (key.getD i 0#8).toNat := by unfold halfF; rw [if_neg (by decide), if_neg h3, if_neg (fun h => hp h.2)]
              rw [e]
              refine Ct.o ?_
              refine Zgb ?_
              first|refine Zhg (Zat rfl) ?_|refine Zhg (Zar rfl) ?_
              first|refine Zhg (Zme (b := 4) rfl rfl) ?_|refine Zhg (Zbl rfl rfl) ?_
              first|refine Zhg (Zmj (b := 0) rfl rfl) ?_|refine Zhg (Zbr rfl rfl) ?_
              refine Zhm 29 rfl (decide_eq_true (h0)) ?_
              first|refine Zhg (Zau rfl) ?_|refine Zhg (Zar rfl) ?_
              first|refine Zhi rfl ?_|refine Zhj rfl ?_|(refine Zhh rfl ?_; (first|refine Zhg (Zat rfl) ?_|refine Zhg (Zar rfl) ?_))
              first|refine Zhi rfl ?_|refine Zhj rfl ?_|(refine Zhh rfl ?_; (first|refine Zhg (Zmh (b := 0) rfl rfl) ?_|refine Zhg (Zbp rfl rfl) ?_))
              refine Zhn 32 rfl (decide_eq_false (hp)) ?_
              first|refine Zhg (Zdz rfl rfl) ?_|refine Zhg (Zd0 rfl rfl) ?_|refine Zhg (Za8 rfl rfl) ?_|refine Zhg (Za9 rfl rfl) ?_|refine Zhg (Za6 rfl rfl) ?_|refine Zhg (Za7 rfl rfl) ?_
              refine Zg3 ?_
              refine Ct.o ?_
              refine Zgf rfl ?_
              refine Ct.o ?_
              exact Zgk () trivial qI ⟨rfl, trivial⟩
          · have e : halfF key false i = (key.getD i 0#8).toNat := by unfold halfF; rw [if_neg (by decide), if_neg h3, if_neg (fun h => h0 h.1)]
            rw [e]
            refine Ct.o ?_
            refine Zgb ?_
            first|refine Zhg (Zat rfl) ?_|refine Zhg (Zar rfl) ?_
            first|refine Zhg (Zme (b := 4) rfl rfl) ?_|refine Zhg (Zbl rfl rfl) ?_
            first|refine Zhg (Zmj (b := 0) rfl rfl) ?_|refine Zhg (Zbr rfl rfl) ?_
            refine Zhn 29 rfl (decide_eq_false (h0)) ?_
            first|refine Zhg (Zau rfl) ?_|refine Zhg (Zar rfl) ?_
            first|refine Zhi rfl ?_|refine Zhj rfl ?_|(refine Zhh rfl ?_; (first|refine Zhg (Zat rfl) ?_|refine Zhg (Zar rfl) ?_))
            first|refine Zhi rfl ?_|refine Zhj rfl ?_|(refine Zhh rfl ?_; (first|refine Zhg (Zmh (b := 0) rfl rfl) ?_|refine Zhg (Zbp rfl rfl) ?_))
            first|refine Zhg (Zdz rfl rfl) ?_|refine Zhg (Zd0 rfl rfl) ?_|refine Zhg (Za8 rfl rfl) ?_|refine Zhg (Za9 rfl rfl) ?_|refine Zhg (Za6 rfl rfl) ?_|refine Zhg (Za7 rfl rfl) ?_
            refine Zg3 ?_
            refine Ct.o ?_
            refine Zgf rfl ?_
            refine Ct.o ?_
            exact Zgk () trivial qI ⟨rfl, trivial⟩
    intro _ u2 _
    refine Ct.o ?_
    refine Zgb ?_
    first|refine Zhg (Zaw rfl) ?_|refine Zhg (Zar rfl) ?_
    first|refine Zhg (Zat rfl) ?_|refine Zhg (Zar rfl) ?_
    refine Zh7 (cs := #[.int .i64 _]) (by omega) (by omega) rfl ?_; intro b39
    refine Zia rfl rfl qH (Rd.cl (xs := [nv (halfF key s i)]) qH rfl qZ rfl) qN (by omega) qS ?_; intro a3 c3
    first|refine Zhg (Za2 rfl) ?_|refine Zhg (Zas rfl) ?_
    refine Zg3 ?_
    refine Ct.o ?_
    refine Zgb ?_
    first|refine Zhg (Zat rfl) ?_|refine Zhg (Zar rfl) ?_
    first|refine Zhg (Zma (b := 1) rfl rfl) ?_|refine Zhg (Zbg rfl rfl) ?_
    first|refine Zhg (Zaz rfl) ?_|refine Zhg (Zas rfl) ?_
    refine Zg3 ?_
    refine Ct.o ?_
    refine Zgl (i + 1, a3, c3) qO qO ?_ ?_
    · dsimp only; rw [halfD_succ, List.length_append, List.map_append]; exact Imp.arr (by repeat (first|exact Arr.nil|exact Arr.stop|refine Arr.cons (by repeat constructor) ?_|refine Arr.skip ?_))
    · dsimp only; rw [halfD_succ, List.length_append]; exact ⟨rfl, rfl, trivial⟩
  · have hie : i = 16 := by omega
    subst hie
    refine Ct.o ?_
    refine Zgb ?_
    first|refine Zhg (Zaw rfl) ?_|refine Zhg (Zar rfl) ?_
    first|refine Zhg (Za2 rfl) ?_|refine Zhg (Zas rfl) ?_
    refine Zg3 ?_
    refine Ct.o ?_
    refine rx1 (Zhc rfl (Zg7)) ?_
    exact ⟨_, ⟨da, dc, rfl, rfl⟩, by exact Imp.arr (by repeat (first|exact Arr.nil|exact Arr.stop|refine Arr.cons (by repeat constructor) ?_|refine Arr.skip ?_))⟩
end Go.Sl

/- the document's answer for the code: Sum is the code. -/
set_option maxHeartbeats 4000000
set_option maxRecDepth 10000
set_option linter.unusedVariables false
set_option linter.unusedSimpArgs false
namespace Go.Sl
open Go Go.Proofs
attribute [local irreducible] cl pt own old pur ex all den denOps denS xOps xC cX CX xthen xblk xcut xloop xgo xng retX resX Calls PV Rd Con
theorem digB_val : ∀ (n : Nat) (d : List Nat), Dig d → leN ((List.range n).map fun j => BitVec.ofInt 8 ((d.getD j 0 : Nat) : Int)) = valD d % 256 ^ n
  | 0, d, _ => by simp [leN, Nat.mod_one]
  | n + 1, [], h => by
    have : ∀ m, leN ((List.range m).map fun j => BitVec.ofInt 8 ((([] : List Nat).getD j 0 : Nat) : Int)) = 0 := by
      intro m
      have e : ((List.range m).map fun j => BitVec.ofInt 8 ((([] : List Nat).getD j 0 : Nat) : Int)) = List.replicate m 0#8 := by
        apply List.ext_getElem (by simp)
        intro j h1 h2
        simp
      rw [e, leN_zeros]
    rw [this]; simp [valD]
  | n + 1, x :: d, h => by
    have hx := h x (by simp)
    have ih := digB_val n d (fun y hy => h y (by simp [hy]))
    rw [List.range_succ_eq_map, List.map_cons, List.map_map]
    show (BitVec.ofInt 8 ((x : Nat) : Int)).toNat + 256 * leN ((List.range n).map fun j => BitVec.ofInt 8 ((d.getD j 0 : Nat) : Int)) = _
    rw [ih, BitVec.toNat_ofInt]
    simp only [valD]
    have hp : 0 < 256 ^ n := Nat.pow_pos (by omega)
    have e1 : ((x : Nat) : Int) % ((2 ^ 8 : Nat) : Int) = x := by omega
    have e2 : (x + 256 * valD d) % 256 ^ (n + 1) = x + 256 * (valD d % 256 ^ n) := by
      rw [Nat.pow_succ, Nat.mul_comm (256 ^ n) 256, Nat.mod_mul, Nat.add_mul_mod_self_left, Nat.mod_eq_of_lt hx, Nat.add_mul_div_left _ _ (by omega), Nat.div_eq_of_lt hx, Nat.zero_add]
    rw [e1, e2]
    simp
def outD (d : List Nat) (j : Nat) : Byte := BitVec.ofInt 8 ((d.getD j 0 : Nat) : Int)
theorem outD_code (key m : List Byte) (hk : key.length = 32) (d : List Nat) (hd : Dig d) (hv : valD d = polyN key m + sN key) : (List.range 16).map (outD d) = code key m := by
  apply leN_inj (by rw [code_len]; simp)
  rw [code_val key m hk]
  have := digB_val 16 d hd
  rw [show (256 : Nat) ^ 16 = 340282366920938463463374607431768211456 by decide, hv] at this
  exact this
theorem uptoT_over (N : Nat) (d : List Nat) (i : Nat) (h : d.length ≤ i) : uptoT N (outD d) i = uptoT N (outD d) N := by
  apply List.map_congr_left
  intro j hj
  have hj : j < N := by simpa using hj
  by_cases h1 : j < i
  · rw [if_pos h1, if_pos hj]
  · rw [if_neg h1, if_pos hj]
    unfold outD
    rw [List.getD_eq_getElem?_getD, List.getElem?_eq_none (by omega)]; rfl
theorem accN_lt (R : Nat) (m : List Byte) (i : Nat) : accN R m i < 1361129467683753853853498429727072845819 := by
  unfold accN finN
  have key2 : ∀ (m : List Byte) (s : Nat × List Byte), s.1 < 1361129467683753853853498429727072845819 → (m.foldl (stepN R) s).1 < 1361129467683753853853498429727072845819 := by
    intro m
    induction m with
    | nil => exact fun _ h => h
    | cons x m ih =>
      intro s hs
      refine ih _ ?_
      unfold stepN
      split
      · exact Nat.mod_lt _ (by omega)
      · exact hs
  split
  · exact key2 _ _ (by show 0 < _; omega)
  · exact Nat.mod_lt _ (by omega)
theorem accN_zero (R : Nat) (m : List Byte) : accN R m 0 = 0 := by unfold accN; rw [List.take_zero]; rfl
attribute [local irreducible] accN polyN sN rN code halfD
theorem rsum_x {L : List Asrt} (key : List Byte) (hk : key.length = 32) {v : Value} {m : List Byte} (h : Bs L v m) (hm : m.length ≤ 140737488355328) :
    Con Tryz.prog 65 [.agg (key.map u8b).toArray, v] L (fun r M => r = .agg ((code key m).map u8b).toArray ∧ L = M) := by
  refine Con.get (fun w0 w F H => h.sh _ _ _ H) ?_
  rintro ⟨va, vc, rfl, hvc, hvcm⟩
  have hh := halfD_len key false 16
  have hh2 := halfD_len key true 16
  have hhd := halfD_dig key false 16
  have hhv := halfD_false key hk
  generalize hrd : halfD key false 16 = rd at hh hhd hhv
  have hR : valD rd < 256 ^ 16 := valD_le hhd (by omega)
  refine fn_x Tryz.func65 rfl rfl rfl Tryz.mixed (by kernel_rfl) ?_
  intro w0
  refine Ct.o ?_
  refine Zgb ?_
  refine Zh5 rfl ?_; intro b2
  refine Zhz (cs := ((List.replicate 16 0#8).map u8b).toArray) rfl ?_; intro b4
  refine Zg3 ?_
  refine Ct.o ?_
  refine Zgb ?_
  first|refine Zhr rfl qH qZ ?_|refine Zhq rfl qH qZ rfl ?_
  refine Zh8 rfl (by kernel_rfl) (half_x key hk false) rfl qT ?_
  rintro _ _ ⟨ra, rc, rfl, rfl⟩
  refine Zg2 qA ?_
  first|refine Zhg (Za2 rfl) ?_|refine Zhg (Zas rfl) ?_
  refine Zg3 ?_
  refine Ct.o ?_
  rw [hrd]
  refine Ct.o ?_
  refine Zgb ?_
  refine Zh7 (cs := #[.int .i64 _]) (by omega) (by omega) rfl ?_; intro b15
  first|refine Zhg (Za2 rfl) ?_|refine Zhg (Zas rfl) ?_
  refine Zg3 ?_
  refine Ct.o ?_
  refine Zgb ?_
  first|refine Zhg (Zaz rfl) ?_|refine Zhg (Zas rfl) ?_
  refine Zg3 ?_
  refine Ct.o ?_
  refine Zgo [(6, 9), (16, 51)] (by kernel_rfl) (fun s : Nat × Option Addr × Nat × List Nat => Dig s.2.2.2 ∧ s.2.2.2.length ≤ 17 ∧ valD s.2.2.2 = accN (rN key) m s.1 ∧ (((m.take s.1).foldl (stepN (rN key)) (0, [])).2 = [] ∨ m.length ≤ s.1) ∧ s.1 ≤ m.length + 16)
    (fun s => own 3 1 (.slice s.2.1 s.2.2.2.length s.2.2.1) s.2.2.2.length (s.2.2.2.map nv) :: own 3 1 (.slice ra rd.length rc) rd.length (rd.map nv) :: cl b2 (key.map u8b).toArray 23 :: cl b4 ((List.replicate 16 0#8).map u8b).toArray 65 :: L) (fun s => [(7, nv s.1), (6, .slice s.2.1 s.2.2.2.length s.2.2.1)]) (fun s => m.length + 16 - s.1)
    (0, some ⟨b15, 0, none⟩, 1, [0])
    ⟨by intro x hx; simp at hx; omega, by simp, by dsimp only; rw [accN_zero]; rfl, .inl rfl, by dsimp only; omega⟩ (Imp.trans (Imp.arr (N := cl b15 #[.int .i64 0] 3 :: own 3 1 (.slice ra rd.length rc) rd.length (rd.map nv) :: cl b2 (key.map u8b).toArray 23 :: cl b4 ((List.replicate 16 0#8).map u8b).toArray 65 :: L) qV) (Imp.own_mk (by simp) (by simp) rfl rfl)) ⟨rfl, rfl, trivial⟩ ?_
  rintro ⟨i, aa, ca, ac⟩ u ⟨had, hal, hav, hst, hib⟩
  dsimp only at had hal hav hst hib ⊢
  obtain ⟨E, hEe⟩ : ∃ E, E = own 3 1 (.slice aa ac.length ca) ac.length (ac.map nv) :: own 3 1 (.slice ra rd.length rc) rd.length (rd.map nv) :: cl b2 (key.map u8b).toArray 23 :: cl b4 ((List.replicate 16 0#8).map u8b).toArray 65 :: L := ⟨_, rfl⟩
  have hE : Imp E (own 3 1 (.slice ra rd.length rc) rd.length (rd.map nv) :: cl b2 (key.map u8b).toArray 23 :: cl b4 ((List.replicate 16 0#8).map u8b).toArray 65 :: L) := by rw [hEe]; exact Imp.tail
  have hrda : Rd E 1 (.slice aa ac.length ca) ac.length (ac.map nv) := by rw [hEe]; exact rd_own .here
  have hEL : Imp E L := hE.trans (Imp.arr qV)
  rw [← hEe]
  refine Ct.o ?_
  refine Zgb ?_
  first|refine Zhg (Zat rfl) ?_|refine Zhg (Zar rfl) ?_
  first|refine Zhg (Zaw rfl) ?_|refine Zhg (Zar rfl) ?_
  first|refine Zhg (Zcr rfl) ?_|refine Zhg (Zct) ?_|refine Zhg (Zcu rfl) ?_
  first|refine Zhg (Zmf rfl rfl) ?_|refine Zhg (Zbn rfl rfl) ?_
  refine Zg3 ?_
  refine Ct.o ?_
  refine Zgg rfl (fun hA => ?_) (fun hA => ?_)
  · have h0 : ((m.take i).foldl (stepN (rN key)) (0, [])).2 = [] := by
      rcases hst with h1|h1
      · exact h1
      · omega
    refine Ct.o ?_
    refine Zgb ?_
    first|refine Zhg (Za2 rfl) ?_|refine Zhg (Zas rfl) ?_
    refine Zg3 ?_
    refine Ct.o ?_
    refine Zgb ?_
    first|refine Zhg (Zat rfl) ?_|refine Zhg (Zar rfl) ?_
    first|refine Zhg (Zaz rfl) ?_|refine Zhg (Zas rfl) ?_
    refine Zg3 ?_
    repeat (first|refine zA ?_|refine zB ?_|refine zD ?_|refine zE ?_|refine zF ?_|refine zG ?_|refine zH ?_|refine zI ?_|refine zJ ?_|refine zK ?_|refine zL ?_|refine zM rfl ?_|refine zN ?_|refine zO ?_|refine zP ?_|refine zQ ?_)
    refine Zgn [(8, 9), (23, 42)] (by kernel_rfl) (fun t : Option Addr × Nat => True)
      (fun t => own 3 1 (.slice t.1 (digL ((m.drop i).take 16)).length t.2) (digL ((m.drop i).take 16)).length ((digL ((m.drop i).take 16)).map nv) :: E)
      (fun t => [(8, .slice t.1 (digL ((m.drop i).take 16)).length t.2)]) ?_ ?_
    · refine Ct.o ?_
      refine Zgo [(8, 9), (23, 42)] (by kernel_rfl) (fun t : Nat × Option Addr × Nat => t.1 ≤ 16 ∧ i + t.1 ≤ m.length)
        (fun t => own 3 1 (.slice t.2.1 (digL ((m.drop i).take t.1)).length t.2.2) (digL ((m.drop i).take t.1)).length ((digL ((m.drop i).take t.1)).map nv) :: E)
        (fun t => [(9, nv (i + t.1)), (8, .slice t.2.1 (digL ((m.drop i).take t.1)).length t.2.2)]) (fun t => 16 - t.1) (0, none, 0) ⟨by omega, by dsimp only; omega⟩ Imp.own_nil ⟨rfl, rfl, trivial⟩ ?_
      rintro ⟨j, da, dc⟩ u2 ⟨hj, hjl⟩
      dsimp only at hj hjl ⊢
      have hdl : (digL ((m.drop i).take j)).length = j := by simp [digL]; omega
      by_cases hB : i + j < m.length
      · by_cases hC : i + j < i + 16
        · refine Ct.o ?_
          refine Zgb ?_
          first|refine Zhg (Zat rfl) ?_|refine Zhg (Zar rfl) ?_
          first|refine Zhg (Zaw rfl) ?_|refine Zhg (Zar rfl) ?_
          first|refine Zhg (Zcr rfl) ?_|refine Zhg (Zct) ?_|refine Zhg (Zcu rfl) ?_
          first|refine Zhg (Zmf rfl rfl) ?_|refine Zhg (Zbn rfl rfl) ?_
          refine Zhm 26 rfl (decide_eq_true (hB)) ?_
          first|refine Zhg (Zau rfl) ?_|refine Zhg (Zar rfl) ?_
          first|refine Zhi rfl ?_|refine Zhj rfl ?_|(refine Zhh rfl ?_; (first|refine Zhg (Zat rfl) ?_|refine Zhg (Zar rfl) ?_))
          first|refine Zhi rfl ?_|refine Zhj rfl ?_|(refine Zhh rfl ?_; (first|refine Zhg (Zat rfl) ?_|refine Zhg (Zar rfl) ?_))
          first|refine Zhi rfl ?_|refine Zhj rfl ?_|(refine Zhh rfl ?_; (first|refine Zhg (Zma (b := 16) rfl rfl) ?_|refine Zhg (Zbg rfl rfl) ?_))
          first|refine Zhi rfl ?_|refine Zhj rfl ?_|(refine Zhh rfl ?_; (first|refine Zhg (Zmf rfl rfl) ?_|refine Zhg (Zbn rfl rfl) ?_))
          refine Zhm 31 rfl (decide_eq_true (hC)) ?_
          first|refine Zhg (Zdz rfl rfl) ?_|refine Zhg (Zd0 rfl rfl) ?_|refine Zhg (Za8 rfl rfl) ?_|refine Zhg (Za9 rfl rfl) ?_|refine Zhg (Za6 rfl rfl) ?_|refine Zhg (Za7 rfl rfl) ?_
          refine Zg3 ?_
          refine Ct.o ?_
          refine Zge rfl ?_
          refine Ct.o ?_
          refine Zgt (fun F w H => (h.imp (Imp.tail.trans hEL)).some (by omega) H) ?_
          rintro ⟨a1, a2, rfl⟩
          refine Ct.o ?_
          refine Zgb ?_
          first|refine Zhg (Zaw rfl) ?_|refine Zhg (Zar rfl) ?_
          first|refine Zhg (Zaw rfl) ?_|refine Zhg (Zar rfl) ?_
          first|refine Zhg (Zat rfl) ?_|refine Zhg (Zar rfl) ?_
          first|refine Zhg (Zl4 rfl rfl) ?_|refine Zhg (Zl1 rfl rfl) ?_
          refine Zic (j := i + j) rfl (h.rd.imp (Imp.tail.trans hEL)) hB (getM hB) ?_
          refine Zhg (Zjt rfl) ?_
          refine Zh7 (cs := #[.int .i64 _]) (by omega) (by omega) rfl ?_; intro b41
          refine Zia rfl rfl qH (Rd.cl (xs := [nv m[i + j].toNat]) qH rfl qZ rfl) qN (by omega) qS ?_; intro a3 c3
          first|refine Zhg (Za2 rfl) ?_|refine Zhg (Zas rfl) ?_
          refine Zg3 ?_
          refine Ct.o ?_
          refine Zgb ?_
          first|refine Zhg (Zat rfl) ?_|refine Zhg (Zar rfl) ?_
          first|refine Zhg (Zma (b := 1) rfl rfl) ?_|refine Zhg (Zbg rfl rfl) ?_
          first|refine Zhg (Zaz rfl) ?_|refine Zhg (Zas rfl) ?_
          refine Zg3 ?_
          refine Ct.o ?_
          have e : digL ((m.drop i).take (j + 1)) = digL ((m.drop i).take j) ++ [m[i + j].toNat] := by
            rw [List.take_succ_eq_append_getElem (by simp; omega), digL_app]; simp [digL]
          refine Zgl (j + 1, a3, c3) qO ⟨by dsimp only; omega, by dsimp only; omega⟩ ?_ ?_
          · dsimp only; rw [e, List.length_append, List.map_append]; exact Imp.arr (by repeat (first|exact Arr.nil|exact Arr.stop|refine Arr.cons (by repeat constructor) ?_|refine Arr.skip ?_))
          · dsimp only; rw [e, List.length_append]; exact ⟨rfl, rfl, trivial⟩
        · refine Ct.o ?_
          refine Zgb ?_
          first|refine Zhg (Zat rfl) ?_|refine Zhg (Zar rfl) ?_
          first|refine Zhg (Zaw rfl) ?_|refine Zhg (Zar rfl) ?_
          first|refine Zhg (Zcr rfl) ?_|refine Zhg (Zct) ?_|refine Zhg (Zcu rfl) ?_
          first|refine Zhg (Zmf rfl rfl) ?_|refine Zhg (Zbn rfl rfl) ?_
          refine Zhm 26 rfl (decide_eq_true (hB)) ?_
          first|refine Zhg (Zau rfl) ?_|refine Zhg (Zar rfl) ?_
          first|refine Zhi rfl ?_|refine Zhj rfl ?_|(refine Zhh rfl ?_; (first|refine Zhg (Zat rfl) ?_|refine Zhg (Zar rfl) ?_))
          first|refine Zhi rfl ?_|refine Zhj rfl ?_|(refine Zhh rfl ?_; (first|refine Zhg (Zat rfl) ?_|refine Zhg (Zar rfl) ?_))
          first|refine Zhi rfl ?_|refine Zhj rfl ?_|(refine Zhh rfl ?_; (first|refine Zhg (Zma (b := 16) rfl rfl) ?_|refine Zhg (Zbg rfl rfl) ?_))
          first|refine Zhi rfl ?_|refine Zhj rfl ?_|(refine Zhh rfl ?_; (first|refine Zhg (Zmf rfl rfl) ?_|refine Zhg (Zbn rfl rfl) ?_))
          refine Zhn 31 rfl (decide_eq_false (hC)) ?_
          first|refine Zhg (Zdz rfl rfl) ?_|refine Zhg (Zd0 rfl rfl) ?_|refine Zhg (Za8 rfl rfl) ?_|refine Zhg (Za9 rfl rfl) ?_|refine Zhg (Za6 rfl rfl) ?_|refine Zhg (Za7 rfl rfl) ?_
          refine Zg3 ?_
          refine Ct.o ?_
          refine Zgf rfl ?_
          refine Ct.o ?_
          have e : j = 16 := by omega
          subst e
          exact Zgk (da, dc) trivial qI ⟨rfl, trivial⟩
      · refine Ct.o ?_
        refine Zgb ?_
        first|refine Zhg (Zat rfl) ?_|refine Zhg (Zar rfl) ?_
        first|refine Zhg (Zaw rfl) ?_|refine Zhg (Zar rfl) ?_
        first|refine Zhg (Zcr rfl) ?_|refine Zhg (Zct) ?_|refine Zhg (Zcu rfl) ?_
        first|refine Zhg (Zmf rfl rfl) ?_|refine Zhg (Zbn rfl rfl) ?_
        refine Zhn 26 rfl (decide_eq_false (hB)) ?_
        first|refine Zhg (Zau rfl) ?_|refine Zhg (Zar rfl) ?_
        first|refine Zhi rfl ?_|refine Zhj rfl ?_|(refine Zhh rfl ?_; (first|refine Zhg (Zat rfl) ?_|refine Zhg (Zar rfl) ?_))
        first|refine Zhi rfl ?_|refine Zhj rfl ?_|(refine Zhh rfl ?_; (first|refine Zhg (Zat rfl) ?_|refine Zhg (Zar rfl) ?_))
        first|refine Zhi rfl ?_|refine Zhj rfl ?_|(refine Zhh rfl ?_; (first|refine Zhg (Zma (b := 16) rfl rfl) ?_|refine Zhg (Zbg rfl rfl) ?_))
        first|refine Zhi rfl ?_|refine Zhj rfl ?_|(refine Zhh rfl ?_; (first|refine Zhg (Zmf rfl rfl) ?_|refine Zhg (Zbn rfl rfl) ?_))
        first|refine Zhg (Zdz rfl rfl) ?_|refine Zhg (Zd0 rfl rfl) ?_|refine Zhg (Za8 rfl rfl) ?_|refine Zhg (Za9 rfl rfl) ?_|refine Zhg (Za6 rfl rfl) ?_|refine Zhg (Za7 rfl rfl) ?_
        refine Zg3 ?_
        refine Ct.o ?_
        refine Zgf rfl ?_
        refine Ct.o ?_
        have e : (m.drop i).take j = (m.drop i).take 16 := by
          rw [List.take_of_length_le (by simp; omega), List.take_of_length_le (by simp; omega)]
        refine Zgk (da, dc) trivial ?_ ?_
        · dsimp only; rw [← e]; exact Imp.arr (by repeat (first|exact Arr.nil|exact Arr.stop|refine Arr.cons (by repeat constructor) ?_|refine Arr.skip ?_))
        · dsimp only; rw [← e]; exact ⟨rfl, trivial⟩
    rintro ⟨da, dc⟩ u2 _
    dsimp only
    have hstep := accN_step (rN key) m i hA h0
    generalize hcc : (m.drop i).take 16 = ch at hstep
    have hcl : ch.length ≤ 16 := by rw [← hcc]; simp; omega
    have hdcl := digL_len ch
    refine Ct.o ?_
    refine Zgb ?_
    first|refine Zhg (Zaw rfl) ?_|refine Zhg (Zar rfl) ?_
    refine Zh7 (cs := #[.int .i64 _]) (by omega) (by omega) rfl ?_; intro b44
    refine Zia rfl rfl qH (Rd.cl (xs := [nv 1]) qH rfl qZ rfl) qN (by omega) qS ?_; intro a3 c3
    first|refine Zhg (Za2 rfl) ?_|refine Zhg (Zas rfl) ?_
    refine Zg3 ?_
    refine Ct.o ?_
    have e1 : digL ch ++ [1] = digL (ch ++ [1#8]) := by rw [digL_app]; rfl
    have e2 : (digL ch).length + 1 = (digL (ch ++ [1#8])).length := by rw [← e1]; simp
    have e3 : (digL ch).map nv ++ [nv 1] = (digL (ch ++ [1#8])).map nv := by rw [← e1]; simp
    rw [e2, e3]
    have hcd := digL_dig (ch ++ [1#8])
    have hcv := digL_val (ch ++ [1#8])
    have hcl2 := digL_len (ch ++ [1#8])
    generalize digL (ch ++ [1#8]) = cd at *
    have hcl3 : cd.length ≤ 17 := by rw [hcl2]; simp; omega
    have hsum : valD ac + valD cd < 256 ^ 18 := by
      have h1 := valD_le had hal; have h2 := valD_le hcd hcl3
      rw [show (256 : Nat) ^ 18 = 256 ^ 17 * 256 from Nat.pow_succ ..]; omega
    refine Ct.o ?_
    refine Zgb ?_
    first|refine Zhg (Zaw rfl) ?_|refine Zhg (Zar rfl) ?_
    first|refine Zhg (Zaw rfl) ?_|refine Zhg (Zar rfl) ?_
    refine Zh8 rfl (by kernel_rfl) (add_x (L := own 3 1 (.slice a3 cd.length c3) cd.length (cd.map nv) :: E) (n := 18) (hrda.imp Imp.tail) (rd_own .here) had hcd (by omega) (by omega) (by omega) hsum) rfl qT ?_
    rintro _ _ ⟨a4, c4, s1, hd1, hv1, hl1, rfl, rfl⟩
    refine Zg2 qA ?_
    first|refine Zhg (Zaw rfl) ?_|refine Zhg (Zar rfl) ?_
    refine Zh8 rfl (by kernel_rfl) (mul_x (L := own 3 1 (.slice a4 s1.length c4) s1.length (s1.map nv) :: E) (n := 34) (rd_own .here) ((rd_own .here).imp (Imp.tail.trans hE)) hd1 hhd (by omega) (by omega) (by omega) (by omega) (by
          have h1 := valD_le hd1 hl1
          rw [show (256 : Nat) ^ 34 = 256 ^ 18 * 256 ^ 16 from Nat.pow_add 256 18 16]; exact Nat.mul_lt_mul'' h1 hR)) rfl qT ?_
    rintro _ _ ⟨a5, c5, m1, hd2, hv2, hl2, rfl, rfl⟩
    refine Zg2 qA ?_
    refine Zh8 rfl (by kernel_rfl) (fold_x (L := own 3 1 (.slice a5 m1.length c5) m1.length (m1.map nv) :: E) (rd_own .here) (by omega) hd2) rfl qT ?_
    rintro _ _ ⟨a6, c6, f1, hd3, hv3, hl3, rfl, rfl⟩
    refine Zg2 qA ?_
    first|refine Zhg (Za2 rfl) ?_|refine Zhg (Zas rfl) ?_
    refine Zg3 ?_
    refine Ct.o ?_
    refine Zgb ?_
    first|refine Zhg (Zat rfl) ?_|refine Zhg (Zar rfl) ?_
    first|refine Zhg (Zma (b := 16) rfl rfl) ?_|refine Zhg (Zbg rfl rfl) ?_
    first|refine Zhg (Zaz rfl) ?_|refine Zhg (Zas rfl) ?_
    refine Zg3 ?_
    refine Ct.o ?_
    refine Zgl (i + 16, a6, c6, f1) qO ⟨hd3, hl3, ?_, hstep.2, by dsimp only; omega⟩ ((Imp.arr (N := own 3 1 (.slice a6 f1.length c6) f1.length (f1.map nv) :: E) qV).trans hE.cons) ⟨rfl, rfl, trivial⟩
    dsimp only
    rw [hstep.1, hv3, hv2, hv1, hcv, hav, hhv]
  · have hpoly : valD ac = polyN key m := by rw [hav, accN_end _ _ _ (by omega)]; unfold polyN; rfl
    have hlt := accN_lt (rN key) m i
    have h2d := halfD_dig key true 16
    have h2v := halfD_true key hk
    have hal2 := halfD_len key true 16
    rw [hEe]
    refine Ct.o ?_
    refine Zgb ?_
    first|refine Zhg (Zaw rfl) ?_|refine Zhg (Zar rfl) ?_
    first|refine Zhr rfl qH qZ ?_|refine Zhq rfl qH qZ rfl ?_
    refine Zh8 rfl (by kernel_rfl) (half_x key hk true) rfl qT ?_
    rintro _ _ ⟨ha, hc, rfl, rfl⟩
    refine Zg2 qA ?_
    refine Zh8 rfl (by kernel_rfl) (add_x (L := own 3 1 (.slice aa ac.length ca) ac.length (ac.map nv) :: own 3 1 (.slice ha (halfD key true 16).length hc) (halfD key true 16).length ((halfD key true 16).map nv) :: own 3 1 (.slice ra rd.length rc) rd.length (rd.map nv) :: cl b2 (key.map u8b).toArray 23 :: cl b4 ((List.replicate 16 0#8).map u8b).toArray 65 :: L) (n := 18) (rd_own .here) (rd_own (.there .here)) had h2d (by omega) (by omega) (by omega) (by
          have h1 := valD_le had hal; have h2 := valD_le (n := 17) h2d (by omega)
          rw [show (256 : Nat) ^ 18 = 256 ^ 17 * 256 from Nat.pow_succ ..]; omega)) rfl qT ?_
    rintro _ _ ⟨a7, c7, sm, hsd, hsv, hsl, rfl, rfl⟩
    refine Zg2 qA ?_
    first|refine Zhg (Za2 rfl) ?_|refine Zhg (Zas rfl) ?_
    refine Zg3 ?_
    refine Ct.o ?_
    refine Zgb ?_
    refine Zhz (cs := ((List.replicate 16 0#8).map u8b).toArray) rfl ?_; intro b11
    refine Zg3 ?_
    refine Ct.o ?_
    refine Zgb ?_
    first|refine Zhg (Zaz rfl) ?_|refine Zhg (Zas rfl) ?_
    refine Zg3 ?_
    refine Ct.o ?_
    have hcl16 := code_len key m
    have hcode := outD_code key m hk sm hsd (by rw [hsv, hpoly, h2v])
    refine Zgo [(12, 12), (56, 72)] (by kernel_rfl) (fun k : Nat => k ≤ 16) (fun k => cl b11 ((uptoT 16 (outD sm) k).map u8b).toArray 65 :: own 3 1 (.slice a7 sm.length c7) sm.length (sm.map nv) :: cl b4 ((List.replicate 16 0#8).map u8b).toArray 65 :: L)
      (fun k => [(12, nv k)]) (fun k => 16 - k) 0 (by omega) (by rw [uptoT_zero]; exact Imp.arr (by repeat (first|exact Arr.nil|exact Arr.stop|refine Arr.cons (by repeat constructor) ?_|refine Arr.skip ?_))) ⟨rfl, trivial⟩ ?_
    intro k u3 hk16
    have hul := uptoT_len 16 (outD sm) k
    by_cases hB : k < 16
    · by_cases hC : k < sm.length
      · refine Ct.o ?_
        refine Zgb ?_
        first|refine Zhg (Zat rfl) ?_|refine Zhg (Zar rfl) ?_
        first|refine Zhg (Zmf (b := 16) rfl rfl) ?_|refine Zhg (Zbn rfl rfl) ?_
        refine Zhm 57 rfl (decide_eq_true (hB)) ?_
        first|refine Zhg (Zau rfl) ?_|refine Zhg (Zar rfl) ?_
        first|refine Zhi rfl ?_|refine Zhj rfl ?_|(refine Zhh rfl ?_; (first|refine Zhg (Zat rfl) ?_|refine Zhg (Zar rfl) ?_))
        first|refine Zhi rfl ?_|refine Zhj rfl ?_|(refine Zhh rfl ?_; (first|refine Zhg (Zaw rfl) ?_|refine Zhg (Zar rfl) ?_))
        first|refine Zhi rfl ?_|refine Zhj rfl ?_|(refine Zhh rfl ?_; (first|refine Zhg (Zcr rfl) ?_|refine Zhg (Zct) ?_|refine Zhg (Zcu rfl) ?_))
        first|refine Zhi rfl ?_|refine Zhj rfl ?_|(refine Zhh rfl ?_; (first|refine Zhg (Zmf rfl rfl) ?_|refine Zhg (Zbn rfl rfl) ?_))
        refine Zhm 62 rfl (decide_eq_true (hC)) ?_
        first|refine Zhg (Zdz rfl rfl) ?_|refine Zhg (Zd0 rfl rfl) ?_|refine Zhg (Za8 rfl rfl) ?_|refine Zhg (Za9 rfl rfl) ?_|refine Zhg (Za6 rfl rfl) ?_|refine Zhg (Za7 rfl rfl) ?_
        refine Zg3 ?_
        refine Ct.o ?_
        refine Zge rfl ?_
        refine Ct.o ?_
        refine Zgt (fun F w H => own_some (a := a7) qH (by omega) H) ?_
        rintro ⟨g7, rfl⟩
        have e : outD sm k = BitVec.ofInt 8 ((sm[k] : Nat) : Int) := by unfold outD; rw [List.getD_eq_getElem?_getD, List.getElem?_eq_getElem hC]; rfl
        refine Ct.o ?_
        refine Zgb ?_
        first|refine Zhg (Zat rfl) ?_|refine Zhg (Zar rfl) ?_
        first|refine Zhg (Zaw rfl) ?_|refine Zhg (Zar rfl) ?_
        first|refine Zhg (Zat rfl) ?_|refine Zhg (Zar rfl) ?_
        first|refine Zhg (Zl4 rfl rfl) ?_|refine Zhg (Zl1 rfl rfl) ?_
        refine Zm6 (j := k) rfl (Rd.own qH) hC (getM hC) ?_
        refine Zhg (Zjs rfl) ?_
        first|refine Zhg (Zl5 rfl rfl) ?_|refine Zhg (Zl3 rfl rfl) ?_
        refine Zht rfl rfl qR qZ (setL (f := u8b) (l := uptoT 16 (outD sm) k)) ?_
        refine Zg3 ?_
        refine Ct.o ?_
        rw [← e, uptoT_set]
        refine Ct.o ?_
        refine Zgb ?_
        first|refine Zhg (Zat rfl) ?_|refine Zhg (Zar rfl) ?_
        first|refine Zhg (Zma (b := 1) rfl rfl) ?_|refine Zhg (Zbg rfl rfl) ?_
        first|refine Zhg (Zaz rfl) ?_|refine Zhg (Zas rfl) ?_
        refine Zg3 ?_
        refine Ct.o ?_
        exact Zgl (k + 1) qO qO qI ⟨rfl, trivial⟩
      · refine Ct.o ?_
        refine Zgb ?_
        first|refine Zhg (Zat rfl) ?_|refine Zhg (Zar rfl) ?_
        first|refine Zhg (Zmf (b := 16) rfl rfl) ?_|refine Zhg (Zbn rfl rfl) ?_
        refine Zhm 57 rfl (decide_eq_true (hB)) ?_
        first|refine Zhg (Zau rfl) ?_|refine Zhg (Zar rfl) ?_
        first|refine Zhi rfl ?_|refine Zhj rfl ?_|(refine Zhh rfl ?_; (first|refine Zhg (Zat rfl) ?_|refine Zhg (Zar rfl) ?_))
        first|refine Zhi rfl ?_|refine Zhj rfl ?_|(refine Zhh rfl ?_; (first|refine Zhg (Zaw rfl) ?_|refine Zhg (Zar rfl) ?_))
        first|refine Zhi rfl ?_|refine Zhj rfl ?_|(refine Zhh rfl ?_; (first|refine Zhg (Zcr rfl) ?_|refine Zhg (Zct) ?_|refine Zhg (Zcu rfl) ?_))
        first|refine Zhi rfl ?_|refine Zhj rfl ?_|(refine Zhh rfl ?_; (first|refine Zhg (Zmf rfl rfl) ?_|refine Zhg (Zbn rfl rfl) ?_))
        refine Zhn 62 rfl (decide_eq_false (hC)) ?_
        first|refine Zhg (Zdz rfl rfl) ?_|refine Zhg (Zd0 rfl rfl) ?_|refine Zhg (Za8 rfl rfl) ?_|refine Zhg (Za9 rfl rfl) ?_|refine Zhg (Za6 rfl rfl) ?_|refine Zhg (Za7 rfl rfl) ?_
        refine Zg3 ?_
        refine Ct.o ?_
        refine Zgf rfl ?_
        refine Ct.o ?_
        rw [uptoT_over 16 sm k (by omega), uptoT_end, hcode]
        refine Ct.o ?_
        refine Zgb ?_
        first|refine Zhr rfl qH qZ ?_|refine Zhq rfl qH qZ rfl ?_
        first|refine Zhy rfl rfl qR qZ qN qZ ?_|refine Zhx rfl rfl qR qZ qN qZ rfl ?_
        refine Zg3 ?_
        refine Ct.o ?_
        refine rx1 (Zhe rfl qH qZ (Zg7)) ?_
        exact ⟨_, ⟨rfl, rfl⟩, by exact Imp.arr (by repeat (first|exact Arr.nil|exact Arr.stop|refine Arr.cons (by repeat constructor) ?_|refine Arr.skip ?_))⟩
    · refine Ct.o ?_
      refine Zgb ?_
      first|refine Zhg (Zat rfl) ?_|refine Zhg (Zar rfl) ?_
      first|refine Zhg (Zmf (b := 16) rfl rfl) ?_|refine Zhg (Zbn rfl rfl) ?_
      refine Zhn 57 rfl (decide_eq_false (hB)) ?_
      first|refine Zhg (Zau rfl) ?_|refine Zhg (Zar rfl) ?_
      first|refine Zhi rfl ?_|refine Zhj rfl ?_|(refine Zhh rfl ?_; (first|refine Zhg (Zat rfl) ?_|refine Zhg (Zar rfl) ?_))
      first|refine Zhi rfl ?_|refine Zhj rfl ?_|(refine Zhh rfl ?_; (first|refine Zhg (Zaw rfl) ?_|refine Zhg (Zar rfl) ?_))
      first|refine Zhi rfl ?_|refine Zhj rfl ?_|(refine Zhh rfl ?_; (first|refine Zhg (Zcr rfl) ?_|refine Zhg (Zct) ?_|refine Zhg (Zcu rfl) ?_))
      first|refine Zhi rfl ?_|refine Zhj rfl ?_|(refine Zhh rfl ?_; (first|refine Zhg (Zmf rfl rfl) ?_|refine Zhg (Zbn rfl rfl) ?_))
      first|refine Zhg (Zdz rfl rfl) ?_|refine Zhg (Zd0 rfl rfl) ?_|refine Zhg (Za8 rfl rfl) ?_|refine Zhg (Za9 rfl rfl) ?_|refine Zhg (Za6 rfl rfl) ?_|refine Zhg (Za7 rfl rfl) ?_
      refine Zg3 ?_
      refine Ct.o ?_
      refine Zgf rfl ?_
      refine Ct.o ?_
      have e : k = 16 := by omega
      subst e
      rw [uptoT_end, hcode]
      refine Ct.o ?_
      refine Zgb ?_
      first|refine Zhr rfl qH qZ ?_|refine Zhq rfl qH qZ rfl ?_
      first|refine Zhy rfl rfl qR qZ qN qZ ?_|refine Zhx rfl rfl qR qZ qN qZ rfl ?_
      refine Zg3 ?_
      refine Ct.o ?_
      refine rx1 (Zhe rfl qH qZ (Zg7)) ?_
      exact ⟨_, ⟨rfl, rfl⟩, by exact Imp.arr (by repeat (first|exact Arr.nil|exact Arr.stop|refine Arr.cons (by repeat constructor) ?_|refine Arr.skip ?_))⟩
end Go.Sl

/- slices of bytes read: the front of a block; a slice with its room. -/
set_option maxHeartbeats 4000000
set_option maxRecDepth 10000
set_option linter.unusedVariables false
set_option linter.unusedSimpArgs false
namespace Go.Sl
open Go Go.Proofs
attribute [local irreducible] cl pt own old pur ex all den denOps denS xOps xC cX CX xthen xblk xcut xloop xgo xng retX resX Calls PV Rd Con
theorem bs_front {M M' : List Asrt} {g n c E : Nat} {l t : List Byte} (hm : Has M (cl g ((l ++ t).map u8b).toArray E) M') (hn : l.length = n) (hc : n ≤ c) (hcm : c ≤ 9223372036854775807) : Bs M (.slice (some ⟨g, 0, none⟩) n c) l := by
  subst hn
  exact Bs.cl (o := 0) hm (by simp) (by
    simp only [Array.toList_extract, List.extract_eq_take_drop]
    rw [Nat.zero_add, Nat.sub_zero, List.drop_zero, ← List.map_take, List.take_append_of_le_length (Nat.le_refl _), List.take_length]) hc hcm
theorem bs_own {M M' : List Asrt} {E n : Nat} {v : Value} {l : List Byte} (hm : Has M (own E 1 v n (l.map u8b)) M') (hn : l.length = n) : Bs M v l := by subst hn; exact Bs.own hm
end Go.Sl
