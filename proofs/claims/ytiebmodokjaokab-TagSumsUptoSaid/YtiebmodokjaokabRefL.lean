/- the document's answer for the code: chunks, digits of bytes, the halves of a key. -/
import Derived.Test.YtiebmodokjaokabRefK
import Derived.Test.YtiebmodokjaokabRefD
set_option maxHeartbeats 4000000
set_option maxRecDepth 10000
set_option linter.unusedVariables false
set_option linter.unusedSimpArgs false
namespace Go.Sl
open Go Go.Proofs
attribute [local irreducible] cl pt own old pur ex all den denOps denS xOps xC cX CX xthen xblk xcut xloop retX resX Calls PV Rd Con
abbrev P130 : Nat := 1361129467683753853853498429727072845819
def digL (l : List Byte) : List Nat := l.map BitVec.toNat
theorem digL_val (l : List Byte) : valD (digL l) = leN l := by
  induction l with
  | nil => rfl
  | cons x l ih => show x.toNat + 256 * valD (digL l) = x.toNat + 256 * leN l; rw [ih]
theorem digL_dig (l : List Byte) : Dig (digL l) := by
  intro x hx
  obtain ⟨b, _, rfl⟩ := List.mem_map.1 hx
  exact b.isLt
theorem digL_len (l : List Byte) : (digL l).length = l.length := by simp [digL]
theorem digL_app (a b : List Byte) : digL (a ++ b) = digL a ++ digL b := by simp [digL]
theorem stepN_few (R : Nat) : ∀ (c : List Byte) (v : Nat) (p : List Byte), p.length + c.length < 16 → c.foldl (stepN R) (v, p) = (v, p ++ c)
  | [], v, p, _ => by simp
  | x :: c, v, p, h => by
    simp only [List.length_cons] at h
    have e : stepN R (v, p) x = (v, p ++ [x]) := by unfold stepN; rw [if_neg (by dsimp only; omega)]
    rw [List.foldl_cons, e, stepN_few R c v (p ++ [x]) (by simp; omega)]
    simp
theorem leN_snoc1 (c : List Byte) (h : c.length = 16) : leN (c ++ [1#8]) = leN c + 340282366920938463463374607431768211456 := by
  rw [leN_append, h, show (256 : Nat) ^ 16 = 340282366920938463463374607431768211456 by decide]; simp [leN]
theorem stepN_chunk (R : Nat) (c : List Byte) (v : Nat) (h : c.length = 16) : c.foldl (stepN R) (v, []) = (((v + leN (c ++ [1#8])) * R) % P130, []) := by
  obtain ⟨a, x, rfl⟩ : ∃ a x, c = a ++ [x] := ⟨c.dropLast, c.getLast (by intro e; rw [e] at h; cases h), (List.dropLast_concat_getLast _).symm⟩
  have ha : a.length = 15 := by simpa using h
  rw [List.foldl_append, stepN_few R a v [] (by simp; omega), leN_snoc1 _ h]
  simp only [List.foldl_cons, List.foldl_nil, List.nil_append]
  unfold stepN
  rw [if_pos (by dsimp only; omega)]
  dsimp only
  rw [Nat.add_assoc]
/-- The number behind so many bytes. -/
def accN (R : Nat) (m : List Byte) (i : Nat) : Nat := finN R ((m.take i).foldl (stepN R) (0, []))
theorem accN_step (R : Nat) (m : List Byte) (i : Nat) (hi : i < m.length) (h0 : ((m.take i).foldl (stepN R) (0, [])).2 = []) :
    accN R m (i + 16) = ((accN R m i + leN ((m.drop i).take 16 ++ [1#8])) * R) % P130 ∧ (((m.take (i + 16)).foldl (stepN R) (0, [])).2 = [] ∨ m.length ≤ i + 16) := by
  have e : m.take (i + 16) = m.take i ++ (m.drop i).take 16 := List.take_add ..
  obtain ⟨v, hv⟩ : ∃ v, (m.take i).foldl (stepN R) (0, []) = (v, []) := ⟨_, Prod.ext rfl h0⟩
  have hacc : accN R m i = v := by unfold accN; rw [hv]; rfl
  unfold accN
  rw [e, List.foldl_append, hv]
  have hf : finN R (v, []) = v := rfl
  rw [hf]
  by_cases h16 : i + 16 ≤ m.length
  · have hl : ((m.drop i).take 16).length = 16 := by simp; omega
    rw [stepN_chunk R _ v hl]
    exact ⟨rfl, .inl rfl⟩
  · have hl : ((m.drop i).take 16).length = m.length - i := by simp; omega
    rw [stepN_few R _ v [] (by rw [hl]; simp; omega)]
    refine ⟨?_, .inr (by omega)⟩
    unfold finN
    rw [if_neg (by simp only [List.nil_append]; intro e; rw [e] at hl; simp at hl; omega)]
    simp
theorem accN_end (R : Nat) (m : List Byte) (i : Nat) (hi : m.length ≤ i) : accN R m i = finN R (m.foldl (stepN R) (0, [])) := by
  unfold accN; rw [List.take_of_length_le hi]
-- the halves of a key
def halfF (key : List Byte) (s : Bool) (i : Nat) : Nat :=
  if s then (key.getD (16 + i) 0#8).toNat else if i % 4 = 3 then (key.getD i 0#8).toNat % 16 else if i % 4 = 0 ∧ 0 < i then (key.getD i 0#8).toNat / 4 * 4 else (key.getD i 0#8).toNat
def halfD (key : List Byte) (s : Bool) (n : Nat) : List Nat := (List.range n).map (halfF key s)
theorem halfD_len (key : List Byte) (s : Bool) (n : Nat) : (halfD key s n).length = n := by simp [halfD]
theorem halfD_succ (key : List Byte) (s : Bool) (n : Nat) : halfD key s (n + 1) = halfD key s n ++ [halfF key s n] := by simp [halfD, List.range_succ]
theorem halfD_dig (key : List Byte) (s : Bool) (n : Nat) : Dig (halfD key s n) := by
  intro x hx
  obtain ⟨i, _, rfl⟩ := List.mem_map.1 hx
  have h1 := (key.getD (16 + i) 0#8).isLt
  have h2 := (key.getD i 0#8).isLt
  unfold halfF
  split
  · omega
  · split
    · omega
    · split <;> omega
theorem halfD_true (key : List Byte) (hk : key.length = 32) : valD (halfD key true 16) = sN key := by
  have e : halfD key true 16 = digL (key.drop 16) := by
    apply List.ext_getElem (by simp [halfD, digL, hk])
    intro j h1 h2
    simp only [halfD, List.getElem_map, List.getElem_range, halfF, if_true, digL, List.getElem_drop]
    rw [List.getD_eq_getElem?_getD, List.getElem?_eq_getElem (by simp [digL] at h2; omega)]; rfl
  rw [e, digL_val]; rfl
def maskR : List Byte := [255#8, 255#8, 255#8, 15#8, 252#8, 255#8, 255#8, 15#8]
def maskR2 : List Byte := [252#8, 255#8, 255#8, 15#8, 252#8, 255#8, 255#8, 15#8]
theorem wordB_and : ∀ (a b : List Byte), a.length = b.length → wordB a &&& wordB b = wordB (List.zipWith (· &&& ·) a b)
  | [], [], _ => by decide
  | x :: a, y :: b, h => by
    have ih := wordB_and a b (by simpa using h)
    have e : ∀ (x : Byte) (a : List Byte), wordB (x :: a) = wordB a <<< 8 ||| x.setWidth 64 := fun _ _ => rfl
    rw [List.zipWith_cons_cons, e, e, e, ← ih]
    apply BitVec.eq_of_getLsbD_eq
    intro i hi
    simp only [BitVec.getLsbD_and, BitVec.getLsbD_or, BitVec.getLsbD_shiftLeft, BitVec.getLsbD_setWidth, hi, decide_true, Bool.true_and]
    by_cases h8 : i < 8
    · simp [h8]
    · have hx : ∀ z : Byte, z.getLsbD i = false := fun z => BitVec.getLsbD_of_ge z i (by omega)
      simp [h8, hx]
  | [], _ :: _, h => by simp at h
  | _ :: _, [], h => by simp at h
theorem and255 (a : Byte) : (a &&& 255#8) = a := by
  have : (255#8 : Byte) = BitVec.allOnes 8 := by decide
  rw [this, BitVec.and_allOnes]
theorem and15 (a : Byte) : (a &&& 15#8).toNat = a.toNat % 16 := by
  rw [BitVec.toNat_and]; exact Nat.and_two_pow_sub_one_eq_mod a.toNat 4
theorem and252 (a : Byte) : (a &&& 252#8).toNat = a.toNat / 4 * 4 := by
  have h : ∀ n : Fin 256, (BitVec.ofFin n &&& 252#8).toNat = n.val / 4 * 4 := by decide +kernel
  exact h a.toFin
theorem list16 {α : Type} (l : List α) (d : α) (h : l.length = 16) : l = [l.getD 0 d, l.getD 1 d, l.getD 2 d, l.getD 3 d, l.getD 4 d, l.getD 5 d, l.getD 6 d, l.getD 7 d, l.getD 8 d, l.getD 9 d, l.getD 10 d, l.getD 11 d, l.getD 12 d, l.getD 13 d, l.getD 14 d, l.getD 15 d] := by
  match l, h with
  | [_, _, _, _, _, _, _, _, _, _, _, _, _, _, _, _], _ => rfl
theorem num16 (a0 a1 a2 a3 a4 a5 a6 a7 a8 a9 b0 b1 b2 b3 b4 b5 : Nat) : (a0 + 256 * (a1 + 256 * (a2 + 256 * (a3 + 256 * (a4 + 256 * (a5 + 256 * (a6 + 256 * (a7 + 256 * 0)))))))) + 18446744073709551616 * (a8 + 256 * (a9 + 256 * (b0 + 256 * (b1 + 256 * (b2 + 256 * (b3 + 256 * (b4 + 256 * (b5 + 256 * 0)))))))) =
    a0 + 256 * (a1 + 256 * (a2 + 256 * (a3 + 256 * (a4 + 256 * (a5 + 256 * (a6 + 256 * (a7 + 256 * (a8 + 256 * (a9 + 256 * (b0 + 256 * (b1 + 256 * (b2 + 256 * (b3 + 256 * (b4 + 256 * (b5 + 256 * 0))))))))))))))) := by omega
theorem half_num (k : Nat → Byte) : leN (List.zipWith (· &&& ·) [k 0, k 1, k 2, k 3, k 4, k 5, k 6, k 7] maskR) + 18446744073709551616 * leN (List.zipWith (· &&& ·) [k 8, k 9, k 10, k 11, k 12, k 13, k 14, k 15] maskR2) =
    valD [(k 0).toNat, (k 1).toNat, (k 2).toNat, (k 3).toNat % 16, (k 4).toNat / 4 * 4, (k 5).toNat, (k 6).toNat, (k 7).toNat % 16, (k 8).toNat / 4 * 4, (k 9).toNat, (k 10).toNat, (k 11).toNat % 16, (k 12).toNat / 4 * 4, (k 13).toNat, (k 14).toNat, (k 15).toNat % 16] := by
  simp only [maskR, maskR2, List.zipWith_cons_cons, List.zipWith_nil_left, leN, and255, and15, and252, valD]
  exact num16 ..
theorem halfD_false (key : List Byte) (hk : key.length = 32) : valD (halfD key false 16) = rN key := by
  have hw1 : wordB maskR = 1152921487695413247#64 := by decide +kernel
  have hw2 : wordB maskR2 = 1152921487695413244#64 := by decide +kernel
  show _ = (wordB (key.take 8) &&& 1152921487695413247#64).toNat + 18446744073709551616 * (wordB ((key.drop 8).take 8) &&& 1152921487695413244#64).toNat
  rw [← hw1, ← hw2, wordB_and _ _ (by simp [maskR, hk]), wordB_and _ _ (by simp [maskR2, hk]), wordB_val _ (by simp [maskR]; omega), wordB_val _ (by simp [maskR2]; omega)]
  have e := list16 (key.take 16) 0#8 (by simp [hk])
  have e0 : ∀ j, j < 16 → (key.take 16).getD j 0#8 = key.getD j 0#8 := fun j hj => by
    rw [List.getD_eq_getElem?_getD, List.getElem?_take_of_lt hj, List.getD_eq_getElem?_getD]
  rw [e0 0 (by omega), e0 1 (by omega), e0 2 (by omega), e0 3 (by omega), e0 4 (by omega), e0 5 (by omega), e0 6 (by omega), e0 7 (by omega),
    e0 8 (by omega), e0 9 (by omega), e0 10 (by omega), e0 11 (by omega), e0 12 (by omega), e0 13 (by omega), e0 14 (by omega), e0 15 (by omega)] at e
  have e1 : key.take 8 = (key.take 16).take 8 := by rw [List.take_take]; rfl
  have e2 : (key.drop 8).take 8 = (key.take 16).drop 8 := by rw [List.drop_take]
  rw [e1, e2, e]
  exact (half_num fun j => key.getD j 0#8).symm
end Go.Sl
