/- Parts of the proof, joined: RefL, RefM, RefN, RefE, RefO, TagU, TagV, EngL, OpenOp. -/
import Derived.Test.YtiebmodokjaokabLawTagPlaysM0
import Derived.Test.YtiebmodokjaokabLawTagPlaysM1
import Derived.Test.YtiebmodokjaokabLawTagPlaysM2
import Derived.Test.YtiebmodokjaokabLawTagPlaysM3
import Derived.OpenShut
/- the document's answer for the code: chunks, digits of bytes, the halves of a key. -/
set_option maxHeartbeats 4000000
set_option maxRecDepth 10000
set_option linter.unusedVariables false
set_option linter.unusedSimpArgs false
namespace Go.Sl
open Go Go.Proofs
attribute [local irreducible] cl pt own old pur ex all den denOps denS xOps xC cX CX xthen xblk xcut xloop retX resX Calls PV Rd Con
abbrev P130 : Nat := 1361129467683753853853498429727072845819
def digL (l : List Byte) : List Nat := l.map BitVec.toNat
theorem digL_val (l : List Byte) : valD (digL l) = leN l := by
  induction l with
  | nil => rfl
  | cons x l ih => show x.toNat + 256 * valD (digL l) = x.toNat + 256 * leN l; rw [ih]
theorem digL_dig (l : List Byte) : Dig (digL l) := by
  intro x hx
  obtain ⟨b, _, rfl⟩ := List.mem_map.1 hx
  exact b.isLt
theorem digL_len (l : List Byte) : (digL l).length = l.length := by simp [digL]
theorem digL_app (a b : List Byte) : digL (a ++ b) = digL a ++ digL b := by simp [digL]
theorem stepN_few (R : Nat) : ∀ (c : List Byte) (v : Nat) (p : List Byte), p.length + c.length < 16 → c.foldl (stepN R) (v, p) = (v, p ++ c)
  | [], v, p, _ => by simp
  | x :: c, v, p, h => by
    simp only [List.length_cons] at h
    have e : stepN R (v, p) x = (v, p ++ [x]) := by unfold stepN; rw [if_neg (by dsimp only; omega)]
    rw [List.foldl_cons, e, stepN_few R c v (p ++ [x]) (by simp; omega)]
    simp
theorem leN_snoc1 (c : List Byte) (h : c.length = 16) : leN (c ++ [1#8]) = leN c + 340282366920938463463374607431768211456 := by
  rw [leN_append, h, show (256 : Nat) ^ 16 = 340282366920938463463374607431768211456 by decide]; simp [leN]
theorem stepN_chunk (R : Nat) (c : List Byte) (v : Nat) (h : c.length = 16) : c.foldl (stepN R) (v, []) = (((v + leN (c ++ [1#8])) * R) % P130, []) := by
  obtain ⟨a, x, rfl⟩ : ∃ a x, c = a ++ [x] := ⟨c.dropLast, c.getLast (by intro e; rw [e] at h; cases h), (List.dropLast_concat_getLast _).symm⟩
  have ha : a.length = 15 := by simpa using h
  rw [List.foldl_append, stepN_few R a v [] (by simp; omega), leN_snoc1 _ h]
  simp only [List.foldl_cons, List.foldl_nil, List.nil_append]
  unfold stepN
  rw [if_pos (by dsimp only; omega)]
  dsimp only
  rw [Nat.add_assoc]
/-- The number behind so many bytes. -/
def accN (R : Nat) (m : List Byte) (i : Nat) : Nat := finN R ((m.take i).foldl (stepN R) (0, []))
theorem accN_step (R : Nat) (m : List Byte) (i : Nat) (hi : i < m.length) (h0 : ((m.take i).foldl (stepN R) (0, [])).2 = []) :
    accN R m (i + 16) = ((accN R m i + leN ((m.drop i).take 16 ++ [1#8])) * R) % P130 ∧ (((m.take (i + 16)).foldl (stepN R) (0, [])).2 = [] ∨ m.length ≤ i + 16) := by
  have e : m.take (i + 16) = m.take i ++ (m.drop i).take 16 := List.take_add ..
  obtain ⟨v, hv⟩ : ∃ v, (m.take i).foldl (stepN R) (0, []) = (v, []) := ⟨_, Prod.ext rfl h0⟩
  have hacc : accN R m i = v := by unfold accN; rw [hv]; rfl
  unfold accN
  rw [e, List.foldl_append, hv]
  have hf : finN R (v, []) = v := rfl
  rw [hf]
  by_cases h16 : i + 16 ≤ m.length
  · have hl : ((m.drop i).take 16).length = 16 := by simp; omega
    rw [stepN_chunk R _ v hl]
    exact ⟨rfl, .inl rfl⟩
  · have hl : ((m.drop i).take 16).length = m.length - i := by simp; omega
    rw [stepN_few R _ v [] (by rw [hl]; simp; omega)]
    refine ⟨?_, .inr (by omega)⟩
    unfold finN
    rw [if_neg (by simp only [List.nil_append]; intro e; rw [e] at hl; simp at hl; omega)]
    simp
theorem accN_end (R : Nat) (m : List Byte) (i : Nat) (hi : m.length ≤ i) : accN R m i = finN R (m.foldl (stepN R) (0, [])) := by
  unfold accN; rw [List.take_of_length_le hi]
-- the halves of a key
def halfF (key : List Byte) (s : Bool) (i : Nat) : Nat :=
  if s then (key.getD (16 + i) 0#8).toNat else if i % 4 = 3 then (key.getD i 0#8).toNat % 16 else if i % 4 = 0 ∧ 0 < i then (key.getD i 0#8).toNat / 4 * 4 else (key.getD i 0#8).toNat
def halfD (key : List Byte) (s : Bool) (n : Nat) : List Nat := (List.range n).map (halfF key s)
theorem halfD_len (key : List Byte) (s : Bool) (n : Nat) : (halfD key s n).length = n := by simp [halfD]
theorem halfD_succ (key : List Byte) (s : Bool) (n : Nat) : halfD key s (n + 1) = halfD key s n ++ [halfF key s n] := by simp [halfD, List.range_succ]
theorem halfD_dig (key : List Byte) (s : Bool) (n : Nat) : Dig (halfD key s n) := by
  intro x hx
  obtain ⟨i, _, rfl⟩ := List.mem_map.1 hx
  have h1 := (key.getD (16 + i) 0#8).isLt
  have h2 := (key.getD i 0#8).isLt
  unfold halfF
  split
  · omega
  · split
    · omega
    · split <;> omega
theorem halfD_true (key : List Byte) (hk : key.length = 32) : valD (halfD key true 16) = sN key := by
  have e : halfD key true 16 = digL (key.drop 16) := by
    apply List.ext_getElem (by simp [halfD, digL, hk])
    intro j h1 h2
    simp only [halfD, List.getElem_map, List.getElem_range, halfF, if_true, digL, List.getElem_drop]
    rw [List.getD_eq_getElem?_getD, List.getElem?_eq_getElem (by simp [digL] at h2; omega)]; rfl
  rw [e, digL_val]; rfl
def maskR : List Byte := [255#8, 255#8, 255#8, 15#8, 252#8, 255#8, 255#8, 15#8]
def maskR2 : List Byte := [252#8, 255#8, 255#8, 15#8, 252#8, 255#8, 255#8, 15#8]
theorem wordB_and : ∀ (a b : List Byte), a.length = b.length → wordB a &&& wordB b = wordB (List.zipWith (· &&& ·) a b)
  | [], [], _ => by decide
  | x :: a, y :: b, h => by
    have ih := wordB_and a b (by simpa using h)
    have e : ∀ (x : Byte) (a : List Byte), wordB (x :: a) = wordB a <<< 8 ||| x.setWidth 64 := fun _ _ => rfl
    rw [List.zipWith_cons_cons, e, e, e, ← ih]
    apply BitVec.eq_of_getLsbD_eq
    intro i hi
    simp only [BitVec.getLsbD_and, BitVec.getLsbD_or, BitVec.getLsbD_shiftLeft, BitVec.getLsbD_setWidth, hi, decide_true, Bool.true_and]
    by_cases h8 : i < 8
    · simp [h8]
    · have hx : ∀ z : Byte, z.getLsbD i = false := fun z => BitVec.getLsbD_of_ge z i (by omega)
      simp [h8, hx]
  | [], _ :: _, h => by simp at h
  | _ :: _, [], h => by simp at h
theorem and255 (a : Byte) : (a &&& 255#8) = a := by
  have : (255#8 : Byte) = BitVec.allOnes 8 := by decide
  rw [this, BitVec.and_allOnes]
theorem and15 (a : Byte) : (a &&& 15#8).toNat = a.toNat % 16 := by
  rw [BitVec.toNat_and]; exact Nat.and_two_pow_sub_one_eq_mod a.toNat 4
theorem and252 (a : Byte) : (a &&& 252#8).toNat = a.toNat / 4 * 4 := by
  have h : ∀ n : Fin 256, (BitVec.ofFin n &&& 252#8).toNat = n.val / 4 * 4 := by decide +kernel
  exact h a.toFin
theorem list16 {α : Type} (l : List α) (d : α) (h : l.length = 16) : l = [l.getD 0 d, l.getD 1 d, l.getD 2 d, l.getD 3 d, l.getD 4 d, l.getD 5 d, l.getD 6 d, l.getD 7 d, l.getD 8 d, l.getD 9 d, l.getD 10 d, l.getD 11 d, l.getD 12 d, l.getD 13 d, l.getD 14 d, l.getD 15 d] := by
  match l, h with
  | [_, _, _, _, _, _, _, _, _, _, _, _, _, _, _, _], _ => rfl
theorem num16 (a0 a1 a2 a3 a4 a5 a6 a7 a8 a9 b0 b1 b2 b3 b4 b5 : Nat) : (a0 + 256 * (a1 + 256 * (a2 + 256 * (a3 + 256 * (a4 + 256 * (a5 + 256 * (a6 + 256 * (a7 + 256 * 0)))))))) + 18446744073709551616 * (a8 + 256 * (a9 + 256 * (b0 + 256 * (b1 + 256 * (b2 + 256 * (b3 + 256 * (b4 + 256 * (b5 + 256 * 0)))))))) =
    a0 + 256 * (a1 + 256 * (a2 + 256 * (a3 + 256 * (a4 + 256 * (a5 + 256 * (a6 + 256 * (a7 + 256 * (a8 + 256 * (a9 + 256 * (b0 + 256 * (b1 + 256 * (b2 + 256 * (b3 + 256 * (b4 + 256 * (b5 + 256 * 0))))))))))))))) := by omega
theorem half_num (k : Nat → Byte) : leN (List.zipWith (· &&& ·) [k 0, k 1, k 2, k 3, k 4, k 5, k 6, k 7] maskR) + 18446744073709551616 * leN (List.zipWith (· &&& ·) [k 8, k 9, k 10, k 11, k 12, k 13, k 14, k 15] maskR2) =
    valD [(k 0).toNat, (k 1).toNat, (k 2).toNat, (k 3).toNat % 16, (k 4).toNat / 4 * 4, (k 5).toNat, (k 6).toNat, (k 7).toNat % 16, (k 8).toNat / 4 * 4, (k 9).toNat, (k 10).toNat, (k 11).toNat % 16, (k 12).toNat / 4 * 4, (k 13).toNat, (k 14).toNat, (k 15).toNat % 16] := by
  simp only [maskR, maskR2, List.zipWith_cons_cons, List.zipWith_nil_left, leN, and255, and15, and252, valD]
  exact num16 ..
theorem halfD_false (key : List Byte) (hk : key.length = 32) : valD (halfD key false 16) = rN key := by
  have hw1 : wordB maskR = 1152921487695413247#64 := by decide +kernel
  have hw2 : wordB maskR2 = 1152921487695413244#64 := by decide +kernel
  show _ = (wordB (key.take 8) &&& 1152921487695413247#64).toNat + 18446744073709551616 * (wordB ((key.drop 8).take 8) &&& 1152921487695413244#64).toNat
  rw [← hw1, ← hw2, wordB_and _ _ (by simp [maskR, hk]), wordB_and _ _ (by simp [maskR2, hk]), wordB_val _ (by simp [maskR]; omega), wordB_val _ (by simp [maskR2]; omega)]
  have e := list16 (key.take 16) 0#8 (by simp [hk])
  have e0 : ∀ j, j < 16 → (key.take 16).getD j 0#8 = key.getD j 0#8 := fun j hj => by
    rw [List.getD_eq_getElem?_getD, List.getElem?_take_of_lt hj, List.getD_eq_getElem?_getD]
  rw [e0 0 (by omega), e0 1 (by omega), e0 2 (by omega), e0 3 (by omega), e0 4 (by omega), e0 5 (by omega), e0 6 (by omega), e0 7 (by omega),
    e0 8 (by omega), e0 9 (by omega), e0 10 (by omega), e0 11 (by omega), e0 12 (by omega), e0 13 (by omega), e0 14 (by omega), e0 15 (by omega)] at e
  have e1 : key.take 8 = (key.take 16).take 8 := by rw [List.take_take]; rfl
  have e2 : (key.drop 8).take 8 = (key.take 16).drop 8 := by rw [List.drop_take]
  rw [e1, e2, e]
  exact (half_num fun j => key.getD j 0#8).symm
end Go.Sl

/- the document's answer for the code: half. -/
set_option maxHeartbeats 4000000
set_option maxRecDepth 10000
set_option linter.unusedVariables false
set_option linter.unusedSimpArgs false
namespace Go.Sl
open Go Go.Proofs
attribute [local irreducible] cl pt own old pur ex all den denOps denS xOps xC cX CX xthen xblk xcut xloop retX resX Calls PV Rd Con
theorem half_x {L : List Asrt} (key : List Byte) (hk : key.length = 32) (s : Bool) :
    Con Try.prog 28 [.agg (key.map u8b).toArray, .bool s] L (fun r M => ∃ a2 c2, r = .slice a2 (halfD key s 16).length c2 ∧ M = own 3 1 r (halfD key s 16).length ((halfD key s 16).map nv) :: L) := by
  refine fn_x Try.func28 rfl rfl rfl Try.mixed (by kernel_rfl) ?_
  intro w0
  repeat (first|refine zA ?_|refine zB ?_|refine zC ?_|refine zD ?_|refine zE ?_|refine zF ?_|refine zG ?_|refine zH ?_|refine zI ?_|refine zJ ?_|refine zK ?_|refine zL ?_|refine zM rfl ?_|refine zN ?_|refine zO ?_|refine zP ?_|refine zQ ?_)
  refine x_reg ?_
  refine x_box_a rfl ?_; intro b2
  first | refine x_pv (pv_assign_slice rfl) ?_ | refine x_pv (pv_assign rfl) ?_
  refine x_nil ?_
  repeat (first|refine zA ?_|refine zB ?_|refine zC ?_|refine zD ?_|refine zE ?_|refine zF ?_|refine zG ?_|refine zH ?_|refine zI ?_|refine zJ ?_|refine zK ?_|refine zL ?_|refine zM rfl ?_|refine zN ?_|refine zO ?_|refine zP ?_|refine zQ ?_)
  refine x_reg ?_
  first | refine x_pv (pv_assign_slice rfl) ?_ | refine x_pv (pv_assign rfl) ?_
  refine x_nil ?_
  repeat (first|refine zA ?_|refine zB ?_|refine zC ?_|refine zD ?_|refine zE ?_|refine zF ?_|refine zG ?_|refine zH ?_|refine zI ?_|refine zJ ?_|refine zK ?_|refine zL ?_|refine zM rfl ?_|refine zN ?_|refine zO ?_|refine zP ?_|refine zQ ?_)
  refine x_reg ?_
  first | refine x_pv (pv_assign_int rfl) ?_ | refine x_pv (pv_assign rfl) ?_
  refine x_nil ?_
  repeat (first|refine zA ?_|refine zB ?_|refine zC ?_|refine zD ?_|refine zE ?_|refine zF ?_|refine zG ?_|refine zH ?_|refine zI ?_|refine zJ ?_|refine zK ?_|refine zL ?_|refine zM rfl ?_|refine zN ?_|refine zO ?_|refine zP ?_|refine zQ ?_)
  refine x_loop [(5, 40)] (by kernel_rfl) (fun t : Nat × Option Addr × Nat => t.1 ≤ 16) (fun t => own 3 1 (.slice t.2.1 (halfD key s t.1).length t.2.2) (halfD key s t.1).length ((halfD key s t.1).map nv) :: cl b2 (key.map u8b).toArray 24 :: L)
    (fun t => [(6, nv t.1), (5, .slice t.2.1 (halfD key s t.1).length t.2.2)]) (fun t => 16 - t.1) (0, none, 0) (by omega) (Imp.own_nil) ⟨rfl, rfl, trivial⟩ ?_
  rintro ⟨i, da, dc⟩ u hi
  dsimp only at hi ⊢
  have hdl := halfD_len key s i
  have hg : i < 16 → ((key.map u8b).toArray)[i]? = some (u8b (key.getD i 0#8)) := fun h => by
    rw [getL (by omega), List.getD_eq_getElem?_getD, List.getElem?_eq_getElem (by omega)]; rfl
  have hg2 : i < 16 → ((key.map u8b).toArray)[16 + i]? = some (u8b (key.getD (16 + i) 0#8)) := fun h => by
    rw [getL (by omega), List.getD_eq_getElem?_getD, List.getElem?_eq_getElem (by omega)]; rfl
  have hb := (key.getD i 0#8).isLt
  repeat (first|refine zA ?_|refine zB ?_|refine zC ?_|refine zD ?_|refine zE ?_|refine zF ?_|refine zG ?_|refine zH ?_|refine zI ?_|refine zJ ?_|refine zK ?_|refine zL ?_|refine zM rfl ?_|refine zN ?_|refine zO ?_|refine zP ?_|refine zQ ?_)
  refine x_reg ?_
  first | refine x_pv (pv_move_int rfl) ?_ | refine x_pv (pv_move rfl) ?_
  first | refine x_pv (pv_lssn (b := 16) rfl rfl) ?_ | refine x_pv (pv_lss rfl rfl) ?_
  refine x_nil ?_
  repeat (first|refine zA ?_|refine zB ?_|refine zC ?_|refine zD ?_|refine zE ?_|refine zF ?_|refine zG ?_|refine zH ?_|refine zI ?_|refine zJ ?_|refine zK ?_|refine zL ?_|refine zM rfl ?_|refine zN ?_|refine zO ?_|refine zP ?_|refine zQ ?_)
  refine x_cond_p rfl (fun hA => ?_) (fun hA => ?_)
  · repeat (first|refine zA ?_|refine zB ?_|refine zC ?_|refine zD ?_|refine zE ?_|refine zF ?_|refine zG ?_|refine zH ?_|refine zI ?_|refine zJ ?_|refine zK ?_|refine zL ?_|refine zM rfl ?_|refine zN ?_|refine zO ?_|refine zP ?_|refine zQ ?_)
    refine x_reg ?_
    first | refine x_pv (pv_move_int rfl) ?_ | refine x_pv (pv_move rfl) ?_
    first | refine x_pv (pv_ixa1z rfl rfl (by first | omega | exact Nat.le_of_ble_eq_true rfl | (simp; done) | (simp; omega))) ?_ | refine x_pv (pv_ixa1 rfl rfl (by first | omega | exact Nat.le_of_ble_eq_true rfl | (simp; done) | (simp; omega))) ?_
    refine x_load rfl (by repeat constructor) (hg hA) ?_
    refine x_pv (pv_conv_u8_i rfl) ?_
    first | refine x_pv (pv_assign_int rfl) ?_ | refine x_pv (pv_assign rfl) ?_
    refine x_nil ?_
    repeat (first|refine zA ?_|refine zB ?_|refine zC ?_|refine zD ?_|refine zE ?_|refine zF ?_|refine zG ?_|refine zH ?_|refine zI ?_|refine zJ ?_|refine zK ?_|refine zL ?_|refine zM rfl ?_|refine zN ?_|refine zO ?_|refine zP ?_|refine zQ ?_)
    refine x_reg ?_
    first | refine x_pv (pv_move_bool rfl) ?_ | refine x_pv (pv_move rfl) ?_
    refine x_nil ?_
    repeat (first|refine zA ?_|refine zB ?_|refine zC ?_|refine zD ?_|refine zE ?_|refine zF ?_|refine zG ?_|refine zH ?_|refine zI ?_|refine zJ ?_|refine zK ?_|refine zL ?_|refine zM rfl ?_|refine zN ?_|refine zO ?_|refine zP ?_|refine zQ ?_)
    refine x_cutt [(7, 7), (17, 36)] (by kernel_rfl) (fun _ : Unit => True) (fun _ => own 3 1 (.slice da (halfD key s i).length dc) (halfD key s i).length ((halfD key s i).map nv) :: cl b2 (key.map u8b).toArray 24 :: L) (fun _ => [(7, nv (halfF key s i))]) ?_ ?_
    · cases s with
      | true =>
        refine x_cond_t rfl ?_
        have e : halfF key true i = (key.getD (16 + i) 0#8).toNat := by unfold halfF; rw [if_pos rfl]
        rw [e]
        repeat (first|refine zA ?_|refine zB ?_|refine zC ?_|refine zD ?_|refine zE ?_|refine zF ?_|refine zG ?_|refine zH ?_|refine zI ?_|refine zJ ?_|refine zK ?_|refine zL ?_|refine zM rfl ?_|refine zN ?_|refine zO ?_|refine zP ?_|refine zQ ?_)
        refine x_reg ?_
        first | refine x_pv (pv_move_int rfl) ?_ | refine x_pv (pv_move rfl) ?_
        first | refine x_pv (pv_addn (a := 16) rfl rfl (by first | omega | exact Nat.le_of_ble_eq_true rfl | (simp; done) | (simp; omega) | decide)) ?_ | refine x_pv (pv_add_i rfl rfl (by first | omega | exact Nat.le_of_ble_eq_true rfl | (simp; done) | (simp; omega) | decide)) ?_
        first | refine x_pv (pv_ixa1z (n := 16 + i) rfl (int_eq (by push_cast; omega)) (by first | omega | exact Nat.le_of_ble_eq_true rfl | (simp; done) | (simp; omega))) ?_ | refine x_pv (pv_ixa1 (n := 16 + i) rfl (int_eq (by push_cast; omega)) (by first | omega | exact Nat.le_of_ble_eq_true rfl | (simp; done) | (simp; omega))) ?_
        refine x_load rfl (by repeat constructor) (hg2 hA) ?_
        refine x_pv (pv_conv_u8_i rfl) ?_
        first | refine x_pv (pv_assign_int rfl) ?_ | refine x_pv (pv_assign rfl) ?_
        refine x_nil ?_
        repeat (first|refine zA ?_|refine zB ?_|refine zC ?_|refine zD ?_|refine zE ?_|refine zF ?_|refine zG ?_|refine zH ?_|refine zI ?_|refine zJ ?_|refine zK ?_|refine zL ?_|refine zM rfl ?_|refine zN ?_|refine zO ?_|refine zP ?_|refine zQ ?_)
        exact x_cut_n () trivial (by exact Imp.arr (by repeat (first | exact Arr.nil | exact Arr.stop | refine Arr.cons (by repeat constructor) ?_ | refine Arr.skip ?_))) ⟨rfl, trivial⟩
      | false =>
        refine x_cond_f rfl ?_
        by_cases h3 : i % 4 = 3
        · have e : halfF key false i = (key.getD i 0#8).toNat % 16 := by unfold halfF; rw [if_neg (by decide), if_pos h3]
          rw [e]
          repeat (first|refine zA ?_|refine zB ?_|refine zC ?_|refine zD ?_|refine zE ?_|refine zF ?_|refine zG ?_|refine zH ?_|refine zI ?_|refine zJ ?_|refine zK ?_|refine zL ?_|refine zM rfl ?_|refine zN ?_|refine zO ?_|refine zP ?_|refine zQ ?_)
          refine x_reg ?_
          first | refine x_pv (pv_move_int rfl) ?_ | refine x_pv (pv_move rfl) ?_
          first | refine x_pv (pv_remn (b := 4) rfl rfl (by first | omega | exact Nat.le_of_ble_eq_true rfl | (simp; done) | (simp; omega) | decide)) ?_ | refine x_pv (pv_rem_i rfl rfl (by first | omega | exact Nat.le_of_ble_eq_true rfl | (simp; done) | (simp; omega) | decide)) ?_
          first | refine x_pv (pv_eqln (b := 3) rfl rfl) ?_ | refine x_pv (pv_eql rfl rfl) ?_
          refine x_isT 24 rfl (decide_eq_true (h3)) ?_
          refine x_nil ?_
          repeat (first|refine zA ?_|refine zB ?_|refine zC ?_|refine zD ?_|refine zE ?_|refine zF ?_|refine zG ?_|refine zH ?_|refine zI ?_|refine zJ ?_|refine zK ?_|refine zL ?_|refine zM rfl ?_|refine zN ?_|refine zO ?_|refine zP ?_|refine zQ ?_)
          refine x_cond_t rfl ?_
          repeat (first|refine zA ?_|refine zB ?_|refine zC ?_|refine zD ?_|refine zE ?_|refine zF ?_|refine zG ?_|refine zH ?_|refine zI ?_|refine zJ ?_|refine zK ?_|refine zL ?_|refine zM rfl ?_|refine zN ?_|refine zO ?_|refine zP ?_|refine zQ ?_)
          refine x_reg ?_
          first | refine x_pv (pv_move_int rfl) ?_ | refine x_pv (pv_move rfl) ?_
          first | refine x_pv (pv_remn (b := 16) rfl rfl (by first | omega | exact Nat.le_of_ble_eq_true rfl | (simp; done) | (simp; omega) | decide)) ?_ | refine x_pv (pv_rem_i rfl rfl (by first | omega | exact Nat.le_of_ble_eq_true rfl | (simp; done) | (simp; omega) | decide)) ?_
          first | refine x_pv (pv_assign_int rfl) ?_ | refine x_pv (pv_assign rfl) ?_
          refine x_nil ?_
          repeat (first|refine zA ?_|refine zB ?_|refine zC ?_|refine zD ?_|refine zE ?_|refine zF ?_|refine zG ?_|refine zH ?_|refine zI ?_|refine zJ ?_|refine zK ?_|refine zL ?_|refine zM rfl ?_|refine zN ?_|refine zO ?_|refine zP ?_|refine zQ ?_)
          exact x_cut_n () trivial (by exact Imp.arr (by repeat (first | exact Arr.nil | exact Arr.stop | refine Arr.cons (by repeat constructor) ?_ | refine Arr.skip ?_))) ⟨rfl, trivial⟩
        · repeat (first|refine zA ?_|refine zB ?_|refine zC ?_|refine zD ?_|refine zE ?_|refine zF ?_|refine zG ?_|refine zH ?_|refine zI ?_|refine zJ ?_|refine zK ?_|refine zL ?_|refine zM rfl ?_|refine zN ?_|refine zO ?_|refine zP ?_|refine zQ ?_)
          refine x_reg ?_
          first | refine x_pv (pv_move_int rfl) ?_ | refine x_pv (pv_move rfl) ?_
          first | refine x_pv (pv_remn (b := 4) rfl rfl (by first | omega | exact Nat.le_of_ble_eq_true rfl | (simp; done) | (simp; omega) | decide)) ?_ | refine x_pv (pv_rem_i rfl rfl (by first | omega | exact Nat.le_of_ble_eq_true rfl | (simp; done) | (simp; omega) | decide)) ?_
          first | refine x_pv (pv_eqln (b := 3) rfl rfl) ?_ | refine x_pv (pv_eql rfl rfl) ?_
          refine x_isF 24 rfl (decide_eq_false (h3)) ?_
          refine x_nil ?_
          repeat (first|refine zA ?_|refine zB ?_|refine zC ?_|refine zD ?_|refine zE ?_|refine zF ?_|refine zG ?_|refine zH ?_|refine zI ?_|refine zJ ?_|refine zK ?_|refine zL ?_|refine zM rfl ?_|refine zN ?_|refine zO ?_|refine zP ?_|refine zQ ?_)
          refine x_cond_f rfl ?_
          by_cases h0 : i % 4 = 0
          · by_cases hp : 0 < i
            · have e : halfF key false i = (key.getD i 0#8).toNat / 4 * 4 := by unfold halfF; rw [if_neg (by decide), if_neg h3, if_pos ⟨h0, hp⟩]
              rw [e]
              repeat (first|refine zA ?_|refine zB ?_|refine zC ?_|refine zD ?_|refine zE ?_|refine zF ?_|refine zG ?_|refine zH ?_|refine zI ?_|refine zJ ?_|refine zK ?_|refine zL ?_|refine zM rfl ?_|refine zN ?_|refine zO ?_|refine zP ?_|refine zQ ?_)
              refine x_reg ?_
              first | refine x_pv (pv_move_int rfl) ?_ | refine x_pv (pv_move rfl) ?_
              first | refine x_pv (pv_remn (b := 4) rfl rfl (by first | omega | exact Nat.le_of_ble_eq_true rfl | (simp; done) | (simp; omega) | decide)) ?_ | refine x_pv (pv_rem_i rfl rfl (by first | omega | exact Nat.le_of_ble_eq_true rfl | (simp; done) | (simp; omega) | decide)) ?_
              first | refine x_pv (pv_eqln (b := 0) rfl rfl) ?_ | refine x_pv (pv_eql rfl rfl) ?_
              refine x_isT 29 rfl (decide_eq_true (h0)) ?_
              first | refine x_pv (pv_move_bool rfl) ?_ | refine x_pv (pv_move rfl) ?_
              first | refine x_gn rfl ?_ | refine x_gu rfl ?_ | (refine x_gy rfl ?_; (first | refine x_pv (pv_move_int rfl) ?_ | refine x_pv (pv_move rfl) ?_))
              first | refine x_gn rfl ?_ | refine x_gu rfl ?_ | (refine x_gy rfl ?_; (first | refine x_pv (pv_gtrn (b := 0) rfl rfl) ?_ | refine x_pv (pv_gtr rfl rfl) ?_))
              refine x_isT 32 rfl (decide_eq_true (hp)) ?_
              first | refine x_pv (pv_pick_tb rfl rfl) ?_ | refine x_pv (pv_pick_fb rfl rfl) ?_ | refine x_pv (pv_pick_t rfl rfl) ?_ | refine x_pv (pv_pick_f rfl rfl) ?_ | refine x_pv (pv_pick_and rfl rfl) ?_ | refine x_pv (pv_pick_or rfl rfl) ?_
              refine x_nil ?_
              repeat (first|refine zA ?_|refine zB ?_|refine zC ?_|refine zD ?_|refine zE ?_|refine zF ?_|refine zG ?_|refine zH ?_|refine zI ?_|refine zJ ?_|refine zK ?_|refine zL ?_|refine zM rfl ?_|refine zN ?_|refine zO ?_|refine zP ?_|refine zQ ?_)
              refine x_cond_t rfl ?_
              repeat (first|refine zA ?_|refine zB ?_|refine zC ?_|refine zD ?_|refine zE ?_|refine zF ?_|refine zG ?_|refine zH ?_|refine zI ?_|refine zJ ?_|refine zK ?_|refine zL ?_|refine zM rfl ?_|refine zN ?_|refine zO ?_|refine zP ?_|refine zQ ?_)
              refine x_reg ?_
              first | refine x_pv (pv_move_int rfl) ?_ | refine x_pv (pv_move rfl) ?_
              first | refine x_pv (pv_quon (b := 4) rfl rfl (by first | omega | exact Nat.le_of_ble_eq_true rfl | (simp; done) | (simp; omega) | decide) (by first | omega | exact Nat.le_of_ble_eq_true rfl | (simp; done) | (simp; omega) | decide)) ?_ | refine x_pv (pv_quo_i rfl rfl (by first | omega | exact Nat.le_of_ble_eq_true rfl | (simp; done) | (simp; omega) | decide)) ?_
              first | refine x_pv (pv_muln (b := 4) rfl rfl (by first | omega | exact Nat.le_of_ble_eq_true rfl | (simp; done) | (simp; omega) | decide)) ?_ | refine x_pv (pv_mul_i rfl rfl (by first | omega | exact Nat.le_of_ble_eq_true rfl | (simp; done) | (simp; omega) | decide)) ?_
              first | refine x_pv (pv_assign_int rfl) ?_ | refine x_pv (pv_assign rfl) ?_
              refine x_nil ?_
              repeat (first|refine zA ?_|refine zB ?_|refine zC ?_|refine zD ?_|refine zE ?_|refine zF ?_|refine zG ?_|refine zH ?_|refine zI ?_|refine zJ ?_|refine zK ?_|refine zL ?_|refine zM rfl ?_|refine zN ?_|refine zO ?_|refine zP ?_|refine zQ ?_)
              exact x_cut_n () trivial (by exact Imp.arr (by repeat (first | exact Arr.nil | exact Arr.stop | refine Arr.cons (by repeat constructor) ?_ | refine Arr.skip ?_))) ⟨rfl, trivial⟩
            · have e : halfF key false i = (key.getD i 0#8).toNat := by unfold halfF; rw [if_neg (by decide), if_neg h3, if_neg (fun h => hp h.2)]
              rw [e]
              repeat (first|refine zA ?_|refine zB ?_|refine zC ?_|refine zD ?_|refine zE ?_|refine zF ?_|refine zG ?_|refine zH ?_|refine zI ?_|refine zJ ?_|refine zK ?_|refine zL ?_|refine zM rfl ?_|refine zN ?_|refine zO ?_|refine zP ?_|refine zQ ?_)
              refine x_reg ?_
              first | refine x_pv (pv_move_int rfl) ?_ | refine x_pv (pv_move rfl) ?_
              first | refine x_pv (pv_remn (b := 4) rfl rfl (by first | omega | exact Nat.le_of_ble_eq_true rfl | (simp; done) | (simp; omega) | decide)) ?_ | refine x_pv (pv_rem_i rfl rfl (by first | omega | exact Nat.le_of_ble_eq_true rfl | (simp; done) | (simp; omega) | decide)) ?_
              first | refine x_pv (pv_eqln (b := 0) rfl rfl) ?_ | refine x_pv (pv_eql rfl rfl) ?_
              refine x_isT 29 rfl (decide_eq_true (h0)) ?_
              first | refine x_pv (pv_move_bool rfl) ?_ | refine x_pv (pv_move rfl) ?_
              first | refine x_gn rfl ?_ | refine x_gu rfl ?_ | (refine x_gy rfl ?_; (first | refine x_pv (pv_move_int rfl) ?_ | refine x_pv (pv_move rfl) ?_))
              first | refine x_gn rfl ?_ | refine x_gu rfl ?_ | (refine x_gy rfl ?_; (first | refine x_pv (pv_gtrn (b := 0) rfl rfl) ?_ | refine x_pv (pv_gtr rfl rfl) ?_))
              refine x_isF 32 rfl (decide_eq_false (hp)) ?_
              first | refine x_pv (pv_pick_tb rfl rfl) ?_ | refine x_pv (pv_pick_fb rfl rfl) ?_ | refine x_pv (pv_pick_t rfl rfl) ?_ | refine x_pv (pv_pick_f rfl rfl) ?_ | refine x_pv (pv_pick_and rfl rfl) ?_ | refine x_pv (pv_pick_or rfl rfl) ?_
              refine x_nil ?_
              repeat (first|refine zA ?_|refine zB ?_|refine zC ?_|refine zD ?_|refine zE ?_|refine zF ?_|refine zG ?_|refine zH ?_|refine zI ?_|refine zJ ?_|refine zK ?_|refine zL ?_|refine zM rfl ?_|refine zN ?_|refine zO ?_|refine zP ?_|refine zQ ?_)
              refine x_cond_f rfl ?_
              repeat (first|refine zA ?_|refine zB ?_|refine zC ?_|refine zD ?_|refine zE ?_|refine zF ?_|refine zG ?_|refine zH ?_|refine zI ?_|refine zJ ?_|refine zK ?_|refine zL ?_|refine zM rfl ?_|refine zN ?_|refine zO ?_|refine zP ?_|refine zQ ?_)
              exact x_cut_n () trivial (by exact Imp.arr (by repeat (first | exact Arr.nil | exact Arr.stop | refine Arr.cons (by repeat constructor) ?_ | refine Arr.skip ?_))) ⟨rfl, trivial⟩
          · have e : halfF key false i = (key.getD i 0#8).toNat := by unfold halfF; rw [if_neg (by decide), if_neg h3, if_neg (fun h => h0 h.1)]
            rw [e]
            repeat (first|refine zA ?_|refine zB ?_|refine zC ?_|refine zD ?_|refine zE ?_|refine zF ?_|refine zG ?_|refine zH ?_|refine zI ?_|refine zJ ?_|refine zK ?_|refine zL ?_|refine zM rfl ?_|refine zN ?_|refine zO ?_|refine zP ?_|refine zQ ?_)
            refine x_reg ?_
            first | refine x_pv (pv_move_int rfl) ?_ | refine x_pv (pv_move rfl) ?_
            first | refine x_pv (pv_remn (b := 4) rfl rfl (by first | omega | exact Nat.le_of_ble_eq_true rfl | (simp; done) | (simp; omega) | decide)) ?_ | refine x_pv (pv_rem_i rfl rfl (by first | omega | exact Nat.le_of_ble_eq_true rfl | (simp; done) | (simp; omega) | decide)) ?_
            first | refine x_pv (pv_eqln (b := 0) rfl rfl) ?_ | refine x_pv (pv_eql rfl rfl) ?_
            refine x_isF 29 rfl (decide_eq_false (h0)) ?_
            first | refine x_pv (pv_move_bool rfl) ?_ | refine x_pv (pv_move rfl) ?_
            first | refine x_gn rfl ?_ | refine x_gu rfl ?_ | (refine x_gy rfl ?_; (first | refine x_pv (pv_move_int rfl) ?_ | refine x_pv (pv_move rfl) ?_))
            first | refine x_gn rfl ?_ | refine x_gu rfl ?_ | (refine x_gy rfl ?_; (first | refine x_pv (pv_gtrn (b := 0) rfl rfl) ?_ | refine x_pv (pv_gtr rfl rfl) ?_))
            first | refine x_pv (pv_pick_tb rfl rfl) ?_ | refine x_pv (pv_pick_fb rfl rfl) ?_ | refine x_pv (pv_pick_t rfl rfl) ?_ | refine x_pv (pv_pick_f rfl rfl) ?_ | refine x_pv (pv_pick_and rfl rfl) ?_ | refine x_pv (pv_pick_or rfl rfl) ?_
            refine x_nil ?_
            repeat (first|refine zA ?_|refine zB ?_|refine zC ?_|refine zD ?_|refine zE ?_|refine zF ?_|refine zG ?_|refine zH ?_|refine zI ?_|refine zJ ?_|refine zK ?_|refine zL ?_|refine zM rfl ?_|refine zN ?_|refine zO ?_|refine zP ?_|refine zQ ?_)
            refine x_cond_f rfl ?_
            repeat (first|refine zA ?_|refine zB ?_|refine zC ?_|refine zD ?_|refine zE ?_|refine zF ?_|refine zG ?_|refine zH ?_|refine zI ?_|refine zJ ?_|refine zK ?_|refine zL ?_|refine zM rfl ?_|refine zN ?_|refine zO ?_|refine zP ?_|refine zQ ?_)
            exact x_cut_n () trivial (by exact Imp.arr (by repeat (first | exact Arr.nil | exact Arr.stop | refine Arr.cons (by repeat constructor) ?_ | refine Arr.skip ?_))) ⟨rfl, trivial⟩
    intro _ u2 _
    repeat (first|refine zA ?_|refine zB ?_|refine zC ?_|refine zD ?_|refine zE ?_|refine zF ?_|refine zG ?_|refine zH ?_|refine zI ?_|refine zJ ?_|refine zK ?_|refine zL ?_|refine zM rfl ?_|refine zN ?_|refine zO ?_|refine zP ?_|refine zQ ?_)
    refine x_reg ?_
    first | refine x_pv (pv_move_slice rfl) ?_ | refine x_pv (pv_move rfl) ?_
    first | refine x_pv (pv_move_int rfl) ?_ | refine x_pv (pv_move rfl) ?_
    refine x_buildSlice (cs := #[.int .i64 _]) (by omega) (by omega) rfl ?_; intro b39
    refine x_append rfl rfl (by repeat constructor) (Rd.cl (xs := [nv (halfF key s i)]) (by repeat constructor) rfl (by first | rfl | omega | (rw [szL]; omega) | exact Nat.le_of_ble_eq_true rfl | (simp; done) | (simp; omega)) rfl) (by first | rfl | exact oneM_u8 _ | exact oneL_u8 _ | (simp [oneC]; done)) (by omega) (by first | omega | exact Nat.le_of_ble_eq_true rfl | (simp; done) | (simp; omega) | decide) ?_; intro a3 c3
    first | refine x_pv (pv_assign_slice rfl) ?_ | refine x_pv (pv_assign rfl) ?_
    refine x_nil ?_
    repeat (first|refine zA ?_|refine zB ?_|refine zC ?_|refine zD ?_|refine zE ?_|refine zF ?_|refine zG ?_|refine zH ?_|refine zI ?_|refine zJ ?_|refine zK ?_|refine zL ?_|refine zM rfl ?_|refine zN ?_|refine zO ?_|refine zP ?_|refine zQ ?_)
    refine x_reg ?_
    first | refine x_pv (pv_move_int rfl) ?_ | refine x_pv (pv_move rfl) ?_
    first | refine x_pv (pv_addn (b := 1) rfl rfl (by first | omega | exact Nat.le_of_ble_eq_true rfl | (simp; done) | (simp; omega) | decide)) ?_ | refine x_pv (pv_add_i rfl rfl (by first | omega | exact Nat.le_of_ble_eq_true rfl | (simp; done) | (simp; omega) | decide)) ?_
    first | refine x_pv (pv_assign_int rfl) ?_ | refine x_pv (pv_assign rfl) ?_
    refine x_nil ?_
    repeat (first|refine zA ?_|refine zB ?_|refine zC ?_|refine zD ?_|refine zE ?_|refine zF ?_|refine zG ?_|refine zH ?_|refine zI ?_|refine zJ ?_|refine zK ?_|refine zL ?_|refine zM rfl ?_|refine zN ?_|refine zO ?_|refine zP ?_|refine zQ ?_)
    refine x_loop_n (i + 1, a3, c3) (by first | omega | (dsimp only; omega) | (simp only []; omega)) (by first | omega | (dsimp only; omega) | (simp only []; omega)) ?_ ?_
    · dsimp only; rw [halfD_succ, List.length_append, List.map_append]; exact Imp.arr (by repeat (first | exact Arr.nil | exact Arr.stop | refine Arr.cons (by repeat constructor) ?_ | refine Arr.skip ?_))
    · dsimp only; rw [halfD_succ, List.length_append]; exact ⟨rfl, rfl, trivial⟩
  · have hie : i = 16 := by omega
    subst hie
    repeat (first|refine zA ?_|refine zB ?_|refine zC ?_|refine zD ?_|refine zE ?_|refine zF ?_|refine zG ?_|refine zH ?_|refine zI ?_|refine zJ ?_|refine zK ?_|refine zL ?_|refine zM rfl ?_|refine zN ?_|refine zO ?_|refine zP ?_|refine zQ ?_)
    refine x_reg ?_
    first | refine x_pv (pv_move_slice rfl) ?_ | refine x_pv (pv_move rfl) ?_
    first | refine x_pv (pv_assign_slice rfl) ?_ | refine x_pv (pv_assign rfl) ?_
    refine x_nil ?_
    repeat (first|refine zA ?_|refine zB ?_|refine zC ?_|refine zD ?_|refine zE ?_|refine zF ?_|refine zG ?_|refine zH ?_|refine zI ?_|refine zJ ?_|refine zK ?_|refine zL ?_|refine zM rfl ?_|refine zN ?_|refine zO ?_|refine zP ?_|refine zQ ?_)
    refine rx1 (rx_slice rfl (rx_nil)) ?_
    exact ⟨_, ⟨da, dc, rfl, rfl⟩, by exact Imp.arr (by repeat (first | exact Arr.nil | exact Arr.stop | refine Arr.cons (by repeat constructor) ?_ | refine Arr.skip ?_))⟩
end Go.Sl

/- the document's answer for the code: Sum is the code. -/
set_option maxHeartbeats 4000000
set_option maxRecDepth 10000
set_option linter.unusedVariables false
set_option linter.unusedSimpArgs false
namespace Go.Sl
open Go Go.Proofs
attribute [local irreducible] cl pt own old pur ex all den denOps denS xOps xC cX CX xthen xblk xcut xloop retX resX Calls PV Rd Con
theorem digB_val : ∀ (n : Nat) (d : List Nat), Dig d → leN ((List.range n).map fun j => BitVec.ofInt 8 ((d.getD j 0 : Nat) : Int)) = valD d % 256 ^ n
  | 0, d, _ => by simp [leN, Nat.mod_one]
  | n + 1, [], h => by
    have : ∀ m, leN ((List.range m).map fun j => BitVec.ofInt 8 ((([] : List Nat).getD j 0 : Nat) : Int)) = 0 := by
      intro m
      have e : ((List.range m).map fun j => BitVec.ofInt 8 ((([] : List Nat).getD j 0 : Nat) : Int)) = List.replicate m 0#8 := by
        apply List.ext_getElem (by simp)
        intro j h1 h2
        simp
      rw [e, leN_zeros]
    rw [this]; simp [valD]
  | n + 1, x :: d, h => by
    have hx := h x (by simp)
    have ih := digB_val n d (fun y hy => h y (by simp [hy]))
    rw [List.range_succ_eq_map, List.map_cons, List.map_map]
    show (BitVec.ofInt 8 ((x : Nat) : Int)).toNat + 256 * leN ((List.range n).map fun j => BitVec.ofInt 8 ((d.getD j 0 : Nat) : Int)) = _
    rw [ih, BitVec.toNat_ofInt]
    simp only [valD]
    have hp : 0 < 256 ^ n := Nat.pow_pos (by omega)
    have e1 : ((x : Nat) : Int) % ((2 ^ 8 : Nat) : Int) = x := by omega
    have e2 : (x + 256 * valD d) % 256 ^ (n + 1) = x + 256 * (valD d % 256 ^ n) := by
      rw [Nat.pow_succ, Nat.mul_comm (256 ^ n) 256, Nat.mod_mul, Nat.add_mul_mod_self_left, Nat.mod_eq_of_lt hx, Nat.add_mul_div_left _ _ (by omega), Nat.div_eq_of_lt hx, Nat.zero_add]
    rw [e1, e2]
    simp
def outD (d : List Nat) (j : Nat) : Byte := BitVec.ofInt 8 ((d.getD j 0 : Nat) : Int)
theorem outD_code (key m : List Byte) (hk : key.length = 32) (d : List Nat) (hd : Dig d) (hv : valD d = polyN key m + sN key) : (List.range 16).map (outD d) = code key m := by
  apply leN_inj (by rw [code_len]; simp)
  rw [code_val key m hk]
  have := digB_val 16 d hd
  rw [show (256 : Nat) ^ 16 = 340282366920938463463374607431768211456 by decide, hv] at this
  exact this
theorem uptoT_over (N : Nat) (d : List Nat) (i : Nat) (h : d.length ≤ i) : uptoT N (outD d) i = uptoT N (outD d) N := by
  apply List.map_congr_left
  intro j hj
  have hj : j < N := by simpa using hj
  by_cases h1 : j < i
  · rw [if_pos h1, if_pos hj]
  · rw [if_neg h1, if_pos hj]
    unfold outD
    rw [List.getD_eq_getElem?_getD, List.getElem?_eq_none (by omega)]; rfl
theorem accN_lt (R : Nat) (m : List Byte) (i : Nat) : accN R m i < 1361129467683753853853498429727072845819 := by
  unfold accN finN
  have key2 : ∀ (m : List Byte) (s : Nat × List Byte), s.1 < 1361129467683753853853498429727072845819 → (m.foldl (stepN R) s).1 < 1361129467683753853853498429727072845819 := by
    intro m
    induction m with
    | nil => exact fun _ h => h
    | cons x m ih =>
      intro s hs
      refine ih _ ?_
      unfold stepN
      split
      · exact Nat.mod_lt _ (by omega)
      · exact hs
  split
  · exact key2 _ _ (by show 0 < _; omega)
  · exact Nat.mod_lt _ (by omega)
theorem accN_zero (R : Nat) (m : List Byte) : accN R m 0 = 0 := by unfold accN; rw [List.take_zero]; rfl
attribute [local irreducible] accN polyN sN rN code halfD
theorem rsum_x {L : List Asrt} (key : List Byte) (hk : key.length = 32) {v : Value} {m : List Byte} (h : Bs L v m) (hm : m.length ≤ 140737488355328) :
    Con Try.prog 14 [.agg (key.map u8b).toArray, v] L (fun r M => r = .agg ((code key m).map u8b).toArray ∧ L = M) := by
  refine Con.get (fun w0 w F H => h.sh _ _ _ H) ?_
  rintro ⟨va, vc, rfl, hvc, hvcm⟩
  have hh := halfD_len key false 16
  have hh2 := halfD_len key true 16
  have hhd := halfD_dig key false 16
  have hhv := halfD_false key hk
  generalize hrd : halfD key false 16 = rd at hh hhd hhv
  have hR : valD rd < 256 ^ 16 := valD_le hhd (by omega)
  refine fn_x Try.func14 rfl rfl rfl Try.mixed (by kernel_rfl) ?_
  intro w0
  repeat (first|refine zA ?_|refine zB ?_|refine zC ?_|refine zD ?_|refine zE ?_|refine zF ?_|refine zG ?_|refine zH ?_|refine zI ?_|refine zJ ?_|refine zK ?_|refine zL ?_|refine zM rfl ?_|refine zN ?_|refine zO ?_|refine zP ?_|refine zQ ?_)
  refine x_reg ?_
  refine x_box_a rfl ?_; intro b2
  refine x_alloc (cs := ((List.replicate 16 0#8).map u8b).toArray) rfl ?_; intro b4
  refine x_nil ?_
  repeat (first|refine zA ?_|refine zB ?_|refine zC ?_|refine zD ?_|refine zE ?_|refine zF ?_|refine zG ?_|refine zH ?_|refine zI ?_|refine zJ ?_|refine zK ?_|refine zL ?_|refine zM rfl ?_|refine zN ?_|refine zO ?_|refine zP ?_|refine zQ ?_)
  refine x_reg ?_
  first | refine x_load_all rfl (by repeat constructor) (by first | rfl | omega | (rw [szL]; omega) | exact Nat.le_of_ble_eq_true rfl | (simp; done) | (simp; omega)) ?_ | refine x_load_agg rfl (by repeat constructor) (by first | rfl | omega | (rw [szL]; omega) | exact Nat.le_of_ble_eq_true rfl | (simp; done) | (simp; omega)) rfl ?_
  refine x_call rfl (by kernel_rfl) (half_x key hk false) rfl (by repeat (first | exact Take.nil | exact Take.all | (apply Take.cons; (next => (repeat constructor); done)) | apply Take.skip)) ?_
  rintro _ _ ⟨ra, rc, rfl, rfl⟩
  refine xo_app (by repeat (first | exact App.nil | apply App.cons | (apply App.flip; first | exact App.nil | apply App.cons) | exact App.any)) ?_
  first | refine x_pv (pv_assign_slice rfl) ?_ | refine x_pv (pv_assign rfl) ?_
  refine x_nil ?_
  repeat (first|refine zA ?_|refine zB ?_|refine zC ?_|refine zD ?_|refine zE ?_|refine zF ?_|refine zG ?_|refine zH ?_|refine zI ?_|refine zJ ?_|refine zK ?_|refine zL ?_|refine zM rfl ?_|refine zN ?_|refine zO ?_|refine zP ?_|refine zQ ?_)
  rw [hrd]
  repeat (first|refine zA ?_|refine zB ?_|refine zC ?_|refine zD ?_|refine zE ?_|refine zF ?_|refine zG ?_|refine zH ?_|refine zI ?_|refine zJ ?_|refine zK ?_|refine zL ?_|refine zM rfl ?_|refine zN ?_|refine zO ?_|refine zP ?_|refine zQ ?_)
  refine x_reg ?_
  refine x_buildSlice (cs := #[.int .i64 _]) (by omega) (by omega) rfl ?_; intro b15
  first | refine x_pv (pv_assign_slice rfl) ?_ | refine x_pv (pv_assign rfl) ?_
  refine x_nil ?_
  repeat (first|refine zA ?_|refine zB ?_|refine zC ?_|refine zD ?_|refine zE ?_|refine zF ?_|refine zG ?_|refine zH ?_|refine zI ?_|refine zJ ?_|refine zK ?_|refine zL ?_|refine zM rfl ?_|refine zN ?_|refine zO ?_|refine zP ?_|refine zQ ?_)
  refine x_reg ?_
  first | refine x_pv (pv_assign_int rfl) ?_ | refine x_pv (pv_assign rfl) ?_
  refine x_nil ?_
  repeat (first|refine zA ?_|refine zB ?_|refine zC ?_|refine zD ?_|refine zE ?_|refine zF ?_|refine zG ?_|refine zH ?_|refine zI ?_|refine zJ ?_|refine zK ?_|refine zL ?_|refine zM rfl ?_|refine zN ?_|refine zO ?_|refine zP ?_|refine zQ ?_)
  refine x_loop [(6, 9), (16, 51)] (by kernel_rfl) (fun s : Nat × Option Addr × Nat × List Nat => Dig s.2.2.2 ∧ s.2.2.2.length ≤ 17 ∧ valD s.2.2.2 = accN (rN key) m s.1 ∧ (((m.take s.1).foldl (stepN (rN key)) (0, [])).2 = [] ∨ m.length ≤ s.1) ∧ s.1 ≤ m.length + 16)
    (fun s => own 3 1 (.slice s.2.1 s.2.2.2.length s.2.2.1) s.2.2.2.length (s.2.2.2.map nv) :: own 3 1 (.slice ra rd.length rc) rd.length (rd.map nv) :: cl b2 (key.map u8b).toArray 24 :: cl b4 ((List.replicate 16 0#8).map u8b).toArray 28 :: L) (fun s => [(7, nv s.1), (6, .slice s.2.1 s.2.2.2.length s.2.2.1)]) (fun s => m.length + 16 - s.1)
    (0, some ⟨b15, 0, none⟩, 1, [0])
    ⟨by intro x hx; simp at hx; omega, by simp, by dsimp only; rw [accN_zero]; rfl, .inl rfl, by dsimp only; omega⟩ (Imp.trans (Imp.arr (N := cl b15 #[.int .i64 0] 3 :: own 3 1 (.slice ra rd.length rc) rd.length (rd.map nv) :: cl b2 (key.map u8b).toArray 24 :: cl b4 ((List.replicate 16 0#8).map u8b).toArray 28 :: L) (by repeat (first | exact Arr.nil | exact Arr.stop | refine Arr.cons (by repeat constructor) ?_ | refine Arr.skip ?_))) (Imp.own_mk (by simp) (by simp) rfl rfl)) ⟨rfl, rfl, trivial⟩ ?_
  rintro ⟨i, aa, ca, ac⟩ u ⟨had, hal, hav, hst, hib⟩
  dsimp only at had hal hav hst hib ⊢
  obtain ⟨E, hEe⟩ : ∃ E, E = own 3 1 (.slice aa ac.length ca) ac.length (ac.map nv) :: own 3 1 (.slice ra rd.length rc) rd.length (rd.map nv) :: cl b2 (key.map u8b).toArray 24 :: cl b4 ((List.replicate 16 0#8).map u8b).toArray 28 :: L := ⟨_, rfl⟩
  have hE : Imp E (own 3 1 (.slice ra rd.length rc) rd.length (rd.map nv) :: cl b2 (key.map u8b).toArray 24 :: cl b4 ((List.replicate 16 0#8).map u8b).toArray 28 :: L) := by rw [hEe]; exact Imp.tail
  have hrda : Rd E 1 (.slice aa ac.length ca) ac.length (ac.map nv) := by rw [hEe]; exact rd_own .here
  have hEL : Imp E L := hE.trans (Imp.arr (by repeat (first | exact Arr.nil | exact Arr.stop | refine Arr.cons (by repeat constructor) ?_ | refine Arr.skip ?_)))
  rw [← hEe]
  repeat (first|refine zA ?_|refine zB ?_|refine zC ?_|refine zD ?_|refine zE ?_|refine zF ?_|refine zG ?_|refine zH ?_|refine zI ?_|refine zJ ?_|refine zK ?_|refine zL ?_|refine zM rfl ?_|refine zN ?_|refine zO ?_|refine zP ?_|refine zQ ?_)
  refine x_reg ?_
  first | refine x_pv (pv_move_int rfl) ?_ | refine x_pv (pv_move rfl) ?_
  first | refine x_pv (pv_move_slice rfl) ?_ | refine x_pv (pv_move rfl) ?_
  first | refine x_pv (pv_len rfl) ?_ | refine x_pv (pv_len_arr) ?_ | refine x_pv (pv_len_str rfl) ?_
  first | refine x_pv (pv_lssn rfl rfl) ?_ | refine x_pv (pv_lss rfl rfl) ?_
  refine x_nil ?_
  repeat (first|refine zA ?_|refine zB ?_|refine zC ?_|refine zD ?_|refine zE ?_|refine zF ?_|refine zG ?_|refine zH ?_|refine zI ?_|refine zJ ?_|refine zK ?_|refine zL ?_|refine zM rfl ?_|refine zN ?_|refine zO ?_|refine zP ?_|refine zQ ?_)
  refine x_cond_p rfl (fun hA => ?_) (fun hA => ?_)
  · have h0 : ((m.take i).foldl (stepN (rN key)) (0, [])).2 = [] := by
      rcases hst with h1 | h1
      · exact h1
      · omega
    repeat (first|refine zA ?_|refine zB ?_|refine zC ?_|refine zD ?_|refine zE ?_|refine zF ?_|refine zG ?_|refine zH ?_|refine zI ?_|refine zJ ?_|refine zK ?_|refine zL ?_|refine zM rfl ?_|refine zN ?_|refine zO ?_|refine zP ?_|refine zQ ?_)
    refine x_reg ?_
    first | refine x_pv (pv_assign_slice rfl) ?_ | refine x_pv (pv_assign rfl) ?_
    refine x_nil ?_
    repeat (first|refine zA ?_|refine zB ?_|refine zC ?_|refine zD ?_|refine zE ?_|refine zF ?_|refine zG ?_|refine zH ?_|refine zI ?_|refine zJ ?_|refine zK ?_|refine zL ?_|refine zM rfl ?_|refine zN ?_|refine zO ?_|refine zP ?_|refine zQ ?_)
    refine x_reg ?_
    first | refine x_pv (pv_move_int rfl) ?_ | refine x_pv (pv_move rfl) ?_
    first | refine x_pv (pv_assign_int rfl) ?_ | refine x_pv (pv_assign rfl) ?_
    refine x_nil ?_
    repeat (first|refine zA ?_|refine zB ?_|refine zD ?_|refine zE ?_|refine zF ?_|refine zG ?_|refine zH ?_|refine zI ?_|refine zJ ?_|refine zK ?_|refine zL ?_|refine zM rfl ?_|refine zN ?_|refine zO ?_|refine zP ?_|refine zQ ?_)
    refine x_cutt [(8, 9), (23, 42)] (by kernel_rfl) (fun t : Option Addr × Nat => True)
      (fun t => own 3 1 (.slice t.1 (digL ((m.drop i).take 16)).length t.2) (digL ((m.drop i).take 16)).length ((digL ((m.drop i).take 16)).map nv) :: E)
      (fun t => [(8, .slice t.1 (digL ((m.drop i).take 16)).length t.2)]) ?_ ?_
    · repeat (first|refine zA ?_|refine zB ?_|refine zC ?_|refine zD ?_|refine zE ?_|refine zF ?_|refine zG ?_|refine zH ?_|refine zI ?_|refine zJ ?_|refine zK ?_|refine zL ?_|refine zM rfl ?_|refine zN ?_|refine zO ?_|refine zP ?_|refine zQ ?_)
      refine x_loop [(8, 9), (23, 42)] (by kernel_rfl) (fun t : Nat × Option Addr × Nat => t.1 ≤ 16 ∧ i + t.1 ≤ m.length)
        (fun t => own 3 1 (.slice t.2.1 (digL ((m.drop i).take t.1)).length t.2.2) (digL ((m.drop i).take t.1)).length ((digL ((m.drop i).take t.1)).map nv) :: E)
        (fun t => [(9, nv (i + t.1)), (8, .slice t.2.1 (digL ((m.drop i).take t.1)).length t.2.2)]) (fun t => 16 - t.1) (0, none, 0) ⟨by omega, by dsimp only; omega⟩ Imp.own_nil ⟨rfl, rfl, trivial⟩ ?_
      rintro ⟨j, da, dc⟩ u2 ⟨hj, hjl⟩
      dsimp only at hj hjl ⊢
      have hdl : (digL ((m.drop i).take j)).length = j := by simp [digL]; omega
      by_cases hB : i + j < m.length
      · by_cases hC : i + j < i + 16
        · repeat (first|refine zA ?_|refine zB ?_|refine zC ?_|refine zD ?_|refine zE ?_|refine zF ?_|refine zG ?_|refine zH ?_|refine zI ?_|refine zJ ?_|refine zK ?_|refine zL ?_|refine zM rfl ?_|refine zN ?_|refine zO ?_|refine zP ?_|refine zQ ?_)
          refine x_reg ?_
          first | refine x_pv (pv_move_int rfl) ?_ | refine x_pv (pv_move rfl) ?_
          first | refine x_pv (pv_move_slice rfl) ?_ | refine x_pv (pv_move rfl) ?_
          first | refine x_pv (pv_len rfl) ?_ | refine x_pv (pv_len_arr) ?_ | refine x_pv (pv_len_str rfl) ?_
          first | refine x_pv (pv_lssn rfl rfl) ?_ | refine x_pv (pv_lss rfl rfl) ?_
          refine x_isT 26 rfl (decide_eq_true (hB)) ?_
          first | refine x_pv (pv_move_bool rfl) ?_ | refine x_pv (pv_move rfl) ?_
          first | refine x_gn rfl ?_ | refine x_gu rfl ?_ | (refine x_gy rfl ?_; (first | refine x_pv (pv_move_int rfl) ?_ | refine x_pv (pv_move rfl) ?_))
          first | refine x_gn rfl ?_ | refine x_gu rfl ?_ | (refine x_gy rfl ?_; (first | refine x_pv (pv_move_int rfl) ?_ | refine x_pv (pv_move rfl) ?_))
          first | refine x_gn rfl ?_ | refine x_gu rfl ?_ | (refine x_gy rfl ?_; (first | refine x_pv (pv_addn (b := 16) rfl rfl (by first | omega | exact Nat.le_of_ble_eq_true rfl | (simp; done) | (simp; omega) | decide)) ?_ | refine x_pv (pv_add_i rfl rfl (by first | omega | exact Nat.le_of_ble_eq_true rfl | (simp; done) | (simp; omega) | decide)) ?_))
          first | refine x_gn rfl ?_ | refine x_gu rfl ?_ | (refine x_gy rfl ?_; (first | refine x_pv (pv_lssn rfl rfl) ?_ | refine x_pv (pv_lss rfl rfl) ?_))
          refine x_isT 31 rfl (decide_eq_true (hC)) ?_
          first | refine x_pv (pv_pick_tb rfl rfl) ?_ | refine x_pv (pv_pick_fb rfl rfl) ?_ | refine x_pv (pv_pick_t rfl rfl) ?_ | refine x_pv (pv_pick_f rfl rfl) ?_ | refine x_pv (pv_pick_and rfl rfl) ?_ | refine x_pv (pv_pick_or rfl rfl) ?_
          refine x_nil ?_
          repeat (first|refine zA ?_|refine zB ?_|refine zC ?_|refine zD ?_|refine zE ?_|refine zF ?_|refine zG ?_|refine zH ?_|refine zI ?_|refine zJ ?_|refine zK ?_|refine zL ?_|refine zM rfl ?_|refine zN ?_|refine zO ?_|refine zP ?_|refine zQ ?_)
          refine x_cond_t rfl ?_
          repeat (first|refine zA ?_|refine zB ?_|refine zC ?_|refine zD ?_|refine zE ?_|refine zF ?_|refine zG ?_|refine zH ?_|refine zI ?_|refine zJ ?_|refine zK ?_|refine zL ?_|refine zM rfl ?_|refine zN ?_|refine zO ?_|refine zP ?_|refine zQ ?_)
          refine x_get (fun F w H => (h.imp (Imp.tail.trans hEL)).some (by omega) H) ?_
          rintro ⟨a1, a2, rfl⟩
          repeat (first|refine zA ?_|refine zB ?_|refine zC ?_|refine zD ?_|refine zE ?_|refine zF ?_|refine zG ?_|refine zH ?_|refine zI ?_|refine zJ ?_|refine zK ?_|refine zL ?_|refine zM rfl ?_|refine zN ?_|refine zO ?_|refine zP ?_|refine zQ ?_)
          refine x_reg ?_
          first | refine x_pv (pv_move_slice rfl) ?_ | refine x_pv (pv_move rfl) ?_
          first | refine x_pv (pv_move_slice rfl) ?_ | refine x_pv (pv_move rfl) ?_
          first | refine x_pv (pv_move_int rfl) ?_ | refine x_pv (pv_move rfl) ?_
          first | refine x_pv (pv_ixs1z rfl rfl (by first | omega | exact Nat.le_of_ble_eq_true rfl | (simp; done) | (simp; omega))) ?_ | refine x_pv (pv_ixs1 rfl rfl (by first | omega | exact Nat.le_of_ble_eq_true rfl | (simp; done) | (simp; omega))) ?_
          refine x_load_sl (j := i + j) rfl (h.rd.imp (Imp.tail.trans hEL)) hB (getM hB) ?_
          refine x_pv (pv_conv_u8_i rfl) ?_
          refine x_buildSlice (cs := #[.int .i64 _]) (by omega) (by omega) rfl ?_; intro b41
          refine x_append rfl rfl (by repeat constructor) (Rd.cl (xs := [nv m[i + j].toNat]) (by repeat constructor) rfl (by first | rfl | omega | (rw [szL]; omega) | exact Nat.le_of_ble_eq_true rfl | (simp; done) | (simp; omega)) rfl) (by first | rfl | exact oneM_u8 _ | exact oneL_u8 _ | (simp [oneC]; done)) (by omega) (by first | omega | exact Nat.le_of_ble_eq_true rfl | (simp; done) | (simp; omega) | decide) ?_; intro a3 c3
          first | refine x_pv (pv_assign_slice rfl) ?_ | refine x_pv (pv_assign rfl) ?_
          refine x_nil ?_
          repeat (first|refine zA ?_|refine zB ?_|refine zC ?_|refine zD ?_|refine zE ?_|refine zF ?_|refine zG ?_|refine zH ?_|refine zI ?_|refine zJ ?_|refine zK ?_|refine zL ?_|refine zM rfl ?_|refine zN ?_|refine zO ?_|refine zP ?_|refine zQ ?_)
          refine x_reg ?_
          first | refine x_pv (pv_move_int rfl) ?_ | refine x_pv (pv_move rfl) ?_
          first | refine x_pv (pv_addn (b := 1) rfl rfl (by first | omega | exact Nat.le_of_ble_eq_true rfl | (simp; done) | (simp; omega) | decide)) ?_ | refine x_pv (pv_add_i rfl rfl (by first | omega | exact Nat.le_of_ble_eq_true rfl | (simp; done) | (simp; omega) | decide)) ?_
          first | refine x_pv (pv_assign_int rfl) ?_ | refine x_pv (pv_assign rfl) ?_
          refine x_nil ?_
          repeat (first|refine zA ?_|refine zB ?_|refine zC ?_|refine zD ?_|refine zE ?_|refine zF ?_|refine zG ?_|refine zH ?_|refine zI ?_|refine zJ ?_|refine zK ?_|refine zL ?_|refine zM rfl ?_|refine zN ?_|refine zO ?_|refine zP ?_|refine zQ ?_)
          have e : digL ((m.drop i).take (j + 1)) = digL ((m.drop i).take j) ++ [m[i + j].toNat] := by
            rw [List.take_succ_eq_append_getElem (by simp; omega), digL_app]; simp [digL]
          refine x_loop_n (j + 1, a3, c3) (by first | omega | (dsimp only; omega) | (simp only []; omega)) ⟨by dsimp only; omega, by dsimp only; omega⟩ ?_ ?_
          · dsimp only; rw [e, List.length_append, List.map_append]; exact Imp.arr (by repeat (first | exact Arr.nil | exact Arr.stop | refine Arr.cons (by repeat constructor) ?_ | refine Arr.skip ?_))
          · dsimp only; rw [e, List.length_append]; exact ⟨rfl, rfl, trivial⟩
        · repeat (first|refine zA ?_|refine zB ?_|refine zC ?_|refine zD ?_|refine zE ?_|refine zF ?_|refine zG ?_|refine zH ?_|refine zI ?_|refine zJ ?_|refine zK ?_|refine zL ?_|refine zM rfl ?_|refine zN ?_|refine zO ?_|refine zP ?_|refine zQ ?_)
          refine x_reg ?_
          first | refine x_pv (pv_move_int rfl) ?_ | refine x_pv (pv_move rfl) ?_
          first | refine x_pv (pv_move_slice rfl) ?_ | refine x_pv (pv_move rfl) ?_
          first | refine x_pv (pv_len rfl) ?_ | refine x_pv (pv_len_arr) ?_ | refine x_pv (pv_len_str rfl) ?_
          first | refine x_pv (pv_lssn rfl rfl) ?_ | refine x_pv (pv_lss rfl rfl) ?_
          refine x_isT 26 rfl (decide_eq_true (hB)) ?_
          first | refine x_pv (pv_move_bool rfl) ?_ | refine x_pv (pv_move rfl) ?_
          first | refine x_gn rfl ?_ | refine x_gu rfl ?_ | (refine x_gy rfl ?_; (first | refine x_pv (pv_move_int rfl) ?_ | refine x_pv (pv_move rfl) ?_))
          first | refine x_gn rfl ?_ | refine x_gu rfl ?_ | (refine x_gy rfl ?_; (first | refine x_pv (pv_move_int rfl) ?_ | refine x_pv (pv_move rfl) ?_))
          first | refine x_gn rfl ?_ | refine x_gu rfl ?_ | (refine x_gy rfl ?_; (first | refine x_pv (pv_addn (b := 16) rfl rfl (by first | omega | exact Nat.le_of_ble_eq_true rfl | (simp; done) | (simp; omega) | decide)) ?_ | refine x_pv (pv_add_i rfl rfl (by first | omega | exact Nat.le_of_ble_eq_true rfl | (simp; done) | (simp; omega) | decide)) ?_))
          first | refine x_gn rfl ?_ | refine x_gu rfl ?_ | (refine x_gy rfl ?_; (first | refine x_pv (pv_lssn rfl rfl) ?_ | refine x_pv (pv_lss rfl rfl) ?_))
          refine x_isF 31 rfl (decide_eq_false (hC)) ?_
          first | refine x_pv (pv_pick_tb rfl rfl) ?_ | refine x_pv (pv_pick_fb rfl rfl) ?_ | refine x_pv (pv_pick_t rfl rfl) ?_ | refine x_pv (pv_pick_f rfl rfl) ?_ | refine x_pv (pv_pick_and rfl rfl) ?_ | refine x_pv (pv_pick_or rfl rfl) ?_
          refine x_nil ?_
          repeat (first|refine zA ?_|refine zB ?_|refine zC ?_|refine zD ?_|refine zE ?_|refine zF ?_|refine zG ?_|refine zH ?_|refine zI ?_|refine zJ ?_|refine zK ?_|refine zL ?_|refine zM rfl ?_|refine zN ?_|refine zO ?_|refine zP ?_|refine zQ ?_)
          refine x_cond_f rfl ?_
          repeat (first|refine zA ?_|refine zB ?_|refine zC ?_|refine zD ?_|refine zE ?_|refine zF ?_|refine zG ?_|refine zH ?_|refine zI ?_|refine zJ ?_|refine zK ?_|refine zL ?_|refine zM rfl ?_|refine zN ?_|refine zO ?_|refine zP ?_|refine zQ ?_)
          have e : j = 16 := by omega
          subst e
          exact x_cut_n (da, dc) trivial (by exact Imp.arr (by repeat (first | exact Arr.nil | exact Arr.stop | refine Arr.cons (by repeat constructor) ?_ | refine Arr.skip ?_))) ⟨rfl, trivial⟩
      · repeat (first|refine zA ?_|refine zB ?_|refine zC ?_|refine zD ?_|refine zE ?_|refine zF ?_|refine zG ?_|refine zH ?_|refine zI ?_|refine zJ ?_|refine zK ?_|refine zL ?_|refine zM rfl ?_|refine zN ?_|refine zO ?_|refine zP ?_|refine zQ ?_)
        refine x_reg ?_
        first | refine x_pv (pv_move_int rfl) ?_ | refine x_pv (pv_move rfl) ?_
        first | refine x_pv (pv_move_slice rfl) ?_ | refine x_pv (pv_move rfl) ?_
        first | refine x_pv (pv_len rfl) ?_ | refine x_pv (pv_len_arr) ?_ | refine x_pv (pv_len_str rfl) ?_
        first | refine x_pv (pv_lssn rfl rfl) ?_ | refine x_pv (pv_lss rfl rfl) ?_
        refine x_isF 26 rfl (decide_eq_false (hB)) ?_
        first | refine x_pv (pv_move_bool rfl) ?_ | refine x_pv (pv_move rfl) ?_
        first | refine x_gn rfl ?_ | refine x_gu rfl ?_ | (refine x_gy rfl ?_; (first | refine x_pv (pv_move_int rfl) ?_ | refine x_pv (pv_move rfl) ?_))
        first | refine x_gn rfl ?_ | refine x_gu rfl ?_ | (refine x_gy rfl ?_; (first | refine x_pv (pv_move_int rfl) ?_ | refine x_pv (pv_move rfl) ?_))
        first | refine x_gn rfl ?_ | refine x_gu rfl ?_ | (refine x_gy rfl ?_; (first | refine x_pv (pv_addn (b := 16) rfl rfl (by first | omega | exact Nat.le_of_ble_eq_true rfl | (simp; done) | (simp; omega) | decide)) ?_ | refine x_pv (pv_add_i rfl rfl (by first | omega | exact Nat.le_of_ble_eq_true rfl | (simp; done) | (simp; omega) | decide)) ?_))
        first | refine x_gn rfl ?_ | refine x_gu rfl ?_ | (refine x_gy rfl ?_; (first | refine x_pv (pv_lssn rfl rfl) ?_ | refine x_pv (pv_lss rfl rfl) ?_))
        first | refine x_pv (pv_pick_tb rfl rfl) ?_ | refine x_pv (pv_pick_fb rfl rfl) ?_ | refine x_pv (pv_pick_t rfl rfl) ?_ | refine x_pv (pv_pick_f rfl rfl) ?_ | refine x_pv (pv_pick_and rfl rfl) ?_ | refine x_pv (pv_pick_or rfl rfl) ?_
        refine x_nil ?_
        repeat (first|refine zA ?_|refine zB ?_|refine zC ?_|refine zD ?_|refine zE ?_|refine zF ?_|refine zG ?_|refine zH ?_|refine zI ?_|refine zJ ?_|refine zK ?_|refine zL ?_|refine zM rfl ?_|refine zN ?_|refine zO ?_|refine zP ?_|refine zQ ?_)
        refine x_cond_f rfl ?_
        repeat (first|refine zA ?_|refine zB ?_|refine zC ?_|refine zD ?_|refine zE ?_|refine zF ?_|refine zG ?_|refine zH ?_|refine zI ?_|refine zJ ?_|refine zK ?_|refine zL ?_|refine zM rfl ?_|refine zN ?_|refine zO ?_|refine zP ?_|refine zQ ?_)
        have e : (m.drop i).take j = (m.drop i).take 16 := by
          rw [List.take_of_length_le (by simp; omega), List.take_of_length_le (by simp; omega)]
        refine x_cut_n (da, dc) trivial ?_ ?_
        · dsimp only; rw [← e]; exact Imp.arr (by repeat (first | exact Arr.nil | exact Arr.stop | refine Arr.cons (by repeat constructor) ?_ | refine Arr.skip ?_))
        · dsimp only; rw [← e]; exact ⟨rfl, trivial⟩
    rintro ⟨da, dc⟩ u2 _
    dsimp only
    have hstep := accN_step (rN key) m i hA h0
    generalize hcc : (m.drop i).take 16 = ch at hstep
    have hcl : ch.length ≤ 16 := by rw [← hcc]; simp; omega
    have hdcl := digL_len ch
    repeat (first|refine zA ?_|refine zB ?_|refine zC ?_|refine zD ?_|refine zE ?_|refine zF ?_|refine zG ?_|refine zH ?_|refine zI ?_|refine zJ ?_|refine zK ?_|refine zL ?_|refine zM rfl ?_|refine zN ?_|refine zO ?_|refine zP ?_|refine zQ ?_)
    refine x_reg ?_
    first | refine x_pv (pv_move_slice rfl) ?_ | refine x_pv (pv_move rfl) ?_
    refine x_buildSlice (cs := #[.int .i64 _]) (by omega) (by omega) rfl ?_; intro b44
    refine x_append rfl rfl (by repeat constructor) (Rd.cl (xs := [nv 1]) (by repeat constructor) rfl (by first | rfl | omega | (rw [szL]; omega) | exact Nat.le_of_ble_eq_true rfl | (simp; done) | (simp; omega)) rfl) (by first | rfl | exact oneM_u8 _ | exact oneL_u8 _ | (simp [oneC]; done)) (by omega) (by first | omega | exact Nat.le_of_ble_eq_true rfl | (simp; done) | (simp; omega) | decide) ?_; intro a3 c3
    first | refine x_pv (pv_assign_slice rfl) ?_ | refine x_pv (pv_assign rfl) ?_
    refine x_nil ?_
    repeat (first|refine zA ?_|refine zB ?_|refine zC ?_|refine zD ?_|refine zE ?_|refine zF ?_|refine zG ?_|refine zH ?_|refine zI ?_|refine zJ ?_|refine zK ?_|refine zL ?_|refine zM rfl ?_|refine zN ?_|refine zO ?_|refine zP ?_|refine zQ ?_)
    have e1 : digL ch ++ [1] = digL (ch ++ [1#8]) := by rw [digL_app]; rfl
    have e2 : (digL ch).length + 1 = (digL (ch ++ [1#8])).length := by rw [← e1]; simp
    have e3 : (digL ch).map nv ++ [nv 1] = (digL (ch ++ [1#8])).map nv := by rw [← e1]; simp
    rw [e2, e3]
    have hcd := digL_dig (ch ++ [1#8])
    have hcv := digL_val (ch ++ [1#8])
    have hcl2 := digL_len (ch ++ [1#8])
    generalize digL (ch ++ [1#8]) = cd at *
    have hcl3 : cd.length ≤ 17 := by rw [hcl2]; simp; omega
    have hsum : valD ac + valD cd < 256 ^ 18 := by
      have h1 := valD_le had hal; have h2 := valD_le hcd hcl3
      rw [show (256 : Nat) ^ 18 = 256 ^ 17 * 256 from Nat.pow_succ ..]; omega
    repeat (first|refine zA ?_|refine zB ?_|refine zC ?_|refine zD ?_|refine zE ?_|refine zF ?_|refine zG ?_|refine zH ?_|refine zI ?_|refine zJ ?_|refine zK ?_|refine zL ?_|refine zM rfl ?_|refine zN ?_|refine zO ?_|refine zP ?_|refine zQ ?_)
    refine x_reg ?_
    first | refine x_pv (pv_move_slice rfl) ?_ | refine x_pv (pv_move rfl) ?_
    first | refine x_pv (pv_move_slice rfl) ?_ | refine x_pv (pv_move rfl) ?_
    refine x_call rfl (by kernel_rfl) (add_x (L := own 3 1 (.slice a3 cd.length c3) cd.length (cd.map nv) :: E) (n := 18) (hrda.imp Imp.tail) (rd_own .here) had hcd (by omega) (by omega) (by omega) hsum) rfl (by repeat (first | exact Take.nil | exact Take.all | (apply Take.cons; (next => (repeat constructor); done)) | apply Take.skip)) ?_
    rintro _ _ ⟨a4, c4, s1, hd1, hv1, hl1, rfl, rfl⟩
    refine xo_app (by repeat (first | exact App.nil | apply App.cons | (apply App.flip; first | exact App.nil | apply App.cons) | exact App.any)) ?_
    first | refine x_pv (pv_move_slice rfl) ?_ | refine x_pv (pv_move rfl) ?_
    refine x_call rfl (by kernel_rfl) (mul_x (L := own 3 1 (.slice a4 s1.length c4) s1.length (s1.map nv) :: E) (n := 34) (rd_own .here) ((rd_own .here).imp (Imp.tail.trans hE)) hd1 hhd (by omega) (by omega) (by omega) (by omega) (by
          have h1 := valD_le hd1 hl1
          rw [show (256 : Nat) ^ 34 = 256 ^ 18 * 256 ^ 16 from Nat.pow_add 256 18 16]; exact Nat.mul_lt_mul'' h1 hR)) rfl (by repeat (first | exact Take.nil | exact Take.all | (apply Take.cons; (next => (repeat constructor); done)) | apply Take.skip)) ?_
    rintro _ _ ⟨a5, c5, m1, hd2, hv2, hl2, rfl, rfl⟩
    refine xo_app (by repeat (first | exact App.nil | apply App.cons | (apply App.flip; first | exact App.nil | apply App.cons) | exact App.any)) ?_
    refine x_call rfl (by kernel_rfl) (fold_x (L := own 3 1 (.slice a5 m1.length c5) m1.length (m1.map nv) :: E) (rd_own .here) (by omega) hd2) rfl (by repeat (first | exact Take.nil | exact Take.all | (apply Take.cons; (next => (repeat constructor); done)) | apply Take.skip)) ?_
    rintro _ _ ⟨a6, c6, f1, hd3, hv3, hl3, rfl, rfl⟩
    refine xo_app (by repeat (first | exact App.nil | apply App.cons | (apply App.flip; first | exact App.nil | apply App.cons) | exact App.any)) ?_
    first | refine x_pv (pv_assign_slice rfl) ?_ | refine x_pv (pv_assign rfl) ?_
    refine x_nil ?_
    repeat (first|refine zA ?_|refine zB ?_|refine zC ?_|refine zD ?_|refine zE ?_|refine zF ?_|refine zG ?_|refine zH ?_|refine zI ?_|refine zJ ?_|refine zK ?_|refine zL ?_|refine zM rfl ?_|refine zN ?_|refine zO ?_|refine zP ?_|refine zQ ?_)
    refine x_reg ?_
    first | refine x_pv (pv_move_int rfl) ?_ | refine x_pv (pv_move rfl) ?_
    first | refine x_pv (pv_addn (b := 16) rfl rfl (by first | omega | exact Nat.le_of_ble_eq_true rfl | (simp; done) | (simp; omega) | decide)) ?_ | refine x_pv (pv_add_i rfl rfl (by first | omega | exact Nat.le_of_ble_eq_true rfl | (simp; done) | (simp; omega) | decide)) ?_
    first | refine x_pv (pv_assign_int rfl) ?_ | refine x_pv (pv_assign rfl) ?_
    refine x_nil ?_
    repeat (first|refine zA ?_|refine zB ?_|refine zC ?_|refine zD ?_|refine zE ?_|refine zF ?_|refine zG ?_|refine zH ?_|refine zI ?_|refine zJ ?_|refine zK ?_|refine zL ?_|refine zM rfl ?_|refine zN ?_|refine zO ?_|refine zP ?_|refine zQ ?_)
    refine x_loop_n (i + 16, a6, c6, f1) (by first | omega | (dsimp only; omega) | (simp only []; omega)) ⟨hd3, hl3, ?_, hstep.2, by dsimp only; omega⟩ ((Imp.arr (N := own 3 1 (.slice a6 f1.length c6) f1.length (f1.map nv) :: E) (by repeat (first | exact Arr.nil | exact Arr.stop | refine Arr.cons (by repeat constructor) ?_ | refine Arr.skip ?_))).trans hE.cons) ⟨rfl, rfl, trivial⟩
    dsimp only
    rw [hstep.1, hv3, hv2, hv1, hcv, hav, hhv]
  · have hpoly : valD ac = polyN key m := by rw [hav, accN_end _ _ _ (by omega)]; unfold polyN; rfl
    have hlt := accN_lt (rN key) m i
    have h2d := halfD_dig key true 16
    have h2v := halfD_true key hk
    have hal2 := halfD_len key true 16
    rw [hEe]
    repeat (first|refine zA ?_|refine zB ?_|refine zC ?_|refine zD ?_|refine zE ?_|refine zF ?_|refine zG ?_|refine zH ?_|refine zI ?_|refine zJ ?_|refine zK ?_|refine zL ?_|refine zM rfl ?_|refine zN ?_|refine zO ?_|refine zP ?_|refine zQ ?_)
    refine x_reg ?_
    first | refine x_pv (pv_move_slice rfl) ?_ | refine x_pv (pv_move rfl) ?_
    first | refine x_load_all rfl (by repeat constructor) (by first | rfl | omega | (rw [szL]; omega) | exact Nat.le_of_ble_eq_true rfl | (simp; done) | (simp; omega)) ?_ | refine x_load_agg rfl (by repeat constructor) (by first | rfl | omega | (rw [szL]; omega) | exact Nat.le_of_ble_eq_true rfl | (simp; done) | (simp; omega)) rfl ?_
    refine x_call rfl (by kernel_rfl) (half_x key hk true) rfl (by repeat (first | exact Take.nil | exact Take.all | (apply Take.cons; (next => (repeat constructor); done)) | apply Take.skip)) ?_
    rintro _ _ ⟨ha, hc, rfl, rfl⟩
    refine xo_app (by repeat (first | exact App.nil | apply App.cons | (apply App.flip; first | exact App.nil | apply App.cons) | exact App.any)) ?_
    refine x_call rfl (by kernel_rfl) (add_x (L := own 3 1 (.slice aa ac.length ca) ac.length (ac.map nv) :: own 3 1 (.slice ha (halfD key true 16).length hc) (halfD key true 16).length ((halfD key true 16).map nv) :: own 3 1 (.slice ra rd.length rc) rd.length (rd.map nv) :: cl b2 (key.map u8b).toArray 24 :: cl b4 ((List.replicate 16 0#8).map u8b).toArray 28 :: L) (n := 18) (rd_own .here) (rd_own (.there .here)) had h2d (by omega) (by omega) (by omega) (by
          have h1 := valD_le had hal; have h2 := valD_le (n := 17) h2d (by omega)
          rw [show (256 : Nat) ^ 18 = 256 ^ 17 * 256 from Nat.pow_succ ..]; omega)) rfl (by repeat (first | exact Take.nil | exact Take.all | (apply Take.cons; (next => (repeat constructor); done)) | apply Take.skip)) ?_
    rintro _ _ ⟨a7, c7, sm, hsd, hsv, hsl, rfl, rfl⟩
    refine xo_app (by repeat (first | exact App.nil | apply App.cons | (apply App.flip; first | exact App.nil | apply App.cons) | exact App.any)) ?_
    first | refine x_pv (pv_assign_slice rfl) ?_ | refine x_pv (pv_assign rfl) ?_
    refine x_nil ?_
    repeat (first|refine zA ?_|refine zB ?_|refine zC ?_|refine zD ?_|refine zE ?_|refine zF ?_|refine zG ?_|refine zH ?_|refine zI ?_|refine zJ ?_|refine zK ?_|refine zL ?_|refine zM rfl ?_|refine zN ?_|refine zO ?_|refine zP ?_|refine zQ ?_)
    refine x_reg ?_
    refine x_alloc (cs := ((List.replicate 16 0#8).map u8b).toArray) rfl ?_; intro b11
    refine x_nil ?_
    repeat (first|refine zA ?_|refine zB ?_|refine zC ?_|refine zD ?_|refine zE ?_|refine zF ?_|refine zG ?_|refine zH ?_|refine zI ?_|refine zJ ?_|refine zK ?_|refine zL ?_|refine zM rfl ?_|refine zN ?_|refine zO ?_|refine zP ?_|refine zQ ?_)
    refine x_reg ?_
    first | refine x_pv (pv_assign_int rfl) ?_ | refine x_pv (pv_assign rfl) ?_
    refine x_nil ?_
    repeat (first|refine zA ?_|refine zB ?_|refine zC ?_|refine zD ?_|refine zE ?_|refine zF ?_|refine zG ?_|refine zH ?_|refine zI ?_|refine zJ ?_|refine zK ?_|refine zL ?_|refine zM rfl ?_|refine zN ?_|refine zO ?_|refine zP ?_|refine zQ ?_)
    have hcl16 := code_len key m
    have hcode := outD_code key m hk sm hsd (by rw [hsv, hpoly, h2v])
    refine x_loop [(12, 12), (56, 72)] (by kernel_rfl) (fun k : Nat => k ≤ 16) (fun k => cl b11 ((uptoT 16 (outD sm) k).map u8b).toArray 28 :: own 3 1 (.slice a7 sm.length c7) sm.length (sm.map nv) :: cl b4 ((List.replicate 16 0#8).map u8b).toArray 28 :: L)
      (fun k => [(12, nv k)]) (fun k => 16 - k) 0 (by omega) (by rw [uptoT_zero]; exact Imp.arr (by repeat (first | exact Arr.nil | exact Arr.stop | refine Arr.cons (by repeat constructor) ?_ | refine Arr.skip ?_))) ⟨rfl, trivial⟩ ?_
    intro k u3 hk16
    have hul := uptoT_len 16 (outD sm) k
    by_cases hB : k < 16
    · by_cases hC : k < sm.length
      · repeat (first|refine zA ?_|refine zB ?_|refine zC ?_|refine zD ?_|refine zE ?_|refine zF ?_|refine zG ?_|refine zH ?_|refine zI ?_|refine zJ ?_|refine zK ?_|refine zL ?_|refine zM rfl ?_|refine zN ?_|refine zO ?_|refine zP ?_|refine zQ ?_)
        refine x_reg ?_
        first | refine x_pv (pv_move_int rfl) ?_ | refine x_pv (pv_move rfl) ?_
        first | refine x_pv (pv_lssn (b := 16) rfl rfl) ?_ | refine x_pv (pv_lss rfl rfl) ?_
        refine x_isT 57 rfl (decide_eq_true (hB)) ?_
        first | refine x_pv (pv_move_bool rfl) ?_ | refine x_pv (pv_move rfl) ?_
        first | refine x_gn rfl ?_ | refine x_gu rfl ?_ | (refine x_gy rfl ?_; (first | refine x_pv (pv_move_int rfl) ?_ | refine x_pv (pv_move rfl) ?_))
        first | refine x_gn rfl ?_ | refine x_gu rfl ?_ | (refine x_gy rfl ?_; (first | refine x_pv (pv_move_slice rfl) ?_ | refine x_pv (pv_move rfl) ?_))
        first | refine x_gn rfl ?_ | refine x_gu rfl ?_ | (refine x_gy rfl ?_; (first | refine x_pv (pv_len rfl) ?_ | refine x_pv (pv_len_arr) ?_ | refine x_pv (pv_len_str rfl) ?_))
        first | refine x_gn rfl ?_ | refine x_gu rfl ?_ | (refine x_gy rfl ?_; (first | refine x_pv (pv_lssn rfl rfl) ?_ | refine x_pv (pv_lss rfl rfl) ?_))
        refine x_isT 62 rfl (decide_eq_true (hC)) ?_
        first | refine x_pv (pv_pick_tb rfl rfl) ?_ | refine x_pv (pv_pick_fb rfl rfl) ?_ | refine x_pv (pv_pick_t rfl rfl) ?_ | refine x_pv (pv_pick_f rfl rfl) ?_ | refine x_pv (pv_pick_and rfl rfl) ?_ | refine x_pv (pv_pick_or rfl rfl) ?_
        refine x_nil ?_
        repeat (first|refine zA ?_|refine zB ?_|refine zC ?_|refine zD ?_|refine zE ?_|refine zF ?_|refine zG ?_|refine zH ?_|refine zI ?_|refine zJ ?_|refine zK ?_|refine zL ?_|refine zM rfl ?_|refine zN ?_|refine zO ?_|refine zP ?_|refine zQ ?_)
        refine x_cond_t rfl ?_
        repeat (first|refine zA ?_|refine zB ?_|refine zC ?_|refine zD ?_|refine zE ?_|refine zF ?_|refine zG ?_|refine zH ?_|refine zI ?_|refine zJ ?_|refine zK ?_|refine zL ?_|refine zM rfl ?_|refine zN ?_|refine zO ?_|refine zP ?_|refine zQ ?_)
        refine x_get (fun F w H => own_some (a := a7) (by repeat constructor) (by omega) H) ?_
        rintro ⟨g7, rfl⟩
        have e : outD sm k = BitVec.ofInt 8 ((sm[k] : Nat) : Int) := by unfold outD; rw [List.getD_eq_getElem?_getD, List.getElem?_eq_getElem hC]; rfl
        repeat (first|refine zA ?_|refine zB ?_|refine zC ?_|refine zD ?_|refine zE ?_|refine zF ?_|refine zG ?_|refine zH ?_|refine zI ?_|refine zJ ?_|refine zK ?_|refine zL ?_|refine zM rfl ?_|refine zN ?_|refine zO ?_|refine zP ?_|refine zQ ?_)
        refine x_reg ?_
        first | refine x_pv (pv_move_int rfl) ?_ | refine x_pv (pv_move rfl) ?_
        first | refine x_pv (pv_move_slice rfl) ?_ | refine x_pv (pv_move rfl) ?_
        first | refine x_pv (pv_move_int rfl) ?_ | refine x_pv (pv_move rfl) ?_
        first | refine x_pv (pv_ixs1z rfl rfl (by first | omega | exact Nat.le_of_ble_eq_true rfl | (simp; done) | (simp; omega))) ?_ | refine x_pv (pv_ixs1 rfl rfl (by first | omega | exact Nat.le_of_ble_eq_true rfl | (simp; done) | (simp; omega))) ?_
        refine x_load_slz (j := k) rfl (Rd.own (by repeat constructor)) hC (getM hC) ?_
        refine x_pv (pv_conv_i_u8 rfl) ?_
        first | refine x_pv (pv_ixa1z rfl rfl (by first | omega | exact Nat.le_of_ble_eq_true rfl | (simp; done) | (simp; omega))) ?_ | refine x_pv (pv_ixa1 rfl rfl (by first | omega | exact Nat.le_of_ble_eq_true rfl | (simp; done) | (simp; omega))) ?_
        refine x_store_i rfl rfl (by repeat constructor) (by first | rfl | omega | (rw [szL]; omega) | exact Nat.le_of_ble_eq_true rfl | (simp; done) | (simp; omega)) (setL (f := u8b) (l := uptoT 16 (outD sm) k)) ?_
        refine x_nil ?_
        repeat (first|refine zA ?_|refine zB ?_|refine zC ?_|refine zD ?_|refine zE ?_|refine zF ?_|refine zG ?_|refine zH ?_|refine zI ?_|refine zJ ?_|refine zK ?_|refine zL ?_|refine zM rfl ?_|refine zN ?_|refine zO ?_|refine zP ?_|refine zQ ?_)
        rw [← e, uptoT_set]
        repeat (first|refine zA ?_|refine zB ?_|refine zC ?_|refine zD ?_|refine zE ?_|refine zF ?_|refine zG ?_|refine zH ?_|refine zI ?_|refine zJ ?_|refine zK ?_|refine zL ?_|refine zM rfl ?_|refine zN ?_|refine zO ?_|refine zP ?_|refine zQ ?_)
        refine x_reg ?_
        first | refine x_pv (pv_move_int rfl) ?_ | refine x_pv (pv_move rfl) ?_
        first | refine x_pv (pv_addn (b := 1) rfl rfl (by first | omega | exact Nat.le_of_ble_eq_true rfl | (simp; done) | (simp; omega) | decide)) ?_ | refine x_pv (pv_add_i rfl rfl (by first | omega | exact Nat.le_of_ble_eq_true rfl | (simp; done) | (simp; omega) | decide)) ?_
        first | refine x_pv (pv_assign_int rfl) ?_ | refine x_pv (pv_assign rfl) ?_
        refine x_nil ?_
        repeat (first|refine zA ?_|refine zB ?_|refine zC ?_|refine zD ?_|refine zE ?_|refine zF ?_|refine zG ?_|refine zH ?_|refine zI ?_|refine zJ ?_|refine zK ?_|refine zL ?_|refine zM rfl ?_|refine zN ?_|refine zO ?_|refine zP ?_|refine zQ ?_)
        exact x_loop_n (k + 1) (by first | omega | (dsimp only; omega) | (simp only []; omega)) (by first | omega | (dsimp only; omega) | (simp only []; omega)) (by exact Imp.arr (by repeat (first | exact Arr.nil | exact Arr.stop | refine Arr.cons (by repeat constructor) ?_ | refine Arr.skip ?_))) ⟨rfl, trivial⟩
      · repeat (first|refine zA ?_|refine zB ?_|refine zC ?_|refine zD ?_|refine zE ?_|refine zF ?_|refine zG ?_|refine zH ?_|refine zI ?_|refine zJ ?_|refine zK ?_|refine zL ?_|refine zM rfl ?_|refine zN ?_|refine zO ?_|refine zP ?_|refine zQ ?_)
        refine x_reg ?_
        first | refine x_pv (pv_move_int rfl) ?_ | refine x_pv (pv_move rfl) ?_
        first | refine x_pv (pv_lssn (b := 16) rfl rfl) ?_ | refine x_pv (pv_lss rfl rfl) ?_
        refine x_isT 57 rfl (decide_eq_true (hB)) ?_
        first | refine x_pv (pv_move_bool rfl) ?_ | refine x_pv (pv_move rfl) ?_
        first | refine x_gn rfl ?_ | refine x_gu rfl ?_ | (refine x_gy rfl ?_; (first | refine x_pv (pv_move_int rfl) ?_ | refine x_pv (pv_move rfl) ?_))
        first | refine x_gn rfl ?_ | refine x_gu rfl ?_ | (refine x_gy rfl ?_; (first | refine x_pv (pv_move_slice rfl) ?_ | refine x_pv (pv_move rfl) ?_))
        first | refine x_gn rfl ?_ | refine x_gu rfl ?_ | (refine x_gy rfl ?_; (first | refine x_pv (pv_len rfl) ?_ | refine x_pv (pv_len_arr) ?_ | refine x_pv (pv_len_str rfl) ?_))
        first | refine x_gn rfl ?_ | refine x_gu rfl ?_ | (refine x_gy rfl ?_; (first | refine x_pv (pv_lssn rfl rfl) ?_ | refine x_pv (pv_lss rfl rfl) ?_))
        refine x_isF 62 rfl (decide_eq_false (hC)) ?_
        first | refine x_pv (pv_pick_tb rfl rfl) ?_ | refine x_pv (pv_pick_fb rfl rfl) ?_ | refine x_pv (pv_pick_t rfl rfl) ?_ | refine x_pv (pv_pick_f rfl rfl) ?_ | refine x_pv (pv_pick_and rfl rfl) ?_ | refine x_pv (pv_pick_or rfl rfl) ?_
        refine x_nil ?_
        repeat (first|refine zA ?_|refine zB ?_|refine zC ?_|refine zD ?_|refine zE ?_|refine zF ?_|refine zG ?_|refine zH ?_|refine zI ?_|refine zJ ?_|refine zK ?_|refine zL ?_|refine zM rfl ?_|refine zN ?_|refine zO ?_|refine zP ?_|refine zQ ?_)
        refine x_cond_f rfl ?_
        repeat (first|refine zA ?_|refine zB ?_|refine zC ?_|refine zD ?_|refine zE ?_|refine zF ?_|refine zG ?_|refine zH ?_|refine zI ?_|refine zJ ?_|refine zK ?_|refine zL ?_|refine zM rfl ?_|refine zN ?_|refine zO ?_|refine zP ?_|refine zQ ?_)
        rw [uptoT_over 16 sm k (by omega), uptoT_end, hcode]
        repeat (first|refine zA ?_|refine zB ?_|refine zC ?_|refine zD ?_|refine zE ?_|refine zF ?_|refine zG ?_|refine zH ?_|refine zI ?_|refine zJ ?_|refine zK ?_|refine zL ?_|refine zM rfl ?_|refine zN ?_|refine zO ?_|refine zP ?_|refine zQ ?_)
        refine x_reg ?_
        first | refine x_load_all rfl (by repeat constructor) (by first | rfl | omega | (rw [szL]; omega) | exact Nat.le_of_ble_eq_true rfl | (simp; done) | (simp; omega)) ?_ | refine x_load_agg rfl (by repeat constructor) (by first | rfl | omega | (rw [szL]; omega) | exact Nat.le_of_ble_eq_true rfl | (simp; done) | (simp; omega)) rfl ?_
        first | refine x_store_all rfl rfl (by repeat constructor) (by first | rfl | omega | (rw [szL]; omega) | exact Nat.le_of_ble_eq_true rfl | (simp; done) | (simp; omega)) (by first | rfl | exact oneM_u8 _ | exact oneL_u8 _ | (simp [oneC]; done)) (by first | rfl | omega | (rw [szL]; omega) | exact Nat.le_of_ble_eq_true rfl | (simp; done) | (simp; omega)) ?_ | refine x_store_agg rfl rfl (by repeat constructor) (by first | rfl | omega | (rw [szL]; omega) | exact Nat.le_of_ble_eq_true rfl | (simp; done) | (simp; omega)) (by first | rfl | exact oneM_u8 _ | exact oneL_u8 _ | (simp [oneC]; done)) (by first | rfl | omega | (rw [szL]; omega) | exact Nat.le_of_ble_eq_true rfl | (simp; done) | (simp; omega)) rfl ?_
        refine x_nil ?_
        repeat (first|refine zA ?_|refine zB ?_|refine zC ?_|refine zD ?_|refine zE ?_|refine zF ?_|refine zG ?_|refine zH ?_|refine zI ?_|refine zJ ?_|refine zK ?_|refine zL ?_|refine zM rfl ?_|refine zN ?_|refine zO ?_|refine zP ?_|refine zQ ?_)
        refine rx1 (rx_cell rfl (by repeat constructor) (by first | rfl | omega | (rw [szL]; omega) | exact Nat.le_of_ble_eq_true rfl | (simp; done) | (simp; omega)) (rx_nil)) ?_
        exact ⟨_, ⟨rfl, rfl⟩, by exact Imp.arr (by repeat (first | exact Arr.nil | exact Arr.stop | refine Arr.cons (by repeat constructor) ?_ | refine Arr.skip ?_))⟩
    · repeat (first|refine zA ?_|refine zB ?_|refine zC ?_|refine zD ?_|refine zE ?_|refine zF ?_|refine zG ?_|refine zH ?_|refine zI ?_|refine zJ ?_|refine zK ?_|refine zL ?_|refine zM rfl ?_|refine zN ?_|refine zO ?_|refine zP ?_|refine zQ ?_)
      refine x_reg ?_
      first | refine x_pv (pv_move_int rfl) ?_ | refine x_pv (pv_move rfl) ?_
      first | refine x_pv (pv_lssn (b := 16) rfl rfl) ?_ | refine x_pv (pv_lss rfl rfl) ?_
      refine x_isF 57 rfl (decide_eq_false (hB)) ?_
      first | refine x_pv (pv_move_bool rfl) ?_ | refine x_pv (pv_move rfl) ?_
      first | refine x_gn rfl ?_ | refine x_gu rfl ?_ | (refine x_gy rfl ?_; (first | refine x_pv (pv_move_int rfl) ?_ | refine x_pv (pv_move rfl) ?_))
      first | refine x_gn rfl ?_ | refine x_gu rfl ?_ | (refine x_gy rfl ?_; (first | refine x_pv (pv_move_slice rfl) ?_ | refine x_pv (pv_move rfl) ?_))
      first | refine x_gn rfl ?_ | refine x_gu rfl ?_ | (refine x_gy rfl ?_; (first | refine x_pv (pv_len rfl) ?_ | refine x_pv (pv_len_arr) ?_ | refine x_pv (pv_len_str rfl) ?_))
      first | refine x_gn rfl ?_ | refine x_gu rfl ?_ | (refine x_gy rfl ?_; (first | refine x_pv (pv_lssn rfl rfl) ?_ | refine x_pv (pv_lss rfl rfl) ?_))
      first | refine x_pv (pv_pick_tb rfl rfl) ?_ | refine x_pv (pv_pick_fb rfl rfl) ?_ | refine x_pv (pv_pick_t rfl rfl) ?_ | refine x_pv (pv_pick_f rfl rfl) ?_ | refine x_pv (pv_pick_and rfl rfl) ?_ | refine x_pv (pv_pick_or rfl rfl) ?_
      refine x_nil ?_
      repeat (first|refine zA ?_|refine zB ?_|refine zC ?_|refine zD ?_|refine zE ?_|refine zF ?_|refine zG ?_|refine zH ?_|refine zI ?_|refine zJ ?_|refine zK ?_|refine zL ?_|refine zM rfl ?_|refine zN ?_|refine zO ?_|refine zP ?_|refine zQ ?_)
      refine x_cond_f rfl ?_
      repeat (first|refine zA ?_|refine zB ?_|refine zC ?_|refine zD ?_|refine zE ?_|refine zF ?_|refine zG ?_|refine zH ?_|refine zI ?_|refine zJ ?_|refine zK ?_|refine zL ?_|refine zM rfl ?_|refine zN ?_|refine zO ?_|refine zP ?_|refine zQ ?_)
      have e : k = 16 := by omega
      subst e
      rw [uptoT_end, hcode]
      repeat (first|refine zA ?_|refine zB ?_|refine zC ?_|refine zD ?_|refine zE ?_|refine zF ?_|refine zG ?_|refine zH ?_|refine zI ?_|refine zJ ?_|refine zK ?_|refine zL ?_|refine zM rfl ?_|refine zN ?_|refine zO ?_|refine zP ?_|refine zQ ?_)
      refine x_reg ?_
      first | refine x_load_all rfl (by repeat constructor) (by first | rfl | omega | (rw [szL]; omega) | exact Nat.le_of_ble_eq_true rfl | (simp; done) | (simp; omega)) ?_ | refine x_load_agg rfl (by repeat constructor) (by first | rfl | omega | (rw [szL]; omega) | exact Nat.le_of_ble_eq_true rfl | (simp; done) | (simp; omega)) rfl ?_
      first | refine x_store_all rfl rfl (by repeat constructor) (by first | rfl | omega | (rw [szL]; omega) | exact Nat.le_of_ble_eq_true rfl | (simp; done) | (simp; omega)) (by first | rfl | exact oneM_u8 _ | exact oneL_u8 _ | (simp [oneC]; done)) (by first | rfl | omega | (rw [szL]; omega) | exact Nat.le_of_ble_eq_true rfl | (simp; done) | (simp; omega)) ?_ | refine x_store_agg rfl rfl (by repeat constructor) (by first | rfl | omega | (rw [szL]; omega) | exact Nat.le_of_ble_eq_true rfl | (simp; done) | (simp; omega)) (by first | rfl | exact oneM_u8 _ | exact oneL_u8 _ | (simp [oneC]; done)) (by first | rfl | omega | (rw [szL]; omega) | exact Nat.le_of_ble_eq_true rfl | (simp; done) | (simp; omega)) rfl ?_
      refine x_nil ?_
      repeat (first|refine zA ?_|refine zB ?_|refine zC ?_|refine zD ?_|refine zE ?_|refine zF ?_|refine zG ?_|refine zH ?_|refine zI ?_|refine zJ ?_|refine zK ?_|refine zL ?_|refine zM rfl ?_|refine zN ?_|refine zO ?_|refine zP ?_|refine zQ ?_)
      refine rx1 (rx_cell rfl (by repeat constructor) (by first | rfl | omega | (rw [szL]; omega) | exact Nat.le_of_ble_eq_true rfl | (simp; done) | (simp; omega)) (rx_nil)) ?_
      exact ⟨_, ⟨rfl, rfl⟩, by exact Imp.arr (by repeat (first | exact Arr.nil | exact Arr.stop | refine Arr.cons (by repeat constructor) ?_ | refine Arr.skip ?_))⟩
end Go.Sl

/- the statements' small helpers: lists of lists with marked room behind them. -/
set_option maxHeartbeats 4000000
set_option maxRecDepth 10000
set_option linter.unusedVariables false
set_option linter.unusedSimpArgs false
namespace Go.Sl
open Go Go.Proofs
attribute [local irreducible] cl pt own old pur ex all den denOps denS xOps xC cX CX xthen xblk xcut xloop retX resX Calls PV Rd Con
abbrev nilS : Value := .slice none 0 0
def rowB (rows : List (List Byte)) (j : Nat) : List Byte := if j < rows.length then spareL (rows.getD j []) else [BitVec.ofInt 8 (j : Int), 119#8]
def rowV (rows : List (List Byte)) (x : Nat × Nat) : Value := if x.2 < rows.length then .slice (some ⟨x.1, 0, none⟩) (rows.getD x.2 []).length ((rows.getD x.2 []).length + 80) else .slice (some ⟨x.1, 0, none⟩) 2 2
abbrev blkA (rows : List (List Byte)) (x : Nat × Nat) : Asrt := cl x.1 ((rowB rows x.2).map u8b).toArray 5
/-- What SpareRows makes: the outer block g, and the blocks gs. -/
def sparesA (rows : List (List Byte)) (g : Nat) (gs : List Nat) : List Asrt := [cl g ((gs.zipIdx).map (rowV rows)).toArray 31, star (blkA rows) gs.zipIdx]
theorem zip_snoc (gs : List Nat) (g : Nat) : (gs ++ [g]).zipIdx = gs.zipIdx ++ [(g, gs.length)] := by
  rw [List.zipIdx_append]; simp
theorem slots_set (vs : List Value) (n : Nat) (v : Value) : ((vs ++ List.replicate (n + 1) nilS).toArray).setIfInBounds vs.length v = ((vs ++ [v]) ++ List.replicate n nilS).toArray := by
  apply Array.ext'
  simp [List.replicate_succ, List.set_append_right]
theorem spareRows_x {L : List Asrt} {v : Value} {ps : List (Value × List Byte)} (h : Rs L v ps) (hl : ps.length ≤ 2097152) (hel : ∀ x ∈ ps, x.2.length ≤ 140737488355328) :
    Con Try.prog 12 [v] L (fun r M => ∃ g gs, gs.length = ps.length + 3 ∧ r = .slice (some ⟨g, 0, none⟩) ps.length (ps.length + 3) ∧ M = sparesA (ps.map (·.2)) g gs ++ L) := by
  refine Con.get (fun w0 w F H => h.sh _ _ _ H) ?_
  rintro ⟨aa, ac, rfl, hac, hacm⟩
  obtain ⟨rows, hrows⟩ : ∃ rows : List (List Byte), rows = ps.map (·.2) := ⟨_, rfl⟩
  have hrl : rows.length = ps.length := by rw [hrows]; simp
  rw [← hrows]
  refine fn_x Try.func12 rfl rfl rfl Try.mixed (by kernel_rfl) ?_
  intro w0
  repeat (first|refine zA ?_|refine zB ?_|refine zC ?_|refine zD ?_|refine zE ?_|refine zF ?_|refine zG ?_|refine zH ?_|refine zI ?_|refine zJ ?_|refine zK ?_|refine zL ?_|refine zM rfl ?_|refine zN ?_|refine zO ?_|refine zP ?_|refine zQ ?_)
  refine x_reg ?_
  first | refine x_pv (pv_assign_slice rfl) ?_ | refine x_pv (pv_assign rfl) ?_
  refine x_nil ?_
  repeat (first|refine zA ?_|refine zB ?_|refine zC ?_|refine zD ?_|refine zE ?_|refine zF ?_|refine zG ?_|refine zH ?_|refine zI ?_|refine zJ ?_|refine zK ?_|refine zL ?_|refine zM rfl ?_|refine zN ?_|refine zO ?_|refine zP ?_|refine zQ ?_)
  refine x_reg ?_
  first | refine x_pv (pv_move_slice rfl) ?_ | refine x_pv (pv_move rfl) ?_
  first | refine x_pv (pv_len rfl) ?_ | refine x_pv (pv_len_arr) ?_ | refine x_pv (pv_len_str rfl) ?_
  first | refine x_pv (pv_addn (b := 3) rfl rfl (by first | omega | exact Nat.le_of_ble_eq_true rfl | (simp; done) | (simp; omega) | decide)) ?_ | refine x_pv (pv_add_i rfl rfl (by first | omega | exact Nat.le_of_ble_eq_true rfl | (simp; done) | (simp; omega) | decide)) ?_
  refine x_mk1 (f := fun x : Value => x) (a := nilS) rfl rfl rfl (by first | omega | exact Nat.le_of_ble_eq_true rfl | (simp; done) | (simp; omega) | decide) (by first | omega | exact Nat.le_of_ble_eq_true rfl | (simp; done) | (simp; omega) | decide) (by first | omega | exact Nat.le_of_ble_eq_true rfl | (simp; done) | (simp; omega) | decide) ?_; intro b8
  first | refine x_pv (pv_assign_slice rfl) ?_ | refine x_pv (pv_assign rfl) ?_
  refine x_nil ?_
  repeat (first|refine zA ?_|refine zB ?_|refine zC ?_|refine zD ?_|refine zE ?_|refine zF ?_|refine zG ?_|refine zH ?_|refine zI ?_|refine zJ ?_|refine zK ?_|refine zL ?_|refine zM rfl ?_|refine zN ?_|refine zO ?_|refine zP ?_|refine zQ ?_)
  refine x_reg ?_
  first | refine x_pv (pv_assign_int rfl) ?_ | refine x_pv (pv_assign rfl) ?_
  refine x_nil ?_
  repeat (first|refine zA ?_|refine zB ?_|refine zC ?_|refine zD ?_|refine zE ?_|refine zF ?_|refine zG ?_|refine zH ?_|refine zI ?_|refine zJ ?_|refine zK ?_|refine zL ?_|refine zM rfl ?_|refine zN ?_|refine zO ?_|refine zP ?_|refine zQ ?_)
  refine x_loop [(4, 4), (9, 32)] (by kernel_rfl) (fun s : Nat × List Nat => s.1 ≤ ps.length + 3 ∧ s.2.length = s.1)
    (fun s => cl b8 ((s.2.zipIdx).map (rowV rows) ++ List.replicate (ps.length + 3 - s.1) nilS).toArray 31 :: star (blkA rows) s.2.zipIdx :: L)
    (fun s => [(4, .int .i64 (s.1 : Int))]) (fun s => ps.length + 3 - s.1) (0, []) ⟨by omega, rfl⟩ ?_ ⟨rfl, trivial⟩ ?_
  · refine Imp.trans (Imp.arr (N := cl b8 ((List.replicate (ps.length + 3) nilS).map fun x => x).toArray 31 :: L) (by repeat (first | exact Arr.nil | exact Arr.stop | refine Arr.cons (by repeat constructor) ?_ | refine Arr.skip ?_))) ?_
    rw [List.map_id']
    exact Imp.cons star_nil
  rintro ⟨i, gs⟩ u ⟨hi, hgl⟩
  dsimp only at hi hgl ⊢
  have hvl : ((gs.zipIdx).map (rowV rows)).length = i := by simp [hgl]
  repeat (first|refine zA ?_|refine zB ?_|refine zC ?_|refine zD ?_|refine zE ?_|refine zF ?_|refine zG ?_|refine zH ?_|refine zI ?_|refine zJ ?_|refine zK ?_|refine zL ?_|refine zM rfl ?_|refine zN ?_|refine zO ?_|refine zP ?_|refine zQ ?_)
  refine x_reg ?_
  first | refine x_pv (pv_move_int rfl) ?_ | refine x_pv (pv_move rfl) ?_
  first | refine x_pv (pv_move_slice rfl) ?_ | refine x_pv (pv_move rfl) ?_
  first | refine x_pv (pv_len rfl) ?_ | refine x_pv (pv_len_arr) ?_ | refine x_pv (pv_len_str rfl) ?_
  first | refine x_pv (pv_lssn rfl rfl) ?_ | refine x_pv (pv_lss rfl rfl) ?_
  refine x_nil ?_
  repeat (first|refine zA ?_|refine zB ?_|refine zC ?_|refine zD ?_|refine zE ?_|refine zF ?_|refine zG ?_|refine zH ?_|refine zI ?_|refine zJ ?_|refine zK ?_|refine zL ?_|refine zM rfl ?_|refine zN ?_|refine zO ?_|refine zP ?_|refine zQ ?_)
  refine x_cond_p rfl (fun hB => ?_) (fun hB => ?_)
  · have hrep : ps.length + 3 - i = (ps.length + 3 - (i + 1)) + 1 := by omega
    rw [hrep]
    have hset : ∀ u : Value, ((((gs.zipIdx).map (rowV rows)) ++ List.replicate ((ps.length + 3 - (i + 1)) + 1) nilS).toArray).setIfInBounds i u = ((((gs.zipIdx).map (rowV rows)) ++ [u]) ++ List.replicate (ps.length + 3 - (i + 1)) nilS).toArray := fun u => by
      have := slots_set ((gs.zipIdx).map (rowV rows)) (ps.length + 3 - (i + 1)) u
      rwa [hvl] at this
    have hsz : ((((gs.zipIdx).map (rowV rows)) ++ List.replicate ((ps.length + 3 - (i + 1)) + 1) nilS).toArray).size = ps.length + 3 := by
      rw [List.size_toArray, List.length_append, hvl, List.length_replicate]; omega
    repeat (first|refine zA ?_|refine zB ?_|refine zC ?_|refine zD ?_|refine zE ?_|refine zF ?_|refine zG ?_|refine zH ?_|refine zI ?_|refine zJ ?_|refine zK ?_|refine zL ?_|refine zM rfl ?_|refine zN ?_|refine zO ?_|refine zP ?_|refine zQ ?_)
    refine x_reg ?_
    first | refine x_pv (pv_move_int rfl) ?_ | refine x_pv (pv_move rfl) ?_
    first | refine x_pv (pv_move_slice rfl) ?_ | refine x_pv (pv_move rfl) ?_
    first | refine x_pv (pv_len rfl) ?_ | refine x_pv (pv_len_arr) ?_ | refine x_pv (pv_len_str rfl) ?_
    first | refine x_pv (pv_lssn rfl rfl) ?_ | refine x_pv (pv_lss rfl rfl) ?_
    refine x_nil ?_
    repeat (first|refine zA ?_|refine zB ?_|refine zC ?_|refine zD ?_|refine zE ?_|refine zF ?_|refine zG ?_|refine zH ?_|refine zI ?_|refine zJ ?_|refine zK ?_|refine zL ?_|refine zM rfl ?_|refine zN ?_|refine zO ?_|refine zP ?_|refine zQ ?_)
    refine x_cond_p rfl (fun hC => ?_) (fun hC => ?_)
    · have hbs := h.el _ (List.getElem_mem hC)
      have hln := hel _ (List.getElem_mem hC)
      refine x_get (fun F w H => (h.rd.imp (by exact Imp.arr (by repeat (first | exact Arr.nil | exact Arr.stop | refine Arr.cons (by repeat constructor) ?_ | refine Arr.skip ?_)))).someAt (by omega) H) ?_
      rintro ⟨a1, a2, rfl⟩
      refine x_get (fun F w H => (hbs.imp (by exact Imp.arr (by repeat (first | exact Arr.nil | exact Arr.stop | refine Arr.cons (by repeat constructor) ?_ | refine Arr.skip ?_)))).sh _ _ _ H) ?_
      rintro ⟨ea, ec, hev, hecl, hecm⟩
      have hgd : rows.getD i [] = ps[i].2 := by rw [hrows]; simp [hC]
      generalize hrow : ps[i].2 = row at hbs hev hecl hln hgd
      have hgi : (ps.map (·.1))[i]? = some (.slice ea row.length ec) := by simp [hC, hev]
      rw [hev] at hbs
      repeat (first|refine zA ?_|refine zB ?_|refine zC ?_|refine zD ?_|refine zE ?_|refine zF ?_|refine zG ?_|refine zH ?_|refine zI ?_|refine zJ ?_|refine zK ?_|refine zL ?_|refine zM rfl ?_|refine zN ?_|refine zO ?_|refine zP ?_|refine zQ ?_)
      refine x_reg ?_
      first | refine x_pv (pv_move_slice rfl) ?_ | refine x_pv (pv_move rfl) ?_
      first | refine x_pv (pv_move_int rfl) ?_ | refine x_pv (pv_move rfl) ?_
      first | refine x_pv (pv_move_slice rfl) ?_ | refine x_pv (pv_move rfl) ?_
      first | refine x_pv (pv_move_int rfl) ?_ | refine x_pv (pv_move rfl) ?_
      first | refine x_pv (pv_ixs1z rfl rfl (by first | omega | exact Nat.le_of_ble_eq_true rfl | (simp; done) | (simp; omega))) ?_ | refine x_pv (pv_ixs1 rfl rfl (by first | omega | exact Nat.le_of_ble_eq_true rfl | (simp; done) | (simp; omega))) ?_
      refine x_load_sl (j := i) rfl (h.rd.imp (by exact Imp.arr (by repeat (first | exact Arr.nil | exact Arr.stop | refine Arr.cons (by repeat constructor) ?_ | refine Arr.skip ?_)))) hC hgi ?_
      refine x_call rfl (by kernel_rfl) (spare_x (L := L) hbs hln) rfl (by repeat (first | exact Take.nil | exact Take.all | (apply Take.cons; (next => (repeat constructor); done)) | apply Take.skip)) ?_
      rintro _ _ ⟨g, rfl, rfl⟩
      refine xo_app (by repeat (first | exact App.nil | apply App.cons | (apply App.flip; first | exact App.nil | apply App.cons) | exact App.any)) ?_
      first | refine x_pv (pv_ixs1z rfl rfl (by first | omega | exact Nat.le_of_ble_eq_true rfl | (simp; done) | (simp; omega))) ?_ | refine x_pv (pv_ixs1 rfl rfl (by first | omega | exact Nat.le_of_ble_eq_true rfl | (simp; done) | (simp; omega))) ?_
      refine x_store_s rfl rfl (by repeat constructor) (by first | rfl | omega | (rw [szL]; omega) | exact Nat.le_of_ble_eq_true rfl | (simp; done) | (simp; omega)) (hset _) ?_
      refine x_nil ?_
      repeat (first|refine zA ?_|refine zB ?_|refine zC ?_|refine zD ?_|refine zE ?_|refine zF ?_|refine zG ?_|refine zH ?_|refine zI ?_|refine zJ ?_|refine zK ?_|refine zL ?_|refine zM rfl ?_|refine zN ?_|refine zO ?_|refine zP ?_|refine zQ ?_)
      refine x_reg ?_
      first | refine x_pv (pv_move_int rfl) ?_ | refine x_pv (pv_move rfl) ?_
      first | refine x_pv (pv_addn (b := 1) rfl rfl (by first | omega | exact Nat.le_of_ble_eq_true rfl | (simp; done) | (simp; omega) | decide)) ?_ | refine x_pv (pv_add_i rfl rfl (by first | omega | exact Nat.le_of_ble_eq_true rfl | (simp; done) | (simp; omega) | decide)) ?_
      first | refine x_pv (pv_assign_int rfl) ?_ | refine x_pv (pv_assign rfl) ?_
      refine x_nil ?_
      repeat (first|refine zA ?_|refine zB ?_|refine zC ?_|refine zD ?_|refine zE ?_|refine zF ?_|refine zG ?_|refine zH ?_|refine zI ?_|refine zJ ?_|refine zK ?_|refine zL ?_|refine zM rfl ?_|refine zN ?_|refine zO ?_|refine zP ?_|refine zQ ?_)
      have e1 : rowV rows (g, i) = .slice (some ⟨g, 0, none⟩) row.length (row.length + 80) := by unfold rowV; rw [if_pos (by omega), hgd]
      have e2 : rowB rows i = spareL row := by unfold rowB; rw [if_pos (by omega), hgd]
      refine x_loop_n (i + 1, gs ++ [g]) (by first | omega | (dsimp only; omega) | (simp only []; omega)) ⟨by dsimp only; omega, by simp [hgl]⟩ ?_ ⟨rfl, trivial⟩
      dsimp only
      rw [zip_snoc, hgl, List.map_append, List.map_cons, List.map_nil, e1]
      refine Imp.trans (Imp.arr (N := cl b8 ((((gs.zipIdx).map (rowV rows)) ++ [Value.slice (some ⟨g, 0, none⟩) row.length (row.length + 80)]) ++ List.replicate (ps.length + 3 - (i + 1)) nilS).toArray 31 :: cl g ((spareL row).map u8b).toArray 5 :: star (blkA rows) gs.zipIdx :: L) (by repeat (first | exact Arr.nil | exact Arr.stop | refine Arr.cons (by repeat constructor) ?_ | refine Arr.skip ?_))) (Imp.cons ?_)
      have := star_snoc (A := blkA rows) (x := (g, i)) (l := gs.zipIdx) (M := L)
      rwa [show blkA rows (g, i) = cl g ((spareL row).map u8b).toArray 5 by show cl g ((rowB rows i).map u8b).toArray _ = _; rw [e2]] at this
    · repeat (first|refine zA ?_|refine zB ?_|refine zC ?_|refine zD ?_|refine zE ?_|refine zF ?_|refine zG ?_|refine zH ?_|refine zI ?_|refine zJ ?_|refine zK ?_|refine zL ?_|refine zM rfl ?_|refine zN ?_|refine zO ?_|refine zP ?_|refine zQ ?_)
      refine x_reg ?_
      first | refine x_pv (pv_move_slice rfl) ?_ | refine x_pv (pv_move rfl) ?_
      first | refine x_pv (pv_move_int rfl) ?_ | refine x_pv (pv_move rfl) ?_
      first | refine x_pv (pv_move_int rfl) ?_ | refine x_pv (pv_move rfl) ?_
      refine x_pv (pv_conv_i_u8 rfl) ?_
      refine x_buildSlice (cs := #[.int .u8 _, u8b 119#8]) (by omega) (by omega) rfl ?_; intro b31
      first | refine x_pv (pv_ixs1z rfl rfl (by first | omega | exact Nat.le_of_ble_eq_true rfl | (simp; done) | (simp; omega))) ?_ | refine x_pv (pv_ixs1 rfl rfl (by first | omega | exact Nat.le_of_ble_eq_true rfl | (simp; done) | (simp; omega))) ?_
      refine x_store_s rfl rfl (by repeat constructor) (by first | rfl | omega | (rw [szL]; omega) | exact Nat.le_of_ble_eq_true rfl | (simp; done) | (simp; omega)) (hset _) ?_
      refine x_nil ?_
      repeat (first|refine zA ?_|refine zB ?_|refine zC ?_|refine zD ?_|refine zE ?_|refine zF ?_|refine zG ?_|refine zH ?_|refine zI ?_|refine zJ ?_|refine zK ?_|refine zL ?_|refine zM rfl ?_|refine zN ?_|refine zO ?_|refine zP ?_|refine zQ ?_)
      refine x_reg ?_
      first | refine x_pv (pv_move_int rfl) ?_ | refine x_pv (pv_move rfl) ?_
      first | refine x_pv (pv_addn (b := 1) rfl rfl (by first | omega | exact Nat.le_of_ble_eq_true rfl | (simp; done) | (simp; omega) | decide)) ?_ | refine x_pv (pv_add_i rfl rfl (by first | omega | exact Nat.le_of_ble_eq_true rfl | (simp; done) | (simp; omega) | decide)) ?_
      first | refine x_pv (pv_assign_int rfl) ?_ | refine x_pv (pv_assign rfl) ?_
      refine x_nil ?_
      repeat (first|refine zA ?_|refine zB ?_|refine zC ?_|refine zD ?_|refine zE ?_|refine zF ?_|refine zG ?_|refine zH ?_|refine zI ?_|refine zJ ?_|refine zK ?_|refine zL ?_|refine zM rfl ?_|refine zN ?_|refine zO ?_|refine zP ?_|refine zQ ?_)
      have e1 : rowV rows (b31, i) = .slice (some ⟨b31, 0, none⟩) 2 2 := by unfold rowV; rw [if_neg (by omega)]
      have e2 : rowB rows i = [BitVec.ofInt 8 (i : Int), 119#8] := by unfold rowB; rw [if_neg (by omega)]
      refine x_loop_n (i + 1, gs ++ [b31]) (by first | omega | (dsimp only; omega) | (simp only []; omega)) ⟨by dsimp only; omega, by simp [hgl]⟩ ?_ ⟨rfl, trivial⟩
      dsimp only
      rw [zip_snoc, hgl, List.map_append, List.map_cons, List.map_nil, e1]
      refine Imp.trans (Imp.arr (N := cl b8 ((((gs.zipIdx).map (rowV rows)) ++ [Value.slice (some ⟨b31, 0, none⟩) 2 2]) ++ List.replicate (ps.length + 3 - (i + 1)) nilS).toArray 31 :: cl b31 (([BitVec.ofInt 8 (i : Int), 119#8]).map u8b).toArray 5 :: star (blkA rows) gs.zipIdx :: L) (by repeat (first | exact Arr.nil | exact Arr.stop | refine Arr.cons (by repeat constructor) ?_ | refine Arr.skip ?_))) (Imp.cons ?_)
      have := star_snoc (A := blkA rows) (x := (b31, i)) (l := gs.zipIdx) (M := L)
      rwa [show blkA rows (b31, i) = cl b31 (([BitVec.ofInt 8 (i : Int), 119#8]).map u8b).toArray 5 by show cl b31 ((rowB rows i).map u8b).toArray _ = _; rw [e2]] at this
  · have hie : i = ps.length + 3 := by omega
    subst hie
    rw [Nat.sub_self, List.replicate_zero, List.append_nil]
    repeat (first|refine zA ?_|refine zB ?_|refine zC ?_|refine zD ?_|refine zE ?_|refine zF ?_|refine zG ?_|refine zH ?_|refine zI ?_|refine zJ ?_|refine zK ?_|refine zL ?_|refine zM rfl ?_|refine zN ?_|refine zO ?_|refine zP ?_|refine zQ ?_)
    refine x_reg ?_
    first | refine x_pv (pv_move_slice rfl) ?_ | refine x_pv (pv_move rfl) ?_
    first | refine x_pv (pv_move_slice rfl) ?_ | refine x_pv (pv_move rfl) ?_
    first | refine x_pv (pv_len rfl) ?_ | refine x_pv (pv_len_arr) ?_ | refine x_pv (pv_len_str rfl) ?_
    refine x_pv (pv_sls0 rfl rfl (by first | omega | exact Nat.le_of_ble_eq_true rfl | (simp; done) | (simp; omega) | decide)) ?_
    first | refine x_pv (pv_assign_slice rfl) ?_ | refine x_pv (pv_assign rfl) ?_
    refine x_nil ?_
    repeat (first|refine zA ?_|refine zB ?_|refine zC ?_|refine zD ?_|refine zE ?_|refine zF ?_|refine zG ?_|refine zH ?_|refine zI ?_|refine zJ ?_|refine zK ?_|refine zL ?_|refine zM rfl ?_|refine zN ?_|refine zO ?_|refine zP ?_|refine zQ ?_)
    refine rx1 (rx_slice rfl (rx_nil)) ?_
    exact ⟨_, ⟨b8, gs, hgl, rfl, rfl⟩, by unfold sparesA; exact Imp.arr (by repeat (first | exact Arr.nil | exact Arr.stop | refine Arr.cons (by repeat constructor) ?_ | refine Arr.skip ?_))⟩
theorem keptRows_x {L : List Asrt} {g : Nat} {gs : List Nat} {vw : Value} {ps : List (Value × List Byte)} (rows : List (List Byte)) (hrows : ps.map (·.2) = rows) (hgl : gs.length = ps.length + 3) (hw : Rs L vw ps) (hl : ps.length ≤ 2097152) (hel : ∀ x ∈ ps, x.2.length ≤ 140737488355328)
    (hg : Rd L 1 (.slice (some ⟨g, 0, none⟩) (ps.length + 3) (ps.length + 3)) (ps.length + 3) ((gs.zipIdx).map (rowV rows))) (hb : ∀ x ∈ gs.zipIdx, ∃ R, Imp L (blkA rows x :: R)) :
    Con Try.prog 16 [.slice (some ⟨g, 0, none⟩) ps.length (ps.length + 3), vw] L (fun r M => r = .bool true ∧ L = M) := by
  refine Con.get (fun w0 w F H => hw.sh _ _ _ H) ?_
  rintro ⟨ba, bc, rfl, hbc, hbcm⟩
  have hrl : rows.length = ps.length := by rw [← hrows]; simp
  have hmem : ∀ j (h : j < gs.length), (gs[j], j) ∈ gs.zipIdx := fun j h => by
    rw [List.mem_iff_getElem]
    exact ⟨j, by simpa using h, by simp⟩
  have hgv : ∀ j (h : j < gs.length), ((gs.zipIdx).map (rowV rows))[j]? = some (rowV rows (gs[j], j)) := fun j h => by simp [h]
  have hg1 : Rd L 1 (.slice (some ⟨g, 0, none⟩) ps.length (ps.length + 3)) ps.length (((gs.zipIdx).map (rowV rows)).take ps.length) := by
    unfold Rd at hg ⊢
    intro w0 F w H
    obtain ⟨h1, h2⟩ := hg w0 F w H
    refine ⟨by simp; omega, ?_⟩
    rcases h2 with ⟨a, k, _, h0⟩ | ⟨b', o', k, cc, E, fr, hv, hb', hle, hx⟩
    · omega
    · simp only [Value.slice.injEq, Option.some.injEq, Addr.mk.injEq] at hv
      obtain ⟨⟨rfl, rfl, _⟩, _, rfl⟩ := hv
      refine .inr ⟨g, 0, _, cc, E, fr, rfl, hb', by omega, ?_⟩
      rw [← hx]
      simp only [Array.toList_extract, List.extract_eq_take_drop, List.take_take]
      congr 1; omega
  refine fn_x Try.func16 rfl rfl rfl Try.mixed (by kernel_rfl) ?_
  intro w0
  repeat (first|refine zA ?_|refine zB ?_|refine zC ?_|refine zD ?_|refine zE ?_|refine zF ?_|refine zG ?_|refine zH ?_|refine zI ?_|refine zJ ?_|refine zK ?_|refine zL ?_|refine zM rfl ?_|refine zN ?_|refine zO ?_|refine zP ?_|refine zQ ?_)
  refine x_reg ?_
  first | refine x_pv (pv_assign_bool rfl) ?_ | refine x_pv (pv_assign rfl) ?_
  refine x_nil ?_
  repeat (first|refine zA ?_|refine zB ?_|refine zC ?_|refine zD ?_|refine zE ?_|refine zF ?_|refine zG ?_|refine zH ?_|refine zI ?_|refine zJ ?_|refine zK ?_|refine zL ?_|refine zM rfl ?_|refine zN ?_|refine zO ?_|refine zP ?_|refine zQ ?_)
  refine x_reg ?_
  first | refine x_pv (pv_move_slice rfl) ?_ | refine x_pv (pv_move rfl) ?_
  first | refine x_pv (pv_len rfl) ?_ | refine x_pv (pv_len_arr) ?_ | refine x_pv (pv_len_str rfl) ?_
  first | refine x_pv (pv_move_slice rfl) ?_ | refine x_pv (pv_move rfl) ?_
  first | refine x_pv (pv_len rfl) ?_ | refine x_pv (pv_len_arr) ?_ | refine x_pv (pv_len_str rfl) ?_
  first | refine x_pv (pv_neqn rfl rfl) ?_ | refine x_pv (pv_neq rfl rfl) ?_
  refine x_nil ?_
  repeat (first|refine zA ?_|refine zB ?_|refine zC ?_|refine zD ?_|refine zE ?_|refine zF ?_|refine zG ?_|refine zH ?_|refine zI ?_|refine zJ ?_|refine zK ?_|refine zL ?_|refine zM rfl ?_|refine zN ?_|refine zO ?_|refine zP ?_|refine zQ ?_)
  refine x_cond_f (by show Value.bool _ = _; simp) ?_
  repeat (first|refine zA ?_|refine zB ?_|refine zC ?_|refine zD ?_|refine zE ?_|refine zF ?_|refine zG ?_|refine zH ?_|refine zI ?_|refine zJ ?_|refine zK ?_|refine zL ?_|refine zM rfl ?_|refine zN ?_|refine zO ?_|refine zP ?_|refine zQ ?_)
  refine x_reg ?_
  first | refine x_pv (pv_assign_int rfl) ?_ | refine x_pv (pv_assign rfl) ?_
  refine x_nil ?_
  repeat (first|refine zA ?_|refine zB ?_|refine zC ?_|refine zD ?_|refine zE ?_|refine zF ?_|refine zG ?_|refine zH ?_|refine zI ?_|refine zJ ?_|refine zK ?_|refine zL ?_|refine zM rfl ?_|refine zN ?_|refine zO ?_|refine zP ?_|refine zQ ?_)
  refine x_loop [(4, 5), (13, 28)] (by kernel_rfl) (fun i : Nat => i ≤ ps.length) (fun _ => L) (fun i => [(5, .int .i64 (i : Int))]) (fun i => ps.length - i) 0 (by omega) (Imp.refl _) ⟨rfl, trivial⟩ ?_
  intro i u hi
  repeat (first|refine zA ?_|refine zB ?_|refine zC ?_|refine zD ?_|refine zE ?_|refine zF ?_|refine zG ?_|refine zH ?_|refine zI ?_|refine zJ ?_|refine zK ?_|refine zL ?_|refine zM rfl ?_|refine zN ?_|refine zO ?_|refine zP ?_|refine zQ ?_)
  refine x_reg ?_
  first | refine x_pv (pv_move_int rfl) ?_ | refine x_pv (pv_move rfl) ?_
  first | refine x_pv (pv_move_slice rfl) ?_ | refine x_pv (pv_move rfl) ?_
  first | refine x_pv (pv_len rfl) ?_ | refine x_pv (pv_len_arr) ?_ | refine x_pv (pv_len_str rfl) ?_
  first | refine x_pv (pv_lssn rfl rfl) ?_ | refine x_pv (pv_lss rfl rfl) ?_
  refine x_nil ?_
  repeat (first|refine zA ?_|refine zB ?_|refine zC ?_|refine zD ?_|refine zE ?_|refine zF ?_|refine zG ?_|refine zH ?_|refine zI ?_|refine zJ ?_|refine zK ?_|refine zL ?_|refine zM rfl ?_|refine zN ?_|refine zO ?_|refine zP ?_|refine zQ ?_)
  refine x_cond_p rfl (fun hB => ?_) (fun hB => ?_)
  · have hbs := hw.el _ (List.getElem_mem hB)
    have hln := hel _ (List.getElem_mem hB)
    refine x_get (fun F w H => hw.rd.someAt (by omega) H) ?_
    rintro ⟨a1, a2, rfl⟩
    refine x_get (fun F w H => hbs.sh _ _ _ H) ?_
    rintro ⟨ea, ec, hev, hecl, hecm⟩
    have hgd : rows.getD i [] = ps[i].2 := by rw [← hrows]; simp [hB]
    generalize hrow : ps[i].2 = row at hbs hev hecl hln hgd
    have hgi : (ps.map (·.1))[i]? = some (.slice ea row.length ec) := by simp [hB, hev]
    rw [hev] at hbs
    obtain ⟨R, hR⟩ := hb _ (hmem i (by omega))
    have e1 : rowV rows (gs[i], i) = .slice (some ⟨gs[i], 0, none⟩) row.length (row.length + 80) := by unfold rowV; rw [if_pos (by omega), hgd]
    have e2 : rowB rows i = spareL row := by unfold rowB; rw [if_pos (by omega), hgd]
    have e3 : blkA rows (gs[i], i) = cl gs[i] ((spareL row).map u8b).toArray 5 := by show cl gs[i] ((rowB rows i).map u8b).toArray _ = _; rw [e2]
    rw [e3] at hR
    have hv1 : (((gs.zipIdx).map (rowV rows)).take ps.length)[i]? = some (.slice (some ⟨gs[i], 0, none⟩) row.length (row.length + 80)) := by
      rw [List.getElem?_take_of_lt hB, hgv i (by omega), e1]
    repeat (first|refine zA ?_|refine zB ?_|refine zC ?_|refine zD ?_|refine zE ?_|refine zF ?_|refine zG ?_|refine zH ?_|refine zI ?_|refine zJ ?_|refine zK ?_|refine zL ?_|refine zM rfl ?_|refine zN ?_|refine zO ?_|refine zP ?_|refine zQ ?_)
    refine x_draw (_) [0, 1, 2, 3, 4, 5, 6, 7] (.r 0 (.r 1 (.r 2 (.r 3 (.r 4 (.r 5 (.r 6 (.r 7 (.e 8 false (.q 9 .nil)))))))))) (by kernel_rfl) (by kernel_rfl) (Imp.refl _) ?_
    first | refine cx_p rfl (pv_move_slice rfl) ?_ | refine cx_p rfl (pv_move rfl) ?_
    first | refine cx_p rfl (pv_move_int rfl) ?_ | refine cx_p rfl (pv_move rfl) ?_
    first | refine cx_p rfl (pv_ixs1z rfl rfl (by first | omega | exact Nat.le_of_ble_eq_true rfl | (simp; done) | (simp; omega))) ?_ | refine cx_p rfl (pv_ixs1 rfl rfl (by first | omega | exact Nat.le_of_ble_eq_true rfl | (simp; done) | (simp; omega))) ?_
    refine cx_load_sl (b := g) (o := 0) (j := i) rfl (by rw [Nat.zero_add]; rfl) hg1 hB hv1 ?_
    first | refine cx_p rfl (pv_move_slice rfl) ?_ | refine cx_p rfl (pv_move rfl) ?_
    first | refine cx_p rfl (pv_move_int rfl) ?_ | refine cx_p rfl (pv_move rfl) ?_
    first | refine cx_p rfl (pv_ixs1z rfl rfl (by first | omega | exact Nat.le_of_ble_eq_true rfl | (simp; done) | (simp; omega))) ?_ | refine cx_p rfl (pv_ixs1 rfl rfl (by first | omega | exact Nat.le_of_ble_eq_true rfl | (simp; done) | (simp; omega))) ?_
    refine cx_load_sl (j := i) rfl rfl hw.rd hB hgi ?_
    refine cx_e rfl ?_
    refine x_call rfl (by kernel_rfl) (kept_r (L := L) ((rd_spare .here).imp hR) ((bs_spare .here hln).imp hR) hbs hln) rfl (by repeat (first | exact Take.nil | exact Take.all | (apply Take.cons; (next => (repeat constructor); done)) | apply Take.skip)) ?_
    rintro _ _ ⟨rfl, rfl⟩
    refine xo_app (by repeat (first | exact App.nil | apply App.cons | (apply App.flip; first | exact App.nil | apply App.cons) | exact App.any)) ?_
    refine x_nil ⟨(fun hh => Bool.noConfusion hh), ?_⟩
    first | refine cx_q rfl (pv_not_p rfl) ?_ | refine cx_q rfl (pv_not rfl) ?_
    refine cx_isF 28 rfl (by simp) ?_
    refine cx_nil ?_
    repeat (first|refine zA ?_|refine zB ?_|refine zC ?_|refine zD ?_|refine zE ?_|refine zF ?_|refine zG ?_|refine zH ?_|refine zI ?_|refine zJ ?_|refine zK ?_|refine zL ?_|refine zM rfl ?_|refine zN ?_|refine zO ?_|refine zP ?_|refine zQ ?_)
    refine x_cond_f rfl ?_
    repeat (first|refine zA ?_|refine zB ?_|refine zC ?_|refine zD ?_|refine zE ?_|refine zF ?_|refine zG ?_|refine zH ?_|refine zI ?_|refine zJ ?_|refine zK ?_|refine zL ?_|refine zM rfl ?_|refine zN ?_|refine zO ?_|refine zP ?_|refine zQ ?_)
    refine x_reg ?_
    first | refine x_pv (pv_move_int rfl) ?_ | refine x_pv (pv_move rfl) ?_
    first | refine x_pv (pv_addn (b := 1) rfl rfl (by first | omega | exact Nat.le_of_ble_eq_true rfl | (simp; done) | (simp; omega) | decide)) ?_ | refine x_pv (pv_add_i rfl rfl (by first | omega | exact Nat.le_of_ble_eq_true rfl | (simp; done) | (simp; omega) | decide)) ?_
    first | refine x_pv (pv_assign_int rfl) ?_ | refine x_pv (pv_assign rfl) ?_
    refine x_nil ?_
    repeat (first|refine zA ?_|refine zB ?_|refine zC ?_|refine zD ?_|refine zE ?_|refine zF ?_|refine zG ?_|refine zH ?_|refine zI ?_|refine zJ ?_|refine zK ?_|refine zL ?_|refine zM rfl ?_|refine zN ?_|refine zO ?_|refine zP ?_|refine zQ ?_)
    exact x_loop_n (i + 1) (by first | omega | (dsimp only; omega) | (simp only []; omega)) (by first | omega | (dsimp only; omega) | (simp only []; omega)) (by exact Imp.arr (by repeat (first | exact Arr.nil | exact Arr.stop | refine Arr.cons (by repeat constructor) ?_ | refine Arr.skip ?_))) ⟨rfl, trivial⟩
  · repeat (first|refine zA ?_|refine zB ?_|refine zC ?_|refine zD ?_|refine zE ?_|refine zF ?_|refine zG ?_|refine zH ?_|refine zI ?_|refine zJ ?_|refine zK ?_|refine zL ?_|refine zM rfl ?_|refine zN ?_|refine zO ?_|refine zP ?_|refine zQ ?_)
    refine x_reg ?_
    first | refine x_pv (pv_move_slice rfl) ?_ | refine x_pv (pv_move rfl) ?_
    first | refine x_pv (pv_move_slice rfl) ?_ | refine x_pv (pv_move rfl) ?_
    first | refine x_pv (pv_len rfl) ?_ | refine x_pv (pv_len_arr) ?_ | refine x_pv (pv_len_str rfl) ?_
    first | refine x_pv (pv_addn (b := 3) rfl rfl (by first | omega | exact Nat.le_of_ble_eq_true rfl | (simp; done) | (simp; omega) | decide)) ?_ | refine x_pv (pv_add_i rfl rfl (by first | omega | exact Nat.le_of_ble_eq_true rfl | (simp; done) | (simp; omega) | decide)) ?_
    refine x_pv (pv_sls0 (h := ps.length + 3) rfl rfl (by omega)) ?_
    first | refine x_pv (pv_assign_slice rfl) ?_ | refine x_pv (pv_assign rfl) ?_
    refine x_nil ?_
    repeat (first|refine zA ?_|refine zB ?_|refine zC ?_|refine zD ?_|refine zE ?_|refine zF ?_|refine zG ?_|refine zH ?_|refine zI ?_|refine zJ ?_|refine zK ?_|refine zL ?_|refine zM rfl ?_|refine zN ?_|refine zO ?_|refine zP ?_|refine zQ ?_)
    refine x_reg ?_
    first | refine x_pv (pv_move_slice rfl) ?_ | refine x_pv (pv_move rfl) ?_
    first | refine x_pv (pv_len rfl) ?_ | refine x_pv (pv_len_arr) ?_ | refine x_pv (pv_len_str rfl) ?_
    first | refine x_pv (pv_assign_int rfl) ?_ | refine x_pv (pv_assign rfl) ?_
    refine x_nil ?_
    repeat (first|refine zA ?_|refine zB ?_|refine zC ?_|refine zD ?_|refine zE ?_|refine zF ?_|refine zG ?_|refine zH ?_|refine zI ?_|refine zJ ?_|refine zK ?_|refine zL ?_|refine zM rfl ?_|refine zN ?_|refine zO ?_|refine zP ?_|refine zQ ?_)
    refine x_loop [(4, 4), (7, 7), (36, 67)] (by kernel_rfl) (fun i : Nat => ps.length ≤ i ∧ i ≤ ps.length + 3) (fun _ => L) (fun i => [(7, .int .i64 (i : Int))]) (fun i => ps.length + 3 - i) ps.length (by omega) (Imp.refl _) ⟨rfl, trivial⟩ ?_
    rintro j u2 ⟨hj0, hj⟩
    repeat (first|refine zA ?_|refine zB ?_|refine zC ?_|refine zD ?_|refine zE ?_|refine zF ?_|refine zG ?_|refine zH ?_|refine zI ?_|refine zJ ?_|refine zK ?_|refine zL ?_|refine zM rfl ?_|refine zN ?_|refine zO ?_|refine zP ?_|refine zQ ?_)
    refine x_reg ?_
    first | refine x_pv (pv_move_int rfl) ?_ | refine x_pv (pv_move rfl) ?_
    first | refine x_pv (pv_move_slice rfl) ?_ | refine x_pv (pv_move rfl) ?_
    first | refine x_pv (pv_len rfl) ?_ | refine x_pv (pv_len_arr) ?_ | refine x_pv (pv_len_str rfl) ?_
    first | refine x_pv (pv_lssn rfl rfl) ?_ | refine x_pv (pv_lss rfl rfl) ?_
    refine x_nil ?_
    repeat (first|refine zA ?_|refine zB ?_|refine zC ?_|refine zD ?_|refine zE ?_|refine zF ?_|refine zG ?_|refine zH ?_|refine zI ?_|refine zJ ?_|refine zK ?_|refine zL ?_|refine zM rfl ?_|refine zN ?_|refine zO ?_|refine zP ?_|refine zQ ?_)
    refine x_cond_p rfl (fun hC => ?_) (fun hC => ?_)
    · obtain ⟨R, hR⟩ := hb _ (hmem j (by omega))
      have e1 : rowV rows (gs[j], j) = .slice (some ⟨gs[j], 0, none⟩) 2 2 := by unfold rowV; rw [if_neg (by omega)]
      have e2 : rowB rows j = [BitVec.ofInt 8 (j : Int), 119#8] := by unfold rowB; rw [if_neg (by omega)]
      have e3 : blkA rows (gs[j], j) = cl gs[j] (([BitVec.ofInt 8 (j : Int), 119#8]).map u8b).toArray 5 := by show cl gs[j] ((rowB rows j).map u8b).toArray _ = _; rw [e2]
      rw [e3] at hR
      have hv1 : ((gs.zipIdx).map (rowV rows))[j]? = some (.slice (some ⟨gs[j], 0, none⟩) 2 2) := by rw [hgv j (by omega), e1]
      have hm2 : Rd L 1 (.slice (some ⟨gs[j], 0, none⟩) 2 2) 2 [u8b (BitVec.ofInt 8 (j : Int)), u8b 119#8] := (Rd.cl (o := 0) (xs := [u8b (BitVec.ofInt 8 (j : Int)), u8b 119#8]) (c := ([u8b (BitVec.ofInt 8 (j : Int)), u8b 119#8]).toArray) (E := 5) .here rfl (by first | rfl | omega | (rw [szL]; omega) | exact Nat.le_of_ble_eq_true rfl | (simp; done) | (simp; omega)) rfl).imp hR
      repeat (first|refine zA ?_|refine zB ?_|refine zC ?_|refine zD ?_|refine zE ?_|refine zF ?_|refine zG ?_|refine zH ?_|refine zI ?_|refine zJ ?_|refine zK ?_|refine zL ?_|refine zM rfl ?_|refine zN ?_|refine zO ?_|refine zP ?_|refine zQ ?_)
      refine x_reg ?_
      first | refine x_pv (pv_move_slice rfl) ?_ | refine x_pv (pv_move rfl) ?_
      first | refine x_pv (pv_move_int rfl) ?_ | refine x_pv (pv_move rfl) ?_
      first | refine x_pv (pv_ixs1z rfl rfl (by first | omega | exact Nat.le_of_ble_eq_true rfl | (simp; done) | (simp; omega))) ?_ | refine x_pv (pv_ixs1 rfl rfl (by first | omega | exact Nat.le_of_ble_eq_true rfl | (simp; done) | (simp; omega))) ?_
      refine x_load_slz (j := j) rfl hg hC hv1 ?_
      first | refine x_pv (pv_len rfl) ?_ | refine x_pv (pv_len_arr) ?_ | refine x_pv (pv_len_str rfl) ?_
      first | refine x_pv (pv_neqn (b := 2) rfl rfl) ?_ | refine x_pv (pv_neq rfl rfl) ?_
      refine x_isF 47 rfl (decide_eq_false (fun h => h rfl)) ?_
      first | refine x_pv (pv_move_bool rfl) ?_ | refine x_pv (pv_move rfl) ?_
      first | refine x_gn rfl ?_ | refine x_gu rfl ?_ | (refine x_gy rfl ?_; (first | refine x_pv (pv_move_slice rfl) ?_ | refine x_pv (pv_move rfl) ?_))
      first | refine x_gn rfl ?_ | refine x_gu rfl ?_ | (refine x_gy rfl ?_; (first | refine x_pv (pv_move_int rfl) ?_ | refine x_pv (pv_move rfl) ?_))
      first | refine x_gn rfl ?_ | refine x_gu rfl ?_ | (refine x_gy rfl ?_; (first | refine x_pv (pv_ixs1z rfl rfl (by first | omega | exact Nat.le_of_ble_eq_true rfl | (simp; done) | (simp; omega))) ?_ | refine x_pv (pv_ixs1 rfl rfl (by first | omega | exact Nat.le_of_ble_eq_true rfl | (simp; done) | (simp; omega))) ?_))
      refine x_gy rfl ?_; refine x_load_slz (j := j) rfl hg hC hv1 ?_
      first | refine x_gn rfl ?_ | refine x_gu rfl ?_ | (refine x_gy rfl ?_; (first | refine x_pv (pv_ixs1z (n := 0) rfl rfl (by first | omega | exact Nat.le_of_ble_eq_true rfl | (simp; done) | (simp; omega))) ?_ | refine x_pv (pv_ixs1 (n := 0) rfl rfl (by first | omega | exact Nat.le_of_ble_eq_true rfl | (simp; done) | (simp; omega))) ?_))
      refine x_gy rfl ?_; refine x_load_slz (j := 0) rfl hm2 (by omega) rfl ?_
      first | refine x_gn rfl ?_ | refine x_gu rfl ?_ | (refine x_gy rfl ?_; (first | refine x_pv (pv_move_int rfl) ?_ | refine x_pv (pv_move rfl) ?_))
      first | refine x_gn rfl ?_ | refine x_gu rfl ?_ | (refine x_gy rfl ?_; (refine x_pv (pv_conv_i_u8 rfl) ?_))
      first | refine x_gn rfl ?_ | refine x_gu rfl ?_ | (refine x_gy rfl ?_; (refine x_pv (pv_neq_u8 rfl rfl) ?_))
      refine x_isF 57 rfl (decide_eq_false (fun h => h rfl)) ?_
      first | refine x_pv (pv_pick_tb rfl rfl) ?_ | refine x_pv (pv_pick_fb rfl rfl) ?_ | refine x_pv (pv_pick_t rfl rfl) ?_ | refine x_pv (pv_pick_f rfl rfl) ?_ | refine x_pv (pv_pick_and rfl rfl) ?_ | refine x_pv (pv_pick_or rfl rfl) ?_
      first | refine x_pv (pv_move_bool rfl) ?_ | refine x_pv (pv_move rfl) ?_
      first | refine x_gn rfl ?_ | refine x_gu rfl ?_ | (refine x_gy rfl ?_; (first | refine x_pv (pv_move_slice rfl) ?_ | refine x_pv (pv_move rfl) ?_))
      first | refine x_gn rfl ?_ | refine x_gu rfl ?_ | (refine x_gy rfl ?_; (first | refine x_pv (pv_move_int rfl) ?_ | refine x_pv (pv_move rfl) ?_))
      first | refine x_gn rfl ?_ | refine x_gu rfl ?_ | (refine x_gy rfl ?_; (first | refine x_pv (pv_ixs1z rfl rfl (by first | omega | exact Nat.le_of_ble_eq_true rfl | (simp; done) | (simp; omega))) ?_ | refine x_pv (pv_ixs1 rfl rfl (by first | omega | exact Nat.le_of_ble_eq_true rfl | (simp; done) | (simp; omega))) ?_))
      refine x_gy rfl ?_; refine x_load_slz (j := j) rfl hg hC hv1 ?_
      first | refine x_gn rfl ?_ | refine x_gu rfl ?_ | (refine x_gy rfl ?_; (first | refine x_pv (pv_ixs1z (n := 1) rfl rfl (by first | omega | exact Nat.le_of_ble_eq_true rfl | (simp; done) | (simp; omega))) ?_ | refine x_pv (pv_ixs1 (n := 1) rfl rfl (by first | omega | exact Nat.le_of_ble_eq_true rfl | (simp; done) | (simp; omega))) ?_))
      refine x_gy rfl ?_; refine x_load_slz (j := 1) rfl hm2 (by omega) rfl ?_
      first | refine x_gn rfl ?_ | refine x_gu rfl ?_ | (refine x_gy rfl ?_; (refine x_pv (pv_neq_u8 (y := 119#8) rfl rfl) ?_))
      refine x_isF 66 rfl (decide_eq_false (fun h => h rfl)) ?_
      first | refine x_pv (pv_pick_tb rfl rfl) ?_ | refine x_pv (pv_pick_fb rfl rfl) ?_ | refine x_pv (pv_pick_t rfl rfl) ?_ | refine x_pv (pv_pick_f rfl rfl) ?_ | refine x_pv (pv_pick_and rfl rfl) ?_ | refine x_pv (pv_pick_or rfl rfl) ?_
      refine x_nil ?_
      repeat (first|refine zA ?_|refine zB ?_|refine zC ?_|refine zD ?_|refine zE ?_|refine zF ?_|refine zG ?_|refine zH ?_|refine zI ?_|refine zJ ?_|refine zK ?_|refine zL ?_|refine zM rfl ?_|refine zN ?_|refine zO ?_|refine zP ?_|refine zQ ?_)
      refine x_cond_f rfl ?_
      repeat (first|refine zA ?_|refine zB ?_|refine zC ?_|refine zD ?_|refine zE ?_|refine zF ?_|refine zG ?_|refine zH ?_|refine zI ?_|refine zJ ?_|refine zK ?_|refine zL ?_|refine zM rfl ?_|refine zN ?_|refine zO ?_|refine zP ?_|refine zQ ?_)
      refine x_reg ?_
      first | refine x_pv (pv_move_int rfl) ?_ | refine x_pv (pv_move rfl) ?_
      first | refine x_pv (pv_addn (b := 1) rfl rfl (by first | omega | exact Nat.le_of_ble_eq_true rfl | (simp; done) | (simp; omega) | decide)) ?_ | refine x_pv (pv_add_i rfl rfl (by first | omega | exact Nat.le_of_ble_eq_true rfl | (simp; done) | (simp; omega) | decide)) ?_
      first | refine x_pv (pv_assign_int rfl) ?_ | refine x_pv (pv_assign rfl) ?_
      refine x_nil ?_
      repeat (first|refine zA ?_|refine zB ?_|refine zC ?_|refine zD ?_|refine zE ?_|refine zF ?_|refine zG ?_|refine zH ?_|refine zI ?_|refine zJ ?_|refine zK ?_|refine zL ?_|refine zM rfl ?_|refine zN ?_|refine zO ?_|refine zP ?_|refine zQ ?_)
      exact x_loop_n (j + 1) (by first | omega | (dsimp only; omega) | (simp only []; omega)) ⟨by omega, by omega⟩ (by exact Imp.arr (by repeat (first | exact Arr.nil | exact Arr.stop | refine Arr.cons (by repeat constructor) ?_ | refine Arr.skip ?_))) ⟨rfl, trivial⟩
    · repeat (first|refine zA ?_|refine zB ?_|refine zC ?_|refine zD ?_|refine zE ?_|refine zF ?_|refine zG ?_|refine zH ?_|refine zI ?_|refine zJ ?_|refine zK ?_|refine zL ?_|refine zM rfl ?_|refine zN ?_|refine zO ?_|refine zP ?_|refine zQ ?_)
      refine x_reg ?_
      first | refine x_pv (pv_assign_bool rfl) ?_ | refine x_pv (pv_assign rfl) ?_
      refine x_nil ?_
      repeat (first|refine zA ?_|refine zB ?_|refine zC ?_|refine zD ?_|refine zE ?_|refine zF ?_|refine zG ?_|refine zH ?_|refine zI ?_|refine zJ ?_|refine zK ?_|refine zL ?_|refine zM rfl ?_|refine zN ?_|refine zO ?_|refine zP ?_|refine zQ ?_)
      refine rx1 (rx_bool rfl (rx_nil)) ?_
      exact ⟨_, ⟨rfl, rfl⟩, by exact Imp.arr (by repeat (first | exact Arr.nil | exact Arr.stop | refine Arr.cons (by repeat constructor) ?_ | refine Arr.skip ?_))⟩
end Go.Sl

/- lists of lists with marked room behind them: as slices that are read, and kept. -/
set_option maxHeartbeats 4000000
set_option maxRecDepth 10000
set_option linter.unusedVariables false
set_option linter.unusedSimpArgs false
namespace Go.Sl
open Go Go.Proofs
attribute [local irreducible] cl pt own old pur ex all den denOps denS xOps xC cX CX xthen xblk xcut xloop retX resX Calls PV Rd Con
def spQ (rows : List (List Byte)) (gs : List Nat) : List (Value × List Byte) := (gs.zipIdx.take rows.length).map fun x => (rowV rows x, rows.getD x.2 [])
theorem spQ_len {rows : List (List Byte)} {gs : List Nat} (h : gs.length = rows.length + 3) : (spQ rows gs).length = rows.length := by simp [spQ]; omega
theorem spQ_get {rows : List (List Byte)} {gs : List Nat} (h : gs.length = rows.length + 3) (i : Nat) (hi : i < rows.length) : (spQ rows gs)[i]'(by rw [spQ_len h]; exact hi) = (rowV rows (gs[i]'(by omega), i), rows[i]) := by
  have hg : i < gs.length := by omega
  simp only [spQ, List.getElem_map, List.getElem_take, List.getElem_zipIdx, Nat.zero_add]
  rw [List.getD_eq_getElem?_getD, List.getElem?_eq_getElem hi]; rfl
theorem spQ_rows {rows : List (List Byte)} {gs : List Nat} (h : gs.length = rows.length + 3) : (spQ rows gs).map (·.2) = rows := by
  apply List.ext_getElem (by simp [spQ_len h])
  intro i h1 h2
  rw [List.getElem_map, spQ_get h i h2]
theorem spQ_join {rows : List (List Byte)} {gs : List Nat} (h : gs.length = rows.length + 3) : joinB (spQ rows gs) = rows.flatten := by unfold joinB; rw [spQ_rows h]
theorem join_rows (ps : List (Value × List Byte)) : joinB ps = (ps.map (·.2)).flatten := rfl
theorem rs_spares {M M1 M2 : List Asrt} {g : Nat} {rows : List (List Byte)} {gs : List Nat} (hm : Has M (cl g ((gs.zipIdx).map (rowV rows)).toArray 31) M1) (hs : Has M (star (blkA rows) gs.zipIdx) M2)
    (hgl : gs.length = rows.length + 3) (hel : ∀ r ∈ rows, r.length ≤ 140737488355328) (hl : rows.length ≤ 2097152) : Rs M (.slice (some ⟨g, 0, none⟩) rows.length (rows.length + 3)) (spQ rows gs) := by
  have hq := spQ_len hgl
  have hzl : (gs.zipIdx).length = rows.length + 3 := by simp [hgl]
  have h := Rs.cl (M := M) (o := 0) (c := rows.length + 3) (ps := spQ rows gs) hm (by simp [hq, hzl]) (by
      simp only [Array.toList_extract, List.extract_eq_take_drop, Nat.zero_add, Nat.sub_zero, List.drop_zero]
      rw [hq, ← List.map_take]; simp only [spQ, List.map_map]; rfl) (by omega) (by omega) ?_
  · rwa [hq] at h
  · intro x hx
    obtain ⟨i, hi, rfl⟩ := List.getElem_of_mem hx
    have hi2 : i < rows.length := by rwa [hq] at hi
    have hgi : i < gs.length := by omega
    have hmem : (gs[i], i) ∈ gs.zipIdx := by
      rw [List.mem_iff_getElem]; exact ⟨i, by simpa using hgi, by simp⟩
    obtain ⟨R, hR⟩ := star_has (A := blkA rows) hmem hs
    rw [spQ_get hgl i hi2]
    have e1 : rowV rows (gs[i], i) = .slice (some ⟨gs[i], 0, none⟩) rows[i].length (rows[i].length + 80) := by
      unfold rowV; rw [if_pos hi2, List.getD_eq_getElem?_getD, List.getElem?_eq_getElem hi2]; rfl
    have e2 : rowB rows i = spareL rows[i] := by unfold rowB; rw [if_pos hi2, List.getD_eq_getElem?_getD, List.getElem?_eq_getElem hi2]; rfl
    have e3 : blkA rows (gs[i], i) = cl gs[i] ((spareL rows[i]).map u8b).toArray 5 := by show cl gs[i] ((rowB rows i).map u8b).toArray _ = _; rw [e2]
    rw [e3] at hR
    rw [e1]
    exact (bs_spare .here (hel _ (List.getElem_mem hi2))).imp hR
theorem spareRows_y {L : List Asrt} {v : Value} {ps : List (Value × List Byte)} (rows : List (List Byte)) (hrows : ps.map (·.2) = rows) (h : Rs L v ps) (hl : ps.length ≤ 2097152) (hel : ∀ x ∈ ps, x.2.length ≤ 140737488355328) :
    Con Try.prog 12 [v] L (fun r M => ∃ (g : Nat) (gs : List Nat), gs.length = rows.length + 3 ∧ r = .slice (some ⟨g, 0, none⟩) rows.length (rows.length + 3) ∧ M = cl g ((gs.zipIdx).map (rowV rows)).toArray 31 :: star (blkA rows) gs.zipIdx :: L) := by
  have hrl : ps.length = rows.length := by rw [← hrows]; simp
  refine (spareRows_x h hl hel).mono ?_
  rintro v M ⟨g, gs, h1, rfl, rfl⟩
  exact ⟨_, Imp.refl _, g, gs, by omega, by rw [hrl], by rw [hrows]; rfl⟩
theorem kept_spares {L L1 L2 : List Asrt} {g : Nat} {gs : List Nat} {vw : Value} {ps : List (Value × List Byte)} (rows : List (List Byte)) (hrows : ps.map (·.2) = rows) (hgl : gs.length = rows.length + 3) (hw : Rs L vw ps) (hl : ps.length ≤ 2097152) (hel : ∀ x ∈ ps, x.2.length ≤ 140737488355328)
    (hm : Has L (cl g ((gs.zipIdx).map (rowV rows)).toArray 31) L1) (hs : Has L (star (blkA rows) gs.zipIdx) L2) :
    Con Try.prog 16 [.slice (some ⟨g, 0, none⟩) rows.length (rows.length + 3), vw] L (fun r M => r = .bool true ∧ L = M) := by
  have hrl : ps.length = rows.length := by rw [← hrows]; simp
  have hzl : (gs.zipIdx).length = rows.length + 3 := by simp [hgl]
  rw [← hrl]
  refine keptRows_x (gs := gs) rows hrows (by omega) hw hl hel ?_ ?_
  · refine Rd.cl (o := 0) hm (by simp [hgl, hrl]) (by simp [hgl, hrl]) ?_
    simp only [Array.toList_extract, List.extract_eq_take_drop, Nat.zero_add, Nat.sub_zero, List.drop_zero, Nat.mul_one]
    exact List.take_of_length_le (by rw [List.length_map, hzl]; omega)
  · intro x hx
    obtain ⟨i, hi, rfl⟩ := List.getElem_of_mem hx
    exact star_has (A := blkA rows) (List.getElem_mem hi) hs
end Go.Sl

/- trystlaw06: TagChecks, walked. -/
set_option maxHeartbeats 4000000
set_option maxRecDepth 10000
set_option linter.unusedVariables false
set_option linter.unusedSimpArgs false
namespace Go.Sl
open Go Go.Proofs
attribute [local irreducible] cl pt own old pur ex all den denOps denS xOps xC cX CX xthen xblk xcut xloop retX resX Calls PV Rd Con
attribute [local irreducible] pc writeS takeW full put1 setU setH code sumS spareL spQ
theorem turn_ne (w : List Byte) (i : Nat) (h : i < w.length) (o : Byte) : ¬ w = w.set i (w[i] ^^^ (o ||| 1#8)) := by
  intro e
  have e2 : w[i]? = (w.set i (w[i] ^^^ (o ||| 1#8)))[i]? := congrArg (fun l => l[i]?) e
  rw [List.getElem?_eq_getElem h, List.getElem?_set_self h, Option.some.injEq] at e2
  have h0 : o ||| 1#8 = 0#8 := by
    have : w[i] ^^^ w[i] = w[i] ^^^ (w[i] ^^^ (o ||| 1#8)) := congrArg (fun x => w[i] ^^^ x) e2
    rw [BitVec.xor_self, ← BitVec.xor_assoc, BitVec.xor_self, BitVec.zero_xor] at this
    exact this.symm
  have : (o ||| 1#8).getLsbD 0 = (0#8 : Byte).getLsbD 0 := by rw [h0]
  simp at this
theorem plus_ne (w : List Byte) (i j : Nat) (h : i < w.length) (hij : i ≠ j) (y : Byte) : ¬ w = (w.set i (w[i] + 1#8)).set j y := by
  intro e
  have e2 : w[i]? = ((w.set i (w[i] + 1#8)).set j y)[i]? := congrArg (fun l => l[i]?) e
  rw [List.getElem?_eq_getElem h, List.getElem?_set_ne (fun e => hij e.symm), List.getElem?_set_self h, Option.some.injEq] at e2
  have : w[i].toNat = (w[i] + 1#8).toNat := by rw [← e2]
  rw [BitVec.toNat_add] at this
  have := w[i].isLt
  simp at *
theorem neq_sym (a b : List Byte) : (decide (a = b) != decide (b = a)) = false := by
  by_cases e : a = b
  · simp [e]
  · simp [e, show ¬ b = a from fun h => e h.symm]
theorem checks_x (W : World) (key : List Byte) (hk : key.length = 32) (v : Value) (ps : List (Value × List Byte)) (hin : InR W v ps) (ot : List Byte) (ho : ot.length = 16) (hjb : (joinB ps).length + ps.length ≤ 2097152) :
    Con Try.prog 5 [.agg (key.map u8b).toArray, v, .agg (ot.map u8b).toArray] [old W] (fun r M => r = .bool true ∧ [old W] = M) := by
  obtain ⟨va, vc, rfl, hvl, hvc⟩ := hin.sh
  have hpl1 : ps.length ≤ 2097152 := by omega
  obtain ⟨J, hJ⟩ : ∃ J, J = joinB ps := ⟨_, rfl⟩
  have hcl := code_len key J
  have hcl0 := code_len key (joinB ps)
  have hel2 : ∀ x ∈ ps, x.2.length ≤ 140737488355328 := fun x hx => by have := (hin.el x hx).len; omega
  obtain ⟨rows, hrows⟩ : ∃ rows, ps.map (·.2) = rows := ⟨_, rfl⟩
  have hrl : rows.length = ps.length := by rw [← hrows]; simp
  have hrel : ∀ r ∈ rows, r.length ≤ 140737488355328 := fun r hr => by
    rw [← hrows] at hr; obtain ⟨x, hx, rfl⟩ := List.mem_map.1 hr; exact hel2 x hx
  refine fn_x Try.func5 rfl rfl rfl Try.mixed (by kernel_rfl) ?_
  intro w0
  repeat (first|refine zA ?_|refine zB ?_|refine zC ?_|refine zD ?_|refine zE ?_|refine zF ?_|refine zG ?_|refine zH ?_|refine zI ?_|refine zJ ?_|refine zK ?_|refine zL ?_|refine zM rfl ?_|refine zN ?_|refine zO ?_|refine zP ?_|refine zQ ?_)
  refine x_reg ?_
  refine x_box_a rfl ?_; intro b3
  refine x_box_a rfl ?_; intro b5
  first | refine x_pv (pv_assign_bool rfl) ?_ | refine x_pv (pv_assign rfl) ?_
  refine x_nil ?_
  repeat (first|refine zA ?_|refine zB ?_|refine zC ?_|refine zD ?_|refine zE ?_|refine zF ?_|refine zG ?_|refine zH ?_|refine zI ?_|refine zJ ?_|refine zK ?_|refine zL ?_|refine zM rfl ?_|refine zN ?_|refine zO ?_|refine zP ?_|refine zQ ?_)
  refine x_reg ?_
  first | refine x_pv (pv_move_slice rfl) ?_ | refine x_pv (pv_move rfl) ?_
  refine x_call rfl (by kernel_rfl) (spareRows_y (L := [old W]) rows hrows (hin.rs .here) hpl1 hel2) rfl (by repeat (first | exact Take.nil | exact Take.all | (apply Take.cons; (next => (repeat constructor); done)) | apply Take.skip)) ?_
  rintro _ _ ⟨g, gs, hgl, rfl, rfl⟩
  refine xo_app (by repeat (first | exact App.nil | apply App.cons | (apply App.flip; first | exact App.nil | apply App.cons) | exact App.any)) ?_
  first | refine x_pv (pv_assign_slice rfl) ?_ | refine x_pv (pv_assign rfl) ?_
  refine x_nil ?_
  repeat (first|refine zA ?_|refine zB ?_|refine zC ?_|refine zD ?_|refine zE ?_|refine zF ?_|refine zG ?_|refine zH ?_|refine zI ?_|refine zJ ?_|refine zK ?_|refine zL ?_|refine zM rfl ?_|refine zN ?_|refine zO ?_|refine zP ?_|refine zQ ?_)
  have hqj : joinB (spQ rows gs) = J := by rw [spQ_join hgl, hJ, join_rows, hrows]
  have hql := spQ_len hgl
  repeat (first|refine zA ?_|refine zB ?_|refine zC ?_|refine zD ?_|refine zE ?_|refine zF ?_|refine zG ?_|refine zH ?_|refine zI ?_|refine zJ ?_|refine zK ?_|refine zL ?_|refine zM rfl ?_|refine zN ?_|refine zO ?_|refine zP ?_|refine zQ ?_)
  refine x_draw (_) [0, 1, 2, 3, 4] (.r 0 (.r 1 (.e 2 true (.e 3 true (.a 4 (.e 5 false .nil)))))) (by kernel_rfl) (by kernel_rfl) (Imp.refl _) ?_
  first | refine cx_load_all rfl rfl (by repeat constructor) (by first | rfl | omega | (rw [szL]; omega) | exact Nat.le_of_ble_eq_true rfl | (simp; done) | (simp; omega)) ?_ | refine cx_load_agg rfl rfl (by repeat constructor) (by first | rfl | omega | (rw [szL]; omega) | exact Nat.le_of_ble_eq_true rfl | (simp; done) | (simp; omega)) rfl ?_
  first | refine cx_p rfl (pv_move_slice rfl) ?_ | refine cx_p rfl (pv_move rfl) ?_
  refine cx_e rfl ?_
  refine x_call rfl (by kernel_rfl) (join_x (L := [old W]) (hin.rs .here) (by omega)) rfl (by repeat (first | exact Take.nil | exact Take.all | (apply Take.cons; (next => (repeat constructor); done)) | apply Take.skip)) ?_
  rintro _ _ ⟨ja, jc, rfl, rfl⟩
  refine xo_app (by repeat (first | exact App.nil | apply App.cons | (apply App.flip; first | exact App.nil | apply App.cons) | exact App.any)) ?_
  refine x_nil ⟨fun _ => Imp.arr (by repeat (first | exact Arr.nil | exact Arr.stop | refine Arr.cons (by repeat constructor) ?_ | refine Arr.skip ?_)), ?_⟩
  refine cx_e rfl ?_
  refine x_call rfl (by kernel_rfl) (rsum_x (L := [own 5 1 (.slice ja (joinB ps).length jc) (joinB ps).length ((joinB ps).map u8b)]) key hk (Bs.own .here) (by omega)) rfl (by repeat (first | exact Take.nil | exact Take.all | (apply Take.cons; (next => (repeat constructor); done)) | apply Take.skip)) ?_
  rintro _ _ ⟨rfl, rfl⟩
  refine xo_app (by repeat (first | exact App.nil | apply App.cons | (apply App.flip; first | exact App.nil | apply App.cons) | exact App.any)) ?_
  refine x_nil ⟨fun _ => Imp.arr (by repeat (first | exact Arr.nil | exact Arr.stop | refine Arr.cons (by repeat constructor) ?_ | refine Arr.skip ?_)), ?_⟩
  refine cx_a rfl (cs := ((List.replicate 16 0#8).map u8b).toArray) rfl ?_; intro b8
  refine cx_e rfl ?_
  first | refine x_store_all rfl rfl (by repeat constructor) (by first | rfl | omega | (rw [szL]; omega) | exact Nat.le_of_ble_eq_true rfl | (simp; done) | (simp; omega)) (by first | rfl | exact oneM_u8 _ | exact oneL_u8 _ | (simp [oneC]; done)) (by first | rfl | omega | (rw [szL]; omega) | exact Nat.le_of_ble_eq_true rfl | (simp; done) | (simp; omega)) ?_ | refine x_store_agg rfl rfl (by repeat constructor) (by first | rfl | omega | (rw [szL]; omega) | exact Nat.le_of_ble_eq_true rfl | (simp; done) | (simp; omega)) (by first | rfl | exact oneM_u8 _ | exact oneL_u8 _ | (simp [oneC]; done)) (by first | rfl | omega | (rw [szL]; omega) | exact Nat.le_of_ble_eq_true rfl | (simp; done) | (simp; omega)) rfl ?_
  refine x_nil ⟨(fun hh => Bool.noConfusion hh), ?_⟩
  refine cx_nil ?_
  repeat (first|refine zA ?_|refine zB ?_|refine zC ?_|refine zD ?_|refine zE ?_|refine zF ?_|refine zG ?_|refine zH ?_|refine zI ?_|refine zJ ?_|refine zK ?_|refine zL ?_|refine zM rfl ?_|refine zN ?_|refine zO ?_|refine zP ?_|refine zQ ?_)
  rw [← hJ]
  repeat (first|refine zA ?_|refine zB ?_|refine zC ?_|refine zD ?_|refine zE ?_|refine zF ?_|refine zG ?_|refine zH ?_|refine zI ?_|refine zJ ?_|refine zK ?_|refine zL ?_|refine zM rfl ?_|refine zN ?_|refine zO ?_|refine zP ?_|refine zQ ?_)
  refine x_draw ([cl b8 ((code key J).map u8b).toArray 28, cl b3 (key.map u8b).toArray 24, cl b5 (ot.map u8b).toArray 28]) [0, 1, 2, 3, 6, 7, 8, 9, 10, 11, 12] (.r 0 (.r 1 (.r 2 (.e 3 true (.q 4 (.q 5 (.r 6 (.r 7 (.r 8 (.r 10 (.r 11 (.r 12 (.e 9 true (.q 13 (.q 14 .nil))))))))))))))) (by kernel_rfl) (by kernel_rfl) (Imp.arr (by repeat (first | exact Arr.nil | exact Arr.stop | refine Arr.cons (by repeat constructor) ?_ | refine Arr.skip ?_))) ?_
  first | refine cx_load_all rfl rfl (by repeat constructor) (by first | rfl | omega | (rw [szL]; omega) | exact Nat.le_of_ble_eq_true rfl | (simp; done) | (simp; omega)) ?_ | refine cx_load_agg rfl rfl (by repeat constructor) (by first | rfl | omega | (rw [szL]; omega) | exact Nat.le_of_ble_eq_true rfl | (simp; done) | (simp; omega)) rfl ?_
  first | refine cx_load_all rfl rfl (by repeat constructor) (by first | rfl | omega | (rw [szL]; omega) | exact Nat.le_of_ble_eq_true rfl | (simp; done) | (simp; omega)) ?_ | refine cx_load_agg rfl rfl (by repeat constructor) (by first | rfl | omega | (rw [szL]; omega) | exact Nat.le_of_ble_eq_true rfl | (simp; done) | (simp; omega)) rfl ?_
  first | refine cx_p rfl (pv_move_slice rfl) ?_ | refine cx_p rfl (pv_move rfl) ?_
  refine cx_e rfl ?_
  refine x_call rfl (by kernel_rfl) (check_c (L := [cl g ((gs.zipIdx).map (rowV rows)).toArray 31, star (blkA rows) gs.zipIdx]) key hk (code key J) hcl (rs_spares (by repeat constructor) (by repeat constructor) hgl hrel (by omega)) (by omega)) rfl (by repeat (first | exact Take.nil | exact Take.all | (apply Take.cons; (next => (repeat constructor); done)) | apply Take.skip)) ?_
  rintro _ _ ⟨rfl, rfl⟩
  refine xo_app (by repeat (first | exact App.nil | apply App.cons | (apply App.flip; first | exact App.nil | apply App.cons) | exact App.any)) ?_
  refine x_nil ⟨fun _ => Imp.arr (by repeat (first | exact Arr.nil | exact Arr.stop | refine Arr.cons (by repeat constructor) ?_ | refine Arr.skip ?_)), ?_⟩
  first | refine cx_q rfl (pv_not_p rfl) ?_ | refine cx_q rfl (pv_not rfl) ?_
  refine cx_isF 21 rfl (decide_eq_false ((by rw [hqj]; simp))) ?_
  first | refine cx_q rfl (pv_move_bool rfl) ?_ | refine cx_q rfl (pv_move rfl) ?_
  first | refine cx_pn rfl rfl ?_ | refine cx_pu rfl rfl ?_ | refine cx_load_ally rfl rfl rfl (by repeat constructor) (by first | rfl | omega | (rw [szL]; omega) | exact Nat.le_of_ble_eq_true rfl | (simp; done) | (simp; omega)) ?_ | refine cx_load_aggy rfl rfl rfl (by repeat constructor) (by first | rfl | omega | (rw [szL]; omega) | exact Nat.le_of_ble_eq_true rfl | (simp; done) | (simp; omega)) rfl ?_
  first | refine cx_pn rfl rfl ?_ | refine cx_pu rfl rfl ?_ | refine cx_load_ally rfl rfl rfl (by repeat constructor) (by first | rfl | omega | (rw [szL]; omega) | exact Nat.le_of_ble_eq_true rfl | (simp; done) | (simp; omega)) ?_ | refine cx_load_aggy rfl rfl rfl (by repeat constructor) (by first | rfl | omega | (rw [szL]; omega) | exact Nat.le_of_ble_eq_true rfl | (simp; done) | (simp; omega)) rfl ?_
  first | refine cx_pn rfl rfl ?_ | refine cx_pu rfl rfl ?_ | refine cx_py rfl rfl (pv_move_slice rfl) ?_ | refine cx_py rfl rfl (pv_move rfl) ?_
  first | refine cx_pn rfl rfl ?_ | refine cx_pu rfl rfl ?_ | refine cx_load_ally rfl rfl rfl (by repeat constructor) (by first | rfl | omega | (rw [szL]; omega) | exact Nat.le_of_ble_eq_true rfl | (simp; done) | (simp; omega)) ?_ | refine cx_load_aggy rfl rfl rfl (by repeat constructor) (by first | rfl | omega | (rw [szL]; omega) | exact Nat.le_of_ble_eq_true rfl | (simp; done) | (simp; omega)) rfl ?_
  first | refine cx_pn rfl rfl ?_ | refine cx_pu rfl rfl ?_ | refine cx_load_ally rfl rfl rfl (by repeat constructor) (by first | rfl | omega | (rw [szL]; omega) | exact Nat.le_of_ble_eq_true rfl | (simp; done) | (simp; omega)) ?_ | refine cx_load_aggy rfl rfl rfl (by repeat constructor) (by first | rfl | omega | (rw [szL]; omega) | exact Nat.le_of_ble_eq_true rfl | (simp; done) | (simp; omega)) rfl ?_
  first | refine cx_pn rfl rfl ?_ | refine cx_pu rfl rfl ?_ | refine cx_py rfl rfl (pv_eql_ba (n := 16) (a := ot) (b := code key J) ho hcl rfl rfl) ?_
  refine cx_e rfl ?_
  first | refine x_gn rfl ?_ | refine x_gu rfl ?_ | (refine x_gy rfl ?_; (refine x_call rfl (by kernel_rfl) (check_c (L := [cl g ((gs.zipIdx).map (rowV rows)).toArray 31, star (blkA rows) gs.zipIdx]) key hk ot ho (rs_spares (by repeat constructor) (by repeat constructor) hgl hrel (by omega)) (by omega)) rfl (by repeat (first | exact Take.nil | exact Take.all | (apply Take.cons; (next => (repeat constructor); done)) | apply Take.skip)) ?_); (rintro _ _ ⟨rfl, rfl⟩); (refine xo_app (by repeat (first | exact App.nil | apply App.cons | (apply App.flip; first | exact App.nil | apply App.cons) | exact App.any)) ?_))
  refine x_nil ⟨fun _ => Imp.arr (by repeat (first | exact Arr.nil | exact Arr.stop | refine Arr.cons (by repeat constructor) ?_ | refine Arr.skip ?_)), ?_⟩
  first | refine cx_qn rfl rfl ?_ | refine cx_qu rfl rfl ?_ | refine cx_qy rfl rfl (pv_neq_bool rfl rfl) ?_
  refine cx_isF 30 rfl ((by rw [hqj]; exact neq_sym _ _)) ?_
  first | refine cx_q rfl (pv_pick_tb rfl rfl) ?_ | refine cx_q rfl (pv_pick_fb rfl rfl) ?_ | refine cx_q rfl (pv_pick_t rfl rfl) ?_ | refine cx_q rfl (pv_pick_f rfl rfl) ?_ | refine cx_q rfl (pv_pick_and rfl rfl) ?_ | refine cx_q rfl (pv_pick_or rfl rfl) ?_
  refine cx_nil ?_
  repeat (first|refine zA ?_|refine zB ?_|refine zC ?_|refine zD ?_|refine zE ?_|refine zF ?_|refine zG ?_|refine zH ?_|refine zI ?_|refine zJ ?_|refine zK ?_|refine zL ?_|refine zM rfl ?_|refine zN ?_|refine zO ?_|refine zP ?_|refine zQ ?_)
  refine x_cond_f rfl ?_
  repeat (first|refine zA ?_|refine zB ?_|refine zC ?_|refine zD ?_|refine zE ?_|refine zF ?_|refine zG ?_|refine zH ?_|refine zI ?_|refine zJ ?_|refine zK ?_|refine zL ?_|refine zM rfl ?_|refine zN ?_|refine zO ?_|refine zP ?_|refine zQ ?_)
  generalize hw : code key J = w at *
  repeat (first|refine zA ?_|refine zB ?_|refine zC ?_|refine zD ?_|refine zE ?_|refine zF ?_|refine zG ?_|refine zH ?_|refine zI ?_|refine zJ ?_|refine zK ?_|refine zL ?_|refine zM rfl ?_|refine zN ?_|refine zO ?_|refine zP ?_|refine zQ ?_)
  refine x_reg ?_
  first | refine x_pv (pv_assign_int rfl) ?_ | refine x_pv (pv_assign rfl) ?_
  refine x_nil ?_
  repeat (first|refine zA ?_|refine zB ?_|refine zC ?_|refine zD ?_|refine zE ?_|refine zF ?_|refine zG ?_|refine zH ?_|refine zI ?_|refine zJ ?_|refine zK ?_|refine zL ?_|refine zM rfl ?_|refine zN ?_|refine zO ?_|refine zP ?_|refine zQ ?_)
  refine x_loop [(6, 6), (9, 10), (32, 71)] (by kernel_rfl) (fun i : Nat => i ≤ 16) (fun i => [cl g ((gs.zipIdx).map (rowV rows)).toArray 31, star (blkA rows) gs.zipIdx, cl b8 (w.map u8b).toArray 28, cl b3 (key.map u8b).toArray 24, cl b5 (ot.map u8b).toArray 28, old W])
    (fun i => [(9, nv i)]) (fun i => 16 - i) 0 (by omega) (by exact Imp.arr (by repeat (first | exact Arr.nil | exact Arr.stop | refine Arr.cons (by repeat constructor) ?_ | refine Arr.skip ?_))) ⟨rfl, trivial⟩ ?_
  intro i u hi
  repeat (first|refine zA ?_|refine zB ?_|refine zC ?_|refine zD ?_|refine zE ?_|refine zF ?_|refine zG ?_|refine zH ?_|refine zI ?_|refine zJ ?_|refine zK ?_|refine zL ?_|refine zM rfl ?_|refine zN ?_|refine zO ?_|refine zP ?_|refine zQ ?_)
  refine x_reg ?_
  first | refine x_pv (pv_move_int rfl) ?_ | refine x_pv (pv_move rfl) ?_
  first | refine x_pv (pv_lssn (b := 16) rfl rfl) ?_ | refine x_pv (pv_lss rfl rfl) ?_
  refine x_nil ?_
  repeat (first|refine zA ?_|refine zB ?_|refine zC ?_|refine zD ?_|refine zE ?_|refine zF ?_|refine zG ?_|refine zH ?_|refine zI ?_|refine zJ ?_|refine zK ?_|refine zL ?_|refine zM rfl ?_|refine zN ?_|refine zO ?_|refine zP ?_|refine zQ ?_)
  refine x_cond_p rfl (fun hA => ?_) (fun hA => ?_)
  · have hiw : i < w.length := by omega
    have hio : i < ot.length := by omega
    have hj16 : (i + 1) % 16 < 16 := Nat.mod_lt _ (by omega)
    have hij : i ≠ (i + 1) % 16 := by omega
    repeat (first|refine zA ?_|refine zB ?_|refine zC ?_|refine zD ?_|refine zE ?_|refine zF ?_|refine zG ?_|refine zH ?_|refine zI ?_|refine zJ ?_|refine zK ?_|refine zL ?_|refine zM rfl ?_|refine zN ?_|refine zO ?_|refine zP ?_|refine zQ ?_)
    refine x_reg ?_
    first | refine x_load_all rfl (by repeat constructor) (by first | rfl | omega | (rw [szL]; omega) | exact Nat.le_of_ble_eq_true rfl | (simp; done) | (simp; omega)) ?_ | refine x_load_agg rfl (by repeat constructor) (by first | rfl | omega | (rw [szL]; omega) | exact Nat.le_of_ble_eq_true rfl | (simp; done) | (simp; omega)) rfl ?_
    refine x_alloc (cs := ((List.replicate 16 0#8).map u8b).toArray) rfl ?_; intro b10
    first | refine x_store_all rfl rfl (by repeat constructor) (by first | rfl | omega | (rw [szL]; omega) | exact Nat.le_of_ble_eq_true rfl | (simp; done) | (simp; omega)) (by first | rfl | exact oneM_u8 _ | exact oneL_u8 _ | (simp [oneC]; done)) (by first | rfl | omega | (rw [szL]; omega) | exact Nat.le_of_ble_eq_true rfl | (simp; done) | (simp; omega)) ?_ | refine x_store_agg rfl rfl (by repeat constructor) (by first | rfl | omega | (rw [szL]; omega) | exact Nat.le_of_ble_eq_true rfl | (simp; done) | (simp; omega)) (by first | rfl | exact oneM_u8 _ | exact oneL_u8 _ | (simp [oneC]; done)) (by first | rfl | omega | (rw [szL]; omega) | exact Nat.le_of_ble_eq_true rfl | (simp; done) | (simp; omega)) rfl ?_
    refine x_nil ?_
    repeat (first|refine zA ?_|refine zB ?_|refine zC ?_|refine zD ?_|refine zE ?_|refine zF ?_|refine zG ?_|refine zH ?_|refine zI ?_|refine zJ ?_|refine zK ?_|refine zL ?_|refine zM rfl ?_|refine zN ?_|refine zO ?_|refine zP ?_|refine zQ ?_)
    refine x_draw (_) [0, 1, 2, 3, 4, 5, 6, 7, 8] (.r 0 (.r 1 (.r 2 (.r 3 (.r 4 (.r 5 (.r 6 (.r 7 (.r 8 (.q 9 (.e 10 false .nil))))))))))) (by kernel_rfl) (by kernel_rfl) (Imp.refl _) ?_
    first | refine cx_p rfl (pv_move_int rfl) ?_ | refine cx_p rfl (pv_move rfl) ?_
    first | refine cx_p rfl (pv_move_int rfl) ?_ | refine cx_p rfl (pv_move rfl) ?_
    first | refine cx_p rfl (pv_ixa1z rfl rfl (by first | omega | exact Nat.le_of_ble_eq_true rfl | (simp; done) | (simp; omega))) ?_ | refine cx_p rfl (pv_ixa1 rfl rfl (by first | omega | exact Nat.le_of_ble_eq_true rfl | (simp; done) | (simp; omega))) ?_
    refine cx_load rfl rfl (by repeat constructor) (getL (f := u8b) (l := w) hiw) ?_
    first | refine cx_p rfl (pv_move_int rfl) ?_ | refine cx_p rfl (pv_move rfl) ?_
    first | refine cx_p rfl (pv_ixa1z rfl rfl (by first | omega | exact Nat.le_of_ble_eq_true rfl | (simp; done) | (simp; omega))) ?_ | refine cx_p rfl (pv_ixa1 rfl rfl (by first | omega | exact Nat.le_of_ble_eq_true rfl | (simp; done) | (simp; omega))) ?_
    refine cx_load rfl rfl (by repeat constructor) (getL (f := u8b) (l := ot) hio) ?_
    refine cx_p rfl (pv_or_u8 (y := 1#8) rfl rfl) ?_
    refine cx_p rfl (pv_xor_u8 rfl rfl) ?_
    first | refine cx_q rfl (pv_ixa1z rfl rfl (by first | omega | exact Nat.le_of_ble_eq_true rfl | (simp; done) | (simp; omega))) ?_ | refine cx_q rfl (pv_ixa1 rfl rfl (by first | omega | exact Nat.le_of_ble_eq_true rfl | (simp; done) | (simp; omega))) ?_
    refine cx_e rfl ?_
    refine x_store_i rfl rfl (by repeat constructor) (by first | rfl | omega | (rw [szL]; omega) | exact Nat.le_of_ble_eq_true rfl | (simp; done) | (simp; omega)) (setL (f := u8b) (l := w)) ?_
    refine x_nil ⟨(fun hh => Bool.noConfusion hh), ?_⟩
    refine cx_nil ?_
    repeat (first|refine zA ?_|refine zB ?_|refine zC ?_|refine zD ?_|refine zE ?_|refine zF ?_|refine zG ?_|refine zH ?_|refine zI ?_|refine zJ ?_|refine zK ?_|refine zL ?_|refine zM rfl ?_|refine zN ?_|refine zO ?_|refine zP ?_|refine zQ ?_)
    refine x_reg ?_
    first | refine x_load_all rfl (by repeat constructor) (by first | rfl | omega | (rw [szL]; omega) | exact Nat.le_of_ble_eq_true rfl | (simp; done) | (simp; omega)) ?_ | refine x_load_agg rfl (by repeat constructor) (by first | rfl | omega | (rw [szL]; omega) | exact Nat.le_of_ble_eq_true rfl | (simp; done) | (simp; omega)) rfl ?_
    first | refine x_load_all rfl (by repeat constructor) (by first | rfl | omega | (rw [szL]; omega) | exact Nat.le_of_ble_eq_true rfl | (simp; done) | (simp; omega)) ?_ | refine x_load_agg rfl (by repeat constructor) (by first | rfl | omega | (rw [szL]; omega) | exact Nat.le_of_ble_eq_true rfl | (simp; done) | (simp; omega)) rfl ?_
    first | refine x_pv (pv_move_slice rfl) ?_ | refine x_pv (pv_move rfl) ?_
    refine x_call rfl (by kernel_rfl) (check_c (L := [cl g ((gs.zipIdx).map (rowV rows)).toArray 31, star (blkA rows) gs.zipIdx]) key hk (w.set i (w[i] ^^^ (ot[i] ||| 1#8))) (by simp [hcl]) (rs_spares (by repeat constructor) (by repeat constructor) hgl hrel (by omega)) (by omega)) rfl (by repeat (first | exact Take.nil | exact Take.all | (apply Take.cons; (next => (repeat constructor); done)) | apply Take.skip)) ?_
    rintro _ _ ⟨rfl, rfl⟩
    refine xo_app (by repeat (first | exact App.nil | apply App.cons | (apply App.flip; first | exact App.nil | apply App.cons) | exact App.any)) ?_
    refine x_isF 50 rfl (decide_eq_false (by rw [hqj, hw]; exact turn_ne w i hiw _)) ?_
    refine x_nil ?_
    repeat (first|refine zA ?_|refine zB ?_|refine zC ?_|refine zD ?_|refine zE ?_|refine zF ?_|refine zG ?_|refine zH ?_|refine zI ?_|refine zJ ?_|refine zK ?_|refine zL ?_|refine zM rfl ?_|refine zN ?_|refine zO ?_|refine zP ?_|refine zQ ?_)
    refine x_cond_f rfl ?_
    repeat (first|refine zA ?_|refine zB ?_|refine zC ?_|refine zD ?_|refine zE ?_|refine zF ?_|refine zG ?_|refine zH ?_|refine zI ?_|refine zJ ?_|refine zK ?_|refine zL ?_|refine zM rfl ?_|refine zN ?_|refine zO ?_|refine zP ?_|refine zQ ?_)
    refine x_reg ?_
    first | refine x_load_all rfl (by repeat constructor) (by first | rfl | omega | (rw [szL]; omega) | exact Nat.le_of_ble_eq_true rfl | (simp; done) | (simp; omega)) ?_ | refine x_load_agg rfl (by repeat constructor) (by first | rfl | omega | (rw [szL]; omega) | exact Nat.le_of_ble_eq_true rfl | (simp; done) | (simp; omega)) rfl ?_
    first | refine x_store_all rfl rfl (by repeat constructor) (by first | rfl | omega | (rw [szL]; omega) | exact Nat.le_of_ble_eq_true rfl | (simp; done) | (simp; omega)) (by first | rfl | exact oneM_u8 _ | exact oneL_u8 _ | (simp [oneC]; done)) (by first | rfl | omega | (rw [szL]; omega) | exact Nat.le_of_ble_eq_true rfl | (simp; done) | (simp; omega)) ?_ | refine x_store_agg rfl rfl (by repeat constructor) (by first | rfl | omega | (rw [szL]; omega) | exact Nat.le_of_ble_eq_true rfl | (simp; done) | (simp; omega)) (by first | rfl | exact oneM_u8 _ | exact oneL_u8 _ | (simp [oneC]; done)) (by first | rfl | omega | (rw [szL]; omega) | exact Nat.le_of_ble_eq_true rfl | (simp; done) | (simp; omega)) rfl ?_
    refine x_nil ?_
    repeat (first|refine zA ?_|refine zB ?_|refine zC ?_|refine zD ?_|refine zE ?_|refine zF ?_|refine zG ?_|refine zH ?_|refine zI ?_|refine zJ ?_|refine zK ?_|refine zL ?_|refine zM rfl ?_|refine zN ?_|refine zO ?_|refine zP ?_|refine zQ ?_)
    refine x_reg ?_
    first | refine x_pv (pv_move_int rfl) ?_ | refine x_pv (pv_move rfl) ?_
    first | refine x_pv (pv_move_int rfl) ?_ | refine x_pv (pv_move rfl) ?_
    first | refine x_pv (pv_ixa1z rfl rfl (by first | omega | exact Nat.le_of_ble_eq_true rfl | (simp; done) | (simp; omega))) ?_ | refine x_pv (pv_ixa1 rfl rfl (by first | omega | exact Nat.le_of_ble_eq_true rfl | (simp; done) | (simp; omega))) ?_
    refine x_load rfl (by repeat constructor) (getL (f := u8b) (l := w) hiw) ?_
    refine x_pv (pv_add_u8 (y := 1#8) rfl rfl) ?_
    first | refine x_pv (pv_ixa1z rfl rfl (by first | omega | exact Nat.le_of_ble_eq_true rfl | (simp; done) | (simp; omega))) ?_ | refine x_pv (pv_ixa1 rfl rfl (by first | omega | exact Nat.le_of_ble_eq_true rfl | (simp; done) | (simp; omega))) ?_
    refine x_store_i rfl rfl (by repeat constructor) (by first | rfl | omega | (rw [szL]; omega) | exact Nat.le_of_ble_eq_true rfl | (simp; done) | (simp; omega)) (setL (f := u8b) (l := w)) ?_
    refine x_nil ?_
    repeat (first|refine zA ?_|refine zB ?_|refine zC ?_|refine zD ?_|refine zE ?_|refine zF ?_|refine zG ?_|refine zH ?_|refine zI ?_|refine zJ ?_|refine zK ?_|refine zL ?_|refine zM rfl ?_|refine zN ?_|refine zO ?_|refine zP ?_|refine zQ ?_)
    have hs1 : (w.set i (w[i] + 1#8)).length = 16 := by simp [hcl]
    have hjs : (i + 1) % 16 < (w.set i (w[i] + 1#8)).length := by omega
    repeat (first|refine zA ?_|refine zB ?_|refine zC ?_|refine zD ?_|refine zE ?_|refine zF ?_|refine zG ?_|refine zH ?_|refine zI ?_|refine zJ ?_|refine zK ?_|refine zL ?_|refine zM rfl ?_|refine zN ?_|refine zO ?_|refine zP ?_|refine zQ ?_)
    refine x_reg ?_
    first | refine x_pv (pv_move_int rfl) ?_ | refine x_pv (pv_move rfl) ?_
    first | refine x_pv (pv_addn (b := 1) rfl rfl (by first | omega | exact Nat.le_of_ble_eq_true rfl | (simp; done) | (simp; omega) | decide)) ?_ | refine x_pv (pv_add_i rfl rfl (by first | omega | exact Nat.le_of_ble_eq_true rfl | (simp; done) | (simp; omega) | decide)) ?_
    refine x_pv (pv_remn (b := 16) rfl rfl (by omega)) ?_
    first | refine x_pv (pv_move_int rfl) ?_ | refine x_pv (pv_move rfl) ?_
    first | refine x_pv (pv_addn (b := 1) rfl rfl (by first | omega | exact Nat.le_of_ble_eq_true rfl | (simp; done) | (simp; omega) | decide)) ?_ | refine x_pv (pv_add_i rfl rfl (by first | omega | exact Nat.le_of_ble_eq_true rfl | (simp; done) | (simp; omega) | decide)) ?_
    refine x_pv (pv_remn (b := 16) rfl rfl (by omega)) ?_
    first | refine x_pv (pv_ixa1z rfl rfl (by first | omega | exact Nat.le_of_ble_eq_true rfl | (simp; done) | (simp; omega))) ?_ | refine x_pv (pv_ixa1 rfl rfl (by first | omega | exact Nat.le_of_ble_eq_true rfl | (simp; done) | (simp; omega))) ?_
    refine x_load rfl (by repeat constructor) (getL (f := u8b) (l := w.set i (w[i] + 1#8)) hjs) ?_
    refine x_pv (pv_sub_u8 (y := 1#8) rfl rfl) ?_
    first | refine x_pv (pv_ixa1z rfl rfl (by first | omega | exact Nat.le_of_ble_eq_true rfl | (simp; done) | (simp; omega))) ?_ | refine x_pv (pv_ixa1 rfl rfl (by first | omega | exact Nat.le_of_ble_eq_true rfl | (simp; done) | (simp; omega))) ?_
    refine x_store_i rfl rfl (by repeat constructor) (by first | rfl | omega | (rw [szL]; omega) | exact Nat.le_of_ble_eq_true rfl | (simp; done) | (simp; omega)) (setL (f := u8b) (l := w.set i (w[i] + 1#8))) ?_
    refine x_nil ?_
    repeat (first|refine zA ?_|refine zB ?_|refine zC ?_|refine zD ?_|refine zE ?_|refine zF ?_|refine zG ?_|refine zH ?_|refine zI ?_|refine zJ ?_|refine zK ?_|refine zL ?_|refine zM rfl ?_|refine zN ?_|refine zO ?_|refine zP ?_|refine zQ ?_)
    refine x_reg ?_
    first | refine x_load_all rfl (by repeat constructor) (by first | rfl | omega | (rw [szL]; omega) | exact Nat.le_of_ble_eq_true rfl | (simp; done) | (simp; omega)) ?_ | refine x_load_agg rfl (by repeat constructor) (by first | rfl | omega | (rw [szL]; omega) | exact Nat.le_of_ble_eq_true rfl | (simp; done) | (simp; omega)) rfl ?_
    first | refine x_load_all rfl (by repeat constructor) (by first | rfl | omega | (rw [szL]; omega) | exact Nat.le_of_ble_eq_true rfl | (simp; done) | (simp; omega)) ?_ | refine x_load_agg rfl (by repeat constructor) (by first | rfl | omega | (rw [szL]; omega) | exact Nat.le_of_ble_eq_true rfl | (simp; done) | (simp; omega)) rfl ?_
    first | refine x_pv (pv_move_slice rfl) ?_ | refine x_pv (pv_move rfl) ?_
    refine x_call rfl (by kernel_rfl) (check_c (L := [cl g ((gs.zipIdx).map (rowV rows)).toArray 31, star (blkA rows) gs.zipIdx]) key hk ((w.set i (w[i] + 1#8)).set ((i + 1) % 16) ((w.set i (w[i] + 1#8))[(i + 1) % 16] - 1#8)) (by simp [hcl]) (rs_spares (by repeat constructor) (by repeat constructor) hgl hrel (by omega)) (by omega)) rfl (by repeat (first | exact Take.nil | exact Take.all | (apply Take.cons; (next => (repeat constructor); done)) | apply Take.skip)) ?_
    rintro _ _ ⟨rfl, rfl⟩
    refine xo_app (by repeat (first | exact App.nil | apply App.cons | (apply App.flip; first | exact App.nil | apply App.cons) | exact App.any)) ?_
    refine x_isF 71 rfl (decide_eq_false (by rw [hqj, hw]; exact plus_ne w i _ hiw hij _)) ?_
    refine x_nil ?_
    repeat (first|refine zA ?_|refine zB ?_|refine zC ?_|refine zD ?_|refine zE ?_|refine zF ?_|refine zG ?_|refine zH ?_|refine zI ?_|refine zJ ?_|refine zK ?_|refine zL ?_|refine zM rfl ?_|refine zN ?_|refine zO ?_|refine zP ?_|refine zQ ?_)
    refine x_cond_f rfl ?_
    repeat (first|refine zA ?_|refine zB ?_|refine zC ?_|refine zD ?_|refine zE ?_|refine zF ?_|refine zG ?_|refine zH ?_|refine zI ?_|refine zJ ?_|refine zK ?_|refine zL ?_|refine zM rfl ?_|refine zN ?_|refine zO ?_|refine zP ?_|refine zQ ?_)
    refine x_reg ?_
    first | refine x_pv (pv_move_int rfl) ?_ | refine x_pv (pv_move rfl) ?_
    first | refine x_pv (pv_addn (b := 1) rfl rfl (by first | omega | exact Nat.le_of_ble_eq_true rfl | (simp; done) | (simp; omega) | decide)) ?_ | refine x_pv (pv_add_i rfl rfl (by first | omega | exact Nat.le_of_ble_eq_true rfl | (simp; done) | (simp; omega) | decide)) ?_
    first | refine x_pv (pv_assign_int rfl) ?_ | refine x_pv (pv_assign rfl) ?_
    refine x_nil ?_
    repeat (first|refine zA ?_|refine zB ?_|refine zC ?_|refine zD ?_|refine zE ?_|refine zF ?_|refine zG ?_|refine zH ?_|refine zI ?_|refine zJ ?_|refine zK ?_|refine zL ?_|refine zM rfl ?_|refine zN ?_|refine zO ?_|refine zP ?_|refine zQ ?_)
    exact x_loop_n (i + 1) (by first | omega | (dsimp only; omega) | (simp only []; omega)) (by first | omega | (dsimp only; omega) | (simp only []; omega)) (by exact Imp.arr (by repeat (first | exact Arr.nil | exact Arr.stop | refine Arr.cons (by repeat constructor) ?_ | refine Arr.skip ?_))) ⟨rfl, trivial⟩
  · repeat (first|refine zA ?_|refine zB ?_|refine zC ?_|refine zD ?_|refine zE ?_|refine zF ?_|refine zG ?_|refine zH ?_|refine zI ?_|refine zJ ?_|refine zK ?_|refine zL ?_|refine zM rfl ?_|refine zN ?_|refine zO ?_|refine zP ?_|refine zQ ?_)
    refine x_reg ?_
    first | refine x_pv (pv_move_slice rfl) ?_ | refine x_pv (pv_move rfl) ?_
    first | refine x_pv (pv_move_slice rfl) ?_ | refine x_pv (pv_move rfl) ?_
    refine x_call rfl (by kernel_rfl) (kept_spares (L := [cl g ((gs.zipIdx).map (rowV rows)).toArray 31, star (blkA rows) gs.zipIdx, old W]) rows hrows hgl (hin.rs (by repeat constructor)) hpl1 hel2 (by repeat constructor) (by repeat constructor)) rfl (by repeat (first | exact Take.nil | exact Take.all | (apply Take.cons; (next => (repeat constructor); done)) | apply Take.skip)) ?_
    rintro _ _ ⟨rfl, rfl⟩
    refine xo_app (by repeat (first | exact App.nil | apply App.cons | (apply App.flip; first | exact App.nil | apply App.cons) | exact App.any)) ?_
    first | refine x_pv (pv_move_bool rfl) ?_ | refine x_pv (pv_move rfl) ?_
    first | refine x_gn rfl ?_ | refine x_gu rfl ?_ | (refine x_gy rfl ?_; (refine x_call rfl (by kernel_rfl) (works_x) rfl (by repeat (first | exact Take.nil | exact Take.all | (apply Take.cons; (next => (repeat constructor); done)) | apply Take.skip)) ?_); (rintro _ _ ⟨rfl, rfl⟩); (refine xo_app (by repeat (first | exact App.nil | apply App.cons | (apply App.flip; first | exact App.nil | apply App.cons) | exact App.any)) ?_))
    first | refine x_pv (pv_pick_tb rfl rfl) ?_ | refine x_pv (pv_pick_fb rfl rfl) ?_ | refine x_pv (pv_pick_t rfl rfl) ?_ | refine x_pv (pv_pick_f rfl rfl) ?_ | refine x_pv (pv_pick_and rfl rfl) ?_ | refine x_pv (pv_pick_or rfl rfl) ?_
    first | refine x_pv (pv_assign_bool rfl) ?_ | refine x_pv (pv_assign rfl) ?_
    refine x_nil ?_
    repeat (first|refine zA ?_|refine zB ?_|refine zC ?_|refine zD ?_|refine zE ?_|refine zF ?_|refine zG ?_|refine zH ?_|refine zI ?_|refine zJ ?_|refine zK ?_|refine zL ?_|refine zM rfl ?_|refine zN ?_|refine zO ?_|refine zP ?_|refine zQ ?_)
    refine rx1 (rx_bool rfl (rx_nil)) ?_
    exact ⟨_, ⟨rfl, rfl⟩, by exact Imp.arr (by repeat (first | exact Arr.nil | exact Arr.stop | refine Arr.cons (by repeat constructor) ?_ | refine Arr.skip ?_))⟩
end Go.Sl

/- trystlaw06: TagSums, walked. -/
set_option maxHeartbeats 4000000
set_option maxRecDepth 10000
set_option linter.unusedVariables false
set_option linter.unusedSimpArgs false
namespace Go.Sl
open Go Go.Proofs
attribute [local irreducible] cl pt own old pur ex all den denOps denS xOps xC cX CX xthen xblk xcut xloop retX resX Calls PV Rd Con
attribute [local irreducible] pc writeS takeW full put1 setU setH code sumS spareL spQ
abbrev blkB (x : Nat × List Byte) : Asrt := cl x.1 (x.2.map u8b).toArray 5
def bl0 (rows : List (List Byte)) (gs : List Nat) : List (Nat × List Byte) := gs.zipIdx.map fun x => (x.1, rowB rows x.2)
abbrev shp (x : Nat × List Byte) : Nat × Nat := (x.1, x.2.length)
def blQ (n : Nat) (bl : List (Nat × List Byte)) : List (Value × List Byte) := (bl.take n).map fun x => (.slice (some ⟨x.1, 0, none⟩) (x.2.length - 80) x.2.length, x.2.take (x.2.length - 80))
theorem star_bl0 {rows : List (List Byte)} {gs : List Nat} {M : List Asrt} : Imp (star (blkA rows) gs.zipIdx :: M) (star blkB (bl0 rows gs) :: M) := by
  have e : star blkB (bl0 rows gs) = star (blkA rows) gs.zipIdx := by unfold star bl0; rw [List.map_map]; rfl
  rw [e]; exact Imp.refl _
structure BlOk (rows : List (List Byte)) (gs : List Nat) (bl : List (Nat × List Byte)) : Prop where
  h : bl.map shp = (bl0 rows gs).map shp
theorem BlOk.len {rows : List (List Byte)} {gs : List Nat} {bl : List (Nat × List Byte)} (h : BlOk rows gs bl) : bl.length = gs.length := by
  have := congrArg List.length h.h; simpa [bl0] using this
theorem BlOk.at {rows : List (List Byte)} {gs : List Nat} {bl : List (Nat × List Byte)} (h : BlOk rows gs bl) (i : Nat) (hi : i < rows.length) (hg : i < gs.length) (hb : i < bl.length) : bl[i].1 = gs[i] ∧ bl[i].2.length = rows[i].length + 80 := by
  have e : (bl.map shp)[i]? = ((bl0 rows gs).map shp)[i]? := by rw [h.h]
  have hz : i < gs.zipIdx.length := by simpa using hg
  rw [List.getElem?_map, List.getElem?_eq_getElem hb, bl0, List.getElem?_map, List.getElem?_map, List.getElem?_eq_getElem hz] at e
  simp only [Option.map_some, Option.some.injEq, shp, Prod.mk.injEq, List.getElem_zipIdx, Nat.zero_add] at e
  refine ⟨e.1, ?_⟩
  rw [e.2, rowB, if_pos hi, spareL_len, List.getD_eq_getElem?_getD, List.getElem?_eq_getElem hi]; rfl
theorem BlOk.set {rows : List (List Byte)} {gs : List Nat} {bl : List (Nat × List Byte)} (h : BlOk rows gs bl) (i : Nat) (hb : i < bl.length) (y : Nat × List Byte) (hy : shp y = shp bl[i]) : BlOk rows gs (bl.set i y) := by
  refine ⟨?_⟩
  rw [List.map_set, hy, ← h.h]
  have : shp bl[i] = (bl.map shp)[i]'(by simpa using hb) := by simp
  rw [this, List.set_getElem_self]
theorem blQ_len {n : Nat} {bl : List (Nat × List Byte)} (h : n ≤ bl.length) : (blQ n bl).length = n := by simp [blQ]; omega
theorem BlOk.vals {rows : List (List Byte)} {gs : List Nat} {bl : List (Nat × List Byte)} (h : BlOk rows gs bl) (hg : gs.length = rows.length + 3) : (blQ rows.length bl).map (·.1) = ((gs.zipIdx).map (rowV rows)).take rows.length := by
  have hbl := h.len
  apply List.ext_getElem (by rw [List.length_map, blQ_len (by omega)]; simp; omega)
  intro i h1 h2
  have hi : i < rows.length := by rw [List.length_map, blQ_len (by omega)] at h1; exact h1
  have ha := h.at i hi (by omega) (by omega)
  simp only [blQ, List.getElem_map, List.getElem_take, List.getElem_zipIdx, Nat.zero_add]
  rw [ha.1, ha.2, rowV, if_pos hi, List.getD_eq_getElem?_getD, List.getElem?_eq_getElem hi]
  simp
theorem BlOk.lens {rows : List (List Byte)} {gs : List Nat} {bl : List (Nat × List Byte)} (h : BlOk rows gs bl) (hg : gs.length = rows.length + 3) : (joinB (blQ rows.length bl)).length = rows.flatten.length := by
  have hbl := h.len
  unfold joinB
  rw [List.length_flatten, List.length_flatten, List.map_map]
  congr 1
  apply List.ext_getElem (by rw [List.length_map, blQ_len (by omega)]; simp)
  intro i h1 h2
  have hi : i < rows.length := by simpa using h2
  have ha := h.at i hi (by omega) (by omega)
  simp only [blQ, List.getElem_map, List.getElem_take, Function.comp, List.length_take]
  rw [ha.2]; omega
theorem BlOk.rs {M M1 M2 : List Asrt} {g : Nat} {rows : List (List Byte)} {gs : List Nat} {bl : List (Nat × List Byte)} (h : BlOk rows gs bl) (hg : gs.length = rows.length + 3) (hm : Has M (cl g (((gs.zipIdx).map (rowV rows))).toArray 31) M1) (hs : Has M (star blkB bl) M2)
    (hel : ∀ r ∈ rows, r.length ≤ 140737488355328) (hl : rows.length ≤ 2097152) : Rs M (.slice (some ⟨g, 0, none⟩) rows.length (rows.length + 3)) (blQ rows.length bl) := by
  have hbl := h.len
  have hq : (blQ rows.length bl).length = rows.length := blQ_len (by omega)
  have hzl : (gs.zipIdx).length = rows.length + 3 := by simp [hg]
  have hh := Rs.cl (M := M) (o := 0) (c := rows.length + 3) (ps := blQ rows.length bl) hm (by simp [hq, hzl]) (by
      simp only [Array.toList_extract, List.extract_eq_take_drop, Nat.zero_add, Nat.sub_zero, List.drop_zero]
      rw [hq, h.vals hg]) (by omega) (by omega) ?_
  · rwa [hq] at hh
  · intro x hx
    obtain ⟨i, hi, rfl⟩ := List.getElem_of_mem hx
    have hi2 : i < rows.length := by rwa [hq] at hi
    have ha := h.at i hi2 (by omega) (by omega)
    have hr := hel _ (List.getElem_mem hi2)
    obtain ⟨R, hR⟩ := star_has (A := blkB) (List.getElem_mem (show i < bl.length by omega)) hs
    simp only [blQ, List.getElem_map, List.getElem_take]
    have hbs := Bs.cl (M := blkB bl[i] :: R) (o := 0) (c := bl[i].2.length) (l := bl[i].2.take (bl[i].2.length - 80)) .here (by simp) (by
      simp only [Array.toList_extract, List.extract_eq_take_drop, Nat.zero_add, Nat.sub_zero, List.drop_zero]
      rw [List.map_take]; congr 1; simp) (by simp) (by omega)
    have e : (bl[i].2.take (bl[i].2.length - 80)).length = bl[i].2.length - 80 := by simp
    rw [e] at hbs
    exact hbs.imp hR
theorem sums_x (W : World) (key : List Byte) (hk : key.length = 32) (v : Value) (ps : List (Value × List Byte)) (hin : InR W v ps) (hjb : (joinB ps).length + ps.length ≤ 2097152) :
    Con Try.prog 4 [.agg (key.map u8b).toArray, v] [old W] (fun r M => r = .bool true ∧ [old W] = M) := by
  obtain ⟨va, vc, rfl, hvl, hvc⟩ := hin.sh
  have hpl1 : ps.length ≤ 2097152 := by omega
  obtain ⟨J, hJ⟩ : ∃ J, J = joinB ps := ⟨_, rfl⟩
  have hcl := code_len key J
  have hcl0 := code_len key (joinB ps)
  have hel2 : ∀ x ∈ ps, x.2.length ≤ 140737488355328 := fun x hx => by have := (hin.el x hx).len; omega
  obtain ⟨rows, hrows⟩ : ∃ rows, ps.map (·.2) = rows := ⟨_, rfl⟩
  have hrl : rows.length = ps.length := by rw [← hrows]; simp
  have hrel : ∀ r ∈ rows, r.length ≤ 140737488355328 := fun r hr => by
    rw [← hrows] at hr; obtain ⟨x, hx, rfl⟩ := List.mem_map.1 hr; exact hel2 x hx
  have hfl : rows.flatten.length ≤ 2097152 := by rw [← hrows, ← join_rows]; omega
  refine fn_x Try.func4 rfl rfl rfl Try.mixed (by kernel_rfl) ?_
  intro w0
  repeat (first|refine zA ?_|refine zB ?_|refine zC ?_|refine zD ?_|refine zE ?_|refine zF ?_|refine zG ?_|refine zH ?_|refine zI ?_|refine zJ ?_|refine zK ?_|refine zL ?_|refine zM rfl ?_|refine zN ?_|refine zO ?_|refine zP ?_|refine zQ ?_)
  refine x_reg ?_
  refine x_box_a rfl ?_; intro b2
  first | refine x_pv (pv_assign_bool rfl) ?_ | refine x_pv (pv_assign rfl) ?_
  refine x_nil ?_
  repeat (first|refine zA ?_|refine zB ?_|refine zC ?_|refine zD ?_|refine zE ?_|refine zF ?_|refine zG ?_|refine zH ?_|refine zI ?_|refine zJ ?_|refine zK ?_|refine zL ?_|refine zM rfl ?_|refine zN ?_|refine zO ?_|refine zP ?_|refine zQ ?_)
  refine x_reg ?_
  first | refine x_pv (pv_move_slice rfl) ?_ | refine x_pv (pv_move rfl) ?_
  refine x_call rfl (by kernel_rfl) (spareRows_y (L := [old W]) rows hrows (hin.rs .here) hpl1 hel2) rfl (by repeat (first | exact Take.nil | exact Take.all | (apply Take.cons; (next => (repeat constructor); done)) | apply Take.skip)) ?_
  rintro _ _ ⟨g, gs, hgl, rfl, rfl⟩
  refine xo_app (by repeat (first | exact App.nil | apply App.cons | (apply App.flip; first | exact App.nil | apply App.cons) | exact App.any)) ?_
  first | refine x_pv (pv_assign_slice rfl) ?_ | refine x_pv (pv_assign rfl) ?_
  refine x_nil ?_
  repeat (first|refine zA ?_|refine zB ?_|refine zC ?_|refine zD ?_|refine zE ?_|refine zF ?_|refine zG ?_|refine zH ?_|refine zI ?_|refine zJ ?_|refine zK ?_|refine zL ?_|refine zM rfl ?_|refine zN ?_|refine zO ?_|refine zP ?_|refine zQ ?_)
  have hqj : joinB (spQ rows gs) = J := by rw [spQ_join hgl, hJ, join_rows, hrows]
  have hql := spQ_len hgl
  have hclq := code_len key (joinB (spQ rows gs))
  have hzl : (((gs.zipIdx).map (rowV rows))).length = rows.length + 3 := by simp [hgl]
  repeat (first|refine zA ?_|refine zB ?_|refine zC ?_|refine zD ?_|refine zE ?_|refine zF ?_|refine zG ?_|refine zH ?_|refine zI ?_|refine zJ ?_|refine zK ?_|refine zL ?_|refine zM rfl ?_|refine zN ?_|refine zO ?_|refine zP ?_|refine zQ ?_)
  refine x_reg ?_
  first | refine x_load_all rfl (by repeat constructor) (by first | rfl | omega | (rw [szL]; omega) | exact Nat.le_of_ble_eq_true rfl | (simp; done) | (simp; omega)) ?_ | refine x_load_agg rfl (by repeat constructor) (by first | rfl | omega | (rw [szL]; omega) | exact Nat.le_of_ble_eq_true rfl | (simp; done) | (simp; omega)) rfl ?_
  first | refine x_pv (pv_move_slice rfl) ?_ | refine x_pv (pv_move rfl) ?_
  refine x_call rfl (by kernel_rfl) (tsum_c (L := [cl g ((gs.zipIdx).map (rowV rows)).toArray 31, star (blkA rows) gs.zipIdx]) key hk (rs_spares (by repeat constructor) (by repeat constructor) hgl hrel (by omega)) (by omega)) rfl (by repeat (first | exact Take.nil | exact Take.all | (apply Take.cons; (next => (repeat constructor); done)) | apply Take.skip)) ?_
  rintro _ _ ⟨rfl, rfl⟩
  refine xo_app (by repeat (first | exact App.nil | apply App.cons | (apply App.flip; first | exact App.nil | apply App.cons) | exact App.any)) ?_
  refine x_alloc (cs := ((List.replicate 16 0#8).map u8b).toArray) rfl ?_; intro b6
  first | refine x_store_all rfl rfl (by repeat constructor) (by first | rfl | omega | (rw [szL]; omega) | exact Nat.le_of_ble_eq_true rfl | (simp; done) | (simp; omega)) (by first | rfl | exact oneM_u8 _ | exact oneL_u8 _ | (simp [oneC]; done)) (by first | rfl | omega | (rw [szL]; omega) | exact Nat.le_of_ble_eq_true rfl | (simp; done) | (simp; omega)) ?_ | refine x_store_agg rfl rfl (by repeat constructor) (by first | rfl | omega | (rw [szL]; omega) | exact Nat.le_of_ble_eq_true rfl | (simp; done) | (simp; omega)) (by first | rfl | exact oneM_u8 _ | exact oneL_u8 _ | (simp [oneC]; done)) (by first | rfl | omega | (rw [szL]; omega) | exact Nat.le_of_ble_eq_true rfl | (simp; done) | (simp; omega)) rfl ?_
  refine x_nil ?_
  repeat (first|refine zA ?_|refine zB ?_|refine zC ?_|refine zD ?_|refine zE ?_|refine zF ?_|refine zG ?_|refine zH ?_|refine zI ?_|refine zJ ?_|refine zK ?_|refine zL ?_|refine zM rfl ?_|refine zN ?_|refine zO ?_|refine zP ?_|refine zQ ?_)
  rw [hqj]
  repeat (first|refine zA ?_|refine zB ?_|refine zC ?_|refine zD ?_|refine zE ?_|refine zF ?_|refine zG ?_|refine zH ?_|refine zI ?_|refine zJ ?_|refine zK ?_|refine zL ?_|refine zM rfl ?_|refine zN ?_|refine zO ?_|refine zP ?_|refine zQ ?_)
  refine x_draw ([cl b6 ((code key J).map u8b).toArray 28, cl b2 (key.map u8b).toArray 24]) [0, 1, 2, 3, 4] (.r 0 (.r 1 (.r 2 (.e 3 true (.e 4 true (.q 5 (.q 6 (.q 7 (.q 8 (.e 9 false (.q 10 (.q 11 .nil)))))))))))) (by kernel_rfl) (by kernel_rfl) (Imp.arr (by repeat (first | exact Arr.nil | exact Arr.stop | refine Arr.cons (by repeat constructor) ?_ | refine Arr.skip ?_))) ?_
  first | refine cx_load_all rfl rfl (by repeat constructor) (by first | rfl | omega | (rw [szL]; omega) | exact Nat.le_of_ble_eq_true rfl | (simp; done) | (simp; omega)) ?_ | refine cx_load_agg rfl rfl (by repeat constructor) (by first | rfl | omega | (rw [szL]; omega) | exact Nat.le_of_ble_eq_true rfl | (simp; done) | (simp; omega)) rfl ?_
  first | refine cx_load_all rfl rfl (by repeat constructor) (by first | rfl | omega | (rw [szL]; omega) | exact Nat.le_of_ble_eq_true rfl | (simp; done) | (simp; omega)) ?_ | refine cx_load_agg rfl rfl (by repeat constructor) (by first | rfl | omega | (rw [szL]; omega) | exact Nat.le_of_ble_eq_true rfl | (simp; done) | (simp; omega)) rfl ?_
  first | refine cx_p rfl (pv_move_slice rfl) ?_ | refine cx_p rfl (pv_move rfl) ?_
  refine cx_e rfl ?_
  refine x_call rfl (by kernel_rfl) (join_x (L := [old W]) (hin.rs .here) (by omega)) rfl (by repeat (first | exact Take.nil | exact Take.all | (apply Take.cons; (next => (repeat constructor); done)) | apply Take.skip)) ?_
  rintro _ _ ⟨ja, jc, rfl, rfl⟩
  refine xo_app (by repeat (first | exact App.nil | apply App.cons | (apply App.flip; first | exact App.nil | apply App.cons) | exact App.any)) ?_
  refine x_nil ⟨fun _ => Imp.arr (by repeat (first | exact Arr.nil | exact Arr.stop | refine Arr.cons (by repeat constructor) ?_ | refine Arr.skip ?_)), ?_⟩
  refine cx_e rfl ?_
  refine x_call rfl (by kernel_rfl) (rsum_x (L := [own 5 1 (.slice ja (joinB ps).length jc) (joinB ps).length ((joinB ps).map u8b)]) key hk (Bs.own .here) (by omega)) rfl (by repeat (first | exact Take.nil | exact Take.all | (apply Take.cons; (next => (repeat constructor); done)) | apply Take.skip)) ?_
  rintro _ _ ⟨rfl, rfl⟩
  refine xo_app (by repeat (first | exact App.nil | apply App.cons | (apply App.flip; first | exact App.nil | apply App.cons) | exact App.any)) ?_
  refine x_nil ⟨fun _ => Imp.arr (by repeat (first | exact Arr.nil | exact Arr.stop | refine Arr.cons (by repeat constructor) ?_ | refine Arr.skip ?_)), ?_⟩
  refine cx_q rfl (pv_neq_ba (n := 16) (a := code key J) (b := code key (joinB ps)) hcl hcl0 rfl rfl) ?_
  refine cx_isF 20 rfl (decide_eq_false ((by rw [← hJ]; simp))) ?_
  first | refine cx_q rfl (pv_move_bool rfl) ?_ | refine cx_q rfl (pv_move rfl) ?_
  first | refine cx_qn rfl rfl ?_ | refine cx_qu rfl rfl ?_ | refine cx_qy rfl rfl (pv_move_slice rfl) ?_ | refine cx_qy rfl rfl (pv_move rfl) ?_
  first | refine cx_qn rfl rfl ?_ | refine cx_qu rfl rfl ?_ | refine cx_qy rfl rfl (pv_move_slice rfl) ?_ | refine cx_qy rfl rfl (pv_move rfl) ?_
  refine cx_e rfl ?_
  first | refine x_gn rfl ?_ | refine x_gu rfl ?_ | (refine x_gy rfl ?_; (refine x_call rfl (by kernel_rfl) (kept_spares (L := [cl g ((gs.zipIdx).map (rowV rows)).toArray 31, star (blkA rows) gs.zipIdx, old W]) rows hrows hgl (hin.rs (by repeat constructor)) hpl1 hel2 (by repeat constructor) (by repeat constructor)) rfl (by repeat (first | exact Take.nil | exact Take.all | (apply Take.cons; (next => (repeat constructor); done)) | apply Take.skip)) ?_); (rintro _ _ ⟨rfl, rfl⟩); (refine xo_app (by repeat (first | exact App.nil | apply App.cons | (apply App.flip; first | exact App.nil | apply App.cons) | exact App.any)) ?_))
  refine x_nil ⟨(fun hh => Bool.noConfusion hh), ?_⟩
  first | refine cx_qn rfl rfl ?_ | refine cx_qu rfl rfl ?_ | refine cx_qy rfl rfl (pv_not_p rfl) ?_ | refine cx_qy rfl rfl (pv_not rfl) ?_
  refine cx_isF 25 rfl (rfl) ?_
  first | refine cx_q rfl (pv_pick_tb rfl rfl) ?_ | refine cx_q rfl (pv_pick_fb rfl rfl) ?_ | refine cx_q rfl (pv_pick_t rfl rfl) ?_ | refine cx_q rfl (pv_pick_f rfl rfl) ?_ | refine cx_q rfl (pv_pick_and rfl rfl) ?_ | refine cx_q rfl (pv_pick_or rfl rfl) ?_
  refine cx_nil ?_
  repeat (first|refine zA ?_|refine zB ?_|refine zC ?_|refine zD ?_|refine zE ?_|refine zF ?_|refine zG ?_|refine zH ?_|refine zI ?_|refine zJ ?_|refine zK ?_|refine zL ?_|refine zM rfl ?_|refine zN ?_|refine zO ?_|refine zP ?_|refine zQ ?_)
  refine x_cond_f rfl ?_
  repeat (first|refine zA ?_|refine zB ?_|refine zC ?_|refine zD ?_|refine zE ?_|refine zF ?_|refine zG ?_|refine zH ?_|refine zI ?_|refine zJ ?_|refine zK ?_|refine zL ?_|refine zM rfl ?_|refine zN ?_|refine zO ?_|refine zP ?_|refine zQ ?_)
  refine x_reg ?_
  first | refine x_pv (pv_assign_int rfl) ?_ | refine x_pv (pv_assign rfl) ?_
  refine x_nil ?_
  repeat (first|refine zA ?_|refine zB ?_|refine zC ?_|refine zD ?_|refine zE ?_|refine zF ?_|refine zG ?_|refine zH ?_|refine zI ?_|refine zJ ?_|refine zK ?_|refine zL ?_|refine zM rfl ?_|refine zN ?_|refine zO ?_|refine zP ?_|refine zQ ?_)
  refine x_loop [(7, 8), (27, 60)] (by kernel_rfl) (fun s : Nat × List (Nat × List Byte) => s.1 ≤ rows.length ∧ BlOk rows gs s.2) (fun s => [star blkB s.2, cl g (((gs.zipIdx).map (rowV rows))).toArray 31, cl b2 (key.map u8b).toArray 24, old W])
    (fun s => [(7, nv s.1)]) (fun s => rows.length - s.1) (0, bl0 rows gs) ⟨by omega, ⟨rfl⟩⟩ ((Imp.arr (N := star (blkA rows) gs.zipIdx :: [cl g (((gs.zipIdx).map (rowV rows))).toArray 31, cl b2 (key.map u8b).toArray 24, old W]) (by repeat (first | exact Arr.nil | exact Arr.stop | refine Arr.cons (by repeat constructor) ?_ | refine Arr.skip ?_))).trans star_bl0) ⟨rfl, trivial⟩ ?_
  rintro ⟨i, bl⟩ u ⟨hi, hbl⟩
  dsimp only at hi hbl ⊢
  have hbln := hbl.len
  repeat (first|refine zA ?_|refine zB ?_|refine zC ?_|refine zD ?_|refine zE ?_|refine zF ?_|refine zG ?_|refine zH ?_|refine zI ?_|refine zJ ?_|refine zK ?_|refine zL ?_|refine zM rfl ?_|refine zN ?_|refine zO ?_|refine zP ?_|refine zQ ?_)
  refine x_reg ?_
  first | refine x_pv (pv_move_int rfl) ?_ | refine x_pv (pv_move rfl) ?_
  first | refine x_pv (pv_move_slice rfl) ?_ | refine x_pv (pv_move rfl) ?_
  first | refine x_pv (pv_len rfl) ?_ | refine x_pv (pv_len_arr) ?_ | refine x_pv (pv_len_str rfl) ?_
  first | refine x_pv (pv_lssn rfl rfl) ?_ | refine x_pv (pv_lss rfl rfl) ?_
  refine x_nil ?_
  repeat (first|refine zA ?_|refine zB ?_|refine zC ?_|refine zD ?_|refine zE ?_|refine zF ?_|refine zG ?_|refine zH ?_|refine zI ?_|refine zJ ?_|refine zK ?_|refine zL ?_|refine zM rfl ?_|refine zN ?_|refine zO ?_|refine zP ?_|refine zQ ?_)
  refine x_cond_p rfl (fun hA => ?_) (fun hA => ?_)
  · have hat := hbl.at i hA (by omega) (by omega)
    have hib : i < bl.length := by omega
    generalize hgi : gs[i] = gi at hat
    have hVi : (((gs.zipIdx).map (rowV rows))).toArray[i]? = some (.slice (some ⟨gi, 0, none⟩) rows[i].length (rows[i].length + 80)) := by
      rw [List.getElem?_toArray, List.getElem?_eq_getElem (by rw [hzl]; omega), List.getElem_map, List.getElem_zipIdx, Nat.zero_add, rowV, if_pos hA, List.getD_eq_getElem?_getD, List.getElem?_eq_getElem hA, hgi]; rfl
    have hri := hrel _ (List.getElem_mem hA)
    generalize hrow : rows[i] = row at hat hVi hri
    refine x_ent (star_at (A := blkB) hib) ?_
    rw [show blkB bl[i] = cl gi (bl[i].2.map u8b).toArray 5 by show cl bl[i].1 _ _ = _; rw [hat.1]]
    repeat (first|refine zA ?_|refine zB ?_|refine zC ?_|refine zD ?_|refine zE ?_|refine zF ?_|refine zG ?_|refine zH ?_|refine zI ?_|refine zJ ?_|refine zK ?_|refine zL ?_|refine zM rfl ?_|refine zN ?_|refine zO ?_|refine zP ?_|refine zQ ?_)
    refine x_reg ?_
    first | refine x_pv (pv_assign_int rfl) ?_ | refine x_pv (pv_assign rfl) ?_
    refine x_nil ?_
    repeat (first|refine zA ?_|refine zB ?_|refine zC ?_|refine zD ?_|refine zE ?_|refine zF ?_|refine zG ?_|refine zH ?_|refine zI ?_|refine zJ ?_|refine zK ?_|refine zL ?_|refine zM rfl ?_|refine zN ?_|refine zO ?_|refine zP ?_|refine zQ ?_)
    refine x_loop [(8, 8), (33, 60)] (by kernel_rfl) (fun t : Nat × List Byte => t.1 ≤ row.length ∧ t.2.length = row.length + 80) (fun t => [cl gi (t.2.map u8b).toArray 5, star blkB (bl.eraseIdx i), cl g (((gs.zipIdx).map (rowV rows))).toArray 31, cl b2 (key.map u8b).toArray 24, old W])
      (fun t => [(8, nv t.1)]) (fun t => row.length - t.1) (0, bl[i].2) ⟨by omega, hat.2⟩ (by exact Imp.arr (by repeat (first | exact Arr.nil | exact Arr.stop | refine Arr.cons (by repeat constructor) ?_ | refine Arr.skip ?_))) ⟨rfl, trivial⟩ ?_
    rintro ⟨k, c⟩ u2 ⟨hk2, hc⟩
    dsimp only at hk2 hc ⊢
    repeat (first|refine zA ?_|refine zB ?_|refine zC ?_|refine zD ?_|refine zE ?_|refine zF ?_|refine zG ?_|refine zH ?_|refine zI ?_|refine zJ ?_|refine zK ?_|refine zL ?_|refine zM rfl ?_|refine zN ?_|refine zO ?_|refine zP ?_|refine zQ ?_)
    refine x_reg ?_
    first | refine x_pv (pv_move_int rfl) ?_ | refine x_pv (pv_move rfl) ?_
    first | refine x_pv (pv_move_slice rfl) ?_ | refine x_pv (pv_move rfl) ?_
    first | refine x_pv (pv_move_int rfl) ?_ | refine x_pv (pv_move rfl) ?_
    first | refine x_pv (pv_ixs1z rfl rfl (by first | omega | exact Nat.le_of_ble_eq_true rfl | (simp; done) | (simp; omega))) ?_ | refine x_pv (pv_ixs1 rfl rfl (by first | omega | exact Nat.le_of_ble_eq_true rfl | (simp; done) | (simp; omega))) ?_
    refine x_load rfl (by repeat constructor) (hVi) ?_
    first | refine x_pv (pv_len rfl) ?_ | refine x_pv (pv_len_arr) ?_ | refine x_pv (pv_len_str rfl) ?_
    first | refine x_pv (pv_lssn rfl rfl) ?_ | refine x_pv (pv_lss rfl rfl) ?_
    refine x_nil ?_
    repeat (first|refine zA ?_|refine zB ?_|refine zC ?_|refine zD ?_|refine zE ?_|refine zF ?_|refine zG ?_|refine zH ?_|refine zI ?_|refine zJ ?_|refine zK ?_|refine zL ?_|refine zM rfl ?_|refine zN ?_|refine zO ?_|refine zP ?_|refine zQ ?_)
    refine x_cond_p rfl (fun hB => ?_) (fun hB => ?_)
    · have hkc : k < c.length := by omega
      repeat (first|refine zA ?_|refine zB ?_|refine zC ?_|refine zD ?_|refine zE ?_|refine zF ?_|refine zG ?_|refine zH ?_|refine zI ?_|refine zJ ?_|refine zK ?_|refine zL ?_|refine zM rfl ?_|refine zN ?_|refine zO ?_|refine zP ?_|refine zQ ?_)
      refine x_draw (_) [0, 1, 2, 3, 4, 5, 6, 7, 8, 9, 10, 11, 12, 13, 14, 15, 16, 17] (.r 0 (.r 1 (.r 2 (.r 3 (.r 4 (.r 5 (.r 6 (.r 7 (.r 8 (.r 9 (.r 10 (.r 11 (.r 12 (.r 13 (.r 14 (.r 15 (.r 16 (.r 17 (.q 18 (.e 19 false .nil)))))))))))))))))))) (by kernel_rfl) (by kernel_rfl) (Imp.refl _) ?_
      first | refine cx_p rfl (pv_move_slice rfl) ?_ | refine cx_p rfl (pv_move rfl) ?_
      first | refine cx_p rfl (pv_move_int rfl) ?_ | refine cx_p rfl (pv_move rfl) ?_
      first | refine cx_p rfl (pv_ixs1z rfl rfl (by first | omega | exact Nat.le_of_ble_eq_true rfl | (simp; done) | (simp; omega))) ?_ | refine cx_p rfl (pv_ixs1 rfl rfl (by first | omega | exact Nat.le_of_ble_eq_true rfl | (simp; done) | (simp; omega))) ?_
      refine cx_load rfl rfl (by repeat constructor) (hVi) ?_
      first | refine cx_p rfl (pv_move_int rfl) ?_ | refine cx_p rfl (pv_move rfl) ?_
      first | refine cx_p rfl (pv_move_slice rfl) ?_ | refine cx_p rfl (pv_move rfl) ?_
      first | refine cx_p rfl (pv_move_int rfl) ?_ | refine cx_p rfl (pv_move rfl) ?_
      first | refine cx_p rfl (pv_ixs1z rfl rfl (by first | omega | exact Nat.le_of_ble_eq_true rfl | (simp; done) | (simp; omega))) ?_ | refine cx_p rfl (pv_ixs1 rfl rfl (by first | omega | exact Nat.le_of_ble_eq_true rfl | (simp; done) | (simp; omega))) ?_
      refine cx_load rfl rfl (by repeat constructor) (hVi) ?_
      first | refine cx_p rfl (pv_move_int rfl) ?_ | refine cx_p rfl (pv_move rfl) ?_
      first | refine cx_p rfl (pv_ixs1z rfl rfl (by first | omega | exact Nat.le_of_ble_eq_true rfl | (simp; done) | (simp; omega))) ?_ | refine cx_p rfl (pv_ixs1 rfl rfl (by first | omega | exact Nat.le_of_ble_eq_true rfl | (simp; done) | (simp; omega))) ?_
      refine cx_load rfl rfl (by repeat constructor) (getL (f := u8b) (l := c) hkc) ?_
      first | refine cx_p rfl (pv_move_int rfl) ?_ | refine cx_p rfl (pv_move rfl) ?_
      first | refine cx_p rfl (pv_addn (a := 1) rfl rfl (by first | omega | exact Nat.le_of_ble_eq_true rfl | (simp; done) | (simp; omega) | decide)) ?_ | refine cx_p rfl (pv_add_i rfl rfl (by first | omega | exact Nat.le_of_ble_eq_true rfl | (simp; done) | (simp; omega) | decide)) ?_
      first | refine cx_p rfl (pv_move_int rfl) ?_ | refine cx_p rfl (pv_move rfl) ?_
      first | refine cx_p rfl (pv_addn rfl rfl (by first | omega | exact Nat.le_of_ble_eq_true rfl | (simp; done) | (simp; omega) | decide)) ?_ | refine cx_p rfl (pv_add_i rfl rfl (by first | omega | exact Nat.le_of_ble_eq_true rfl | (simp; done) | (simp; omega) | decide)) ?_
      refine cx_p rfl (pv_conv_i_u8 rfl) ?_
      refine cx_p rfl (pv_xor_u8 rfl rfl) ?_
      first | refine cx_q rfl (pv_ixs1z rfl rfl (by first | omega | exact Nat.le_of_ble_eq_true rfl | (simp; done) | (simp; omega))) ?_ | refine cx_q rfl (pv_ixs1 rfl rfl (by first | omega | exact Nat.le_of_ble_eq_true rfl | (simp; done) | (simp; omega))) ?_
      refine cx_e rfl ?_
      refine x_store_i rfl rfl (by repeat constructor) (by first | rfl | omega | (rw [szL]; omega) | exact Nat.le_of_ble_eq_true rfl | (simp; done) | (simp; omega)) (setL (f := u8b) (l := c)) ?_
      refine x_nil ⟨(fun hh => Bool.noConfusion hh), ?_⟩
      refine cx_nil ?_
      repeat (first|refine zA ?_|refine zB ?_|refine zC ?_|refine zD ?_|refine zE ?_|refine zF ?_|refine zG ?_|refine zH ?_|refine zI ?_|refine zJ ?_|refine zK ?_|refine zL ?_|refine zM rfl ?_|refine zN ?_|refine zO ?_|refine zP ?_|refine zQ ?_)
      refine x_reg ?_
      first | refine x_pv (pv_move_int rfl) ?_ | refine x_pv (pv_move rfl) ?_
      first | refine x_pv (pv_addn (b := 1) rfl rfl (by first | omega | exact Nat.le_of_ble_eq_true rfl | (simp; done) | (simp; omega) | decide)) ?_ | refine x_pv (pv_add_i rfl rfl (by first | omega | exact Nat.le_of_ble_eq_true rfl | (simp; done) | (simp; omega) | decide)) ?_
      first | refine x_pv (pv_assign_int rfl) ?_ | refine x_pv (pv_assign rfl) ?_
      refine x_nil ?_
      repeat (first|refine zA ?_|refine zB ?_|refine zC ?_|refine zD ?_|refine zE ?_|refine zF ?_|refine zG ?_|refine zH ?_|refine zI ?_|refine zJ ?_|refine zK ?_|refine zL ?_|refine zM rfl ?_|refine zN ?_|refine zO ?_|refine zP ?_|refine zQ ?_)
      exact x_loop_n (k + 1, c.set k (c[k] ^^^ BitVec.ofInt 8 ((1 + i + k : Nat) : Int))) (by first | omega | (dsimp only; omega) | (simp only []; omega)) ⟨by dsimp only; omega, by simp [hc]⟩ (by exact Imp.arr (by repeat (first | exact Arr.nil | exact Arr.stop | refine Arr.cons (by repeat constructor) ?_ | refine Arr.skip ?_))) ⟨rfl, trivial⟩
    · repeat (first|refine zA ?_|refine zB ?_|refine zC ?_|refine zD ?_|refine zE ?_|refine zF ?_|refine zG ?_|refine zH ?_|refine zI ?_|refine zJ ?_|refine zK ?_|refine zL ?_|refine zM rfl ?_|refine zN ?_|refine zO ?_|refine zP ?_|refine zQ ?_)
      refine x_reg ?_
      first | refine x_pv (pv_move_int rfl) ?_ | refine x_pv (pv_move rfl) ?_
      first | refine x_pv (pv_addn (b := 1) rfl rfl (by first | omega | exact Nat.le_of_ble_eq_true rfl | (simp; done) | (simp; omega) | decide)) ?_ | refine x_pv (pv_add_i rfl rfl (by first | omega | exact Nat.le_of_ble_eq_true rfl | (simp; done) | (simp; omega) | decide)) ?_
      first | refine x_pv (pv_assign_int rfl) ?_ | refine x_pv (pv_assign rfl) ?_
      refine x_nil ?_
      repeat (first|refine zA ?_|refine zB ?_|refine zC ?_|refine zD ?_|refine zE ?_|refine zF ?_|refine zG ?_|refine zH ?_|refine zI ?_|refine zJ ?_|refine zK ?_|refine zL ?_|refine zM rfl ?_|refine zN ?_|refine zO ?_|refine zP ?_|refine zQ ?_)
      refine x_loop_n (i + 1, bl.set i (gi, c)) (by first | omega | (dsimp only; omega) | (simp only []; omega)) ⟨by dsimp only; omega, hbl.set i hib (gi, c) (by show (gi, c.length) = (bl[i].1, bl[i].2.length); rw [hat.1, hat.2, hc])⟩ ?_ ⟨rfl, trivial⟩
      exact (Imp.arr (N := blkB (gi, c) :: star blkB (bl.eraseIdx i) :: [cl g (((gs.zipIdx).map (rowV rows))).toArray 31, cl b2 (key.map u8b).toArray 24, old W]) (by repeat (first | exact Arr.nil | exact Arr.stop | refine Arr.cons (by repeat constructor) ?_ | refine Arr.skip ?_))).trans (star_back hib (gi, c))
  · have hrs := hbl.rs (M := [star blkB bl, cl g (((gs.zipIdx).map (rowV rows))).toArray 31]) hgl (by repeat constructor) (by repeat constructor) hrel (by omega)
    have hrs2 := hbl.rs (M := [star blkB bl, cl g (((gs.zipIdx).map (rowV rows))).toArray 31]) hgl (by repeat constructor) (by repeat constructor) hrel (by omega)
    have hqn : (blQ rows.length bl).length = rows.length := blQ_len (by omega)
    have hlens := hbl.lens hgl
    generalize blQ rows.length bl = Q at hrs hqn hlens
    have hQl : ∀ x ∈ Q, x.2.length ≤ 140737488355328 := fun x hx => by
      obtain ⟨k, hk2, rfl⟩ := List.getElem_of_mem hx
      have h1 := joinB_succ Q k hk2
      have h2 := joinB_le Q (k + 1)
      rw [h1, List.length_append] at h2
      omega
    repeat (first|refine zA ?_|refine zB ?_|refine zC ?_|refine zD ?_|refine zE ?_|refine zF ?_|refine zG ?_|refine zH ?_|refine zI ?_|refine zJ ?_|refine zK ?_|refine zL ?_|refine zM rfl ?_|refine zN ?_|refine zO ?_|refine zP ?_|refine zQ ?_)
    refine x_reg ?_
    first | refine x_pv (pv_move_slice rfl) ?_ | refine x_pv (pv_move rfl) ?_
    refine x_call rfl (by kernel_rfl) (copyRows_x (L := [star blkB bl, cl g (((gs.zipIdx).map (rowV rows))).toArray 31]) hrs (by omega) hQl) rfl (by repeat (first | exact Take.nil | exact Take.all | (apply Take.cons; (next => (repeat constructor); done)) | apply Take.skip)) ?_
    rintro _ _ ⟨qs, ra, rc, hqs, rfl, rfl⟩
    refine xo_app (by repeat (first | exact App.nil | apply App.cons | (apply App.flip; first | exact App.nil | apply App.cons) | exact App.any)) ?_
    first | refine x_pv (pv_assign_slice rfl) ?_ | refine x_pv (pv_assign rfl) ?_
    refine x_nil ?_
    repeat (first|refine zA ?_|refine zB ?_|refine zC ?_|refine zD ?_|refine zE ?_|refine zF ?_|refine zG ?_|refine zH ?_|refine zI ?_|refine zJ ?_|refine zK ?_|refine zL ?_|refine zM rfl ?_|refine zN ?_|refine zO ?_|refine zP ?_|refine zQ ?_)
    have hqj2 : joinB qs = joinB Q := by unfold joinB; rw [hqs]
    have hqsl : qs.length = rows.length := by have := congrArg List.length hqs; simp at this; omega
    have hcl2 := code_len key (joinB qs)
    have hcl3 := code_len key (joinB Q)
    repeat (first|refine zA ?_|refine zB ?_|refine zC ?_|refine zD ?_|refine zE ?_|refine zF ?_|refine zG ?_|refine zH ?_|refine zI ?_|refine zJ ?_|refine zK ?_|refine zL ?_|refine zM rfl ?_|refine zN ?_|refine zO ?_|refine zP ?_|refine zQ ?_)
    refine x_draw ([cl b2 (key.map u8b).toArray 24]) [0, 1, 2, 3, 4, 5] (.r 0 (.r 1 (.r 3 (.r 4 (.e 2 true (.e 5 true (.e 6 false (.q 7 (.q 8 (.e 9 false (.q 10 (.q 11 .nil)))))))))))) (by kernel_rfl) (by kernel_rfl) (Imp.arr (by repeat (first | exact Arr.nil | exact Arr.stop | refine Arr.cons (by repeat constructor) ?_ | refine Arr.skip ?_))) ?_
    first | refine cx_load_all rfl rfl (by repeat constructor) (by first | rfl | omega | (rw [szL]; omega) | exact Nat.le_of_ble_eq_true rfl | (simp; done) | (simp; omega)) ?_ | refine cx_load_agg rfl rfl (by repeat constructor) (by first | rfl | omega | (rw [szL]; omega) | exact Nat.le_of_ble_eq_true rfl | (simp; done) | (simp; omega)) rfl ?_
    first | refine cx_p rfl (pv_move_slice rfl) ?_ | refine cx_p rfl (pv_move rfl) ?_
    first | refine cx_load_all rfl rfl (by repeat constructor) (by first | rfl | omega | (rw [szL]; omega) | exact Nat.le_of_ble_eq_true rfl | (simp; done) | (simp; omega)) ?_ | refine cx_load_agg rfl rfl (by repeat constructor) (by first | rfl | omega | (rw [szL]; omega) | exact Nat.le_of_ble_eq_true rfl | (simp; done) | (simp; omega)) rfl ?_
    first | refine cx_p rfl (pv_move_slice rfl) ?_ | refine cx_p rfl (pv_move rfl) ?_
    refine cx_e rfl ?_
    refine x_call rfl (by kernel_rfl) (tsum_c (L := [star blkB bl, cl g (((gs.zipIdx).map (rowV rows))).toArray 31]) key hk hrs (by omega)) rfl (by repeat (first | exact Take.nil | exact Take.all | (apply Take.cons; (next => (repeat constructor); done)) | apply Take.skip)) ?_
    rintro _ _ ⟨rfl, rfl⟩
    refine xo_app (by repeat (first | exact App.nil | apply App.cons | (apply App.flip; first | exact App.nil | apply App.cons) | exact App.any)) ?_
    refine x_nil ⟨fun _ => Imp.arr (by repeat (first | exact Arr.nil | exact Arr.stop | refine Arr.cons (by repeat constructor) ?_ | refine Arr.skip ?_)), ?_⟩
    refine cx_e rfl ?_
    refine x_call rfl (by kernel_rfl) (join_x (L := [own 31 1 (.slice ra qs.length rc) qs.length (qs.map (·.1)), star rowA qs]) (rs_rows (by repeat constructor) (by repeat constructor)) (by rw [hqj2]; omega)) rfl (by repeat (first | exact Take.nil | exact Take.all | (apply Take.cons; (next => (repeat constructor); done)) | apply Take.skip)) ?_
    rintro _ _ ⟨ja2, jc2, rfl, rfl⟩
    refine xo_app (by repeat (first | exact App.nil | apply App.cons | (apply App.flip; first | exact App.nil | apply App.cons) | exact App.any)) ?_
    refine x_nil ⟨fun _ => Imp.arr (by repeat (first | exact Arr.nil | exact Arr.stop | refine Arr.cons (by repeat constructor) ?_ | refine Arr.skip ?_)), ?_⟩
    refine cx_e rfl ?_
    refine x_call rfl (by kernel_rfl) (rsum_x (L := [own 5 1 (.slice ja2 (joinB qs).length jc2) (joinB qs).length ((joinB qs).map u8b)]) key hk (Bs.own .here) (by rw [hqj2]; omega)) rfl (by repeat (first | exact Take.nil | exact Take.all | (apply Take.cons; (next => (repeat constructor); done)) | apply Take.skip)) ?_
    rintro _ _ ⟨rfl, rfl⟩
    refine xo_app (by repeat (first | exact App.nil | apply App.cons | (apply App.flip; first | exact App.nil | apply App.cons) | exact App.any)) ?_
    refine x_nil ⟨(fun hh => Bool.noConfusion hh), ?_⟩
    refine cx_q rfl (pv_eql_ba (n := 16) (a := code key (joinB Q)) (b := code key (joinB qs)) hcl3 hcl2 rfl rfl) ?_
    refine cx_isT 70 rfl (decide_eq_true ((by rw [hqj2]))) ?_
    first | refine cx_q rfl (pv_move_bool rfl) ?_ | refine cx_q rfl (pv_move rfl) ?_
    refine cx_e rfl ?_
    first | refine x_gn rfl ?_ | refine x_gu rfl ?_ | (refine x_gy rfl ?_; (refine x_call rfl (by kernel_rfl) (works_x) rfl (by repeat (first | exact Take.nil | exact Take.all | (apply Take.cons; (next => (repeat constructor); done)) | apply Take.skip)) ?_); (rintro _ _ ⟨rfl, rfl⟩); (refine xo_app (by repeat (first | exact App.nil | apply App.cons | (apply App.flip; first | exact App.nil | apply App.cons) | exact App.any)) ?_))
    refine x_nil ⟨(fun hh => Bool.noConfusion hh), ?_⟩
    first | refine cx_q rfl (pv_pick_tb rfl rfl) ?_ | refine cx_q rfl (pv_pick_fb rfl rfl) ?_ | refine cx_q rfl (pv_pick_t rfl rfl) ?_ | refine cx_q rfl (pv_pick_f rfl rfl) ?_ | refine cx_q rfl (pv_pick_and rfl rfl) ?_ | refine cx_q rfl (pv_pick_or rfl rfl) ?_
    first | refine cx_q rfl (pv_assign_bool rfl) ?_ | refine cx_q rfl (pv_assign rfl) ?_
    refine cx_nil ?_
    repeat (first|refine zA ?_|refine zB ?_|refine zC ?_|refine zD ?_|refine zE ?_|refine zF ?_|refine zG ?_|refine zH ?_|refine zI ?_|refine zJ ?_|refine zK ?_|refine zL ?_|refine zM rfl ?_|refine zN ?_|refine zO ?_|refine zP ?_|refine zQ ?_)
    refine rx1 (rx_bool rfl (rx_nil)) ?_
    exact ⟨_, ⟨rfl, rfl⟩, by exact Imp.arr (by repeat (first | exact Arr.nil | exact Arr.stop | refine Arr.cons (by repeat constructor) ?_ | refine Arr.skip ?_))⟩
end Go.Sl

/- what comes in, opened: numbers. -/
set_option linter.unusedVariables false
namespace Go.Sl
open Go Go.ChangeShapes Go.WideShapes Go.ChangeAt Go.RowKit
theorem Imp.pur_mk {p : Prop} {M : List Asrt} (hp : p) : Imp M (pur p :: M) := fun h hs => ⟨fun _ => none, h, hp, hs, Frag.none_disj _, Frag.none_sub _, Frag.sub_refl _⟩
theorem i64_of {n : Int} (h : (Lit.int .i64 n).wf = true) : -9223372036854775808 ≤ n ∧ n ≤ 9223372036854775807 := by
  simp only [Lit.wf, Bool.and_eq_true, decide_eq_true_eq] at h
  have hlo : IntKind.i64.min = -9223372036854775808 := by decide
  have hhi : IntKind.i64.max = 9223372036854775807 := by decide
  omega
theorem u8_of {n : Int} (hw : (Lit.int .u8 n).wf = true) : ∃ b : BitVec 8, Value.int .u8 n = u8b b := byte_of hw
theorem u16_of {n : Int} (hw : (Lit.int .u16 n).wf = true) : ∃ b : BitVec 16, Value.int .u16 n = u16b b := by
  simp only [Lit.wf, Bool.and_eq_true, decide_eq_true_eq] at hw
  have hlo : IntKind.u16.min = 0 := by decide
  have hhi : IntKind.u16.max = 65535 := by decide
  refine ⟨BitVec.ofNat 16 n.toNat, ?_⟩
  show Value.int .u16 n = .int .u16 _
  rw [BitVec.toNat_ofNat]; congr 1; omega
theorem u32_of {n : Int} (hw : (Lit.int .u32 n).wf = true) : ∃ b : BitVec 32, Value.int .u32 n = u32b b := by
  simp only [Lit.wf, Bool.and_eq_true, decide_eq_true_eq] at hw
  have hlo : IntKind.u32.min = 0 := by decide
  have hhi : IntKind.u32.max = 4294967295 := by decide
  refine ⟨BitVec.ofNat 32 n.toNat, ?_⟩
  show Value.int .u32 n = .int .u32 _
  rw [BitVec.toNat_ofNat]; congr 1; omega
theorem u64_of {n : Int} (hw : (Lit.int .u64 n).wf = true) : ∃ b : BitVec 64, Value.int .u64 n = u64b b := by
  simp only [Lit.wf, Bool.and_eq_true, decide_eq_true_eq] at hw
  have hlo : IntKind.u64.min = 0 := by decide
  have hhi : IntKind.u64.max = 18446744073709551615 := by decide
  refine ⟨BitVec.ofNat 64 n.toNat, ?_⟩
  show Value.int .u64 n = .int .u64 _
  rw [BitVec.toNat_ofNat]; congr 1; omega
end Go.Sl

/- the script of TagPlays, opened. -/
set_option linter.unusedVariables false
set_option maxHeartbeats 2000000
namespace Go.Sl
open Go Go.Proofs Go.ChangeShapes Go.WideShapes Go.ChangeAt Go.RowKit
structure OpV where
  kind_ : Int
  which_ : Int
  b_V : Value
  b_ : List Byte
  key_ : List Byte
def OpV.cells (x : OpV) : List Value := [.int .i64 x.kind_] ++ ([.int .i64 x.which_] ++ ([x.b_V] ++ (x.key_.map u8b)))
structure OpVOk (w : World) (x : OpV) : Prop where
  triv : True
  kind_ : -9223372036854775808 ≤ x.kind_ ∧ x.kind_ ≤ 9223372036854775807
  which_ : -9223372036854775808 ≤ x.which_ ∧ x.which_ ≤ 9223372036854775807
  b_ : InB w x.b_V x.b_
  key_ : x.key_.length = 32
theorem OpV.len {w : World} {x : OpV} (h : OpVOk w x) : x.cells.length = 35 := by
  simp [OpV.cells, h.key_]
section
variable {H : Type} {enc : TypeId × Value → H} {w : World} {base : Nat} {spare : Nat → Bool} {held : Bool}
theorem open_OpV {n : Nat} {cs : List Value} {y : DataW H × List MemPlace} (h : DataW.trod enc Try.prog w base spare held n 45 cs = some y) (hs : Small Try.prog 45 y.1) : ∃ x : OpV, cs = x.cells ∧ OpVOk w x := by
  obtain ⟨xs, m, _, hx, hl, hn, hf⟩ := DataW.trod_struct Try.underlying45 h
  rw [show Try.prog.cellsOf 45 = 35 by kernel_rfl] at hl
  have hn : xs.length = 4 := hn
  have g : ∀ i (hi : i < xs.length), xs[i]? = some xs[i] := fun i hi => List.getElem?_eq_getElem hi
  rw [hx] at hs
  have e0 : DataW.trod enc Try.prog w base spare held m 3 ((cs.drop 0).take (Try.prog.cellsOf 3)) = some (xs[0]'(by omega)) := (hf 0 _ rfl).trans (g 0 (by omega))
  rw [show Try.prog.cellsOf 3 = 1 by kernel_rfl] at e0
  obtain ⟨n0, c0, _, wf0⟩ := DataW.trod_int Try.underlying3 e0
  have e1 : DataW.trod enc Try.prog w base spare held m 3 ((cs.drop 1).take (Try.prog.cellsOf 3)) = some (xs[1]'(by omega)) := (hf 1 _ rfl).trans (g 1 (by omega))
  rw [show Try.prog.cellsOf 3 = 1 by kernel_rfl] at e1
  obtain ⟨n1, c1, _, wf1⟩ := DataW.trod_int Try.underlying3 e1
  have e2 : DataW.trod enc Try.prog w base spare held m 31 ((cs.drop 2).take (Try.prog.cellsOf 31)) = some (xs[2]'(by omega)) := (hf 2 _ rfl).trans (g 2 (by omega))
  rw [show Try.prog.cellsOf 31 = 1 by kernel_rfl] at e2
  have hs2 := Small.part (j := 2) Try.underlying45 hs rfl (by rw [List.getElem?_map, g 2 (by omega)]; rfl)
  obtain ⟨v2, l2, c2, ok2⟩ := open_bs Try.underlying31 Try.underlying5 (by kernel_rfl) (by kernel_rfl) e2 hs2
  have e3 : DataW.trod enc Try.prog w base spare held m 24 ((cs.drop 3).take (Try.prog.cellsOf 24)) = some (xs[3]'(by omega)) := (hf 3 _ rfl).trans (g 3 (by omega))
  rw [show Try.prog.cellsOf 24 = 32 by kernel_rfl] at e3
  obtain ⟨l3, c3, ok3⟩ := open_ba e3
  refine ⟨⟨n0, n1, v2, l2, l3⟩, ?_, ⟨trivial, i64_of wf0, i64_of wf1, ok2, ok3⟩⟩
  have d0 : cs.drop 0 = (cs.drop 0).take 1 ++ cs.drop 1 := by
    have := (List.take_append_drop 1 (cs.drop 0)).symm
    rwa [List.drop_drop] at this
  have d1 : cs.drop 1 = (cs.drop 1).take 1 ++ cs.drop 2 := by
    have := (List.take_append_drop 1 (cs.drop 1)).symm
    rwa [List.drop_drop] at this
  have d2 : cs.drop 2 = (cs.drop 2).take 1 ++ cs.drop 3 := by
    have := (List.take_append_drop 1 (cs.drop 2)).symm
    rwa [List.drop_drop] at this
  have d3 : cs.drop 3 = (cs.drop 3).take 32 := by rw [List.take_of_length_le (by simp; omega)]
  show cs = _ ++ (_ ++ (_ ++ (_)))
  have dz : cs = cs.drop 0 := rfl
  rw [dz, d0, d1, d2, d3, c0, c1, c2, c3] <;> rfl
end
/-- A slice of them that comes in. -/
structure InOpV (W : World) (v : Value) (l : List OpV) : Prop where
  sl : SlW W 35 v l.length (l.flatMap OpV.cells)
  sh : ∃ a c, v = .slice a l.length c ∧ l.length ≤ c ∧ c ≤ 9223372036854775807
  el : ∀ x ∈ l, OpVOk W x
  len : l.length * 72 ≤ 140737488351232
abbrev OpVS (w : World) := {x : OpV // OpVOk w x}
theorem InOpV.sub {w : World} {v : Value} {l : List OpV} (h : InOpV w v l) : ∃ l2 : List (OpVS w), l2.map (·.1) = l ∧ SlW w 35 v l2.length (l2.flatMap fun x => x.1.cells) := by
  have e : (l.attach.map fun x => (⟨x.1, h.el x.1 x.2⟩ : OpVS w)).map (·.1) = l := by rw [List.map_map]; exact List.attach_map_subtype_val l
  refine ⟨_, e, ?_⟩
  have h2 := h.sl
  rw [← e, List.flatMap_map] at h2
  rw [List.length_map] at h2
  exact h2
section
variable {H : Type} {enc : TypeId × Value → H} {w : World} {base : Nat} {spare : Nat → Bool} {held : Bool}
theorem opens_OpV {n : Nat} {cs : List Value} {y : DataW H × List MemPlace} (h : DataW.trod enc Try.prog w base spare held n 37 cs = some y) (hs : Small Try.prog 37 y.1) : ∃ (v : Value) (l : List OpV), cs = [v] ∧ InOpV w v l := by
  obtain ⟨v, l, h1, h2, h3, h4⟩ := open_sls (encd := fun x : OpVS w => x.1.cells) (good := fun _ => True) Try.underlying37 (by kernel_rfl) (by decide) (by kernel_rfl : Try.prog.bytesOf 45 = 72) (fun x => OpV.len x.2) (fun n cs y hy hsm => by
    obtain ⟨x, hx, ok⟩ := open_OpV hy hsm
    exact ⟨⟨x, ok⟩, hx, trivial⟩) h hs
  obtain ⟨a, len, cap, h5, h6, h7⟩ := slice_shape Try.underlying37 h
  rw [h1] at h5
  simp only [List.cons.injEq, and_true] at h5
  obtain ⟨a', k', hv⟩ := h2.len
  rw [h5] at hv
  simp only [Value.slice.injEq] at hv
  obtain ⟨rfl, rfl, rfl⟩ := hv
  have e : (l.map (·.1)).flatMap OpV.cells = l.flatMap fun x => x.1.cells := by rw [List.flatMap_map]
  refine ⟨v, l.map (·.1), h1, ⟨?_, ?_, ?_, ?_⟩⟩
  · rw [e, List.length_map]; exact h2
  · rw [List.length_map]; exact ⟨_, _, h5, h6, h7⟩
  · intro x hx
    obtain ⟨z, _, rfl⟩ := List.mem_map.1 hx
    exact z.2
  · rw [List.length_map]; exact h4
end
section
variable {H : Type} {enc : TypeId × Value → H} {w : World} {base : Nat} {spare : Nat → Bool} {held : Bool}
/-- ... with its bulk. -/
theorem bulk_OpV {n : Nat} {cs : List Value} {y : DataW H × List MemPlace} (h : DataW.trod enc Try.prog w base spare held n 45 cs = some y) {x : OpV} (hc : cs = x.cells) (ok : OpVOk w x) : x.b_.length ≤ Ytiebmodokjaokab.Rows.uptoBulk y.1 := by
  obtain ⟨xs, m, _, hx, hl, hn, hf⟩ := DataW.trod_struct Try.underlying45 h
  have hn : xs.length = 4 := hn
  have e2 : DataW.trod enc Try.prog w base spare held m 31 ((cs.drop 2).take (Try.prog.cellsOf 31)) = some (xs[2]'(by omega)) := (hf 2 _ rfl).trans (List.getElem?_eq_getElem (show 2 < xs.length by omega))
  rw [show ((cs.drop 2).take (Try.prog.cellsOf 31)) = [x.b_V] by rw [show Try.prog.cellsOf 31 = 1 by kernel_rfl, hc]; rfl] at e2
  have hb := bulk_bs Try.underlying31 ok.b_ e2
  rw [hx]
  simp only [Ytiebmodokjaokab.Rows.uptoBulk]
  have : ∀ (l : List (DataW H)) (i : Nat) (hi : i < l.length), Ytiebmodokjaokab.Rows.uptoBulk l[i] ≤ Ytiebmodokjaokab.Rows.uptoBulkAll l := by
    intro l
    induction l with
    | nil => intro i hi; simp at hi
    | cons a l ih =>
      intro i hi
      simp only [Ytiebmodokjaokab.Rows.uptoBulkAll]
      cases i with
      | zero => simp only [List.getElem_cons_zero]; omega
      | succ i => have := ih i (by simpa using hi); simp only [List.getElem_cons_succ]; omega
  have h3 := this (xs.map (·.1)) 2 (by simp; omega)
  simp only [List.getElem_map] at h3
  omega
theorem opens_OpVb {n : Nat} {cs : List Value} {y : DataW H × List MemPlace} (h : DataW.trod enc Try.prog w base spare held n 37 cs = some y) (hs : Small Try.prog 37 y.1) : ∃ (v : Value) (l : List OpV), cs = [v] ∧ InOpV w v l ∧ (l.map (·.b_.length)).sum + l.length ≤ 2 * Ytiebmodokjaokab.Rows.uptoBulk y.1 := by
  obtain ⟨v, l, h1, h2, h3, h4⟩ := open_slr (encd := fun x : OpVS w => x.1.cells) (good := fun x d => x.1.b_.length ≤ Ytiebmodokjaokab.Rows.uptoBulk d) (Wt := Small Try.prog 45) Try.underlying37 (by kernel_rfl) (by decide) (fun x => OpV.len x.2) (fun n cs y hy hsm => by
    obtain ⟨x, hx, ok⟩ := open_OpV hy hsm
    exact ⟨⟨x, ok⟩, hx, bulk_OpV hy hx ok⟩) h (fun es rs hx d hd => (Small.elems Try.underlying37 (hx ▸ hs)).1 d hd)
  obtain ⟨a, len, cap, h5, h6, h7⟩ := slice_shape Try.underlying37 h
  rw [h1] at h5
  simp only [List.cons.injEq, and_true] at h5
  obtain ⟨a', k', hv⟩ := h2.len
  rw [h5] at hv
  simp only [Value.slice.injEq] at hv
  obtain ⟨rfl, rfl, rfl⟩ := hv
  have e : (l.map (·.1)).flatMap OpV.cells = l.flatMap fun x => x.1.cells := by rw [List.flatMap_map]
  refine ⟨v, l.map (·.1), h1, ⟨?_, ?_, ?_, ?_⟩, ?_⟩
  · rw [e, List.length_map]; exact h2
  · rw [List.length_map]; exact ⟨_, _, h5, h6, h7⟩
  · intro x hx
    obtain ⟨z, _, rfl⟩ := List.mem_map.1 hx
    exact z.2
  · rw [List.length_map]
    rcases h4 with rfl | ⟨es, rs, hx, hl, _⟩
    · simp
    · have := (Small.elems Try.underlying37 (hx ▸ hs)).2
      rw [show Try.prog.bytesOf 45 = 72 by kernel_rfl, hl] at this
      exact this
  · rcases h4 with rfl | ⟨es, rs, hx, hl, hg⟩
    · simp
    · rw [hx]
      have key : ∀ (l : List (OpVS w)) (es : List (DataW H)), es.length = l.length → (∀ i (h : i < l.length), ∃ d, es[i]? = some d ∧ l[i].1.b_.length ≤ Ytiebmodokjaokab.Rows.uptoBulk d) → ((l.map (·.1)).map (·.b_.length)).sum ≤ Ytiebmodokjaokab.Rows.uptoBulkAll es := by
        intro l
        induction l with
        | nil => intro es _ _; simp
        | cons a l ih =>
          intro es hl hg
          cases es with
          | nil => simp at hl
          | cons d es =>
            have h0 := hg 0 (by simp)
            obtain ⟨d', hd, hle⟩ := h0
            simp only [List.getElem?_cons_zero, Option.some.injEq] at hd
            subst hd
            have h1 := ih es (by simpa using hl) (fun i hi => by
              have := hg (i + 1) (by simpa using hi)
              simpa using this)
            simp only [List.getElem_cons_zero] at hle
            simp only [List.map_cons, List.sum_cons, Ytiebmodokjaokab.Rows.uptoBulkAll]
            omega
      have h5 := key l es hl hg
      have h6 := bulk_len es
      simp only [Ytiebmodokjaokab.Rows.uptoBulk]
      rw [List.length_map]
      omega
end
end Go.Sl
