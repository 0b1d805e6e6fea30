/- Parts of the proof, joined: RefL, RefM, RefN, RfeE, RfeF, RfeG, PgF, PgG, RpC, PgrF, RpD, PgrG, PgrH, RpE, PgrI, PgrJ, PgrK, RpF, RpG, PgrQ, RpL, EngAf, PgrL. -/
import Derived.Test.YthodgeekgpkieaaGreatLawPagerKnownM0
import Derived.Test.YthodgeekgpkieaaGreatLawPagerKnownM1
import Derived.Test.YthodgeekgpkieaaGreatLawPagerKnownM2
import Derived.Test.YthodgeekgpkieaaGreatLawPagerKnownM3
/- the document's answer for the code: chunks, digits of bytes, the halves of a key. -/
set_option maxHeartbeats 4000000
set_option maxRecDepth 10000
set_option linter.unusedVariables false
set_option linter.unusedSimpArgs false
namespace Go.Sl
open Go Go.Proofs
attribute [local irreducible] pt pur ex all den denOps denS xOps xC cX CX xthen xblk xcut xloop xng retX resX Calls PV Rd Con
abbrev P130 : Nat := 1361129467683753853853498429727072845819
def digL (l : List Byte) : List Nat := l.map BitVec.toNat
theorem digL_val (l : List Byte) : valD (digL l) = leN l := by
  induction l with
  | nil => rfl
  | cons x l ih => show x.toNat + 256 * valD (digL l) = x.toNat + 256 * leN l; rw [ih]
theorem digL_dig (l : List Byte) : Dig (digL l) := by
  intro x hx
  obtain ⟨b, _, rfl⟩ := List.mem_map.1 hx
  exact b.isLt
theorem digL_len (l : List Byte) : (digL l).length = l.length := by simp [digL]
theorem digL_app (a b : List Byte) : digL (a ++ b) = digL a ++ digL b := by simp [digL]
theorem stepN_few (R : Nat) : ∀ (c : List Byte) (v : Nat) (p : List Byte), p.length + c.length < 16 → c.foldl (stepN R) (v, p) = (v, p ++ c)
  | [], v, p, _ => by simp
  | x :: c, v, p, h => by
    simp only [List.length_cons] at h
    have e : stepN R (v, p) x = (v, p ++ [x]) := by unfold stepN; rw [if_neg (by dsimp only; omega)]
    rw [List.foldl_cons, e, stepN_few R c v (p ++ [x]) (by simp; omega)]
    simp
theorem leN_snoc1 (c : List Byte) (h : c.length = 16) : leN (c ++ [1#8]) = leN c + 340282366920938463463374607431768211456 := by
  rw [leN_append, h, show (256 : Nat) ^ 16 = 340282366920938463463374607431768211456 by decide]; simp [leN]
theorem stepN_chunk (R : Nat) (c : List Byte) (v : Nat) (h : c.length = 16) : c.foldl (stepN R) (v, []) = (((v + leN (c ++ [1#8])) * R) % P130, []) := by
  obtain ⟨a, x, rfl⟩ : ∃ a x, c = a ++ [x] := ⟨c.dropLast, c.getLast (by intro e; rw [e] at h; cases h), (List.dropLast_concat_getLast _).symm⟩
  have ha : a.length = 15 := by simpa using h
  rw [List.foldl_append, stepN_few R a v [] (by simp; omega), leN_snoc1 _ h]
  simp only [List.foldl_cons, List.foldl_nil, List.nil_append]
  unfold stepN
  rw [if_pos (by dsimp only; omega)]
  dsimp only
  rw [Nat.add_assoc]
/-- The number behind so many bytes. -/
def accN (R : Nat) (m : List Byte) (i : Nat) : Nat := finN R ((m.take i).foldl (stepN R) (0, []))
theorem accN_step (R : Nat) (m : List Byte) (i : Nat) (hi : i < m.length) (h0 : ((m.take i).foldl (stepN R) (0, [])).2 = []) :
    accN R m (i + 16) = ((accN R m i + leN ((m.drop i).take 16 ++ [1#8])) * R) % P130 ∧ (((m.take (i + 16)).foldl (stepN R) (0, [])).2 = [] ∨ m.length ≤ i + 16) := by
  have e : m.take (i + 16) = m.take i ++ (m.drop i).take 16 := List.take_add ..
  obtain ⟨v, hv⟩ : ∃ v, (m.take i).foldl (stepN R) (0, []) = (v, []) := ⟨_, Prod.ext rfl h0⟩
  have hacc : accN R m i = v := by unfold accN; rw [hv]; rfl
  unfold accN
  rw [e, List.foldl_append, hv]
  have hf : finN R (v, []) = v := rfl
  rw [hf]
  by_cases h16 : i + 16 ≤ m.length
  · have hl : ((m.drop i).take 16).length = 16 := by simp; omega
    rw [stepN_chunk R _ v hl]
    exact ⟨rfl, .inl rfl⟩
  · have hl : ((m.drop i).take 16).length = m.length - i := by simp; omega
    rw [stepN_few R _ v [] (by rw [hl]; simp; omega)]
    refine ⟨?_, .inr (by omega)⟩
    unfold finN
    rw [if_neg (by simp only [List.nil_append]; intro e; rw [e] at hl; simp at hl; omega)]
    simp
theorem accN_end (R : Nat) (m : List Byte) (i : Nat) (hi : m.length ≤ i) : accN R m i = finN R (m.foldl (stepN R) (0, [])) := by
  unfold accN; rw [List.take_of_length_le hi]
-- the halves of a key
def halfF (key : List Byte) (s : Bool) (i : Nat) : Nat :=
  if s then (key.getD (16 + i) 0#8).toNat else if i % 4 = 3 then (key.getD i 0#8).toNat % 16 else if i % 4 = 0 ∧ 0 < i then (key.getD i 0#8).toNat / 4 * 4 else (key.getD i 0#8).toNat
def halfD (key : List Byte) (s : Bool) (n : Nat) : List Nat := (List.range n).map (halfF key s)
theorem halfD_len (key : List Byte) (s : Bool) (n : Nat) : (halfD key s n).length = n := by simp [halfD]
theorem halfD_succ (key : List Byte) (s : Bool) (n : Nat) : halfD key s (n + 1) = halfD key s n ++ [halfF key s n] := by simp [halfD, List.range_succ]
theorem halfD_dig (key : List Byte) (s : Bool) (n : Nat) : Dig (halfD key s n) := by
  intro x hx
  obtain ⟨i, _, rfl⟩ := List.mem_map.1 hx
  have h1 := (key.getD (16 + i) 0#8).isLt
  have h2 := (key.getD i 0#8).isLt
  unfold halfF
  split
  · omega
  · split
    · omega
    · split <;> omega
theorem halfD_true (key : List Byte) (hk : key.length = 32) : valD (halfD key true 16) = sN key := by
  have e : halfD key true 16 = digL (key.drop 16) := by
    apply List.ext_getElem (by simp [halfD, digL, hk])
    intro j h1 h2
    simp only [halfD, List.getElem_map, List.getElem_range, halfF, if_true, digL, List.getElem_drop]
    rw [List.getD_eq_getElem?_getD, List.getElem?_eq_getElem (by simp [digL] at h2; omega)]; rfl
  rw [e, digL_val]; rfl
def maskR : List Byte := [255#8, 255#8, 255#8, 15#8, 252#8, 255#8, 255#8, 15#8]
def maskR2 : List Byte := [252#8, 255#8, 255#8, 15#8, 252#8, 255#8, 255#8, 15#8]
theorem wordB_and : ∀ (a b : List Byte), a.length = b.length → wordB a &&& wordB b = wordB (List.zipWith (· &&& ·) a b)
  | [], [], _ => by decide
  | x :: a, y :: b, h => by
    have ih := wordB_and a b (by simpa using h)
    have e : ∀ (x : Byte) (a : List Byte), wordB (x :: a) = wordB a <<< 8 ||| x.setWidth 64 := fun _ _ => rfl
    rw [List.zipWith_cons_cons, e, e, e, ← ih]
    apply BitVec.eq_of_getLsbD_eq
    intro i hi
    simp only [BitVec.getLsbD_and, BitVec.getLsbD_or, BitVec.getLsbD_shiftLeft, BitVec.getLsbD_setWidth, hi, decide_true, Bool.true_and]
    by_cases h8 : i < 8
    · simp [h8]
    · have hx : ∀ z : Byte, z.getLsbD i = false := fun z => BitVec.getLsbD_of_ge z i (by omega)
      simp [h8, hx]
  | [], _ :: _, h => by simp at h
  | _ :: _, [], h => by simp at h
theorem and255 (a : Byte) : (a &&& 255#8) = a := by
  have : (255#8 : Byte) = BitVec.allOnes 8 := by decide
  rw [this, BitVec.and_allOnes]
theorem and15 (a : Byte) : (a &&& 15#8).toNat = a.toNat % 16 := by
  rw [BitVec.toNat_and]; exact Nat.and_two_pow_sub_one_eq_mod a.toNat 4
theorem and252 (a : Byte) : (a &&& 252#8).toNat = a.toNat / 4 * 4 := by
  have h : ∀ n : Fin 256, (BitVec.ofFin n &&& 252#8).toNat = n.val / 4 * 4 := by decide +kernel
  exact h a.toFin
theorem list16 {α : Type} (l : List α) (d : α) (h : l.length = 16) : l = [l.getD 0 d, l.getD 1 d, l.getD 2 d, l.getD 3 d, l.getD 4 d, l.getD 5 d, l.getD 6 d, l.getD 7 d, l.getD 8 d, l.getD 9 d, l.getD 10 d, l.getD 11 d, l.getD 12 d, l.getD 13 d, l.getD 14 d, l.getD 15 d] := by
  match l, h with
  | [_, _, _, _, _, _, _, _, _, _, _, _, _, _, _, _], _ => rfl
theorem num16 (a0 a1 a2 a3 a4 a5 a6 a7 a8 a9 b0 b1 b2 b3 b4 b5 : Nat) : (a0 + 256 * (a1 + 256 * (a2 + 256 * (a3 + 256 * (a4 + 256 * (a5 + 256 * (a6 + 256 * (a7 + 256 * 0)))))))) + 18446744073709551616 * (a8 + 256 * (a9 + 256 * (b0 + 256 * (b1 + 256 * (b2 + 256 * (b3 + 256 * (b4 + 256 * (b5 + 256 * 0)))))))) =
    a0 + 256 * (a1 + 256 * (a2 + 256 * (a3 + 256 * (a4 + 256 * (a5 + 256 * (a6 + 256 * (a7 + 256 * (a8 + 256 * (a9 + 256 * (b0 + 256 * (b1 + 256 * (b2 + 256 * (b3 + 256 * (b4 + 256 * (b5 + 256 * 0))))))))))))))) := by omega
theorem half_num (k : Nat → Byte) : leN (List.zipWith (· &&& ·) [k 0, k 1, k 2, k 3, k 4, k 5, k 6, k 7] maskR) + 18446744073709551616 * leN (List.zipWith (· &&& ·) [k 8, k 9, k 10, k 11, k 12, k 13, k 14, k 15] maskR2) =
    valD [(k 0).toNat, (k 1).toNat, (k 2).toNat, (k 3).toNat % 16, (k 4).toNat / 4 * 4, (k 5).toNat, (k 6).toNat, (k 7).toNat % 16, (k 8).toNat / 4 * 4, (k 9).toNat, (k 10).toNat, (k 11).toNat % 16, (k 12).toNat / 4 * 4, (k 13).toNat, (k 14).toNat, (k 15).toNat % 16] := by
  simp only [maskR, maskR2, List.zipWith_cons_cons, List.zipWith_nil_left, leN, and255, and15, and252, valD]
  exact num16 ..
theorem halfD_false (key : List Byte) (hk : key.length = 32) : valD (halfD key false 16) = rN key := by
  have hw1 : wordB maskR = 1152921487695413247#64 := by decide +kernel
  have hw2 : wordB maskR2 = 1152921487695413244#64 := by decide +kernel
  show _ = (wordB (key.take 8) &&& 1152921487695413247#64).toNat + 18446744073709551616 * (wordB ((key.drop 8).take 8) &&& 1152921487695413244#64).toNat
  rw [← hw1, ← hw2, wordB_and _ _ (by simp [maskR, hk]), wordB_and _ _ (by simp [maskR2, hk]), wordB_val _ (by simp [maskR]; omega), wordB_val _ (by simp [maskR2]; omega)]
  have e := list16 (key.take 16) 0#8 (by simp [hk])
  have e0 : ∀ j, j < 16 → (key.take 16).getD j 0#8 = key.getD j 0#8 := fun j hj => by
    rw [List.getD_eq_getElem?_getD, List.getElem?_take_of_lt hj, List.getD_eq_getElem?_getD]
  rw [e0 0 (by omega), e0 1 (by omega), e0 2 (by omega), e0 3 (by omega), e0 4 (by omega), e0 5 (by omega), e0 6 (by omega), e0 7 (by omega),
    e0 8 (by omega), e0 9 (by omega), e0 10 (by omega), e0 11 (by omega), e0 12 (by omega), e0 13 (by omega), e0 14 (by omega), e0 15 (by omega)] at e
  have e1 : key.take 8 = (key.take 16).take 8 := by rw [List.take_take]; rfl
  have e2 : (key.drop 8).take 8 = (key.take 16).drop 8 := by rw [List.drop_take]
  rw [e1, e2, e]
  exact (half_num fun j => key.getD j 0#8).symm
end Go.Sl

/- the document's answer for the code: half. -/
set_option maxHeartbeats 4000000
set_option maxRecDepth 10000
set_option linter.unusedVariables false
set_option linter.unusedSimpArgs false
namespace Go.Sl
open Go Go.Proofs
attribute [local irreducible] pt pur ex all den denOps denS xOps xC cX CX xthen xblk xcut xloop xng retX resX Calls PV Rd Con
theorem half_x {L : List Asrt} (key : List Byte) (hk : key.length = 32) (s : Bool) :
    Con Tryz.prog 171 [.agg (key.map u8b).toArray, .bool s] L (fun r M => ∃ a2 c2, r = .slice a2 (halfD key s 16).length c2 ∧ M = own 3 1 r (halfD key s 16).length ((halfD key s 16).map nv) :: L) := by
  refine fn_x Tryz.func171 rfl rfl rfl Tryz.mixed (by kernel_rfl) ?_
  intro w0
  refine Y1 ?_
  refine Zh5 rfl ?_; intro b2
  refine V8 ?_
  refine Zgo [(5, 40)] (by kernel_rfl) (fun t : Nat × Option Addr × Nat => t.1 ≤ 16) (fun t => own 3 1 (.slice t.2.1 (halfD key s t.1).length t.2.2) (halfD key s t.1).length ((halfD key s t.1).map nv) :: cl b2 (key.map u8b).toArray 23 :: L)
    (fun t => [(6, nv t.1), (5, .slice t.2.1 (halfD key s t.1).length t.2.2)]) (fun t => 16 - t.1) (0, none, 0) (by omega) (Imp.own_nil) ⟨rfl, rfl, trivial⟩ ?_
  rintro ⟨i, da, dc⟩ u hi
  dsimp only at hi ⊢
  have hdl := halfD_len key s i
  have hg : i < 16 → ((key.map u8b).toArray)[i]? = some (u8b (key.getD i 0#8)) := fun h => by
    rw [getL (by omega), List.getD_eq_getElem?_getD, List.getElem?_eq_getElem (by omega)]; rfl
  have hg2 : i < 16 → ((key.map u8b).toArray)[16 + i]? = some (u8b (key.getD (16 + i) 0#8)) := fun h => by
    rw [getL (by omega), List.getD_eq_getElem?_getD, List.getElem?_eq_getElem (by omega)]; rfl
  have hb := (key.getD i 0#8).isLt
  refine V4 ?_
  refine Zgg rfl (fun hA => ?_) (fun hA => ?_)
  · refine Y3 ?_
    refine Zhp rfl qH (hg hA) ?_
    refine Zhg (Zjt rfl) ?_
    refine V5 ?_
    refine Zgn [(7, 7), (17, 36)] (by kernel_rfl) (fun _ : Unit => True) (fun _ => own 3 1 (.slice da (halfD key s i).length dc) (halfD key s i).length ((halfD key s i).map nv) :: cl b2 (key.map u8b).toArray 23 :: L) (fun _ => [(7, nv (halfF key s i))]) ?_ ?_
    · cases s with
      | true =>
        refine Y1 ?_
        have e : halfF key true i = (key.getD (16 + i) 0#8).toNat := by unfold halfF; rw [if_pos rfl]
        rw [e]
        refine Y2 ?_
        first|refine Zhg (Zma (a := 16) rfl rfl) ?_|refine Zhg (Zbg rfl rfl) ?_
        first|refine Zhg (Zl5 (n := 16 + i) rfl (int_eq (by push_cast; omega))) ?_|refine Zhg (Zl3 (n := 16 + i) rfl (int_eq (by push_cast; omega))) ?_
        refine Zhp rfl qH (hg2 hA) ?_
        refine Zhg (Zjt rfl) ?_
        refine V2 ?_
        exact Zgk () trivial qI ⟨rfl, trivial⟩
      | false =>
        refine Y1 ?_
        by_cases h3 : i % 4 = 3
        · have e : halfF key false i = (key.getD i 0#8).toNat % 16 := by unfold halfF; rw [if_neg (by decide), if_pos h3]
          rw [e]
          refine Y4 ?_
          refine Zhm 24 rfl (decide_eq_true (h3)) ?_
          refine V7 ?_
          exact Zgk () trivial qI ⟨rfl, trivial⟩
        · refine Y4 ?_
          refine Zhn 24 rfl (decide_eq_false (h3)) ?_
          refine Y2 ?_
          by_cases h0 : i % 4 = 0
          · by_cases hp : 0 < i
            · have e : halfF key false i = (key.getD i 0#8).toNat / 4 * 4 := by unfold halfF; rw [if_neg (by decide), if_neg h3, if_pos ⟨h0, hp⟩]
              rw [e]
              refine Y4 ?_
              refine Zhm 29 rfl (decide_eq_true (h0)) ?_
              refine Y3 ?_
              refine Zhm 32 rfl (decide_eq_true (hp)) ?_
              refine V9 ?_
              exact Zgk () trivial qI ⟨rfl, trivial⟩
            · have e : halfF key false i = (key.getD i 0#8).toNat := by unfold halfF; rw [if_neg (by decide), if_neg h3, if_neg (fun h => hp h.2)]
              rw [e]
              refine Y4 ?_
              refine Zhm 29 rfl (decide_eq_true (h0)) ?_
              refine Y3 ?_
              refine Zhn 32 rfl (decide_eq_false (hp)) ?_
              refine V3 ?_
              exact Zgk () trivial qI ⟨rfl, trivial⟩
          · have e : halfF key false i = (key.getD i 0#8).toNat := by unfold halfF; rw [if_neg (by decide), if_neg h3, if_neg (fun h => h0 h.1)]
            rw [e]
            refine Y4 ?_
            refine Zhn 29 rfl (decide_eq_false (h0)) ?_
            refine V6 ?_
            exact Zgk () trivial qI ⟨rfl, trivial⟩
    intro _ u2 _
    refine Y3 ?_
    refine Zh7 (cs := #[.int .i64 _]) (by omega) (by omega) rfl ?_; intro b39
    refine Zia rfl rfl qH (Rd.cl (xs := [nv (halfF key s i)]) qH rfl qZ rfl) qN (by omega) qS ?_; intro a3 c3
    refine V7 ?_
    refine Zgl (i + 1, a3, c3) qO qO ?_ ?_
    · dsimp only; rw [halfD_succ, List.length_append, List.map_append]; exact Imp.arr (by repeat (first|exact Arr.nil|exact Arr.stop|refine Arr.cons (by repeat constructor) ?_|refine Arr.skip ?_))
    · dsimp only; rw [halfD_succ, List.length_append]; exact ⟨rfl, rfl, trivial⟩
  · have hie : i = 16 := by omega
    subst hie
    refine V4 ?_
    refine rx1 (Zhc rfl (Zg7)) ?_
    exact ⟨_, ⟨da, dc, rfl, rfl⟩, by exact Imp.arr (by repeat (first|exact Arr.nil|exact Arr.stop|refine Arr.cons (by repeat constructor) ?_|refine Arr.skip ?_))⟩
end Go.Sl

/- the document's answer for the code: Sum is the code. -/
set_option maxHeartbeats 4000000
set_option maxRecDepth 10000
set_option linter.unusedVariables false
set_option linter.unusedSimpArgs false
namespace Go.Sl
open Go Go.Proofs
attribute [local irreducible] pt pur ex all den denOps denS xOps xC cX CX xthen xblk xcut xloop xng retX resX Calls PV Rd Con
theorem digB_val : ∀ (n : Nat) (d : List Nat), Dig d → leN ((List.range n).map fun j => BitVec.ofInt 8 ((d.getD j 0 : Nat) : Int)) = valD d % 256 ^ n
  | 0, d, _ => by simp [leN, Nat.mod_one]
  | n + 1, [], h => by
    have : ∀ m, leN ((List.range m).map fun j => BitVec.ofInt 8 ((([] : List Nat).getD j 0 : Nat) : Int)) = 0 := by
      intro m
      have e : ((List.range m).map fun j => BitVec.ofInt 8 ((([] : List Nat).getD j 0 : Nat) : Int)) = List.replicate m 0#8 := by
        apply List.ext_getElem (by simp)
        intro j h1 h2
        simp
      rw [e, leN_zeros]
    rw [this]; simp [valD]
  | n + 1, x :: d, h => by
    have hx := h x (by simp)
    have ih := digB_val n d (fun y hy => h y (by simp [hy]))
    rw [List.range_succ_eq_map, List.map_cons, List.map_map]
    show (BitVec.ofInt 8 ((x : Nat) : Int)).toNat + 256 * leN ((List.range n).map fun j => BitVec.ofInt 8 ((d.getD j 0 : Nat) : Int)) = _
    rw [ih, BitVec.toNat_ofInt]
    simp only [valD]
    have hp : 0 < 256 ^ n := Nat.pow_pos (by omega)
    have e1 : ((x : Nat) : Int) % ((2 ^ 8 : Nat) : Int) = x := by omega
    have e2 : (x + 256 * valD d) % 256 ^ (n + 1) = x + 256 * (valD d % 256 ^ n) := by
      rw [Nat.pow_succ, Nat.mul_comm (256 ^ n) 256, Nat.mod_mul, Nat.add_mul_mod_self_left, Nat.mod_eq_of_lt hx, Nat.add_mul_div_left _ _ (by omega), Nat.div_eq_of_lt hx, Nat.zero_add]
    rw [e1, e2]
    simp
def outD (d : List Nat) (j : Nat) : Byte := BitVec.ofInt 8 ((d.getD j 0 : Nat) : Int)
theorem outD_code (key m : List Byte) (hk : key.length = 32) (d : List Nat) (hd : Dig d) (hv : valD d = polyN key m + sN key) : (List.range 16).map (outD d) = code key m := by
  apply leN_inj (by rw [code_len]; simp)
  rw [code_val key m hk]
  have := digB_val 16 d hd
  rw [show (256 : Nat) ^ 16 = 340282366920938463463374607431768211456 by decide, hv] at this
  exact this
theorem uptoT_over (N : Nat) (d : List Nat) (i : Nat) (h : d.length ≤ i) : uptoT N (outD d) i = uptoT N (outD d) N := by
  apply List.map_congr_left
  intro j hj
  have hj : j < N := by simpa using hj
  by_cases h1 : j < i
  · rw [if_pos h1, if_pos hj]
  · rw [if_neg h1, if_pos hj]
    unfold outD
    rw [List.getD_eq_getElem?_getD, List.getElem?_eq_none (by omega)]; rfl
theorem accN_lt (R : Nat) (m : List Byte) (i : Nat) : accN R m i < 1361129467683753853853498429727072845819 := by
  unfold accN finN
  have key2 : ∀ (m : List Byte) (s : Nat × List Byte), s.1 < 1361129467683753853853498429727072845819 → (m.foldl (stepN R) s).1 < 1361129467683753853853498429727072845819 := by
    intro m
    induction m with
    | nil => exact fun _ h => h
    | cons x m ih =>
      intro s hs
      refine ih _ ?_
      unfold stepN
      split
      · exact Nat.mod_lt _ (by omega)
      · exact hs
  split
  · exact key2 _ _ (by show 0 < _; omega)
  · exact Nat.mod_lt _ (by omega)
theorem accN_zero (R : Nat) (m : List Byte) : accN R m 0 = 0 := by unfold accN; rw [List.take_zero]; rfl
attribute [local irreducible] accN polyN sN rN code halfD
theorem rsum_x {L : List Asrt} (key : List Byte) (hk : key.length = 32) {v : Value} {m : List Byte} (h : Bs L v m) (hm : m.length ≤ 140737488355328) :
    Con Tryz.prog 154 [.agg (key.map u8b).toArray, v] L (fun r M => r = .agg ((code key m).map u8b).toArray ∧ L = M) := by
  refine Con.get (fun w0 w F H => h.sh _ _ _ H) ?_
  rintro ⟨va, vc, rfl, hvc, hvcm⟩
  have hh := halfD_len key false 16
  have hh2 := halfD_len key true 16
  have hhd := halfD_dig key false 16
  have hhv := halfD_false key hk
  generalize hrd : halfD key false 16 = rd at hh hhd hhv
  have hR : valD rd < 256 ^ 16 := valD_le hhd (by omega)
  refine fn_x Tryz.func154 rfl rfl rfl Tryz.mixed (by kernel_rfl) ?_
  intro w0
  refine Y1 ?_
  refine Zh5 rfl ?_; intro b2
  refine Zhz (cs := ((List.replicate 16 0#8).map u8b).toArray) rfl ?_; intro b4
  refine Y3 ?_
  refine Zh8 rfl (by kernel_rfl) (half_x key hk false) rfl qT ?_
  rintro _ _ ⟨ra, rc, rfl, rfl⟩
  refine V3 ?_
  rw [hrd]
  refine Y1 ?_
  refine Zh7 (cs := #[.int .i64 _]) (by omega) (by omega) rfl ?_; intro b15
  refine V5 ?_
  refine Zgo [(6, 9), (16, 51)] (by kernel_rfl) (fun s : Nat × Option Addr × Nat × List Nat => Dig s.2.2.2 ∧ s.2.2.2.length ≤ 17 ∧ valD s.2.2.2 = accN (rN key) m s.1 ∧ (((m.take s.1).foldl (stepN (rN key)) (0, [])).2 = [] ∨ m.length ≤ s.1) ∧ s.1 ≤ m.length + 16)
    (fun s => own 3 1 (.slice s.2.1 s.2.2.2.length s.2.2.1) s.2.2.2.length (s.2.2.2.map nv) :: own 3 1 (.slice ra rd.length rc) rd.length (rd.map nv) :: cl b2 (key.map u8b).toArray 23 :: cl b4 ((List.replicate 16 0#8).map u8b).toArray 178 :: L) (fun s => [(7, nv s.1), (6, .slice s.2.1 s.2.2.2.length s.2.2.1)]) (fun s => m.length + 16 - s.1)
    (0, some ⟨b15, 0, none⟩, 1, [0])
    ⟨by intro x hx; simp at hx; omega, by simp, by dsimp only; rw [accN_zero]; rfl, .inl rfl, by dsimp only; omega⟩ (Imp.trans (Imp.arr (N := cl b15 #[.int .i64 0] 3 :: own 3 1 (.slice ra rd.length rc) rd.length (rd.map nv) :: cl b2 (key.map u8b).toArray 23 :: cl b4 ((List.replicate 16 0#8).map u8b).toArray 178 :: L) qV) (Imp.own_mk (by simp) (by simp) rfl rfl)) ⟨rfl, rfl, trivial⟩ ?_
  rintro ⟨i, aa, ca, ac⟩ u ⟨had, hal, hav, hst, hib⟩
  dsimp only at had hal hav hst hib ⊢
  obtain ⟨E, hEe⟩ : ∃ E, E = own 3 1 (.slice aa ac.length ca) ac.length (ac.map nv) :: own 3 1 (.slice ra rd.length rc) rd.length (rd.map nv) :: cl b2 (key.map u8b).toArray 23 :: cl b4 ((List.replicate 16 0#8).map u8b).toArray 178 :: L := ⟨_, rfl⟩
  have hE : Imp E (own 3 1 (.slice ra rd.length rc) rd.length (rd.map nv) :: cl b2 (key.map u8b).toArray 23 :: cl b4 ((List.replicate 16 0#8).map u8b).toArray 178 :: L) := by rw [hEe]; exact Imp.tail
  have hrda : Rd E 1 (.slice aa ac.length ca) ac.length (ac.map nv) := by rw [hEe]; exact rd_own .here
  have hEL : Imp E L := hE.trans (Imp.arr qV)
  rw [← hEe]
  refine V6 ?_
  refine Zgg rfl (fun hA => ?_) (fun hA => ?_)
  · have h0 : ((m.take i).foldl (stepN (rN key)) (0, [])).2 = [] := by
      rcases hst with h1|h1
      · exact h1
      · omega
    refine Y7 ?_
    repeat (first|refine zA ?_|refine zB ?_|refine zD ?_|refine zE ?_|refine zF ?_|refine zG ?_|refine zH ?_|refine zI ?_|refine zJ ?_|refine zK ?_|refine zL ?_|refine zM rfl ?_|refine zN ?_|refine zO ?_|refine zP ?_|refine zQ ?_)
    refine Zgn [(8, 9), (23, 42)] (by kernel_rfl) (fun t : Option Addr × Nat => True)
      (fun t => own 3 1 (.slice t.1 (digL ((m.drop i).take 16)).length t.2) (digL ((m.drop i).take 16)).length ((digL ((m.drop i).take 16)).map nv) :: E)
      (fun t => [(8, .slice t.1 (digL ((m.drop i).take 16)).length t.2)]) ?_ ?_
    · refine Ct.o ?_
      refine Zgo [(8, 9), (23, 42)] (by kernel_rfl) (fun t : Nat × Option Addr × Nat => t.1 ≤ 16 ∧ i + t.1 ≤ m.length)
        (fun t => own 3 1 (.slice t.2.1 (digL ((m.drop i).take t.1)).length t.2.2) (digL ((m.drop i).take t.1)).length ((digL ((m.drop i).take t.1)).map nv) :: E)
        (fun t => [(9, nv (i + t.1)), (8, .slice t.2.1 (digL ((m.drop i).take t.1)).length t.2.2)]) (fun t => 16 - t.1) (0, none, 0) ⟨by omega, by dsimp only; omega⟩ Imp.own_nil ⟨rfl, rfl, trivial⟩ ?_
      rintro ⟨j, da, dc⟩ u2 ⟨hj, hjl⟩
      dsimp only at hj hjl ⊢
      have hdl : (digL ((m.drop i).take j)).length = j := by simp [digL]; omega
      by_cases hB : i + j < m.length
      · by_cases hC : i + j < i + 16
        · refine Y5 ?_
          refine Zhm 26 rfl (decide_eq_true (hB)) ?_
          refine Y5 ?_
          refine Zhm 31 rfl (decide_eq_true (hC)) ?_
          refine V3 ?_
          refine Zgt (fun F w H => (h.imp (Imp.tail.trans hEL)).some (by omega) H) ?_
          rintro ⟨a1, a2, rfl⟩
          refine Y5 ?_
          refine Zic (j := i + j) rfl (h.rd.imp (Imp.tail.trans hEL)) hB (getM hB) ?_
          refine Zhg (Zjt rfl) ?_
          refine Zh7 (cs := #[.int .i64 _]) (by omega) (by omega) rfl ?_; intro b41
          refine Zia rfl rfl qH (Rd.cl (xs := [nv m[i + j].toNat]) qH rfl qZ rfl) qN (by omega) qS ?_; intro a3 c3
          refine V7 ?_
          have e : digL ((m.drop i).take (j + 1)) = digL ((m.drop i).take j) ++ [m[i + j].toNat] := by
            rw [List.take_succ_eq_append_getElem (by simp; omega), digL_app]; simp [digL]
          refine Zgl (j + 1, a3, c3) qO ⟨by dsimp only; omega, by dsimp only; omega⟩ ?_ ?_
          · dsimp only; rw [e, List.length_append, List.map_append]; exact Imp.arr (by repeat (first|exact Arr.nil|exact Arr.stop|refine Arr.cons (by repeat constructor) ?_|refine Arr.skip ?_))
          · dsimp only; rw [e, List.length_append]; exact ⟨rfl, rfl, trivial⟩
        · refine Y5 ?_
          refine Zhm 26 rfl (decide_eq_true (hB)) ?_
          refine Y5 ?_
          refine Zhn 31 rfl (decide_eq_false (hC)) ?_
          refine V3 ?_
          have e : j = 16 := by omega
          subst e
          exact Zgk (da, dc) trivial qI ⟨rfl, trivial⟩
      · refine Y5 ?_
        refine Zhn 26 rfl (decide_eq_false (hB)) ?_
        refine V8 ?_
        have e : (m.drop i).take j = (m.drop i).take 16 := by
          rw [List.take_of_length_le (by simp; omega), List.take_of_length_le (by simp; omega)]
        refine Zgk (da, dc) trivial ?_ ?_
        · dsimp only; rw [← e]; exact Imp.arr (by repeat (first|exact Arr.nil|exact Arr.stop|refine Arr.cons (by repeat constructor) ?_|refine Arr.skip ?_))
        · dsimp only; rw [← e]; exact ⟨rfl, trivial⟩
    rintro ⟨da, dc⟩ u2 _
    dsimp only
    have hstep := accN_step (rN key) m i hA h0
    generalize hcc : (m.drop i).take 16 = ch at hstep
    have hcl : ch.length ≤ 16 := by rw [← hcc]; simp; omega
    have hdcl := digL_len ch
    refine Y2 ?_
    refine Zh7 (cs := #[.int .i64 _]) (by omega) (by omega) rfl ?_; intro b44
    refine Zia rfl rfl qH (Rd.cl (xs := [nv 1]) qH rfl qZ rfl) qN (by omega) qS ?_; intro a3 c3
    refine V2 ?_
    have e1 : digL ch ++ [1] = digL (ch ++ [1#8]) := by rw [digL_app]; rfl
    have e2 : (digL ch).length + 1 = (digL (ch ++ [1#8])).length := by rw [← e1]; simp
    have e3 : (digL ch).map nv ++ [nv 1] = (digL (ch ++ [1#8])).map nv := by rw [← e1]; simp
    rw [e2, e3]
    have hcd := digL_dig (ch ++ [1#8])
    have hcv := digL_val (ch ++ [1#8])
    have hcl2 := digL_len (ch ++ [1#8])
    generalize digL (ch ++ [1#8]) = cd at *
    have hcl3 : cd.length ≤ 17 := by rw [hcl2]; simp; omega
    have hsum : valD ac + valD cd < 256 ^ 18 := by
      have h1 := valD_le had hal; have h2 := valD_le hcd hcl3
      rw [show (256 : Nat) ^ 18 = 256 ^ 17 * 256 from Nat.pow_succ ..]; omega
    refine Y3 ?_
    refine Zh8 rfl (by kernel_rfl) (add_x (L := own 3 1 (.slice a3 cd.length c3) cd.length (cd.map nv) :: E) (n := 18) (hrda.imp Imp.tail) (rd_own .here) had hcd (by omega) (by omega) (by omega) hsum) rfl qT ?_
    rintro _ _ ⟨a4, c4, s1, hd1, hv1, hl1, rfl, rfl⟩
    refine Y2 ?_
    refine Zh8 rfl (by kernel_rfl) (mul_x (L := own 3 1 (.slice a4 s1.length c4) s1.length (s1.map nv) :: E) (n := 34) (rd_own .here) ((rd_own .here).imp (Imp.tail.trans hE)) hd1 hhd (by omega) (by omega) (by omega) (by omega) (by
          have h1 := valD_le hd1 hl1
          rw [show (256 : Nat) ^ 34 = 256 ^ 18 * 256 ^ 16 from Nat.pow_add 256 18 16]; exact Nat.mul_lt_mul'' h1 hR)) rfl qT ?_
    rintro _ _ ⟨a5, c5, m1, hd2, hv2, hl2, rfl, rfl⟩
    refine Y1 ?_
    refine Zh8 rfl (by kernel_rfl) (fold_x (L := own 3 1 (.slice a5 m1.length c5) m1.length (m1.map nv) :: E) (rd_own .here) (by omega) hd2) rfl qT ?_
    rintro _ _ ⟨a6, c6, f1, hd3, hv3, hl3, rfl, rfl⟩
    refine V8 ?_
    refine Zgl (i + 16, a6, c6, f1) qO ⟨hd3, hl3, ?_, hstep.2, by dsimp only; omega⟩ ((Imp.arr (N := own 3 1 (.slice a6 f1.length c6) f1.length (f1.map nv) :: E) qV).trans hE.cons) ⟨rfl, rfl, trivial⟩
    dsimp only
    rw [hstep.1, hv3, hv2, hv1, hcv, hav, hhv]
  · have hpoly : valD ac = polyN key m := by rw [hav, accN_end _ _ _ (by omega)]; unfold polyN; rfl
    have hlt := accN_lt (rN key) m i
    have h2d := halfD_dig key true 16
    have h2v := halfD_true key hk
    have hal2 := halfD_len key true 16
    rw [hEe]
    refine Y3 ?_
    refine Zh8 rfl (by kernel_rfl) (half_x key hk true) rfl qT ?_
    rintro _ _ ⟨ha, hc, rfl, rfl⟩
    refine Y1 ?_
    refine Zh8 rfl (by kernel_rfl) (add_x (L := own 3 1 (.slice aa ac.length ca) ac.length (ac.map nv) :: own 3 1 (.slice ha (halfD key true 16).length hc) (halfD key true 16).length ((halfD key true 16).map nv) :: own 3 1 (.slice ra rd.length rc) rd.length (rd.map nv) :: cl b2 (key.map u8b).toArray 23 :: cl b4 ((List.replicate 16 0#8).map u8b).toArray 178 :: L) (n := 18) (rd_own .here) (rd_own (.there .here)) had h2d (by omega) (by omega) (by omega) (by
          have h1 := valD_le had hal; have h2 := valD_le (n := 17) h2d (by omega)
          rw [show (256 : Nat) ^ 18 = 256 ^ 17 * 256 from Nat.pow_succ ..]; omega)) rfl qT ?_
    rintro _ _ ⟨a7, c7, sm, hsd, hsv, hsl, rfl, rfl⟩
    refine Y4 ?_
    refine Zhz (cs := ((List.replicate 16 0#8).map u8b).toArray) rfl ?_; intro b11
    refine V4 ?_
    have hcl16 := code_len key m
    have hcode := outD_code key m hk sm hsd (by rw [hsv, hpoly, h2v])
    refine Zgo [(12, 12), (56, 72)] (by kernel_rfl) (fun k : Nat => k ≤ 16) (fun k => cl b11 ((uptoT 16 (outD sm) k).map u8b).toArray 178 :: own 3 1 (.slice a7 sm.length c7) sm.length (sm.map nv) :: cl b4 ((List.replicate 16 0#8).map u8b).toArray 178 :: L)
      (fun k => [(12, nv k)]) (fun k => 16 - k) 0 (by omega) (by rw [uptoT_zero]; exact Imp.arr (by repeat (first|exact Arr.nil|exact Arr.stop|refine Arr.cons (by repeat constructor) ?_|refine Arr.skip ?_))) ⟨rfl, trivial⟩ ?_
    intro k u3 hk16
    have hul := uptoT_len 16 (outD sm) k
    by_cases hB : k < 16
    · by_cases hC : k < sm.length
      · refine Y3 ?_
        refine Zhm 57 rfl (decide_eq_true (hB)) ?_
        refine Y5 ?_
        refine Zhm 62 rfl (decide_eq_true (hC)) ?_
        refine V3 ?_
        refine Zgt (fun F w H => own_some (a := a7) qH (by omega) H) ?_
        rintro ⟨g7, rfl⟩
        have e : outD sm k = BitVec.ofInt 8 ((sm[k] : Nat) : Int) := by unfold outD; rw [List.getD_eq_getElem?_getD, List.getElem?_eq_getElem hC]; rfl
        refine Y5 ?_
        refine Zm6 (j := k) rfl (Rd.own qH) hC (getM hC) ?_
        refine Zhg (Zjs rfl) ?_
        refine Y1 ?_
        refine Zht rfl rfl qR qZ (setL (f := u8b) (l := uptoT 16 (outD sm) k)) ?_
        refine V1 ?_
        rw [← e, uptoT_set]
        refine V5 ?_
        exact Zgl (k + 1) qO qO qI ⟨rfl, trivial⟩
      · refine Y3 ?_
        refine Zhm 57 rfl (decide_eq_true (hB)) ?_
        refine Y5 ?_
        refine Zhn 62 rfl (decide_eq_false (hC)) ?_
        refine V3 ?_
        rw [uptoT_over 16 sm k (by omega), uptoT_end, hcode]
        refine Y2 ?_
        first|refine Zhy rfl rfl qR qZ qN qZ ?_|refine Zhx rfl rfl qR qZ qN qZ rfl ?_
        refine V1 ?_
        refine rx1 (Zhe rfl qH qZ (Zg7)) ?_
        exact ⟨_, ⟨rfl, rfl⟩, by exact Imp.arr (by repeat (first|exact Arr.nil|exact Arr.stop|refine Arr.cons (by repeat constructor) ?_|refine Arr.skip ?_))⟩
    · refine Y3 ?_
      refine Zhn 57 rfl (decide_eq_false (hB)) ?_
      refine V8 ?_
      have e : k = 16 := by omega
      subst e
      rw [uptoT_end, hcode]
      refine Y2 ?_
      first|refine Zhy rfl rfl qR qZ qN qZ ?_|refine Zhx rfl rfl qR qZ qN qZ rfl ?_
      refine V1 ?_
      refine rx1 (Zhe rfl qH qZ (Zg7)) ?_
      exact ⟨_, ⟨rfl, rfl⟩, by exact Imp.arr (by repeat (first|exact Arr.nil|exact Arr.stop|refine Arr.cons (by repeat constructor) ?_|refine Arr.skip ?_))⟩
end Go.Sl

/- the document's seal (trystref07): filled, tag, Box, TooLong, Seal, Text, Wrong, walked. -/
set_option maxHeartbeats 4000000
set_option maxRecDepth 10000
set_option linter.unusedVariables false
set_option linter.unusedSimpArgs false
namespace Go.Sl
open Go Go.Proofs
attribute [local irreducible] pt pur ex all den denOps denS xOps xC cX CX xthen xblk xcut xloop xng retX resX Calls PV Rd Con
attribute [local irreducible] code blockB ksB xorB vouchB leB
theorem join_is {L : List Asrt} {v : Value} {ps : List (Value × List Byte)} {m : List Byte} (h : Rs L v ps) (e : joinB ps = m) (hl : m.length ≤ 140737488355328) : Con Tryz.prog 60 [v] L (fun r M => ∃ a c, r = .slice a m.length c ∧ M = own 5 1 r m.length (m.map u8b) :: L) := by subst e; exact join_x h hl
def padN (b : List Byte) (k : Nat) : List Byte := b ++ List.replicate k 0#8
theorem padN_len (b : List Byte) (k : Nat) : (padN b k).length = b.length + k := by simp [padN]
theorem padN_succ (b : List Byte) (k : Nat) : padN b (k + 1) = padN b k ++ [0#8] := by unfold padN; rw [List.replicate_succ', List.append_assoc]
theorem padN_end (b : List Byte) : padN b ((16 - b.length % 16) % 16) = b ++ padB b := rfl
theorem pad_len (b : List Byte) : (b ++ padB b).length ≤ b.length + 15 := by simp [padB]; omega
theorem filled_x {L : List Asrt} {v : Value} {b : List Byte} (h : Bs L v b) (hb : b.length ≤ 140737488351232) : Con Tryz.prog 155 [v] L (fun r M => ∃ a c, r = .slice a (b ++ padB b).length c ∧ M = own 5 1 r (b ++ padB b).length ((b ++ padB b).map u8b) :: L) := by
  refine Con.get (fun w0 w F H => h.sh _ _ _ H) ?_
  rintro ⟨va, vc, rfl, hvc, hvcm⟩
  rw [← padN_end]
  have hp0 : padN b 0 = b := by simp [padN]
  refine fn_x Tryz.func155 rfl rfl rfl Tryz.mixed (by kernel_rfl) ?_
  intro w0
  refine Y5 ?_
  refine Zh8 rfl (by kernel_rfl) (copyBytes_x (L := L) h (by omega)) rfl qT ?_
  rintro _ _ ⟨xa, xc, rfl, rfl⟩
  refine V3 ?_
  refine Zgo [(3, 3), (6, 12)] (by kernel_rfl) (fun s : Nat × Option Addr × Nat => s.1 ≤ (16 - b.length % 16) % 16) (fun s => own 5 1 (.slice s.2.1 (padN b s.1).length s.2.2) (padN b s.1).length ((padN b s.1).map u8b) :: L)
    (fun s => [(3, .slice s.2.1 (padN b s.1).length s.2.2)]) (fun s => (16 - b.length % 16) % 16 - s.1) (0, xa, xc) (Nat.zero_le _) (by show Imp _ (own _ 1 (.slice xa (padN b 0).length xc) (padN b 0).length ((padN b 0).map u8b) :: L); rw [hp0]; exact qI) ⟨by show Value.slice xa b.length xc = .slice xa (padN b 0).length xc; rw [hp0], trivial⟩ ?_
  rintro ⟨k, a, c⟩ u hk
  dsimp only at hk ⊢
  have hpl := padN_len b k
  refine Y3 ?_
  refine Zhg (Zme (b := 16) rfl rfl (by omega)) ?_
  refine V2 ?_
  refine Zgg rfl (fun hB => ?_) (fun hB => ?_)
  · refine Y2 ?_
    refine Zh7 (cs := #[u8b 0#8]) (by omega) (by omega) (by kernel_rfl) ?_; intro b11
    refine Zia rfl rfl qH (Rd.cl (xs := [u8b 0#8]) qH rfl qZ rfl) qN (by omega) qS ?_; intro a3 c3
    refine V2 ?_
    have e2 : (padN b k).map u8b ++ [u8b 0#8] = (padN b (k + 1)).map u8b := by rw [padN_succ]; simp only [List.map_append, List.map_cons, List.map_nil]
    have e3 : (padN b k).length + 1 = (padN b (k + 1)).length := by rw [padN_len, padN_len]; rfl
    rw [e2, e3]
    exact Zgl (k + 1, a3, c3) qO qO qI ⟨rfl, trivial⟩
  · have hie : k = (16 - b.length % 16) % 16 := by omega
    rw [hie]
    refine V4 ?_
    refine rx1 (Zhc rfl (Zg7)) ?_
    exact ⟨_, ⟨a, c, rfl, rfl⟩, qI⟩
theorem tagR_x {L : List Asrt} (key nonce : List Byte) (hk : key.length = 32) (hn : nonce.length = 12) {vm vc : Value} {more cover : List Byte} (hm : Bs L vm more) (hc : Bs L vc cover) (hml : more.length ≤ 17592186044416) (hcl : cover.length ≤ 17592186044416) :
    Con Tryz.prog 136 [.agg (key.map u8b).toArray, .agg (nonce.map u8b).toArray, vm, vc] L (fun r M => ∃ a c, r = .slice a 16 c ∧ M = own 5 1 r 16 ((vouchB key nonce more cover).map u8b) :: L) := by
  refine Con.get (fun w0 w F H => hm.sh _ _ _ H) ?_
  rintro ⟨ma, mc, rfl, hmc, hmcm⟩
  refine Con.get (fun w0 w F H => hc.sh _ _ _ H) ?_
  rintro ⟨ca, cc, rfl, hcc, hccm⟩
  have hbl := blockB_len key 0#32 nonce
  have hvl := vouchB_len key nonce more cover
  have hV : vouchB key nonce more cover = code ((blockB key 0#32 nonce).take 32) (macB more cover) := by unfold vouchB oneKey; rfl
  refine fn_x Tryz.func136 rfl rfl rfl Tryz.mixed (by kernel_rfl) ?_
  intro w0
  refine Y1 ?_
  refine Zh5 rfl ?_; intro b4
  refine Zh5 rfl ?_; intro b5
  refine Y5 ?_
  refine Zh8 rfl (by kernel_rfl) (blockR_x key 0#32 nonce hk hn) rfl qT ?_
  rintro _ _ ⟨rfl, rfl⟩
  refine Y1 ?_
  refine Zhz (cs := ((List.replicate 64 0#8).map u8b).toArray) rfl ?_; intro b9
  first|refine Zhy rfl rfl qR qZ qN qZ ?_|refine Zhx rfl rfl qR qZ qN qZ rfl ?_
  refine V1 ?_
  generalize blockB key 0#32 nonce = B at hbl hV
  refine Y1 ?_
  refine Zhz (cs := ((List.replicate 32 0#8).map u8b).toArray) rfl ?_; intro b10
  refine V4 ?_
  refine Zgo [(11, 11), (19, 27)] (by kernel_rfl) (fun i : Nat => i ≤ 32) (fun i => cl b10 ((cpK B 32 i).map u8b).toArray 23 :: cl b9 (B.map u8b).toArray 199 :: L)
    (fun i => [(11, nvv i)]) (fun i => 32 - i) 0 (by omega) (by show Imp _ (cl b10 ((List.replicate 32 0#8).map u8b).toArray _ :: _); exact qI) ⟨rfl, trivial⟩ ?_
  intro i u hi
  have hkl := cpK_len B 32 i hi (by omega)
  refine V4 ?_
  refine Zgg rfl (fun hB => ?_) (fun hB => ?_)
  · have hiN : i < B.length := by omega
    refine Y4 ?_
    refine Zhp rfl qH (getL hiN) ?_
    refine Y1 ?_
    refine Zht rfl rfl qR qZ (setL (f := u8b)) ?_
    refine V1 ?_
    rw [cpK_set B 32 i hB hiN]
    refine V5 ?_
    exact Zgl (i + 1) qO (by omega) qI ⟨rfl, trivial⟩
  · have hie : i = 32 := by omega
    subst hie
    rw [cpK_end B 32 (by omega)]
    have hKl : (B.take 32).length = 32 := by rw [List.length_take]; omega
    generalize B.take 32 = K at hKl hV
    refine Y3 ?_
    refine Zhg (Zlv rfl) ?_
    refine Zh8 rfl (by kernel_rfl) (little_x (L := []) _ 8 (by omega)) rfl qT ?_
    rintro _ _ ⟨xa, xc, rfl, rfl⟩
    refine Y3 ?_
    refine Zhg (Zlv rfl) ?_
    refine Zh8 rfl (by kernel_rfl) (little_x (L := []) _ 8 (by omega)) rfl qT ?_
    rintro _ _ ⟨ya, yc, rfl, rfl⟩
    refine Y1 ?_
    refine Zh8 rfl (by kernel_rfl) (two_x (L := [own 5 1 (.slice ya (leB (BitVec.ofInt 64 ((cover.length : Nat) : Int)) 8).length yc) (leB (BitVec.ofInt 64 ((cover.length : Nat) : Int)) 8).length ((leB (BitVec.ofInt 64 ((cover.length : Nat) : Int)) 8).map u8b), own 5 1 (.slice xa (leB (BitVec.ofInt 64 ((more.length : Nat) : Int)) 8).length xc) (leB (BitVec.ofInt 64 ((more.length : Nat) : Int)) 8).length ((leB (BitVec.ofInt 64 ((more.length : Nat) : Int)) 8).map u8b)]) (Bs.own (.there .here)) (Bs.own .here) (by simp [leB_len])) rfl qT ?_
    rintro _ _ ⟨ta, tc, rfl, rfl⟩
    refine V3 ?_
    rw [len_conv, len_conv]
    have hTl : (leB (BitVec.ofNat 64 more.length) 8 ++ leB (BitVec.ofNat 64 cover.length) 8).length = 16 := by simp [leB_len]
    have hpm := pad_len more
    have hpc := pad_len cover
    have hmac : joinB [(.slice none 0 0, more ++ padB more), (.slice none 0 0, cover ++ padB cover), (.slice none 0 0, leB (BitVec.ofNat 64 more.length) 8 ++ leB (BitVec.ofNat 64 cover.length) 8)] = macB more cover := by simp [joinB, macB]
    have hj : ∀ v1 v2 v3, joinB [(v1, more ++ padB more), (v2, cover ++ padB cover), (v3, leB (BitVec.ofNat 64 more.length) 8 ++ leB (BitVec.ofNat 64 cover.length) 8)] = macB more cover := fun v1 v2 v3 => by rw [← hmac]; rfl
    have hmacl : (macB more cover).length ≤ 140737488351232 := by
      rw [← hmac]; simp only [joinB, List.map_cons, List.map_nil, List.flatten_cons, List.flatten_nil, List.append_nil, List.length_append] at hpm hpc hTl ⊢; omega
    generalize leB (BitVec.ofNat 64 more.length) 8 ++ leB (BitVec.ofNat 64 cover.length) 8 = T at hTl hj
    have hfm := filled_x (L := L) hm (by omega)
    have hfc := filled_x (L := L) hc (by omega)
    generalize more ++ padB more = A at hpm hj hfm
    generalize cover ++ padB cover = C at hpc hj hfc
    have hrs : ∀ {L : List Asrt} {v : Value}, Bs L v (macB more cover) → Con Tryz.prog 154 [.agg (K.map u8b).toArray, v] L (fun r M => r = .agg ((vouchB key nonce more cover).map u8b).toArray ∧ L = M) := fun h => by
      have := rsum_x K hKl h (by omega)
      rwa [← hV] at this
    refine Ct.o ?_
    refine Zij ([cl b10 (K.map u8b).toArray 23]) [2, 4, 6, 7, 8, 9] (.q 1 (.q 3 (.q 5 (.r 0 (.e 2 true (.e 4 true (.e 6 true (.e 7 true (.e 8 true (.a 9 (.e 10 false .nil))))))))))) (by kernel_rfl) (by kernel_rfl) (Imp.arr qV) ?_
    refine W4 ?_
    refine Ziq rfl ?_
    refine Zh8 rfl (by kernel_rfl) (hfm) rfl qT ?_
    rintro _ _ ⟨fa, fc, rfl, rfl⟩
    refine Y1 ?_
    refine Zg3 ⟨fun _ => Imp.arr qV, ?_⟩
    refine Ziq rfl ?_
    refine Zh8 rfl (by kernel_rfl) (hfc) rfl qT ?_
    rintro _ _ ⟨ga, gc, rfl, rfl⟩
    refine Y1 ?_
    refine Zg3 ⟨fun _ => Imp.arr qV, ?_⟩
    refine Ziq rfl ?_
    refine Zh7 (cs := #[.slice _ _ _, .slice _ _ _, .slice _ _ _]) (by omega) (by omega) rfl ?_; intro b43
    refine Zg3 ⟨fun _ => Imp.arr qV, ?_⟩
    refine Ziq rfl ?_
    refine Zh8 rfl (by kernel_rfl) (join_is (L := [cl b43 #[.slice fa A.length fc, .slice ga C.length gc, .slice ta T.length tc] 33, own 5 1 (.slice ga C.length gc) C.length (C.map u8b), own 5 1 (.slice fa A.length fc) A.length (A.map u8b), own 5 1 (.slice ta T.length tc) T.length (T.map u8b)]) (ps := [(.slice fa A.length fc, A), (.slice ga C.length gc, C), (.slice ta T.length tc, T)]) (Rs.cl (o := 0) .here (by simp) rfl (by simp) (by simp) (by intro x hx; simp only [List.mem_cons, List.not_mem_nil, or_false] at hx; rcases hx with rfl|rfl|rfl; exact Bs.own (.there (.there .here)); exact Bs.own (.there .here); exact Bs.own (.there (.there (.there .here))))) (hj _ _ _) (by omega)) rfl qT ?_
    rintro _ _ ⟨ja, jc, rfl, rfl⟩
    refine Y1 ?_
    refine Zg3 ⟨fun _ => Imp.arr qV, ?_⟩
    refine Ziq rfl ?_
    refine Zh8 rfl (by kernel_rfl) (hrs (L := [own 5 1 (.slice ja (macB more cover).length jc) (macB more cover).length ((macB more cover).map u8b)]) (Bs.own .here)) rfl qT ?_
    rintro _ _ ⟨rfl, rfl⟩
    refine Y1 ?_
    refine Zg3 ⟨fun _ => Imp.arr qV, ?_⟩
    refine Zir rfl (cs := ((List.replicate 16 0#8).map u8b).toArray) rfl ?_; intro b13
    refine Ziq rfl ?_
    first|refine Zhy rfl rfl qR qZ qN qZ ?_|refine Zhx rfl rfl qR qZ qN qZ rfl ?_
    refine Zg3 ⟨(fun hh => Bool.noConfusion hh), ?_⟩
    refine Zik ?_
    refine Ct.o ?_
    generalize vouchB key nonce more cover = V at hvl
    refine V6 ?_
    refine Zgo [(14, 15), (46, 55)] (by kernel_rfl) (fun s : Nat × Option Addr × Nat => s.1 ≤ 16) (fun s => own 5 1 (.slice s.2.1 s.1 s.2.2) s.1 ((V.take s.1).map u8b) :: cl b13 (V.map u8b).toArray 178 :: L)
      (fun s => [(15, nvv s.1), (14, .slice s.2.1 s.1 s.2.2)]) (fun s => 16 - s.1) (0, none, 0) (by show 0 ≤ _; omega) (Imp.trans (Imp.arr (N := cl b13 (V.map u8b).toArray 178 :: L) qV) Imp.own_nil) ⟨rfl, rfl, trivial⟩ ?_
    rintro ⟨i, a, c⟩ u2 hi
    dsimp only at hi ⊢
    refine V4 ?_
    refine Zgg rfl (fun hB => ?_) (fun hB => ?_)
    · have hiN : i < V.length := by omega
      refine Y4 ?_
      refine Zhp rfl qH (getL hiN) ?_
      refine Zh7 (cs := #[.int .u8 _]) (by omega) (by omega) rfl ?_; intro b54
      refine Zia rfl rfl qH (Rd.cl (xs := [u8b V[i]]) qH rfl qZ rfl) qN (by omega) qS ?_; intro a3 c3
      refine V2 ?_
      have e2 : (V.take i).map u8b ++ [u8b V[i]] = (V.take (i + 1)).map u8b := by rw [List.take_succ_eq_append_getElem hiN]; simp only [List.map_append, List.map_cons, List.map_nil]
      rw [e2]
      refine V5 ?_
      exact Zgl (i + 1, a3, c3) qO qO qI ⟨rfl, rfl, trivial⟩
    · have hie : i = 16 := by omega
      subst hie
      rw [List.take_of_length_le (by omega)]
      refine V4 ?_
      refine rx1 (Zhc rfl (Zg7)) ?_
      exact ⟨_, ⟨a, c, rfl, rfl⟩, qI⟩
end Go.Sl

/- the document's seal (trystref07): Box, TooLong, Seal, Text, Wrong, walked. -/
set_option maxHeartbeats 4000000
set_option maxRecDepth 10000
set_option linter.unusedVariables false
set_option linter.unusedSimpArgs false
namespace Go.Sl
open Go Go.Proofs
attribute [local irreducible] pt pur ex all den denOps denS xOps xC cX CX xthen xblk xcut xloop xng retX resX Calls PV Rd Con
attribute [local irreducible] code blockB ksB xorB vouchB leB sealB
theorem boxR_x {L : List Asrt} (key nonce : List Byte) (hk : key.length = 32) (hn : nonce.length = 12) {vm vt : Value} {more text : List Byte} (hm : Bs L vm more) (ht : Bs L vt text) (hml : more.length ≤ 1048576) (htl : text.length ≤ 1048576) :
    Con Tryz.prog 139 [.agg (key.map u8b).toArray, .agg (nonce.map u8b).toArray, vm, vt] L (fun r M => ∃ a c, r = .slice a (sealB key nonce more text).length c ∧ M = own 5 1 (.slice a (sealB key nonce more text).length c) (sealB key nonce more text).length ((sealB key nonce more text).map u8b) :: L) := by
  refine Con.get (fun w0 w F H => hm.sh _ _ _ H) ?_
  rintro ⟨ma, mc, rfl, hmc, hmcm⟩
  refine Con.get (fun w0 w F H => ht.sh _ _ _ H) ?_
  rintro ⟨ta, tc, rfl, htc, htcm⟩
  have hxl := xorB_len key nonce 64 text
  have hvl := vouchB_len key nonce more (xorB key nonce 64 text)
  have hs : sealB key nonce more text = xorB key nonce 64 text ++ vouchB key nonce more (xorB key nonce 64 text) := by unfold sealB; rfl
  have hx := xorR_x (L := L) key nonce hk hn ht (by omega)
  rw [hs]
  generalize xorB key nonce 64 text = X at hxl hvl hx
  have htg := fun (a : Option Addr) (c : Nat) => tagR_x (L := own 5 1 (.slice a text.length c) text.length (X.map u8b) :: L) key nonce hk hn (hm.imp Imp.tail) (bs_own .here hxl) (by omega) (by omega)
  generalize vouchB key nonce more X = V at hvl htg
  have hXV : (X ++ V).length ≤ 140737488355328 := by rw [List.length_append]; omega
  refine fn_x Tryz.func139 rfl rfl rfl Tryz.mixed (by kernel_rfl) ?_
  intro w0
  refine Y1 ?_
  refine Zh5 rfl ?_; intro b4
  refine Zh5 rfl ?_; intro b5
  refine Y6 ?_
  refine Zh8 rfl (by kernel_rfl) (hx) rfl qT ?_
  rintro _ _ ⟨xa, xc, rfl, rfl⟩
  refine Y9 ?_
  refine Zh8 rfl (by kernel_rfl) (htg xa xc) rfl qT ?_
  rintro _ _ ⟨ga, gc, rfl, rfl⟩
  refine Y1 ?_
  refine Zh8 rfl (by kernel_rfl) (two_x (L := own 5 1 (.slice ga 16 gc) 16 (V.map u8b) :: own 5 1 (.slice xa text.length xc) text.length (X.map u8b) :: L) (bs_own (.there .here) hxl) (bs_own .here hvl) hXV) rfl qT ?_
  rintro _ _ ⟨ra, rc, rfl, rfl⟩
  refine V3 ?_
  refine rx1 (Zhc rfl (Zg7)) ?_
  exact ⟨_, ⟨ra, rc, rfl, rfl⟩, qI⟩
theorem tooLong_x {L : List Asrt} {ma ta : Option Addr} {m mc t tc : Nat} (hm : m ≤ 9223372036854775807) (ht : t ≤ 9223372036854775807) :
    Con Tryz.prog 138 [.slice ma m mc, .slice ta t tc] L (fun r M => r = nvv (if 1048576 < m ∨ 1048576 < t then 3 else 0) ∧ L = M) := by
  refine fn_x Tryz.func138 rfl rfl rfl Tryz.mixed (by kernel_rfl) ?_
  intro w0
  refine V3 ?_
  by_cases h1 : 1048576 < m
  · rw [if_pos (.inl h1)]
    refine Y4 ?_
    refine Zhm 7 rfl (decide_eq_true (h1)) ?_
    refine V10 ?_
    refine rx1 (Zg9 rfl (Zg7)) ?_
    exact ⟨_, ⟨rfl, rfl⟩, qI⟩
  by_cases h2 : 1048576 < t
  · rw [if_pos (.inr h2)]
    refine Y4 ?_
    refine Zhn 7 rfl (decide_eq_false (h1)) ?_
    refine Y4 ?_
    refine Zhm 11 rfl (decide_eq_true (h2)) ?_
    refine V6 ?_
    refine rx1 (Zg9 rfl (Zg7)) ?_
    exact ⟨_, ⟨rfl, rfl⟩, qI⟩
  · rw [if_neg (fun h => h.elim h1 h2)]
    refine Y4 ?_
    refine Zhn 7 rfl (decide_eq_false (h1)) ?_
    refine Y4 ?_
    refine Zhn 11 rfl (decide_eq_false (h2)) ?_
    refine V6 ?_
    refine rx1 (Zg9 rfl (Zg7)) ?_
    exact ⟨_, ⟨rfl, rfl⟩, qI⟩
theorem sealRef_x {L : List Asrt} (key nonce : List Byte) (hk : key.length = 32) (hn : nonce.length = 12) {vm vt : Value} {more text : List Byte} (hm : Bs L vm more) (ht : Bs L vt text) :
    Con Tryz.prog 114 [.agg (key.map u8b).toArray, .agg (nonce.map u8b).toArray, vm, vt] L (fun r M => ∃ a c, r = .tuple #[.slice a (sealR key nonce more text).1.length c, nvv (sealR key nonce more text).2] ∧ M = own 5 1 (.slice a (sealR key nonce more text).1.length c) (sealR key nonce more text).1.length ((sealR key nonce more text).1.map u8b) :: L) := by
  refine Con.get (fun w0 w F H => hm.sh _ _ _ H) ?_
  rintro ⟨ma, mc, rfl, hmc, hmcm⟩
  refine Con.get (fun w0 w F H => ht.sh _ _ _ H) ?_
  rintro ⟨ta, tc, rfl, htc, htcm⟩
  refine fn_x Tryz.func114 rfl rfl rfl Tryz.mixed (by kernel_rfl) ?_
  intro w0
  refine Y1 ?_
  refine Zh5 rfl ?_; intro b4
  refine Zh5 rfl ?_; intro b5
  refine Y6 ?_
  refine Zh8 rfl (by kernel_rfl) (tooLong_x (L := L) (by omega) (by omega)) rfl qT ?_
  rintro _ _ ⟨rfl, rfl⟩
  refine V3 ?_
  by_cases hlong : 1048576 < more.length ∨ 1048576 < text.length
  · have e : sealR key nonce more text = ([], 3) := if_pos hlong
    rw [if_pos hlong, e]
    refine Y3 ?_
    refine Zhm 15 rfl (rfl) ?_
    refine V7 ?_
    refine rx2 (Zhc rfl (Zg9 rfl (Zg7))) ?_
    exact ⟨_, ⟨none, 0, rfl, rfl⟩, (Imp.arr (N := L) qV).trans Imp.own_nil⟩
  · have e : sealR key nonce more text = (sealB key nonce more text, 0) := if_neg hlong
    rw [if_neg hlong, e]
    refine Y3 ?_
    refine Zhn 15 rfl (rfl) ?_
    refine Y7 ?_
    refine Zh8 rfl (by kernel_rfl) (boxR_x (L := L) key nonce hk hn hm ht (by omega) (by omega)) rfl qT ?_
    rintro _ _ ⟨xa, xc, rfl, rfl⟩
    refine V4 ?_
    refine rx2 (Zhc rfl (Zg9 rfl (Zg7))) ?_
    exact ⟨_, ⟨xa, xc, rfl, rfl⟩, qI⟩
end Go.Sl

/- the document's seal (trystref07): Text, Wrong, walked. -/
set_option maxHeartbeats 4000000
set_option maxRecDepth 10000
set_option linter.unusedVariables false
set_option linter.unusedSimpArgs false
namespace Go.Sl
open Go Go.Proofs
attribute [local irreducible] pt pur ex all den denOps denS xOps xC cX CX xthen xblk xcut xloop xng retX resX Calls PV Rd Con
attribute [local irreducible] code blockB ksB xorB vouchB leB sealB
def wrongR (m b : Nat) : Nat := if b < 16 then 4 else if 1048576 < m ∨ 1048592 < b then 3 else 0
theorem wrong_x {L : List Asrt} {ma ba : Option Addr} {m mc b bc : Nat} (hm : m ≤ 9223372036854775807) (hb : b ≤ 9223372036854775807) :
    Con Tryz.prog 112 [.slice ma m mc, .slice ba b bc] L (fun r M => r = nvv (wrongR m b) ∧ L = M) := by
  unfold wrongR
  refine fn_x Tryz.func112 rfl rfl rfl Tryz.mixed (by kernel_rfl) ?_
  intro w0
  refine V3 ?_
  by_cases h0 : b < 16
  · rw [if_pos h0]
    refine Y4 ?_
    refine Zhm 7 rfl (decide_eq_true (h0)) ?_
    refine V5 ?_
    refine rx1 (Zg9 rfl (Zg7)) ?_
    exact ⟨_, ⟨rfl, rfl⟩, qI⟩
  rw [if_neg h0]
  refine Y4 ?_
  refine Zhn 7 rfl (decide_eq_false (h0)) ?_
  refine V2 ?_
  by_cases h1 : 1048576 < m
  · rw [if_pos (.inl h1)]
    refine Y4 ?_
    refine Zhm 10 rfl (decide_eq_true (h1)) ?_
    refine V10 ?_
    refine rx1 (Zg9 rfl (Zg7)) ?_
    exact ⟨_, ⟨rfl, rfl⟩, qI⟩
  by_cases h2 : 1048592 < b
  · rw [if_pos (.inr h2)]
    refine Y4 ?_
    refine Zhn 10 rfl (decide_eq_false (h1)) ?_
    refine Y4 ?_
    refine Zhm 14 rfl (decide_eq_true (h2)) ?_
    refine V6 ?_
    refine rx1 (Zg9 rfl (Zg7)) ?_
    exact ⟨_, ⟨rfl, rfl⟩, qI⟩
  · rw [if_neg (fun h => h.elim h1 h2)]
    refine Y4 ?_
    refine Zhn 10 rfl (decide_eq_false (h1)) ?_
    refine Y4 ?_
    refine Zhn 14 rfl (decide_eq_false (h2)) ?_
    refine V6 ?_
    refine rx1 (Zg9 rfl (Zg7)) ?_
    exact ⟨_, ⟨rfl, rfl⟩, qI⟩
def textR (key nonce more box : List Byte) : List Byte := if rightB key nonce more box = true then textB key nonce box else []
attribute [local irreducible] rightB textB coverB tagB
theorem textR_x {L : List Asrt} (key nonce : List Byte) (hk : key.length = 32) (hn : nonce.length = 12) {vm vb : Value} {more box : List Byte} (hm : Bs L vm more) (hb : Bs L vb box) (hml : more.length ≤ 1048576) (h16 : 16 ≤ box.length) (hbl : box.length ≤ 1048592) :
    Con Tryz.prog 113 [.agg (key.map u8b).toArray, .agg (nonce.map u8b).toArray, vm, vb] L (fun r M => ∃ a c, r = .tuple #[.slice a (textR key nonce more box).length c, .bool (rightB key nonce more box)] ∧ M = own 5 1 (.slice a (textR key nonce more box).length c) (textR key nonce more box).length ((textR key nonce more box).map u8b) :: L) := by
  refine Con.get (fun w0 w F H => hm.sh _ _ _ H) ?_
  rintro ⟨ma, mc, rfl, hmc, hmcm⟩
  refine Con.get (fun w0 w F H => hb.sh _ _ _ H) ?_
  rintro ⟨ba, bc, rfl, hbc, hbcm⟩
  refine Con.get (fun w0 w F H => hb.some (by omega) H) ?_
  rintro ⟨b1, b2, rfl⟩
  have hcl : (coverB box).length = box.length - 16 := by unfold coverB; simp
  have hcov : Bs L (.slice (some ⟨b1, b2, none⟩) (box.length - 16) bc) (coverB box) := by unfold coverB; exact Bs.take hb (by omega)
  have htag : Bs L (.slice (some ⟨b1, b2 + (box.length - 16), none⟩) (box.length - (box.length - 16)) (bc - (box.length - 16))) (tagB box) := by unfold tagB; exact bs_drop hb (by omega) (by omega)
  have hvl := vouchB_len key nonce more (coverB box)
  have hx := xorR_x (L := L) key nonce hk hn hcov (by omega)
  have htx : xorB key nonce 64 (coverB box) = textB key nonce box := by unfold textB; rfl
  rw [htx, hcl] at hx
  have hrd : rightB key nonce more box = decide (vouchB key nonce more (coverB box) = tagB box) := by unfold rightB; rfl
  refine fn_x Tryz.func113 rfl rfl rfl Tryz.mixed (by kernel_rfl) ?_
  intro w0
  refine Y1 ?_
  refine Zh5 rfl ?_; intro b4
  refine Zh5 rfl ?_; intro b5
  refine Y6 ?_
  refine Zhg (PV.eq (v' := nvv (box.length - 16)) (Zbh (b := 16) rfl rfl (by omega)) (int_eq (by omega))) ?_
  refine V2 ?_
  have heq := fun (a : Option Addr) (c : Nat) => eqBytes_x (L := own 5 1 (.slice a 16 c) 16 ((vouchB key nonce more (coverB box)).map u8b) :: L) (htag.imp Imp.tail) (bs_own .here hvl)
  have htl := textB_len key nonce box
  by_cases hr : vouchB key nonce more (coverB box) = tagB box
  · have e : rightB key nonce more box = true := by rw [hrd]; exact decide_eq_true hr
    have e2 : textR key nonce more box = textB key nonce box := if_pos e
    rw [e, e2]
    refine Ct.o ?_
    refine Zij (_) [7] (.q 0 (.q 1 (.q 2 (.q 3 (.q 4 (.q 5 (.q 8 (.q 9 (.q 10 (.q 11 (.r 6 (.r 7 (.e 12 false (.e 13 false (.q 14 (.q 15 .nil)))))))))))))))) (by kernel_rfl) (by kernel_rfl) (Imp.refl _) ?_
    refine W2 ?_
    refine Zi6 15 rfl (decide_eq_false ((by omega))) ?_
    refine W3 ?_
    first|refine Zio rfl rfl ?_|refine Zip rfl rfl ?_|refine Zin rfl rfl (Zna (l := box.length - 16) (h := box.length) rfl qB qB) ?_|refine Zin rfl rfl (Zmz (l := box.length - 16) (h := box.length) rfl qB qB) ?_
    refine W3 ?_
    first|refine Zio rfl rfl ?_|refine Zip rfl rfl ?_|refine Zin rfl rfl (Zm0 (h := box.length - 16) rfl rfl (by omega)) ?_
    refine W2 ?_
    refine Ziq rfl ?_
    first|refine Y0 ?_|(refine Zhh rfl ?_; (refine Zh8 rfl (by kernel_rfl) (tagR_x (L := L) key nonce hk hn hm hcov (by omega) (by omega)) rfl qT ?_); (rintro _ _ ⟨ga, gc, rfl, rfl⟩); (refine Zg2 qA ?_))
    refine Zg3 ⟨(fun hh => Bool.noConfusion hh), ?_⟩
    refine Ziq rfl ?_
    first|refine Y0 ?_|(refine Zhh rfl ?_; (refine Zh8 rfl (by kernel_rfl) (heq ga gc) rfl qT ?_); (rintro _ _ ⟨rfl, rfl⟩); (refine Zg2 qA ?_))
    refine Zg3 ⟨(fun hh => Bool.noConfusion hh), ?_⟩
    refine Zi5 27 rfl (decide_eq_true (hr.symm)) ?_
    refine W1 ?_
    refine Zi6 28 rfl (rfl) ?_
    refine W2 ?_
    refine V1 ?_
    refine Zij (_) [1] (.q 2 (.q 3 (.q 4 (.r 0 (.r 1 (.e 5 false (.q 6 (.q 7 .nil)))))))) (by kernel_rfl) (by kernel_rfl) (Imp.refl _) ?_
    refine W2 ?_
    refine Zim rfl (Zm0 (h := box.length - 16) rfl rfl (by omega)) ?_
    refine W2 ?_
    refine Ziq rfl ?_
    refine Zh8 rfl (by kernel_rfl) (hx) rfl qT ?_
    rintro _ _ ⟨xa, xc, rfl, rfl⟩
    refine Y1 ?_
    refine Zg3 ⟨(fun hh => Bool.noConfusion hh), ?_⟩
    refine W3 ?_
    refine Ct.o ?_
    rw [← htl]
    refine rx2 (Zhc rfl (Zha rfl (Zg7))) ?_
    exact ⟨_, ⟨xa, xc, rfl, rfl⟩, qI⟩
  · have e : rightB key nonce more box = false := by rw [hrd]; exact decide_eq_false hr
    have e2 : textR key nonce more box = [] := if_neg (by rw [e]; decide)
    rw [e, e2]
    refine Ct.o ?_
    refine Zij (_) [7] (.q 0 (.q 1 (.q 2 (.q 3 (.q 4 (.q 5 (.q 8 (.q 9 (.q 10 (.q 11 (.r 6 (.r 7 (.e 12 false (.e 13 false (.q 14 (.q 15 .nil)))))))))))))))) (by kernel_rfl) (by kernel_rfl) (Imp.refl _) ?_
    refine W2 ?_
    refine Zi6 15 rfl (decide_eq_false ((by omega))) ?_
    refine W3 ?_
    first|refine Zio rfl rfl ?_|refine Zip rfl rfl ?_|refine Zin rfl rfl (Zna (l := box.length - 16) (h := box.length) rfl qB qB) ?_|refine Zin rfl rfl (Zmz (l := box.length - 16) (h := box.length) rfl qB qB) ?_
    refine W3 ?_
    first|refine Zio rfl rfl ?_|refine Zip rfl rfl ?_|refine Zin rfl rfl (Zm0 (h := box.length - 16) rfl rfl (by omega)) ?_
    refine W2 ?_
    refine Ziq rfl ?_
    first|refine Y0 ?_|(refine Zhh rfl ?_; (refine Zh8 rfl (by kernel_rfl) (tagR_x (L := L) key nonce hk hn hm hcov (by omega) (by omega)) rfl qT ?_); (rintro _ _ ⟨ga, gc, rfl, rfl⟩); (refine Zg2 qA ?_))
    refine Zg3 ⟨(fun hh => Bool.noConfusion hh), ?_⟩
    refine Ziq rfl ?_
    first|refine Y0 ?_|(refine Zhh rfl ?_; (refine Zh8 rfl (by kernel_rfl) (heq ga gc) rfl qT ?_); (rintro _ _ ⟨rfl, rfl⟩); (refine Zg2 qA ?_))
    refine Zg3 ⟨(fun hh => Bool.noConfusion hh), ?_⟩
    refine Zi6 27 rfl (decide_eq_false ((fun h => hr h.symm))) ?_
    refine W1 ?_
    refine Zi5 28 rfl (rfl) ?_
    refine W2 ?_
    refine V5 ?_
    refine rx2 (Zhc rfl (Zha rfl (Zg7))) ?_
    exact ⟨_, ⟨none, 0, rfl, rfl⟩, (Imp.arr (N := L) qV).trans Imp.own_nil⟩
end Go.Sl

/- the document's pages (trystref12), walked; trystref07.Open. -/
set_option maxHeartbeats 4000000
set_option maxRecDepth 10000
set_option linter.unusedVariables false
set_option linter.unusedSimpArgs false
namespace Go.Sl
open Go Go.Proofs
attribute [local irreducible] pt pur ex all den denOps denS xOps xC cX CX xthen xblk xcut xloop xng retX resX Calls PV Rd Con
attribute [local irreducible] code blockB ksB xorB vouchB leB sealB rightB textB coverB tagB
theorem openRef_x {L : List Asrt} (key nonce : List Byte) (hk : key.length = 32) (hn : nonce.length = 12) {vm vb : Value} {more box : List Byte} (hm : Bs L vm more) (hb : Bs L vb box) :
    Con Tryz.prog 94 [.agg (key.map u8b).toArray, .agg (nonce.map u8b).toArray, vm, vb] L (fun r M => ∃ a c, r = .tuple #[.slice a (openR key nonce more box).1.length c, nvv (openR key nonce more box).2] ∧ M = own 5 1 (.slice a (openR key nonce more box).1.length c) (openR key nonce more box).1.length ((openR key nonce more box).1.map u8b) :: L) := by
  refine Con.get (fun w0 w F H => hm.sh _ _ _ H) ?_
  rintro ⟨ma, mc, rfl, hmc, hmcm⟩
  refine Con.get (fun w0 w F H => hb.sh _ _ _ H) ?_
  rintro ⟨ba, bc, rfl, hbc, hbcm⟩
  have hw := fun (ma ba : Option Addr) (mc bc : Nat) => wrong_x (L := L) (ma := ma) (ba := ba) (mc := mc) (bc := bc) (m := more.length) (b := box.length) (by omega) (by omega)
  by_cases h16 : box.length < 16
  · have e : openR key nonce more box = ([], 4) := if_pos h16
    have ew : wrongR more.length box.length = 4 := if_pos h16
    rw [e]
    rw [ew] at hw
    refine fn_x Tryz.func94 rfl rfl rfl Tryz.mixed (by kernel_rfl) ?_
    intro w0
    refine Y1 ?_
    refine Zh5 rfl ?_; intro b4
    refine Zh5 rfl ?_; intro b5
    refine Y6 ?_
    refine Zh8 rfl (by kernel_rfl) (hw ma ba mc bc) rfl qT ?_
    rintro _ _ ⟨rfl, rfl⟩
    refine Y6 ?_
    refine Zhm 17 rfl (decide_eq_true (by decide)) ?_
    refine V7 ?_
    refine rx2 (Zhc rfl (Zg9 rfl (Zg7))) ?_
    exact ⟨_, ⟨none, 0, rfl, rfl⟩, (Imp.arr (N := L) qV).trans Imp.own_nil⟩
  by_cases hlong : 1048576 < more.length ∨ 1048576 < box.length - 16
  · have e : openR key nonce more box = ([], 3) := by unfold openR; rw [if_neg h16, if_pos hlong]
    have ew : wrongR more.length box.length = 3 := by unfold wrongR; rw [if_neg h16, if_pos (by omega)]
    rw [e]
    rw [ew] at hw
    refine fn_x Tryz.func94 rfl rfl rfl Tryz.mixed (by kernel_rfl) ?_
    intro w0
    refine Y1 ?_
    refine Zh5 rfl ?_; intro b4
    refine Zh5 rfl ?_; intro b5
    refine Y6 ?_
    refine Zh8 rfl (by kernel_rfl) (hw ma ba mc bc) rfl qT ?_
    rintro _ _ ⟨rfl, rfl⟩
    refine Y6 ?_
    refine Zhm 17 rfl (decide_eq_true (by decide)) ?_
    refine V7 ?_
    refine rx2 (Zhc rfl (Zg9 rfl (Zg7))) ?_
    exact ⟨_, ⟨none, 0, rfl, rfl⟩, (Imp.arr (N := L) qV).trans Imp.own_nil⟩
  have ew : wrongR more.length box.length = 0 := by unfold wrongR; rw [if_neg h16, if_neg (by omega)]
  rw [ew] at hw
  have ht := textR_x (L := L) key nonce hk hn hm hb (by omega) (by omega) (by omega)
  unfold textR at ht
  by_cases hr : rightB key nonce more box = true
  · have e : openR key nonce more box = (textB key nonce box, 0) := by unfold openR; rw [if_neg h16, if_neg hlong, if_pos hr]
    rw [e]
    rw [if_pos hr, hr] at ht
    refine fn_x Tryz.func94 rfl rfl rfl Tryz.mixed (by kernel_rfl) ?_
    intro w0
    refine Y1 ?_
    refine Zh5 rfl ?_; intro b4
    refine Zh5 rfl ?_; intro b5
    refine Y6 ?_
    refine Zh8 rfl (by kernel_rfl) (hw ma ba mc bc) rfl qT ?_
    rintro _ _ ⟨rfl, rfl⟩
    refine Y6 ?_
    refine Zhn 17 rfl (decide_eq_false ((fun h => h rfl))) ?_
    refine Y7 ?_
    refine Zh8 rfl (by kernel_rfl) (ht) rfl qT ?_
    rintro _ _ ⟨xa, xc, rfl, rfl⟩
    refine Y9 ?_
    refine Zhg (Zb0 rfl) ?_
    refine Zhn 28 rfl (rfl) ?_
    refine V7 ?_
    refine rx2 (Zhc rfl (Zg9 rfl (Zg7))) ?_
    exact ⟨_, ⟨xa, xc, rfl, rfl⟩, qI⟩
  · have e : openR key nonce more box = ([], 70) := by unfold openR; rw [if_neg h16, if_neg hlong, if_neg hr]
    have hr2 : rightB key nonce more box = false := by simpa using hr
    rw [e]
    rw [hr2] at ht
    refine fn_x Tryz.func94 rfl rfl rfl Tryz.mixed (by kernel_rfl) ?_
    intro w0
    refine Y1 ?_
    refine Zh5 rfl ?_; intro b4
    refine Zh5 rfl ?_; intro b5
    refine Y6 ?_
    refine Zh8 rfl (by kernel_rfl) (hw ma ba mc bc) rfl qT ?_
    rintro _ _ ⟨rfl, rfl⟩
    refine Y6 ?_
    refine Zhn 17 rfl (decide_eq_false ((fun h => h rfl))) ?_
    refine Y7 ?_
    refine Zh8 rfl (by kernel_rfl) (ht) rfl qT ?_
    rintro _ _ ⟨xa, xc, rfl, rfl⟩
    refine Y9 ?_
    refine Zhg (Zb0 rfl) ?_
    refine Zhm 28 rfl (rfl) ?_
    refine V6 ?_
    refine rx2 (Zhc rfl (Zg9 rfl (Zg7))) ?_
    exact ⟨_, ⟨none, 0, rfl, rfl⟩, (Imp.arr (N := L) qV).trans Imp.own_nil⟩
theorem headR_x (p : Plc) : Con Tryz.prog 93 [.agg (plc p)] [] (fun r M => ∃ a c, r = .slice a (headB p).length c ∧ M = [own 5 1 r (headB p).length ((headB p).map u8b)]) := by
  have hhb : leB p.round 8 ++ leB p.counter 4 = headB p := rfl
  have hw := leB_wide p.counter 4
  have ht := fun pa pc1 qa qc => two_x (L := [own 5 1 (.slice qa (leB p.counter 4).length qc) (leB p.counter 4).length ((leB p.counter 4).map u8b), own 5 1 (.slice pa (leB p.round 8).length pc1) (leB p.round 8).length ((leB p.round 8).map u8b)]) (a := leB p.round 8) (b := leB p.counter 4) (Bs.own (.there .here)) (Bs.own .here) (by simp [leB_len])
  have hl4 := little_x (L := []) (p.counter.setWidth 64) 4 (by omega)
  rw [hw] at hl4
  refine fn_x Tryz.func93 rfl rfl rfl Tryz.mixed (by kernel_rfl) ?_
  intro w0
  refine Y1 ?_
  refine Zh5 rfl ?_; intro b1
  refine V2 ?_
  refine Zij ([cl b1 (plc p) 108]) [2, 4, 5] (.q 0 (.q 3 (.r 1 (.r 4 (.r 5 (.e 2 true (.e 6 false (.e 7 false (.q 8 .nil))))))))) (by kernel_rfl) (by kernel_rfl) (Imp.arr qV) ?_
  refine W4 ?_
  refine Ziz rfl (Zlb rfl) ?_
  refine Ziq rfl ?_
  refine Zh8 rfl (by kernel_rfl) (little_x (L := []) p.round 8 (by omega)) rfl qT ?_
  rintro _ _ ⟨pa, pc1, rfl, rfl⟩
  refine Y1 ?_
  refine Zg3 ⟨fun _ => Imp.arr qV, ?_⟩
  refine Ziq rfl ?_
  refine Zh8 rfl (by kernel_rfl) (hl4) rfl qT ?_
  rintro _ _ ⟨qa, qc, rfl, rfl⟩
  refine Y1 ?_
  refine Zg3 ⟨(fun hh => Bool.noConfusion hh), ?_⟩
  refine Ziq rfl ?_
  refine Zh8 rfl (by kernel_rfl) (ht pa pc1 qa qc) rfl qT ?_
  rintro _ _ ⟨ra, rc, rfl, rfl⟩
  refine Y1 ?_
  refine Zg3 ⟨(fun hh => Bool.noConfusion hh), ?_⟩
  refine W2 ?_
  refine Ct.o ?_
  rw [hhb]
  refine rx1 (Zhc rfl (Zg7)) ?_
  exact ⟨_, ⟨ra, rc, rfl, rfl⟩, qI⟩
theorem moreR_x (p : Plc) : Con Tryz.prog 96 [.agg (plc p)] [] (fun r M => ∃ a c, r = .slice a (moreB p).length c ∧ M = [own 5 1 r (moreB p).length ((moreB p).map u8b)]) := by
  have hhb : leB p.page 4 ++ leB p.version 4 = moreB p := rfl
  have ht := fun pa pc1 qa qc => two_x (L := [own 5 1 (.slice qa (leB p.version 4).length qc) (leB p.version 4).length ((leB p.version 4).map u8b), own 5 1 (.slice pa (leB p.page 4).length pc1) (leB p.page 4).length ((leB p.page 4).map u8b)]) (a := leB p.page 4) (b := leB p.version 4) (Bs.own (.there .here)) (Bs.own .here) (by simp [leB_len])
  have hl3 := little_x (L := []) (p.page.setWidth 64) 4 (by omega)
  have hl4 := little_x (L := []) (p.version.setWidth 64) 4 (by omega)
  rw [leB_wide] at hl3 hl4
  refine fn_x Tryz.func96 rfl rfl rfl Tryz.mixed (by kernel_rfl) ?_
  intro w0
  refine Y1 ?_
  refine Zh5 rfl ?_; intro b1
  refine V2 ?_
  refine Zij ([cl b1 (plc p) 108]) [3, 5, 6] (.q 0 (.q 4 (.r 1 (.q 2 (.r 5 (.r 6 (.e 3 true (.e 7 false (.e 8 false (.q 9 .nil)))))))))) (by kernel_rfl) (by kernel_rfl) (Imp.arr qV) ?_
  refine W3 ?_
  refine Zim rfl (Zlb rfl) ?_
  refine W1 ?_
  refine Ziz rfl (Zlb rfl) ?_
  refine Ziq rfl ?_
  refine Zh8 rfl (by kernel_rfl) (hl3) rfl qT ?_
  rintro _ _ ⟨pa, pc1, rfl, rfl⟩
  refine Y1 ?_
  refine Zg3 ⟨fun _ => Imp.arr qV, ?_⟩
  refine Ziq rfl ?_
  refine Zh8 rfl (by kernel_rfl) (hl4) rfl qT ?_
  rintro _ _ ⟨qa, qc, rfl, rfl⟩
  refine Y1 ?_
  refine Zg3 ⟨(fun hh => Bool.noConfusion hh), ?_⟩
  refine Ziq rfl ?_
  refine Zh8 rfl (by kernel_rfl) (ht pa pc1 qa qc) rfl qT ?_
  rintro _ _ ⟨ra, rc, rfl, rfl⟩
  refine Y1 ?_
  refine Zg3 ⟨(fun hh => Bool.noConfusion hh), ?_⟩
  refine W2 ?_
  refine Ct.o ?_
  rw [hhb]
  refine rx1 (Zhc rfl (Zg7)) ?_
  exact ⟨_, ⟨ra, rc, rfl, rfl⟩, qI⟩
theorem nonceR_x {L : List Asrt} {v : Value} {b : List Byte} (h : Bs L v b) (hb : b.length = 12) : Con Tryz.prog 95 [v] L (fun r M => r = .agg (b.map u8b).toArray ∧ L = M) := by
  refine Con.get (fun w0 w F H => h.sh _ _ _ H) ?_
  rintro ⟨va, vc, rfl, hvc, hvcm⟩
  refine Con.get (fun w0 w F H => h.some (by omega) H) ?_
  rintro ⟨g0, o0, rfl⟩
  refine fn_x Tryz.func95 rfl rfl rfl Tryz.mixed (by kernel_rfl) ?_
  intro w0
  refine Y1 ?_
  refine Zhz (cs := ((List.replicate 12 0#8).map u8b).toArray) rfl ?_; intro b2
  refine Y2 ?_
  refine Zhz (cs := ((List.replicate 12 0#8).map u8b).toArray) rfl ?_; intro b3
  refine V4 ?_
  refine Zgo [(4, 14)] (by kernel_rfl) (fun i : Nat => i ≤ 12) (fun i => cl b3 ((cpK b 12 i).map u8b).toArray 63 :: cl b2 ((List.replicate 12 0#8).map u8b).toArray 63 :: L) (fun i => [(4, nvv i)]) (fun i => 12 - i) 0 (by omega) qI ⟨rfl, trivial⟩ ?_
  intro i u hi
  have hcl := cpK_len b 12 i hi (by omega)
  refine V4 ?_
  refine Zgg rfl (fun hB => ?_) (fun hB => ?_)
  · refine Y5 ?_
    refine Zff rfl ((h.rd.imp qI).at (by omega) (getM (by omega))) ?_
    refine Y1 ?_
    refine Zht rfl rfl qR qZ (setL (f := u8b)) ?_
    refine V1 ?_
    rw [cpK_set b 12 i hB (by omega)]
    refine V5 ?_
    exact Zgl (i + 1) qO (by omega) qI ⟨rfl, trivial⟩
  · have hie : i = 12 := by omega
    subst hie
    have e : cpK b 12 12 = b := by rw [cpK_end b 12 (by omega)]; exact List.take_of_length_le (by omega)
    rw [e] at hcl ⊢
    refine Y2 ?_
    first|refine Zhy rfl rfl qR qZ qN qZ ?_|refine Zhx rfl rfl qR qZ qN qZ rfl ?_
    refine V1 ?_
    refine rx1 (Zhe rfl qH qZ (Zg7)) ?_
    exact ⟨_, ⟨rfl, rfl⟩, qI⟩
theorem pgSealRef_x {L : List Asrt} (key : List Byte) (hk : key.length = 32) (p : Plc) {vt : Value} {text : List Byte} (ht : Bs L vt text) (htl : text.length ≤ 140737488351232) :
    Con Tryz.prog 97 [.agg (key.map u8b).toArray, .agg (plc p), vt] L (fun r M => ∃ a c, r = .tuple #[.slice a (pgSealR key p text).1.length c, nvv (pgSealR key p text).2] ∧ M = own 5 1 (.slice a (pgSealR key p text).1.length c) (pgSealR key p text).1.length ((pgSealR key p text).1.map u8b) :: L) := by
  refine Con.get (fun w0 w F H => ht.sh _ _ _ H) ?_
  rintro ⟨ta, tc, rfl, htc, htcm⟩
  by_cases hlong : 4096 < text.length
  · have e : pgSealR key p text = ([], 3) := if_pos hlong
    rw [e]
    refine fn_x Tryz.func97 rfl rfl rfl Tryz.mixed (by kernel_rfl) ?_
    intro w0
    refine Y1 ?_
    refine Zh5 rfl ?_; intro b3
    refine Zh5 rfl ?_; intro b4
    refine Y7 ?_
    refine Zhm 13 rfl (decide_eq_true (hlong)) ?_
    refine V6 ?_
    refine rx2 (Zhc rfl (Zg9 rfl (Zg7))) ?_
    exact ⟨_, ⟨none, 0, rfl, rfl⟩, (Imp.arr (N := L) qV).trans Imp.own_nil⟩
  · have e : pgSealR key p text = (pgSealB key p text, 0) := if_neg hlong
    rw [e]
    have hml := moreB_len p
    have hhl := headB_len p
    have hsl := sealB_len key (headB p) (moreB p) text
    have esr : sealR key (headB p) (moreB p) text = (sealB key (headB p) (moreB p) text, 0) := if_neg (by omega)
    have hs := fun ma mc => sealRef_x (L := own 5 1 (.slice ma (moreB p).length mc) (moreB p).length ((moreB p).map u8b) :: L) key (headB p) hk hhl (Bs.own .here) (ht.imp Imp.tail)
    rw [esr] at hs
    dsimp only at hs
    refine fn_x Tryz.func97 rfl rfl rfl Tryz.mixed (by kernel_rfl) ?_
    intro w0
    refine Y1 ?_
    refine Zh5 rfl ?_; intro b3
    refine Zh5 rfl ?_; intro b4
    refine Y7 ?_
    refine Zhn 13 rfl (decide_eq_false (hlong)) ?_
    refine Y4 ?_
    refine Zh8 rfl (by kernel_rfl) (headR_x p) rfl qT ?_
    rintro _ _ ⟨ha, hc, rfl, rfl⟩
    refine V3 ?_
    refine Zij ([cl b3 (key.map u8b).toArray 23, cl b4 (plc p) 108]) [2, 3, 4] (.q 1 (.q 5 (.r 0 (.r 3 (.e 2 true (.e 4 true (.e 6 false (.q 7 (.q 8 (.q 9 (.q 10 (.q 11 .nil)))))))))))) (by kernel_rfl) (by kernel_rfl) (Imp.arr qV) ?_
    refine W4 ?_
    refine Ziq rfl ?_
    refine Zh8 rfl (by kernel_rfl) (nonceR_x (L := [own 5 1 (.slice ha (headB p).length hc) (headB p).length ((headB p).map u8b)]) (Bs.own .here) hhl) rfl qT ?_
    rintro _ _ ⟨rfl, rfl⟩
    refine Y1 ?_
    refine Zg3 ⟨fun _ => Imp.arr qV, ?_⟩
    refine Ziq rfl ?_
    refine Zh8 rfl (by kernel_rfl) (moreR_x p) rfl qT ?_
    rintro _ _ ⟨ma, mc, rfl, rfl⟩
    refine Y1 ?_
    refine Zg3 ⟨fun _ => Imp.arr qV, ?_⟩
    refine Ziq rfl ?_
    refine Zh8 rfl (by kernel_rfl) (hs ma mc) rfl qT ?_
    rintro _ _ ⟨sa, sc, rfl, rfl⟩
    refine Y1 ?_
    refine Zg3 ⟨(fun hh => Bool.noConfusion hh), ?_⟩
    refine W6 ?_
    refine Y3 ?_
    refine Zhn 27 rfl (decide_eq_false ((fun h => h rfl))) ?_
    refine Y5 ?_
    refine Zh8 rfl (by kernel_rfl) (two_x (L := [own 5 1 (.slice ha (headB p).length hc) (headB p).length ((headB p).map u8b), own 5 1 (.slice sa (sealB key (headB p) (moreB p) text).length sc) (sealB key (headB p) (moreB p) text).length ((sealB key (headB p) (moreB p) text).map u8b)]) (a := headB p) (b := sealB key (headB p) (moreB p) text) (Bs.own .here) (Bs.own (.there .here)) (by rw [List.length_append]; omega)) rfl qT ?_
    rintro _ _ ⟨ra, rc, rfl, rfl⟩
    refine V4 ?_
    refine rx2 (Zhc rfl (Zg9 rfl (Zg7))) ?_
    exact ⟨_, ⟨ra, rc, rfl, rfl⟩, qI⟩
end Go.Sl

/- the document's pages (trystref12): Open, number, Head, walked. -/
set_option maxHeartbeats 4000000
set_option maxRecDepth 10000
set_option linter.unusedVariables false
set_option linter.unusedSimpArgs false
namespace Go.Sl
open Go Go.Proofs
attribute [local irreducible] pt pur ex all den denOps denS xOps xC cX CX xthen xblk xcut xloop xng retX resX Calls PV Rd Con
attribute [local irreducible] code blockB ksB xorB vouchB leB sealB rightB textB coverB tagB headB moreB
theorem pgOpenRef_x {L : List Asrt} (key : List Byte) (hk : key.length = 32) (p : Plc) {vb : Value} {box : List Byte} (hb : Bs L vb box) (hbl : box.length ≤ 140737488351232) :
    Con Tryz.prog 69 [.agg (key.map u8b).toArray, .agg (plc p), vb] L (fun r M => ∃ a c, r = .tuple #[.slice a (pgOpenR key p box).1.length c, nvv (pgOpenR key p box).2] ∧ M = own 5 1 (.slice a (pgOpenR key p box).1.length c) (pgOpenR key p box).1.length ((pgOpenR key p box).1.map u8b) :: L) := by
  refine Con.get (fun w0 w F H => hb.sh _ _ _ H) ?_
  rintro ⟨ba, bc, rfl, hbc, hbcm⟩
  have eno : ¬ pgFits p box → pgOpenR key p box = ([], 120) := fun h => if_neg (fun h2 => h h2.1)
  by_cases h28 : box.length < 28
  · rw [eno (fun h => by have := h.1; omega)]
    refine fn_x Tryz.func69 rfl rfl rfl Tryz.mixed (by kernel_rfl) ?_
    intro w0
    refine Y1 ?_
    refine Zh5 rfl ?_; intro b3
    refine Zh5 rfl ?_; intro b4
    refine Y7 ?_
    refine Zhm 13 rfl (decide_eq_true (h28)) ?_
    refine V11 ?_
    refine rx2 (Zhc rfl (Zg9 rfl (Zg7))) ?_
    exact ⟨_, ⟨none, 0, rfl, rfl⟩, (Imp.arr (N := L) qV).trans Imp.own_nil⟩
  by_cases hlong : 4124 < box.length
  · rw [eno (fun h => by have := h.2.1; omega)]
    refine fn_x Tryz.func69 rfl rfl rfl Tryz.mixed (by kernel_rfl) ?_
    intro w0
    refine Y1 ?_
    refine Zh5 rfl ?_; intro b3
    refine Zh5 rfl ?_; intro b4
    refine Y7 ?_
    refine Zhn 13 rfl (decide_eq_false (h28)) ?_
    refine Y4 ?_
    refine Zhm 17 rfl (decide_eq_true (hlong)) ?_
    refine V7 ?_
    refine rx2 (Zhc rfl (Zg9 rfl (Zg7))) ?_
    exact ⟨_, ⟨none, 0, rfl, rfl⟩, (Imp.arr (N := L) qV).trans Imp.own_nil⟩
  have hhl := headB_len p
  have hml := moreB_len p
  have hdl : (box.drop 12).length = box.length - 12 := List.length_drop
  refine Con.get (fun w0 w F H => hb.some (by omega) H) ?_
  rintro ⟨b0, o0, rfl⟩
  have htk : Bs L (.slice (some ⟨b0, o0, none⟩) 12 bc) (box.take 12) := hb.take (by omega)
  have he := fun ha hc => eqBytes_x (L := own 5 1 (.slice ha (headB p).length hc) (headB p).length ((headB p).map u8b) :: L) (a := box.take 12) (b := headB p) (htk.imp Imp.tail) (Bs.own .here)
  by_cases hpl : box.take 12 = headB p
  · have hfit : pgFits p box := ⟨by omega, by omega, hpl⟩
    have hdb : Bs L (.slice (some ⟨b0, o0 + 12, none⟩) (box.length - 12) (bc - 12)) (box.drop 12) := bs_drop hb (by omega) (by omega)
    have ho := fun ma mc => openRef_x (L := own 5 1 (.slice ma (moreB p).length mc) (moreB p).length ((moreB p).map u8b) :: L) key (headB p) hk (headB_len p) (Bs.own .here) (hdb.imp Imp.tail)
    by_cases hr2 : rightB key (headB p) (moreB p) (box.drop 12) = true
    · have e : pgOpenR key p box = (textB key (headB p) (box.drop 12), 0) := if_pos ⟨hfit, hr2⟩
      have eo : openR key (headB p) (moreB p) (box.drop 12) = (textB key (headB p) (box.drop 12), 0) := by unfold openR; rw [if_neg (by omega), if_neg (by omega), if_pos hr2]
      rw [e]
      rw [eo] at ho
      dsimp only at ho
      refine fn_x Tryz.func69 rfl rfl rfl Tryz.mixed (by kernel_rfl) ?_
      intro w0
      refine Y1 ?_
      refine Zh5 rfl ?_; intro b3
      refine Zh5 rfl ?_; intro b4
      refine Y7 ?_
      refine Zhn 13 rfl (decide_eq_false (h28)) ?_
      refine Y4 ?_
      refine Zhn 17 rfl (decide_eq_false (hlong)) ?_
      refine Y5 ?_
      refine Zh8 rfl (by kernel_rfl) (headR_x p) rfl qT ?_
      rintro _ _ ⟨ha, hc, rfl, rfl⟩
      refine Y5 ?_
      refine Zhg (Zm0 (h := 12) rfl rfl (by omega)) ?_
      refine Y1 ?_
      refine Zh8 rfl (by kernel_rfl) (he ha hc) rfl qT ?_
      rintro _ _ ⟨rfl, rfl⟩
      refine Y1 ?_
      refine Zhm 24 rfl (decide_eq_true (hpl)) ?_
      refine Zhg (Zb0 rfl) ?_
      refine Zhn 25 rfl (rfl) ?_
      refine V2 ?_
      refine Zij ([cl b3 (key.map u8b).toArray 23, cl b4 (plc p) 108]) [2, 3, 4] (.q 1 (.q 5 (.q 6 (.r 0 (.r 3 (.e 2 true (.e 4 true (.e 7 false (.q 8 (.q 9 (.q 10 (.q 11 (.q 12 .nil))))))))))))) (by kernel_rfl) (by kernel_rfl) (Imp.arr qV) ?_
      refine W2 ?_
      first|refine Zim rfl (Zna (l := 12) (h := box.length) rfl qB qB) ?_|refine Zim rfl (Zmz (l := 12) (h := box.length) rfl qB qB) ?_
      refine W2 ?_
      refine Ziq rfl ?_
      refine Zh8 rfl (by kernel_rfl) (nonceR_x (L := [own 5 1 (.slice ha (headB p).length hc) (headB p).length ((headB p).map u8b)]) (Bs.own .here) hhl) rfl qT ?_
      rintro _ _ ⟨rfl, rfl⟩
      refine Y1 ?_
      refine Zg3 ⟨fun _ => Imp.arr qV, ?_⟩
      refine Ziq rfl ?_
      refine Zh8 rfl (by kernel_rfl) (moreR_x p) rfl qT ?_
      rintro _ _ ⟨ma, mc, rfl, rfl⟩
      refine Y1 ?_
      refine Zg3 ⟨fun _ => Imp.arr qV, ?_⟩
      refine Ziq rfl ?_
      refine Zh8 rfl (by kernel_rfl) (ho ma mc) rfl qT ?_
      rintro _ _ ⟨xa, xc, rfl, rfl⟩
      refine Y1 ?_
      refine Zg3 ⟨(fun hh => Bool.noConfusion hh), ?_⟩
      refine W6 ?_
      refine Y3 ?_
      refine Zhn 38 rfl (decide_eq_false ((fun h => h rfl))) ?_
      refine V7 ?_
      refine rx2 (Zhc rfl (Zg9 rfl (Zg7))) ?_
      exact ⟨_, ⟨xa, xc, rfl, rfl⟩, qI⟩
    · have e : pgOpenR key p box = ([], 120) := if_neg (fun h => hr2 h.2)
      have eo : openR key (headB p) (moreB p) (box.drop 12) = ([], 70) := by unfold openR; rw [if_neg (by omega), if_neg (by omega), if_neg hr2]
      rw [e]
      rw [eo] at ho
      dsimp only at ho
      refine fn_x Tryz.func69 rfl rfl rfl Tryz.mixed (by kernel_rfl) ?_
      intro w0
      refine Y1 ?_
      refine Zh5 rfl ?_; intro b3
      refine Zh5 rfl ?_; intro b4
      refine Y7 ?_
      refine Zhn 13 rfl (decide_eq_false (h28)) ?_
      refine Y4 ?_
      refine Zhn 17 rfl (decide_eq_false (hlong)) ?_
      refine Y5 ?_
      refine Zh8 rfl (by kernel_rfl) (headR_x p) rfl qT ?_
      rintro _ _ ⟨ha, hc, rfl, rfl⟩
      refine Y5 ?_
      refine Zhg (Zm0 (h := 12) rfl rfl (by omega)) ?_
      refine Y1 ?_
      refine Zh8 rfl (by kernel_rfl) (he ha hc) rfl qT ?_
      rintro _ _ ⟨rfl, rfl⟩
      refine Y1 ?_
      refine Zhm 24 rfl (decide_eq_true (hpl)) ?_
      refine Zhg (Zb0 rfl) ?_
      refine Zhn 25 rfl (rfl) ?_
      refine V2 ?_
      refine Zij ([cl b3 (key.map u8b).toArray 23, cl b4 (plc p) 108]) [2, 3, 4] (.q 1 (.q 5 (.q 6 (.r 0 (.r 3 (.e 2 true (.e 4 true (.e 7 false (.q 8 (.q 9 (.q 10 (.q 11 (.q 12 .nil))))))))))))) (by kernel_rfl) (by kernel_rfl) (Imp.arr qV) ?_
      refine W2 ?_
      first|refine Zim rfl (Zna (l := 12) (h := box.length) rfl qB qB) ?_|refine Zim rfl (Zmz (l := 12) (h := box.length) rfl qB qB) ?_
      refine W2 ?_
      refine Ziq rfl ?_
      refine Zh8 rfl (by kernel_rfl) (nonceR_x (L := [own 5 1 (.slice ha (headB p).length hc) (headB p).length ((headB p).map u8b)]) (Bs.own .here) hhl) rfl qT ?_
      rintro _ _ ⟨rfl, rfl⟩
      refine Y1 ?_
      refine Zg3 ⟨fun _ => Imp.arr qV, ?_⟩
      refine Ziq rfl ?_
      refine Zh8 rfl (by kernel_rfl) (moreR_x p) rfl qT ?_
      rintro _ _ ⟨ma, mc, rfl, rfl⟩
      refine Y1 ?_
      refine Zg3 ⟨fun _ => Imp.arr qV, ?_⟩
      refine Ziq rfl ?_
      refine Zh8 rfl (by kernel_rfl) (ho ma mc) rfl qT ?_
      rintro _ _ ⟨xa, xc, rfl, rfl⟩
      refine Y1 ?_
      refine Zg3 ⟨(fun hh => Bool.noConfusion hh), ?_⟩
      refine W6 ?_
      refine Y3 ?_
      refine Zhm 38 rfl (decide_eq_true ((by decide))) ?_
      refine V6 ?_
      refine rx2 (Zhc rfl (Zg9 rfl (Zg7))) ?_
      exact ⟨_, ⟨none, 0, rfl, rfl⟩, (Imp.arr (N := L) qV).trans Imp.own_nil⟩
  · rw [eno (fun h => hpl h.2.2)]
    refine fn_x Tryz.func69 rfl rfl rfl Tryz.mixed (by kernel_rfl) ?_
    intro w0
    refine Y1 ?_
    refine Zh5 rfl ?_; intro b3
    refine Zh5 rfl ?_; intro b4
    refine Y7 ?_
    refine Zhn 13 rfl (decide_eq_false (h28)) ?_
    refine Y4 ?_
    refine Zhn 17 rfl (decide_eq_false (hlong)) ?_
    refine Y5 ?_
    refine Zh8 rfl (by kernel_rfl) (headR_x p) rfl qT ?_
    rintro _ _ ⟨ha, hc, rfl, rfl⟩
    refine Y5 ?_
    refine Zhg (Zm0 (h := 12) rfl rfl (by omega)) ?_
    refine Y1 ?_
    refine Zh8 rfl (by kernel_rfl) (he ha hc) rfl qT ?_
    rintro _ _ ⟨rfl, rfl⟩
    refine Y1 ?_
    refine Zhn 24 rfl (decide_eq_false (hpl)) ?_
    refine Zhg (Zb0 rfl) ?_
    refine Zhm 25 rfl (rfl) ?_
    refine V6 ?_
    refine rx2 (Zhc rfl (Zg9 rfl (Zg7))) ?_
    exact ⟨_, ⟨none, 0, rfl, rfl⟩, (Imp.arr (N := L) qV).trans Imp.own_nil⟩
end Go.Sl

/- the document's pager (trystref13): write, walked. -/
set_option maxHeartbeats 4000000
set_option maxRecDepth 10000
set_option linter.unusedVariables false
set_option linter.unusedSimpArgs false
namespace Go.Sl
open Go Go.Proofs
attribute [local irreducible] pt pur ex all den denOps denS xOps xC cX CX xthen xblk xcut xloop xng retX resX Calls PV Rd Con
attribute [local irreducible] hostA refA rpcl pcl pgSealB pgOpenR HostS.writeR HostS.readR
open PagerS (PS Over)
abbrev rpL (p : Nat) (s : PS) (c : RC) (hl : List HE) (wl : List Plc) : List Asrt := [cl p (rpcl s c) 126, ownH c.ha c.hc hl, ownW c.la c.lc wl, star rtA hl]
structure RpOk (s : PS) (c : RC) (hl : List HE) (wl : List Plc) : Prop where
  ok : PagerS.Ok s
  held : s.held = hl.map (·.2)
  hn : c.hn = hl.length
  ln : c.ln = wl.length
  last : ∀ n, s.last n = wl.find? (isPg n)
  many : wl.length ≤ s.writes
section
variable {s : PS} {c : RC} {hl : List HE} {wl : List Plc} {h : HostS.HS} {n : Int}
theorem RpOk.nodup (hk : RpOk s c hl wl) : (hl.map fun g => g.2.page).Nodup := by
  have := hk.ok.once
  unfold PagerS.numbers at this
  rw [hk.held, List.map_map] at this
  exact this
theorem RpOk.len (hk : RpOk s c hl wl) : hl.length ≤ 16 := by
  have := hk.ok.many
  have h2 := hk.ok.w1
  rw [hk.held, List.length_map] at this
  omega
theorem RpOk.mem (hk : RpOk s c hl wl) {i : Nat} (hi : i < hl.length) : hl[i].2 ∈ s.held := by
  rw [hk.held]; exact List.mem_map.2 ⟨hl[i], List.getElem_mem hi, rfl⟩
theorem RpOk.fr (hk : RpOk s c hl wl) {i : Nat} (hi : i < hl.length) : PagerS.frOf s hl[i].2.page = some hl[i].2 := by
  cases hf : PagerS.frOf s hl[i].2.page with
  | none => exact absurd (List.mem_map.2 ⟨_, hk.mem hi, rfl⟩) (PagerS.frOf_none hf)
  | some f =>
    obtain ⟨h1, h2⟩ := PagerS.frOf_mem hf
    rw [PagerS.once_of hk.ok h1 (hk.mem hi) h2]
theorem RpOk.ver (hk : RpOk s c hl wl) (n : Int) : ((wl.find? (isPg n)).getD plc0).version = PagerS.verOf s n := by
  unfold PagerS.verOf
  rw [hk.last]
  cases wl.find? (isPg n) <;> rfl
/-- A held page is written; the error is not kept yet. -/
def rwriteP (s : PS) (h : HostS.HS) (n : Int) : Nat × PS × HostS.HS := if (HostS.writeR h n (PagerS.boxOf s n)).1 = 0 then (0, PagerS.wroteP s n, (HostS.writeR h n (PagerS.boxOf s n)).2) else ((HostS.writeR h n (PagerS.boxOf s n)).1, s, (HostS.writeR h n (PagerS.boxOf s n)).2)
theorem rwriteP_ok (h0 : (HostS.writeR h n (PagerS.boxOf s n)).1 = 0) : rwriteP s h n = (0, PagerS.wroteP s n, (HostS.writeR h n (PagerS.boxOf s n)).2) := if_pos h0
theorem rwriteP_no (h0 : (HostS.writeR h n (PagerS.boxOf s n)).1 ≠ 0) : rwriteP s h n = ((HostS.writeR h n (PagerS.boxOf s n)).1, s, (HostS.writeR h n (PagerS.boxOf s n)).2) := if_neg h0
def washH (hl : List HE) (i : Nat) (hi : i < hl.length) : List HE := hl.set i (hl[i].1, { hl[i].2 with is := 1 })
theorem washH_len {i : Nat} (hi : i < hl.length) : (washH hl i hi).length = hl.length := by unfold washH; simp
theorem flat_set {α : Type} {enc : α → List Value} {sz j : Nat} {v : Value} {y : α} (he : ∀ a, (enc a).length = sz) (hj : j < sz) : ∀ (l : List α) (i : Nat) (hi : i < l.length), (enc l[i]).set j v = enc y → (l.flatMap enc).set (i * sz + j) v = (l.set i y).flatMap enc := by
  intro l
  induction l with
  | nil => intro i hi; simp at hi
  | cons x r ih =>
    intro i hi hv
    cases i with
    | zero =>
      simp only [List.getElem_cons_zero] at hv
      rw [List.set_cons_zero, List.flatMap_cons, List.flatMap_cons, List.set_append_left _ _ (by rw [he]; omega), Nat.zero_mul, Nat.zero_add, hv]
    | succ i =>
      have hi : i < r.length := by simpa using hi
      simp only [List.getElem_cons_succ] at hv
      rw [List.set_cons_succ, List.flatMap_cons, List.flatMap_cons, List.set_append_right _ _ (by rw [he, Nat.succ_mul]; omega), he, show (i + 1) * sz + j - sz = i * sz + j by rw [Nat.succ_mul]; omega, ih i hi hv]
theorem washH_put {g hc i : Nat} (hi : i < hl.length) {rest : List Value} {M : List Asrt} (hnc : hl.length ≤ hc) (hcm : hc ≤ 9223372036854775807) (hr : rest.length + hl.length * 3 = hc * 3) : Imp (cl g ((hl.flatMap rhe ++ rest).toArray.setIfInBounds (i * 3 + 2) (.bool false)) 129 :: M) (ownH (some ⟨g, 0, none⟩) hc (washH hl i hi) :: M) := by
  have h3 := flat_len rhe_len hl
  refine Imp.own_mk (E := 129) (size := 3) (n := (washH hl i hi).length) (cap := hc) (g := g) (xs := (washH hl i hi).flatMap rhe) (by rw [washH_len]; exact hnc) hcm (by simp [h3]; omega) ?_
  rw [washH_len, Array.toList_setIfInBounds]
  show ((hl.flatMap rhe ++ rest).set (i * 3 + 2) (.bool false)).take (hl.length * 3) = _
  rw [List.set_append_left _ _ (by rw [h3]; omega), List.take_left' (by rw [List.length_set, h3])]
  exact flat_set rhe_len (by omega) hl i hi rfl
theorem washH_held (hk : RpOk s c hl wl) {i : Nat} (hi : i < hl.length) : PagerS.cleaned s.held hl[i].2.page = (washH hl i hi).map (·.2) := by
  unfold PagerS.cleaned washH
  rw [hk.held, List.map_map]
  apply List.ext_getElem
  · simp
  · intro j h1 h2
    rw [List.getElem_map, List.getElem_map, List.getElem_set]
    have hj : j < hl.length := by simpa using h1
    by_cases e : i = j
    · subst e
      simp
    · rw [if_neg e]
      have hne : hl[j].2.page ≠ hl[i].2.page := by
        intro hh
        have := (List.getElem_inj (xs := hl.map fun g => g.2.page) (i := j) (j := i) (h₀ := by simpa using hj) (h₁ := by simpa using hi) hk.nodup).1 (by simpa using hh)
        exact e this.symm
      simp [hne]
theorem washH_star {i : Nat} (hi : i < hl.length) {M : List Asrt} : Imp (star rtA hl :: M) (star rtA (washH hl i hi) :: M) :=
  (star_at hi).trans (star_back (A := rtA) hi (hl[i].1, { hl[i].2 with is := 1 }))
theorem not_pg (n : Int) (q : Plc) : (!(isPg n q)) = decide (¬ (q.page.toNat : Int) = n) := by
  unfold isPg
  by_cases h : (q.page.toNat : Int) = n <;> simp [h]
theorem rest_find (n m : Int) (wl : List Plc) (q : Plc) (hq : (q.page.toNat : Int) = n) : ((wl.filter fun x => !(isPg n x)) ++ [q]).find? (isPg m) = if m = n then some q else wl.find? (isPg m) := by
  rw [List.find?_append]
  by_cases e : m = n
  · subst e
    rw [if_pos rfl, List.find?_eq_none.2 (by
      intro x hx
      have := (List.mem_filter.1 hx).2
      simpa using this)]
    simp [isPg, hq]
  · rw [if_neg e]
    have e1 : (wl.filter fun x => !(isPg n x)).find? (isPg m) = wl.find? (isPg m) := by
      rw [List.find?_filter]
      congr 1
      funext x
      unfold isPg
      by_cases hx : (x.page.toNat : Int) = m
      · simp [hx, e]
      · simp [hx]
    rw [e1]
    cases wl.find? (isPg m) with
    | some x => rfl
    | none =>
      have : ¬ (q.page.toNat : Int) = m := fun hh => e (by omega)
      simp [isPg, this]
end
section
variable {p : Nat} {s : PS} {c : RC} {h : HostS.HS} {fl : List HostS.Fault}
theorem rwrite_x {hl : List HE} {wl : List Plc} (hk : RpOk s c hl wl) (hov : Over s h) (hops : h.ops < 3518437208880) (hw : s.writes < 4294967295) {i : Nat} (hi : i < hl.length) :
    Con Tryz.prog 70 [hp p, nvv i] (rpL p s c hl wl ++ [refA c.q h fl]) (fun r M => r = nvv (rwriteP s h hl[i].2.page).1 ∧ ∃ c' hl' wl', RpOk (rwriteP s h hl[i].2.page).2.1 c' hl' wl' ∧ c'.q = c.q ∧ M = rpL p (rwriteP s h hl[i].2.page).2.1 c' hl' wl' ++ [refA c.q (rwriteP s h hl[i].2.page).2.2 fl]) := by
  have hkey := hk.ok.key
  have hl16 := hk.len
  have hfr := hk.fr hi
  have htx : PagerS.textOf s hl[i].2.page = hl[i].2.text := by unfold PagerS.textOf; rw [hfr]; rfl
  have htl : hl[i].2.text.length = s.text := hk.ok.len _ (hk.mem hi)
  have hpr := hk.ok.there _ (hk.mem hi)
  have hp1 := hk.ok.p1
  have ht1 := hk.ok.t1
  have hver := hk.ver hl[i].2.page
  have hwm := hk.many
  have hbox : PagerS.boxOf s hl[i].2.page = pgSealB s.key (PagerS.nextPl s hl[i].2.page) hl[i].2.text := by unfold PagerS.boxOf; rw [htx]
  have hbl : (pgSealB s.key (PagerS.nextPl s hl[i].2.page) hl[i].2.text).length = s.text + 28 := by rw [pgSealB_len, htl]
  obtain ⟨q, ha, hn, hc, la, ln, lc, took⟩ := c
  have hhn := hk.hn
  have hln := hk.ln
  dsimp only at hhn hln ⊢
  subst hhn hln
  have hpl := rplace_x (p := p) (s := s) (c := ⟨q, ha, hl.length, hc, la, wl.length, lc, took⟩) (wl := wl) hkey (by have := hk.ok.writes; omega) rfl hl[i].2.page
  dsimp only at hpl
  generalize (wl.find? (isPg hl[i].2.page)).getD plc0 = op at hver hpl
  have enx : PagerS.nextPl s hl[i].2.page = ⟨s.round, BitVec.ofNat 32 s.writes, BitVec.ofInt 32 hl[i].2.page, op.version + 1#32⟩ := by unfold PagerS.nextPl; rw [hver]
  have epg : ((PagerS.nextPl s hl[i].2.page).page.toNat : Int) = hl[i].2.page := by
    show ((BitVec.ofInt 32 hl[i].2.page).toNat : Int) = hl[i].2.page
    rw [BitVec.toNat_ofInt]; omega
  have hsz := rp_size (s := s) (c := ⟨q, ha, hl.length, hc, la, wl.length, lc, took⟩) hkey
  refine Con.get (fun w0 w F H => own_someN (n := hl.length) (a := ha) (.there .here) (by omega) H) ?_
  rintro ⟨g, rfl⟩
  have hseal := fun (M : List Asrt) (M' : List Asrt) (hm : Has M (star rtA hl) M') => pgSealRef_x (L := M) s.key hkey (PagerS.nextPl s hl[i].2.page) (text := hl[i].2.text) (vt := .slice hl[i].1.1 hl[i].2.text.length hl[i].1.2) (by
    obtain ⟨R, hR⟩ := star_has (A := rtA) (List.getElem_mem hi) hm
    exact (Bs.own .here).imp hR) (by omega)
  rw [pgSealR_ok _ _ _ (by omega)] at hseal
  have hwr := fun xa xc => ra_write (q := q) (s := h) (fl := fl) (L := [own 5 1 (.slice xa (pgSealB s.key (PagerS.nextPl s hl[i].2.page) hl[i].2.text).length xc) (pgSealB s.key (PagerS.nextPl s hl[i].2.page) hl[i].2.text).length ((pgSealB s.key (PagerS.nextPl s hl[i].2.page) hl[i].2.text).map u8b)]) hl[i].2.page (Bs.own .here) (by omega) hops
  rw [← hbox] at hwr hseal
  rw [← hbox] at hbl
  dsimp only at hseal
  simp only [List.cons_append, List.nil_append]
  refine fn_x Tryz.func70 rfl rfl rfl Tryz.mixed (by kernel_rfl) ?_
  intro w0
  refine Y7 ?_
  refine Zhp rfl qH (rp_f hkey (k := 4) rfl) ?_
  refine Y3 ?_
  refine Zff rfl (((Rd.own (n := hl.length) qH).atN0 (j := 0) rhe_len hi (by omega) rfl)) ?_
  refine Y5 ?_
  refine Zh8 rfl (by kernel_rfl) (hpl) rfl qT ?_
  rintro _ _ ⟨rfl, rfl⟩
  refine Y4 ?_
  refine Zhz (cs := #[u64b 0#64, u32b 0#32, u32b 0#32, u32b 0#32]) rfl ?_; intro b6
  first|refine Zhy rfl rfl qR qZ (by first|rfl|exact oneM_u8 _|exact oneL_u8 _|exact rhe_one _|exact wpc_one _|assumption|(simp [oneC]; done)) qZ ?_|refine Zhx rfl rfl qR qZ (by first|rfl|exact oneM_u8 _|exact oneL_u8 _|exact rhe_one _|exact wpc_one _|assumption|(simp [oneC]; done)) qZ rfl ?_
  refine V2 ?_
  refine Zij (_) [7, 8, 12, 13, 15] (.q 0 (.q 1 (.q 2 (.q 4 (.q 5 (.q 6 (.q 9 (.q 10 (.q 11 (.r 3 (.r 7 (.r 8 (.r 12 (.r 13 (.q 14 (.a 15 (.e 16 false .nil))))))))))))))))) (by kernel_rfl) (by kernel_rfl) (Imp.refl _) ?_
  refine W7 ?_
  refine Zim rfl (Zk6 rfl) ?_
  refine W1 ?_
  refine Ziv rfl rfl qH (rp_f hkey (k := 0) rfl) ?_
  refine Ziv rfl rfl qH (rp_f hkey (k := 7) rfl) ?_
  refine Ziz rfl (Zk6 rfl) ?_
  refine Ziv rfl rfl qH ((by rfl)) ?_
  refine Ziz rfl (Zkn (y := 1#32) rfl rfl) ?_
  refine Zim rfl (Zdm (cs := plc ⟨s.round, BitVec.ofNat 32 s.writes, BitVec.ofInt 32 hl[i].2.page, op.version + 1#32⟩) rfl) ?_
  refine Zir rfl (cs := #[u64b 0#64, u32b 0#32, u32b 0#32, u32b 0#32]) rfl ?_; intro b8
  refine Ziq rfl ?_
  first|refine Zhy rfl rfl qR qZ (by first|rfl|exact oneM_u8 _|exact oneL_u8 _|exact rhe_one _|exact wpc_one _|assumption|(simp [oneC]; done)) qZ ?_|refine Zhx rfl rfl qR qZ (by first|rfl|exact oneM_u8 _|exact oneL_u8 _|exact rhe_one _|exact wpc_one _|assumption|(simp [oneC]; done)) qZ rfl ?_
  refine Zg3 ⟨(fun hh => Bool.noConfusion hh), ?_⟩
  refine Zik ?_
  refine Ct.o ?_
  rw [← enx]
  refine Ct.o ?_
  refine Zij ([cl p (rpcl s ⟨q, some ⟨g, 0, none⟩, hl.length, hc, la, wl.length, lc, took⟩) 126, cl b8 (plc (PagerS.nextPl s hl[i].2.page)) 108, ownH (some ⟨g, 0, none⟩) hc hl]) [4, 8, 10, 11, 12] (.q 0 (.q 1 (.q 2 (.q 5 (.q 6 (.q 7 (.q 9 (.r 3 (.r 4 (.r 8 (.r 10 (.r 11 (.r 12 (.e 13 false (.q 14 (.q 15 (.q 16 (.q 17 (.q 18 .nil))))))))))))))))))) (by kernel_rfl) (by kernel_rfl) (Imp.arr qV) ?_
  refine W7 ?_
  refine Zix (n := 32) rfl rfl qH qZ (rp_key hkey) ?_
  refine W1 ?_
  refine Ziv rfl rfl qH (rp_f hkey (k := 4) rfl) ?_
  refine W2 ?_
  refine Zfh rfl rfl (((Rd.own (n := hl.length) qH).atN0 (j := 1) rhe_len hi (by omega) rfl)) ?_
  refine Ziq rfl ?_
  refine Zh8 rfl (by kernel_rfl) (hseal [star rtA hl] [] .here) rfl qT ?_
  rintro _ _ ⟨xa, xc, rfl, rfl⟩
  refine Y1 ?_
  refine Zg3 ⟨(fun hh => Bool.noConfusion hh), ?_⟩
  refine W6 ?_
  refine Y3 ?_
  refine Zhn 60 rfl (decide_eq_false ((fun h => h rfl))) ?_
  refine Y6 ?_
  refine Zhp rfl qH (rp_st) ?_
  refine Y2 ?_
  refine Zh8 rfl (by kernel_rfl) (hwr xa xc) rfl qT ?_
  rintro _ _ ⟨rfl, rfl⟩
  refine V3 ?_
  by_cases h0 : (HostS.writeR h hl[i].2.page (PagerS.boxOf s hl[i].2.page)).1 = 0
  · rw [rwriteP_ok h0]
    refine Y3 ?_
    refine Zhn 70 rfl (decide_eq_false ((fun hh => hh h0))) ?_
    refine V8 ?_
    have hfl : ∀ k, ((wl.take k).filter fun x => !(isPg hl[i].2.page x)).length ≤ wl.length := fun k => Nat.le_trans (List.length_filter_le _ _) (List.length_take_le' k wl)
    have hwr2 := hk.ok.writes
    refine Zgo [(11, 12), (72, 102)] (by kernel_rfl) (fun t : Nat × Option Addr × Nat => t.1 ≤ wl.length) (fun t => [ownW t.2.1 t.2.2 ((wl.take t.1).filter fun x => !(isPg hl[i].2.page x)), cl p (rpcl s ⟨q, some ⟨g, 0, none⟩, hl.length, hc, la, wl.length, lc, took⟩) 126, ownH (some ⟨g, 0, none⟩) hc hl, ownW la lc wl, star rtA hl, cl b8 (plc (PagerS.nextPl s hl[i].2.page)) 108, refA q (HostS.writeR h hl[i].2.page (PagerS.boxOf s hl[i].2.page)).2 fl]) (fun t => [(11, .slice t.2.1 ((wl.take t.1).filter fun x => !(isPg hl[i].2.page x)).length t.2.2), (12, nvv t.1)]) (fun t => wl.length - t.1) (0, none, 0) (Nat.zero_le _) ((Imp.own_nil (E := 150) (size := 4)).trans qI) ⟨rfl, rfl, trivial⟩ ?_
    rintro ⟨j, a5, c5⟩ u hj
    dsimp only at hj ⊢
    refine Y5 ?_
    refine Zhp rfl qH (rp_f hkey (k := 5) rfl) ?_
    refine V3 ?_
    refine Zgg rfl (fun hB => ?_) (fun hB => ?_)
    · replace hB : j < wl.length := hB
      refine Zgt (fun F w H => own_someN (n := wl.length) (a := la) (.there (.there (.there .here))) (by omega) H) ?_
      rintro ⟨g2, rfl⟩
      have hle := hfl j
      refine Ct.o ?_
      have e1 : (wl.take (j + 1)).filter (fun x => !(isPg hl[i].2.page x)) = (wl.take j).filter (fun x => !(isPg hl[i].2.page x)) ++ if (!(isPg hl[i].2.page wl[j])) then [wl[j]] else [] := by
        rw [List.take_succ_eq_append_getElem hB, List.filter_append]
        congr 1
        by_cases h : (!(isPg hl[i].2.page wl[j])) = true <;> simp [List.filter_cons, h]
      rw [not_pg] at e1
      by_cases hpg : (wl[j].page.toNat : Int) = hl[i].2.page
      · rw [decide_eq_false (fun h => h hpg)] at e1
        rw [if_neg (by simp), List.append_nil] at e1
        refine Y4 ?_
        refine Zhp rfl qH (rp_f hkey (k := 5) rfl) ?_
        refine Y4 ?_
        refine Zff rfl (((Rd.own (n := wl.length) (.there (.there (.there .here)))).atN0 (j := 2) wpc_len hB (by omega) rfl)) ?_
        refine Zhg (Zk7 rfl) ?_
        refine Y1 ?_
        refine Zhg (Zbs (a := (wl[j].page.toNat : Int)) (b := hl[i].2.page) rfl rfl) ?_
        refine Zhn 92 rfl (decide_eq_false ((fun h => h hpg))) ?_
        refine V7 ?_
        exact Zgl (j + 1, a5, c5) qO (by dsimp only; omega) (by dsimp only; rw [e1]; exact qI) ⟨by dsimp only; rw [e1]; rfl, rfl, trivial⟩
      · rw [decide_eq_true hpg, if_pos rfl] at e1
        refine Y4 ?_
        refine Zhp rfl qH (rp_f hkey (k := 5) rfl) ?_
        refine Y4 ?_
        refine Zff rfl (((Rd.own (n := wl.length) (.there (.there (.there .here)))).atN0 (j := 2) wpc_len hB (by omega) rfl)) ?_
        refine Zhg (Zk7 rfl) ?_
        refine Y1 ?_
        refine Zhg (Zbs (a := (wl[j].page.toNat : Int)) (b := hl[i].2.page) rfl rfl) ?_
        refine Zhm 92 rfl (decide_eq_true (hpg)) ?_
        refine V2 ?_
        generalize hE : (wl.take j).filter (fun x => !(isPg hl[i].2.page x)) = E at *
        refine Y5 ?_
        refine Zhp rfl qH (rp_f hkey (k := 5) rfl) ?_
        refine Y2 ?_
        refine Zfg rfl ((Rd.own (n := wl.length) (.there (.there (.there .here)))).agN0 wpc_len (by omega) hB) ?_
        refine Zh7 (cs := (wpc wl[j]).toArray) (by omega) (by omega) (by exact fill_one rfl rfl) ?_; intro b101
        refine Zia rfl rfl qH (Rd.cl (xs := wpc wl[j]) qH rfl qZ rfl) (by first|rfl|exact oneM_u8 _|exact oneL_u8 _|exact rhe_one _|exact wpc_one _|assumption|(simp [oneC]; done)) (by omega) qS ?_; intro a6 c6
        refine V2 ?_
        have e2 : (E ++ [wl[j]]).length = E.length + 1 := by simp
        have e3 : (E ++ [wl[j]]).flatMap wpc = E.flatMap wpc ++ wpc wl[j] := by simp
        refine V5 ?_
        exact Zgl (j + 1, a6, c6) qO (by dsimp only; omega) (by dsimp only; rw [e1]; unfold ownW; rw [e2, e3]; exact qI) ⟨by dsimp only; rw [e1, e2]; rfl, rfl, trivial⟩
    · replace hB : ¬ j < wl.length := hB
      have hje : j = wl.length := by omega
      subst hje
      have hfe := hfl wl.length
      have hfind := fun m => rest_find hl[i].2.page m wl (PagerS.nextPl s hl[i].2.page) epg
      rw [List.take_length] at hfe ⊢
      generalize wl.filter (fun x => !(isPg hl[i].2.page x)) = E at *
      refine Y4 ?_
      refine Zhg (Zdm (cs := plc (PagerS.nextPl s hl[i].2.page)) (by kernel_rfl)) ?_
      refine Zh7 (cs := (wpc (PagerS.nextPl s hl[i].2.page)).toArray) (by omega) (by omega) (by exact fill_one rfl rfl) ?_; intro b107
      refine Zia rfl rfl qH (Rd.cl (xs := wpc (PagerS.nextPl s hl[i].2.page)) qH rfl qZ rfl) (by first|rfl|exact oneM_u8 _|exact oneL_u8 _|exact rhe_one _|exact wpc_one _|assumption|(simp [oneC]; done)) (by omega) qS ?_; intro a6 c6
      refine Y2 ?_
      refine Zhw rfl rfl qR qZ (rp_s (s := s) (c := ⟨q, some ⟨g, 0, none⟩, hl.length, hc, la, wl.length, lc, took⟩) (s' := s) (c' := ⟨q, some ⟨g, 0, none⟩, hl.length, hc, a6, E.length + 1, c6, took⟩) hkey (k := 5) rfl rfl rfl) ?_
      refine V1 ?_
      have hsz2 := rp_size (s := s) (c := ⟨q, some ⟨g, 0, none⟩, hl.length, hc, a6, E.length + 1, c6, took⟩) hkey
      refine Y5 ?_
      refine Zhp rfl qH (rp_f hkey (k := 7) rfl) ?_
      refine Y3 ?_
      refine Zht rfl rfl qR qZ (rp_s (s := s) (c := ⟨q, some ⟨g, 0, none⟩, hl.length, hc, a6, E.length + 1, c6, took⟩) (s' := PagerS.wroteP s hl[i].2.page) (c' := ⟨q, some ⟨g, 0, none⟩, hl.length, hc, a6, E.length + 1, c6, took⟩) hkey (k := 7) rfl rfl rfl) ?_
      refine V1 ?_
      refine Znz (E := 129) (sz := 3) (n := hl.length) (a := some ⟨g, 0, none⟩) (cp := hc) qH (by omega) ?_
      rintro g3 rest hg hnc hcm hr
      obtain rfl : g = g3 := by simpa using hg
      have hfl3 : (hl.flatMap rhe).length = hl.length * 3 := flat_len rhe_len hl
      have hsz3 : (hl.flatMap rhe ++ rest).toArray.size = hc * 3 := by simp [hfl3]; omega
      refine Y4 ?_
      refine Zhp rfl qH (rp_f (s := PagerS.wroteP s hl[i].2.page) (c := ⟨q, some ⟨g, 0, none⟩, hl.length, hc, a6, E.length + 1, c6, took⟩) hkey (k := 4) rfl) ?_
      refine V8 ?_
      refine rx1 (Zg9 rfl (Zg7)) ?_
      refine ⟨_, ⟨rfl, ⟨q, some ⟨g, 0, none⟩, hl.length, hc, a6, E.length + 1, c6, took⟩, washH hl i hi, E ++ [PagerS.nextPl s hl[i].2.page], ⟨PagerS.ok_wrote hk.ok _ hw, washH_held hk hi, (washH_len hi).symm, by simp, fun m => ?_, by simp; show E.length + 1 ≤ s.writes + 1; omega⟩, rfl, rfl⟩, ?_⟩
      · rw [hfind m]
        show HostS.setF s.last hl[i].2.page (some (PagerS.nextPl s hl[i].2.page)) m = _
        unfold HostS.setF
        rw [hk.last]
      · have e2 : (E ++ [PagerS.nextPl s hl[i].2.page]).length = E.length + 1 := by simp
        have e3 : (E ++ [PagerS.nextPl s hl[i].2.page]).flatMap wpc = E.flatMap wpc ++ wpc (PagerS.nextPl s hl[i].2.page) := by simp
        unfold ownW
        rw [e2, e3]
        dsimp only
        exact ((Imp.arr qV).trans (washH_put (hl := hl) hi hnc hcm hr)).trans ((Imp.arr (N := star rtA hl :: cl p (rpcl (PagerS.wroteP s hl[i].2.page) ⟨q, some ⟨g, 0, none⟩, hl.length, hc, a6, E.length + 1, c6, took⟩) 126 :: ownH (some ⟨g, 0, none⟩) hc (washH hl i hi) :: own 150 4 (.slice a6 (E.length + 1) c6) (E.length + 1) (E.flatMap wpc ++ wpc (PagerS.nextPl s hl[i].2.page)) :: [refA q (HostS.writeR h hl[i].2.page (PagerS.boxOf s hl[i].2.page)).2 fl]) qV).trans ((washH_star hi).trans qI))
  · rw [rwriteP_no h0]
    refine Y3 ?_
    refine Zhm 70 rfl (decide_eq_true (h0)) ?_
    refine V6 ?_
    refine rx1 (Zg9 rfl (Zg7)) ?_
    exact ⟨_, ⟨rfl, _, hl, wl, hk, rfl, rfl⟩, qI⟩
end
end Go.Sl

/- pager: room, walked; what stays of a host under a pager. -/
set_option maxHeartbeats 4000000
set_option maxRecDepth 10000
set_option linter.unusedVariables false
set_option linter.unusedSimpArgs false
namespace Go.Sl
open Go Go.Proofs
attribute [local irreducible] pt pur ex all den denOps denS xOps xC cX CX xthen xblk xcut xloop xng retX resX Calls PV Rd Con
attribute [local irreducible] hostA pcl pgSealB pgOpenR PagerS.writeP frA
open PagerS (PS Over)
theorem does_ps (h : HostS.HS) (op page : Int) (b : HostS.Bytes) (act : HostS.HS → HostS.HS) (ha : ∀ s, (act s).pages = s.pages ∧ (act s).size = s.size ∧ (act s).ops = s.ops) : (HostS.does h op page b act).1.pages = h.pages ∧ (HostS.does h op page b act).1.size = h.size ∧ (HostS.does h op page b act).1.ops ≤ h.ops + 1 := by
  have h2 := ha (HostS.logged h op page b)
  unfold HostS.does
  split
  · exact ⟨rfl, rfl, Nat.le_succ _⟩
  · dsimp only
    split
    · exact ⟨rfl, rfl, Nat.le_refl _⟩
    · split
      · exact ⟨h2.1, h2.2.1, Nat.le_of_eq h2.2.2⟩
      · exact ⟨h2.1, h2.2.1, Nat.le_of_eq h2.2.2⟩
theorem writeR_ps (h : HostS.HS) (page : Int) (b : HostS.Bytes) : (HostS.writeR h page b).2.pages = h.pages ∧ (HostS.writeR h page b).2.size = h.size ∧ (HostS.writeR h page b).2.ops ≤ h.ops + 1 := by
  unfold HostS.writeR
  split
  · split
    · exact does_ps h 1 page b _ (fun _ => ⟨rfl, rfl, rfl⟩)
    · exact ⟨rfl, rfl, Nat.le_succ _⟩
  · exact ⟨rfl, rfl, Nat.le_succ _⟩
theorem readR_ps (h : HostS.HS) (page : Int) : (HostS.readR h page).2.2.pages = h.pages ∧ (HostS.readR h page).2.2.size = h.size ∧ (HostS.readR h page).2.2.ops ≤ h.ops + 1 := by
  have d := does_ps h 0 page [] id (fun _ => ⟨rfl, rfl, rfl⟩)
  unfold HostS.readR
  split
  · dsimp only
    split
    · exact d
    · exact d
  · exact ⟨rfl, rfl, Nat.le_succ _⟩
section
variable {s : PS} {h : HostS.HS}
theorem writeP_cases (s : PS) (h : HostS.HS) (n : Int) : (PagerS.writeP s h n = (130, PagerS.die s 130, h)) ∨ (∃ e, e ≠ 0 ∧ e ≤ 1000 ∧ PagerS.writeP s h n = (e, PagerS.die s e, (HostS.writeR h n (PagerS.boxOf s n)).2)) ∨ (s.writes ≠ 4294967295 ∧ PagerS.writeP s h n = (0, PagerS.wroteP s n, (HostS.writeR h n (PagerS.boxOf s n)).2)) := by
  by_cases hw : s.writes = 4294967295
  · exact .inl (writeP_worn hw)
  · by_cases h0 : (HostS.writeR h n (PagerS.boxOf s n)).1 = 0
    · exact .inr (.inr ⟨hw, writeP_ok hw h0⟩)
    · exact .inr (.inl ⟨_, h0, writeR_err _ _ _, writeP_no hw h0⟩)
theorem writeP_over (n : Int) (ho : Over s h) : Over (PagerS.writeP s h n).2.1 (PagerS.writeP s h n).2.2 ∧ (PagerS.writeP s h n).2.2.ops ≤ h.ops + 1 := by
  obtain ⟨w1, w2, w3⟩ := writeR_ps h n (PagerS.boxOf s n)
  rcases writeP_cases s h n with e|⟨x, _, _, e⟩|⟨_, e⟩ <;> rw [e]
  · exact ⟨⟨ho.pages, ho.size⟩, Nat.le_succ _⟩
  · exact ⟨⟨w1.trans ho.pages, w2.trans ho.size⟩, w3⟩
  · exact ⟨⟨w1.trans ho.pages, w2.trans ho.size⟩, w3⟩
end
section
variable {p ph : Nat} {s : PS} {h : HostS.HS}
theorem pwrite_x (hov : Over s h) (hops : h.ops < 3518437208880) (n : Int) (hn : n ∈ PagerS.numbers s) :
    Con Tryz.prog 63 [hp p, .int .i64 n] [pgA p ph s, hostA ph h] (fun r M => r = nvv (PagerS.writeP s h n).1 ∧ M = [pgA p ph (PagerS.writeP s h n).2.1, hostA ph (PagerS.writeP s h n).2.2]) :=
  Con.pgA fun c l hk => by
    have : n ∈ fpages l := by
      unfold PagerS.numbers at hn
      rw [hk.held, List.map_map] at hn
      exact hn
    obtain ⟨i, hi, rfl⟩ := List.mem_iff_getElem.1 this
    have hi' : i < l.length := by simpa [fpages] using hi
    have e : (fpages l)[i] = l[i].1.page := by simp [fpages]
    rw [e]
    exact (pwrite_g hk hov hops hi').mono fun r M ⟨h1, l', h2, h3⟩ => by
      subst h3; exact ⟨_, pgA_mk h2, h1, rfl⟩
end
end Go.Sl

/- the document's pager (trystref13): a pager as one piece; room, walked. -/
set_option maxHeartbeats 4000000
set_option maxRecDepth 10000
set_option linter.unusedVariables false
set_option linter.unusedSimpArgs false
namespace Go.Sl
open Go Go.Proofs
attribute [local irreducible] pt pur ex all den denOps denS xOps xC cX CX xthen xblk xcut xloop xng retX resX Calls PV Rd Con
attribute [local irreducible] hostA refA rpcl pcl pgSealB pgOpenR HostS.writeR HostS.readR
open PagerS (PS Over)
abbrev RpT := RC × List HE × List Plc
def rpB (p q : Nat) (s : PS) (t : RpT) : Asrt := all (pur (RpOk s t.1 t.2.1 t.2.2 ∧ t.1.q = q) :: rpL p s t.1 t.2.1 t.2.2)
/-- The document's pager over the host at q. -/
def rpA (p q : Nat) (s : PS) : Asrt := ex (rpB p q s)
section
variable {p q : Nat} {s : PS} {L : List Asrt}
theorem rpA_mk {c : RC} {hl : List HE} {wl : List Plc} (h : RpOk s c hl wl) (hq : c.q = q) : Imp (rpL p s c hl wl ++ L) (rpA p q s :: L) :=
  ((Imp.pur_mk (And.intro h hq)).trans (Imp.app (L := pur (RpOk s c hl wl ∧ c.q = q) :: rpL p s c hl wl))).trans (Imp.head fun f h => by unfold rpA Sl.ex; exact Exists.intro (p := fun x => (rpB p q s x).on f) (c, hl, wl) h)
theorem Con.rpA {F : FuncId} {args : List Value} {Φ : Value → List Asrt → Prop} (h : ∀ (c : RC) (hl : List HE) (wl : List Plc), RpOk s c hl wl → c.q = q → Con Tryz.prog F args (rpL p s c hl wl ++ L) Φ) : Con Tryz.prog F args (Sl.rpA p q s :: L) Φ :=
  Con.ex fun t => Con.pre (Con.pur fun hk => h t.1 t.2.1 t.2.2 hk.1 hk.2) (Imp.unapp (L := Sl.pur (RpOk s t.1 t.2.1 t.2.2 ∧ t.1.q = q) :: rpL p s t.1 t.2.1 t.2.2))
theorem rp_die {c : RC} {hl : List HE} {wl : List Plc} (hk : RpOk s c hl wl) {e : Nat} (he : e ≤ 1000) : RpOk (PagerS.die s e) c hl wl := ⟨PagerS.ok_die hk.ok e he, hk.held, hk.hn, hk.ln, hk.last, hk.many⟩
theorem rp_tail {c : RC} {hl : List HE} {wl : List Plc} (hk : RpOk s c hl wl) (a : Option Addr) (c' : Nat) : RpOk { s with held := s.held.tail } { c with ha := a, hn := (hl.eraseIdx 0).length, hc := c' } (hl.eraseIdx 0) wl :=
  ⟨PagerS.ok_tail hk.ok, by show s.held.tail = _; rw [hk.held]; cases hl <;> rfl, rfl, hk.ln, hk.last, hk.many⟩
end
section
variable {p q : Nat} {s : PS} {h : HostS.HS} {fl : List HostS.Fault}
theorem star_tail {α : Type} {A : α → Asrt} {l : List α} {M : List Asrt} : Imp (star A l :: M) (star A (l.eraseIdx 0) :: M) := by
  cases l with
  | nil => exact Imp.refl _
  | cons x r => exact star_uncons.trans Imp.tail
theorem roomP_few (hw : s.held.length < s.window) : PagerS.roomP s h = (0, s, h) := by unfold PagerS.roomP; rw [if_pos hw]
theorem roomP_drop {n : Int} (hw : ¬ s.held.length < s.window) (hn : (s.held.head?.map PagerS.Fr.page).getD 0 = n) (hc : PagerS.changedAt s n = false) : PagerS.roomP s h = (0, { s with held := s.held.tail }, h) := by
  unfold PagerS.roomP; rw [if_neg hw]; dsimp only; rw [hn, hc]; rfl
theorem roomP_ok {n : Int} (hw : ¬ s.held.length < s.window) (hn : (s.held.head?.map PagerS.Fr.page).getD 0 = n) (hc : PagerS.changedAt s n = true) (hs : s.writes ≠ 4294967295) (h0 : (HostS.writeR h n (PagerS.boxOf s n)).1 = 0) : PagerS.roomP s h = (0, { PagerS.wroteP s n with held := (PagerS.wroteP s n).held.tail }, (HostS.writeR h n (PagerS.boxOf s n)).2) := by
  unfold PagerS.roomP; rw [if_neg hw]; dsimp only; rw [hn, hc, if_pos rfl, writeP_ok hs h0]; rfl
theorem roomP_no {n : Int} (hw : ¬ s.held.length < s.window) (hn : (s.held.head?.map PagerS.Fr.page).getD 0 = n) (hc : PagerS.changedAt s n = true) (hs : s.writes ≠ 4294967295) (h0 : (HostS.writeR h n (PagerS.boxOf s n)).1 ≠ 0) : PagerS.roomP s h = ((HostS.writeR h n (PagerS.boxOf s n)).1, PagerS.die s (HostS.writeR h n (PagerS.boxOf s n)).1, (HostS.writeR h n (PagerS.boxOf s n)).2) := by
  unfold PagerS.roomP; rw [if_neg hw]; dsimp only; rw [hn, hc, if_pos rfl, writeP_no hs h0]; dsimp only; rw [if_neg h0]
theorem rroom_x (hov : Over s h) (hops : h.ops < 3518437208880) (hw : s.writes < 4294967295) :
    Con Tryz.prog 66 [hp p] [rpA p q s, refA q h fl] (fun r M => r = nvv (PagerS.roomP s h).1 ∧ M = [rpA p q (PagerS.roomP s h).2.1, refA q (PagerS.roomP s h).2.2 fl]) := by
  refine Con.rpA fun c hl wl hk hq => ?_
  have hkey := hk.ok.key
  have hl16 := hk.len
  have hhl : s.held.length = hl.length := by rw [hk.held, List.length_map]
  have hwn := hk.ok.w0
  obtain ⟨q', ha, hn, hc, la, ln, lc, took⟩ := c
  have hhn := hk.hn
  dsimp only at hhn hq
  subst hhn hq
  have hsz := rp_size (s := s) (c := ⟨q', ha, hl.length, hc, la, ln, lc, took⟩) hkey
  by_cases hlw : hl.length < s.window
  · rw [roomP_few (by rw [hhl]; exact hlw)]
    simp only [List.cons_append, List.nil_append]
    refine fn_x Tryz.func66 rfl rfl rfl Tryz.mixed (by kernel_rfl) ?_
    intro w0
    refine V3 ?_
    refine Zij (_) [8] (.q 0 (.q 1 (.q 2 (.q 5 (.q 6 (.q 7 (.r 3 (.q 4 (.r 8 (.q 9 .nil)))))))))) (by kernel_rfl) (by kernel_rfl) (Imp.refl _) ?_
    refine W6 ?_
    refine Ziv rfl rfl qH (rp_f hkey (k := 4) rfl) ?_
    refine W1 ?_
    refine Ziv rfl rfl qH (rp_f hkey (k := 1) rfl) ?_
    refine W1 ?_
    refine Zi5 13 rfl (decide_eq_true (hlw)) ?_
    refine Zik ?_
    refine V4 ?_
    refine rx1 (Zg9 rfl (Zg7)) ?_
    exact ⟨_, ⟨rfl, rfl⟩, (Imp.arr (N := rpL p s ⟨q', ha, hl.length, hc, la, ln, lc, took⟩ hl wl ++ [refA q' h fl]) qV).trans (rpA_mk hk rfl)⟩
  · have hi0 : 0 < hl.length := by omega
    have hnh : ¬ s.held.length < s.window := by rw [hhl]; exact hlw
    have hhd : (s.held.head?.map PagerS.Fr.page).getD 0 = hl[0].2.page := by
      rw [hk.held]
      cases hl with
      | nil => simp at hi0
      | cons x r => rfl
    have hca : PagerS.changedAt s hl[0].2.page = (hl[0].2.is == 2) := by unfold PagerS.changedAt; rw [hk.fr hi0]; rfl
    refine Con.get (fun w0 w F H => own_someN (n := hl.length) (a := ha) (.there .here) (by omega) H) ?_
    rintro ⟨g, rfl⟩
    have hwx := rwrite_x (p := p) (fl := fl) hk hov hops hw hi0
    simp only [List.cons_append, List.nil_append] at hwx ⊢
    by_cases h2 : hl[0].2.is = 2
    · have hch : PagerS.changedAt s hl[0].2.page = true := by rw [hca, h2]; rfl
      by_cases h0 : (HostS.writeR h hl[0].2.page (PagerS.boxOf s hl[0].2.page)).1 = 0
      · rw [roomP_ok hnh hhd hch (by omega) h0]
        rw [rwriteP_ok h0] at hwx
        refine fn_x Tryz.func66 rfl rfl rfl Tryz.mixed (by kernel_rfl) ?_
        intro w0
        refine V3 ?_
        refine Zij (_) [8] (.q 0 (.q 1 (.q 2 (.q 5 (.q 6 (.q 7 (.r 3 (.q 4 (.r 8 (.q 9 .nil)))))))))) (by kernel_rfl) (by kernel_rfl) (Imp.refl _) ?_
        refine W6 ?_
        refine Ziv rfl rfl qH (rp_f hkey (k := 4) rfl) ?_
        refine W1 ?_
        refine Ziv rfl rfl qH (rp_f hkey (k := 1) rfl) ?_
        refine W1 ?_
        refine Zi6 13 rfl (decide_eq_false (hlw)) ?_
        refine Zik ?_
        refine Y5 ?_
        refine Zhp rfl qH (rp_f hkey (k := 4) rfl) ?_
        first|refine Zhg (Zl6 (n := 0) rfl rfl) ?_|refine Zhg (Zcg (n := 0) rfl rfl) ?_
        refine Y1 ?_
        refine Zff rfl (((Rd.own (n := hl.length) qH).atN0 (j := 2) rhe_len hi0 (by omega) rfl)) ?_
        refine V1 ?_
        refine Zge (by show Value.bool (hl[0].2.is == 2) = _; rw [h2]; rfl) ?_
        refine Y2 ?_
        refine Zh8 rfl (by kernel_rfl) (hwx) rfl qT ?_
        rintro _ _ ⟨rfl, c', hl', wl', hk', hq', rfl⟩
        refine V3 ?_
        have hkey' := hk'.ok.key
        have hl16' := hk'.len
        obtain ⟨q2, ha2, hn2, hc2, la2, ln2, lc2, took2⟩ := c'
        have hhn2 := hk'.hn
        dsimp only at hhn2 hq'
        subst hhn2 hq'
        have hsz2 := rp_size (s := PagerS.wroteP s hl[0].2.page) (c := ⟨q2, ha2, hl'.length, hc2, la2, ln2, lc2, took2⟩) hkey'
        refine Y3 ?_
        refine Zhn 24 rfl (decide_eq_false ((fun h => h rfl))) ?_
        refine Y5 ?_
        refine Zh8 rfl (by kernel_rfl) (rwithout_x (s := PagerS.wroteP s hl[0].2.page) (c := ⟨q2, ha2, hl'.length, hc2, la2, ln2, lc2, took2⟩) hkey' (by omega) rfl 0) rfl qT ?_
        rintro _ _ ⟨a2, c2, rfl, rfl⟩
        refine Y3 ?_
        refine Zhw rfl rfl qR qZ (rp_s (s := PagerS.wroteP s hl[0].2.page) (c := ⟨q2, ha2, hl'.length, hc2, la2, ln2, lc2, took2⟩) (s' := { PagerS.wroteP s hl[0].2.page with held := (PagerS.wroteP s hl[0].2.page).held.tail }) (c' := ⟨q2, a2, (hl'.eraseIdx 0).length, c2, la2, ln2, lc2, took2⟩) hkey' (k := 4) rfl rfl rfl) ?_
        refine V4 ?_
        refine rx1 (Zg9 rfl (Zg7)) ?_
        refine ⟨_, ⟨rfl, rfl⟩, ?_⟩
        have h9 := rpA_mk (p := p) (L := [refA q2 (HostS.writeR h hl[0].2.page (PagerS.boxOf s hl[0].2.page)).2 fl]) (rp_tail hk' a2 c2) rfl
        simp only [List.cons_append, List.nil_append] at h9
        refine Imp.trans ?_ h9
        exact (Imp.arr (N := star rtA hl' :: cl p (rpcl { PagerS.wroteP s hl[0].2.page with held := (PagerS.wroteP s hl[0].2.page).held.tail } ⟨q2, a2, (hl'.eraseIdx 0).length, c2, la2, ln2, lc2, took2⟩) 126 :: ownH a2 c2 (hl'.eraseIdx 0) :: ownW la2 lc2 wl' :: [refA q2 (HostS.writeR h hl[0].2.page (PagerS.boxOf s hl[0].2.page)).2 fl]) qV).trans (star_tail.trans qI)
      · rw [roomP_no hnh hhd hch (by omega) h0]
        rw [rwriteP_no h0] at hwx
        have herr := writeR_err h hl[0].2.page (PagerS.boxOf s hl[0].2.page)
        refine fn_x Tryz.func66 rfl rfl rfl Tryz.mixed (by kernel_rfl) ?_
        intro w0
        refine V3 ?_
        refine Zij (_) [8] (.q 0 (.q 1 (.q 2 (.q 5 (.q 6 (.q 7 (.r 3 (.q 4 (.r 8 (.q 9 .nil)))))))))) (by kernel_rfl) (by kernel_rfl) (Imp.refl _) ?_
        refine W6 ?_
        refine Ziv rfl rfl qH (rp_f hkey (k := 4) rfl) ?_
        refine W1 ?_
        refine Ziv rfl rfl qH (rp_f hkey (k := 1) rfl) ?_
        refine W1 ?_
        refine Zi6 13 rfl (decide_eq_false (hlw)) ?_
        refine Zik ?_
        refine Y5 ?_
        refine Zhp rfl qH (rp_f hkey (k := 4) rfl) ?_
        first|refine Zhg (Zl6 (n := 0) rfl rfl) ?_|refine Zhg (Zcg (n := 0) rfl rfl) ?_
        refine Y1 ?_
        refine Zff rfl (((Rd.own (n := hl.length) qH).atN0 (j := 2) rhe_len hi0 (by omega) rfl)) ?_
        refine V1 ?_
        refine Zge (by show Value.bool (hl[0].2.is == 2) = _; rw [h2]; rfl) ?_
        refine Y2 ?_
        refine Zh8 rfl (by kernel_rfl) (hwx) rfl qT ?_
        rintro _ _ ⟨rfl, c', hl', wl', hk', hq', rfl⟩
        refine V3 ?_
        have hkey' := hk'.ok.key
        have hsz2 := rp_size (s := s) (c := c') hkey'
        refine Y3 ?_
        refine Zhm 24 rfl (decide_eq_true (h0)) ?_
        refine Y7 ?_
        refine Zht rfl rfl qR qZ (rp_s (s := s) (c := c') (s' := PagerS.die s (HostS.writeR h hl[0].2.page (PagerS.boxOf s hl[0].2.page)).1) (c' := c') hkey' (k := 8) rfl rfl rfl) ?_
        refine V5 ?_
        refine rx1 (Zg9 rfl (Zg7)) ?_
        refine ⟨_, ⟨rfl, rfl⟩, ?_⟩
        have h9 := rpA_mk (p := p) (L := [refA q' (HostS.writeR h hl[0].2.page (PagerS.boxOf s hl[0].2.page)).2 fl]) (rp_die hk' herr) hq'
        simp only [List.cons_append, List.nil_append] at h9
        exact (Imp.arr qV).trans h9
    · have hch : PagerS.changedAt s hl[0].2.page = false := by rw [hca]; simpa using h2
      rw [roomP_drop hnh hhd hch]
      refine fn_x Tryz.func66 rfl rfl rfl Tryz.mixed (by kernel_rfl) ?_
      intro w0
      refine V3 ?_
      refine Zij (_) [8] (.q 0 (.q 1 (.q 2 (.q 5 (.q 6 (.q 7 (.r 3 (.q 4 (.r 8 (.q 9 .nil)))))))))) (by kernel_rfl) (by kernel_rfl) (Imp.refl _) ?_
      refine W6 ?_
      refine Ziv rfl rfl qH (rp_f hkey (k := 4) rfl) ?_
      refine W1 ?_
      refine Ziv rfl rfl qH (rp_f hkey (k := 1) rfl) ?_
      refine W1 ?_
      refine Zi6 13 rfl (decide_eq_false (hlw)) ?_
      refine Zik ?_
      refine Y5 ?_
      refine Zhp rfl qH (rp_f hkey (k := 4) rfl) ?_
      first|refine Zhg (Zl6 (n := 0) rfl rfl) ?_|refine Zhg (Zcg (n := 0) rfl rfl) ?_
      refine Y1 ?_
      refine Zff rfl (((Rd.own (n := hl.length) qH).atN0 (j := 2) rhe_len hi0 (by omega) rfl)) ?_
      refine V1 ?_
      refine Zgf (by show Value.bool (hl[0].2.is == 2) = _; rw [show (hl[0].2.is == 2) = false by simpa using h2]) ?_
      refine Y3 ?_
      refine Zh8 rfl (by kernel_rfl) (rwithout_x (s := s) (c := ⟨q', some ⟨g, 0, none⟩, hl.length, hc, la, ln, lc, took⟩) hkey (by omega) rfl 0) rfl qT ?_
      rintro _ _ ⟨a2, c2, rfl, rfl⟩
      refine Y3 ?_
      refine Zhw rfl rfl qR qZ (rp_s (s := s) (c := ⟨q', some ⟨g, 0, none⟩, hl.length, hc, la, ln, lc, took⟩) (s' := { s with held := s.held.tail }) (c' := ⟨q', a2, (hl.eraseIdx 0).length, c2, la, ln, lc, took⟩) hkey (k := 4) rfl rfl rfl) ?_
      refine V4 ?_
      refine rx1 (Zg9 rfl (Zg7)) ?_
      refine ⟨_, ⟨rfl, rfl⟩, ?_⟩
      have h9 := rpA_mk (p := p) (L := [refA q' h fl]) (rp_tail hk a2 c2) rfl
      simp only [List.cons_append, List.nil_append] at h9
      refine Imp.trans ?_ h9
      exact (Imp.arr (N := star rtA hl :: cl p (rpcl { s with held := s.held.tail } ⟨q', a2, (hl.eraseIdx 0).length, c2, la, ln, lc, took⟩) 126 :: ownH a2 c2 (hl.eraseIdx 0) :: ownW la lc wl :: [refA q' h fl]) qV).trans (star_tail.trans qI)
end
end Go.Sl

/- pager: room, walked. -/
set_option maxHeartbeats 4000000
set_option maxRecDepth 10000
set_option linter.unusedVariables false
set_option linter.unusedSimpArgs false
namespace Go.Sl
open Go Go.Proofs
attribute [local irreducible] pt pur ex all den denOps denS xOps xC cX CX xthen xblk xcut xloop xng retX resX Calls PV Rd Con
attribute [local irreducible] hostA pcl pgSealB pgOpenR PagerS.writeP
open PagerS (PS Over)
theorem heldF_tail {x : FV} {r : List FV} (hn : (fpages (x :: r)).Nodup) : fput (heldF (x :: r)) x.1.page none = heldF r := by
  funext n
  unfold fput
  rw [fpages, List.map_cons, List.nodup_cons] at hn
  by_cases e : n = x.1.page
  · rw [if_pos e, e, heldF_no hn.1]
  · rw [if_neg e]
    unfold heldF
    rw [List.find?_cons_of_neg (by simp only [beq_iff_eq]; exact fun hh => e hh.symm)]
theorem pgok_tail {ph : Nat} {s : PS} {c : PC} {x : FV} {r : List FV} (h : PgOk ph s c (x :: r)) (oa : Option Addr) (oc : Nat) : PgOk ph { s with held := s.held.tail } { c with oa := oa, n := (fpages r).length, oc := oc } r :=
  ⟨PagerS.ok_tail h.ok, h.ph, by show s.held.tail = _; rw [h.held]; rfl, rfl⟩
theorem changedAt_at {ph : Nat} {s : PS} {c : PC} {l : List FV} (h : PgOk ph s c l) {i : Nat} (hi : i < l.length) : PagerS.changedAt s l[i].1.page = (l[i].1.is == 2) := by unfold PagerS.changedAt; rw [h.fr hi]; rfl
section
variable {p ph : Nat} {s : PS} {h : HostS.HS}
theorem room_x (hov : Over s h) (hops : h.ops < 3518437208880) :
    Con Tryz.prog 54 [hp p] [pgA p ph s, hostA ph h] (fun r M => r = nvv (PagerS.roomP s h).1 ∧ M = [pgA p ph (PagerS.roomP s h).2.1, hostA ph (PagerS.roomP s h).2.2]) := by
  refine Con.pgA fun c l hk => ?_
  simp only [List.cons_append, List.nil_append]
  have hkey := hk.ok.key
  have hl16 := hk.len
  have hcn := hk.n
  have hhl : s.held.length = l.length := by rw [hk.held, List.length_map]
  have hfl : (fpages l).length = l.length := by simp [fpages]
  have hwn := hk.ok.w0
  by_cases hw : l.length < s.window
  · have e : PagerS.roomP s h = (0, s, h) := by unfold PagerS.roomP; rw [if_pos (by rw [hhl]; exact hw)]
    rw [e]
    refine fn_x Tryz.func54 rfl rfl rfl Tryz.mixed (by kernel_rfl) ?_
    intro w0
    refine V3 ?_
    refine Zij ([cl p (pcl s c) 102]) [8] (.q 0 (.q 1 (.q 2 (.q 5 (.q 6 (.q 7 (.r 3 (.q 4 (.r 8 (.q 9 .nil)))))))))) (by kernel_rfl) (by kernel_rfl) (Imp.arr qV) ?_
    refine W6 ?_
    refine Ziv rfl rfl qH (pg_f hkey (k := 5) rfl) ?_
    refine W1 ?_
    refine Ziv rfl rfl qH (pg_f hkey (k := 1) rfl) ?_
    refine W1 ?_
    refine Zi5 14 rfl (decide_eq_true ((by omega))) ?_
    refine Zik ?_
    refine V4 ?_
    refine rx1 (Zg9 rfl (Zg7)) ?_
    exact ⟨_, ⟨rfl, rfl⟩, (Imp.arr (N := pgL p s c l ++ [hostA ph h]) qV).trans (pgA_mk hk)⟩
  · cases l with
    | nil => simp at hw; omega
    | cons x r =>
      have hnd := hk.nodup
      have hhd : (s.held.head?.map PagerS.Fr.page).getD 0 = x.1.page := by rw [hk.held]; rfl
      have hi0 : 0 < (x :: r).length := Nat.succ_pos _
      have hf0 := heldF_at hnd hi0
      have hca := changedAt_at hk hi0
      simp only [List.getElem_cons_zero] at hf0 hca
      refine Con.get (fun w0 w F H => own_someN (n := (fpages (x :: r)).length) (a := c.oa) (.there (.there (.there .here))) (by simp [fpages]) H) ?_
      rintro ⟨g, hg⟩
      obtain ⟨ph', bh, oa, cn, oc, bl⟩ := c
      dsimp only at hg hcn
      subst hg hcn
      obtain rfl : ph = ph' := hk.ph.symm
      refine fn_x Tryz.func54 rfl rfl rfl Tryz.mixed (by kernel_rfl) ?_
      intro w0
      refine V3 ?_
      refine Zij ([cl p (pcl s ⟨ph, bh, some ⟨g, 0, none⟩, (fpages (x :: r)).length, oc, bl⟩) 102]) [8] (.q 0 (.q 1 (.q 2 (.q 5 (.q 6 (.q 7 (.r 3 (.q 4 (.r 8 (.q 9 .nil)))))))))) (by kernel_rfl) (by kernel_rfl) (Imp.arr qV) ?_
      refine W6 ?_
      refine Ziv rfl rfl qH (pg_f hkey (k := 5) rfl) ?_
      refine W1 ?_
      refine Ziv rfl rfl qH (pg_f hkey (k := 1) rfl) ?_
      refine W1 ?_
      refine Zi6 14 rfl (decide_eq_false ((by rw [hfl]; exact hw))) ?_
      refine Zik ?_
      refine V1 ?_
      have hg0 : (zv (fpages (x :: r)))[0]? = some (.int .i64 x.1.page) := rfl
      refine Y4 ?_
      refine Zhp rfl qH (pg_f hkey (k := 5) rfl) ?_
      refine Zhg (Zl4 (n := 0) rfl rfl (by rw [hfl]; exact hi0)) ?_
      refine Zff rfl (((Rd.own (n := (fpages (x :: r)).length) qH).at0 (by rw [hfl]; exact hi0) hg0)) ?_
      refine V2 ?_
      refine Zgp (((Imp.arr (N := star frA (x :: r) :: cl p (pcl s ⟨ph, bh, some ⟨g, 0, none⟩, (fpages (x :: r)).length, oc, bl⟩) 102 :: fmA bh (heldF (x :: r)) :: fmA bl (lastF s.last) :: ownI (some ⟨g, 0, none⟩) oc (fpages (x :: r)) :: [hostA ph h]) qV).trans star_uncons).trans (Imp.unapp (L := [cl x.2.1 #[.slice x.2.2.1 x.1.text.length x.2.2.2, nvv x.1.is] 106, ownB x.2.2.1 x.2.2.2 x.1.text]))) ?_
      simp only [List.cons_append, List.nil_append]
      refine Y4 ?_
      refine Zhp rfl qH (pg_f hkey (k := 4) rfl) ?_
      refine Y1 ?_
      refine Zoc rfl rfl qH (v := hp x.2.1) (by rw [hf0]; rfl) ?_
      refine V5 ?_
      by_cases h2 : x.1.is = 2
      · refine Zge (by show Value.bool (decide _) = _; rw [decide_eq_true h2]) ?_
        refine Ct.o ?_
        refine Zgp (((Imp.arr (N := [cl x.2.1 #[.slice x.2.2.1 x.1.text.length x.2.2.2, nvv x.1.is] 106, ownB x.2.2.1 x.2.2.2 x.1.text] ++ (star frA r :: cl p (pcl s ⟨ph, bh, some ⟨g, 0, none⟩, (fpages (x :: r)).length, oc, bl⟩) 102 :: fmA bh (heldF (x :: r)) :: fmA bl (lastF s.last) :: ownI (some ⟨g, 0, none⟩) oc (fpages (x :: r)) :: [hostA ph h])) qV).trans (Imp.app (L := [cl x.2.1 #[.slice x.2.2.1 x.1.text.length x.2.2.2, nvv x.1.is] 106, ownB x.2.2.1 x.2.2.2 x.1.text]))).trans (star_cons (A := frA) (x := x) (l := r))) ?_
        have hwx := pwrite_g (p := p) hk hov hops hi0
        simp only [List.getElem_cons_zero, List.cons_append, List.nil_append] at hwx
        have hch : PagerS.changedAt s x.1.page = true := by rw [hca, h2]; rfl
        refine Y3 ?_
        refine Zh8 rfl (by kernel_rfl) (hwx) rfl qT ?_
        rintro _ _ ⟨rfl, l', hk', rfl⟩
        refine V3 ?_
        by_cases h0 : (PagerS.writeP s h x.1.page).1 = 0
        · have e : PagerS.roomP s h = (0, { (PagerS.writeP s h x.1.page).2.1 with held := (PagerS.writeP s h x.1.page).2.1.held.tail }, (PagerS.writeP s h x.1.page).2.2) := by
            unfold PagerS.roomP
            rw [if_neg (by rw [hhl]; exact hw)]
            dsimp only
            rw [hhd, if_pos hch, if_pos h0]
          rw [e]
          have hsame : PagerS.numbers (PagerS.writeP s h x.1.page).2.1 = PagerS.numbers s := by
            rcases writeP_cases s h x.1.page with ee|⟨_, _, _, ee⟩|⟨_, ee⟩ <;> rw [ee]
            · rfl
            · rfl
            · exact PagerS.cleaned_pages _ _
          have hfp : fpages l' = fpages (x :: r) := by
            have a1 : PagerS.numbers (PagerS.writeP s h x.1.page).2.1 = fpages l' := by unfold PagerS.numbers; rw [hk'.held, List.map_map]; rfl
            have a2 : PagerS.numbers s = fpages (x :: r) := by unfold PagerS.numbers; rw [hk.held, List.map_map]; rfl
            rw [← a1, hsame, a2]
          generalize (PagerS.writeP s h x.1.page).2.1 = s1 at hk' hsame ⊢
          generalize (PagerS.writeP s h x.1.page).2.2 = h1 at ⊢
          cases l' with
          | nil => simp [fpages] at hfp
          | cons x1 r1 =>
            have hx1 : x1.1.page = x.1.page := by simpa [fpages] using (List.cons.inj hfp).1
            have hkey1 := hk'.ok.key
            have hnd1 := hk'.nodup
            rw [← hfp]
            refine Y3 ?_
            refine Zhn 35 rfl (decide_eq_false ((fun hh => hh h0))) ?_
            refine V2 ?_
            have hs1 := pg_size (s := s1) (c := ⟨ph, bh, some ⟨g, 0, none⟩, (fpages (x1 :: r1)).length, oc, bl⟩) hkey1
            refine Y5 ?_
            refine Zhp rfl qH (pg_f hkey1 (k := 5) rfl) ?_
            refine Zh8 rfl (by kernel_rfl) (delete_x (g := g) (c := oc) (i := 0) (zs := fpages (x1 :: r1)) (by simp [fpages]) (by have := hk'.len; simp [fpages] at *; omega)) rfl qT ?_
            rintro _ _ ⟨rfl, rfl⟩
            refine Y3 ?_
            refine Zhw rfl rfl qR qZ (pg_s (s := s1) (c := ⟨ph, bh, some ⟨g, 0, none⟩, (fpages (x1 :: r1)).length, oc, bl⟩) (s' := { s1 with held := s1.held.tail }) (c' := ⟨ph, bh, some ⟨g, 0, none⟩, (fpages r1).length, oc, bl⟩) hkey1 (k := 5) rfl rfl rfl) ?_
            refine Y5 ?_
            refine Zhp rfl qH (pg_f (s := { s1 with held := s1.held.tail }) hkey1 (k := 4) rfl) ?_
            refine Y1 ?_
            refine Zog rfl rfl qR ?_
            refine V4 ?_
            refine rx1 (Zg9 rfl (Zg7)) ?_
            rw [← hx1, heldF_tail hnd1]
            have ht := pgok_tail hk' (some ⟨g, 0, none⟩) oc
            exact ⟨_, ⟨rfl, rfl⟩, ((((Imp.arr (N := star frA (x1 :: r1) :: cl p (pcl { s1 with held := s1.held.tail } ⟨ph, bh, some ⟨g, 0, none⟩, (fpages r1).length, oc, bl⟩) 102 :: fmA bh (heldF r1) :: fmA bl (lastF s1.last) :: ownI (some ⟨g, 0, none⟩) oc (fpages r1) :: [hostA ph h1]) qV).trans star_uncons).trans Imp.tail).trans (Imp.arr (N := pgL p { s1 with held := s1.held.tail } ⟨ph, bh, some ⟨g, 0, none⟩, (fpages r1).length, oc, bl⟩ r1 ++ [hostA ph h1]) qV)).trans (pgA_mk ht)⟩
        · have e : PagerS.roomP s h = PagerS.writeP s h x.1.page := by
            unfold PagerS.roomP
            rw [if_neg (by rw [hhl]; exact hw)]
            dsimp only
            rw [hhd, if_pos hch, if_neg h0]
          rw [e]
          refine Y3 ?_
          refine Zhm 35 rfl (decide_eq_true (h0)) ?_
          refine V6 ?_
          refine rx1 (Zg9 rfl (Zg7)) ?_
          exact ⟨_, ⟨rfl, rfl⟩, (Imp.arr (N := pgL p (PagerS.writeP s h x.1.page).2.1 ⟨ph, bh, some ⟨g, 0, none⟩, (fpages (x :: r)).length, oc, bl⟩ l' ++ [hostA ph (PagerS.writeP s h x.1.page).2.2]) qV).trans (pgA_mk hk')⟩
      · refine Zgf (by show Value.bool (decide _) = _; rw [decide_eq_false h2]) ?_
        refine Ct.o ?_
        have hch : ¬ PagerS.changedAt s x.1.page = true := by rw [hca]; simpa using h2
        have e : PagerS.roomP s h = (0, { s with held := s.held.tail }, h) := by
          unfold PagerS.roomP
          rw [if_neg (by rw [hhl]; exact hw)]
          dsimp only
          rw [hhd, if_neg hch]
        rw [e]
        have hs1 := pg_size (s := s) (c := ⟨ph, bh, some ⟨g, 0, none⟩, (fpages (x :: r)).length, oc, bl⟩) hkey
        refine Y5 ?_
        refine Zhp rfl qH (pg_f hkey (k := 5) rfl) ?_
        refine Zh8 rfl (by kernel_rfl) (delete_x (g := g) (c := oc) (i := 0) (zs := fpages (x :: r)) (by simp [fpages]) (by have := hk.len; simp [fpages] at *; omega)) rfl qT ?_
        rintro _ _ ⟨rfl, rfl⟩
        refine Y3 ?_
        refine Zhw rfl rfl qR qZ (pg_s (s := s) (c := ⟨ph, bh, some ⟨g, 0, none⟩, (fpages (x :: r)).length, oc, bl⟩) (s' := { s with held := s.held.tail }) (c' := ⟨ph, bh, some ⟨g, 0, none⟩, (fpages r).length, oc, bl⟩) hkey (k := 5) rfl rfl rfl) ?_
        refine Y5 ?_
        refine Zhp rfl qH (pg_f (s := { s with held := s.held.tail }) hkey (k := 4) rfl) ?_
        refine Y1 ?_
        refine Zog rfl rfl qR ?_
        refine V4 ?_
        refine rx1 (Zg9 rfl (Zg7)) ?_
        rw [heldF_tail hnd]
        have ht := pgok_tail hk (some ⟨g, 0, none⟩) oc
        exact ⟨_, ⟨rfl, rfl⟩, (Imp.arr (N := pgL p { s with held := s.held.tail } ⟨ph, bh, some ⟨g, 0, none⟩, (fpages r).length, oc, bl⟩ r ++ [hostA ph h]) qV).trans (pgA_mk ht)⟩
end
end Go.Sl

/- pager: what use does to what is held; what room leaves. -/
set_option maxHeartbeats 4000000
set_option maxRecDepth 10000
set_option linter.unusedVariables false
set_option linter.unusedSimpArgs false
namespace Go.Sl
open Go Go.Proofs
attribute [local irreducible] pt pur ex all den denOps denS xOps xC cX CX xthen xblk xcut xloop xng retX resX Calls PV Rd Con
attribute [local irreducible] hostA pcl pgSealB pgOpenR PagerS.writeP
open PagerS (PS Over)
/-- The others. -/
def othersF (l : List FV) (n : Int) : List FV := l.filter fun e => !(e.1.page == n)
theorem others_pages (l : List FV) (n : Int) : fpages (othersF l n) = (fpages l).filter fun z => !(z == n) := by
  unfold othersF fpages
  rw [List.filter_map]; rfl
theorem others_no {l : List FV} {n : Int} (h : n ∉ fpages l) : othersF l n = l := List.filter_eq_self.2 fun e he => by
  simp only [Bool.not_eq_true', beq_eq_false_iff_ne, ne_eq]
  exact fun hh => h (hh ▸ List.mem_map.2 ⟨e, he, rfl⟩)
theorem others_at {l : List FV} (hn : (fpages l).Nodup) {i : Nat} (hi : i < l.length) : othersF l l[i].1.page = l.eraseIdx i := by
  rw [List.eraseIdx_eq_take_drop_succ]
  have e : l = l.take i ++ (l[i] :: l.drop (i + 1)) := by rw [← List.drop_eq_getElem_cons hi, List.take_append_drop]
  have key : ∀ (A B : List FV) (x : FV), (fpages (A ++ x :: B)).Nodup → (A ++ x :: B).filter (fun e => !(e.1.page == x.1.page)) = A ++ B := by
    intro A B x h
    rw [fpages, List.map_append, List.map_cons, List.nodup_append] at h
    obtain ⟨_, h2, h3⟩ := h
    rw [List.nodup_cons] at h2
    rw [List.filter_append, List.filter_cons_of_neg (by simp)]
    rw [List.filter_eq_self.2, List.filter_eq_self.2]
    · intro e he
      simp only [Bool.not_eq_true', beq_eq_false_iff_ne, ne_eq]
      exact fun hh => h2.1 (hh ▸ List.mem_map.2 ⟨e, he, rfl⟩)
    · intro e he
      simp only [Bool.not_eq_true', beq_eq_false_iff_ne, ne_eq]
      exact fun hh => h3 _ (List.mem_map.2 ⟨e, he, rfl⟩) _ (List.mem_cons_self ..) hh
  have := key (l.take i) (l.drop (i + 1)) l[i] (by rw [← e]; exact hn)
  rw [← e] at this
  exact this
theorem heldF_use (l : List FV) (n : Int) (e : FV) (he : e.1.page = n) : heldF (othersF l n ++ [e]) = fput (heldF l) n (some (hp e.2.1)) := by
  funext k
  unfold heldF fput
  rw [List.find?_append]
  by_cases hk : k = n
  · subst hk
    rw [if_pos rfl, List.find?_eq_none.2 (by
      intro x hx
      have := (List.mem_filter.1 hx).2
      simp only [Bool.not_eq_true', beq_eq_false_iff_ne, ne_eq] at this
      simpa using this)]
    simp [he]
  · rw [if_neg hk]
    have e1 : (othersF l n).find? (fun e => e.1.page == k) = l.find? fun e => e.1.page == k := by
      unfold othersF
      rw [List.find?_filter]
      congr 1
      funext x
      by_cases hx : x.1.page = k
      · simp [hx, hk]
      · simp [hx]
    rw [e1]
    cases hf : l.find? (fun e => e.1.page == k) with
    | some x =>
      show _ = Option.map (fun e : FV => hp e.2.1) (l.find? fun e => e.1.page == k)
      rw [hf]; rfl
    | none =>
      have : ¬ e.1.page = k := fun hh => hk (by rw [← hh, he])
      show _ = Option.map (fun e : FV => hp e.2.1) (l.find? fun e => e.1.page == k)
      rw [hf]
      simp [this]
theorem used_pages (l : List FV) (n : Int) (e : FV) (he : e.1.page = n) : fpages (othersF l n ++ [e]) = used (fpages l) n := by
  unfold used
  rw [← others_pages]
  simp [fpages, he]
theorem pgok_use {ph : Nat} {s : PS} {c : PC} {l : List FV} (h : PgOk ph s c l) (e : FV) (hr : (PagerS.frOf s e.1.page).isSome = true ∨ s.held.length < s.window) (hp : 0 ≤ e.1.page ∧ e.1.page < s.pages) (hl : e.1.text.length = s.text) (hi : e.1.is ≤ 2) (oa : Option Addr) (oc : Nat) :
    PgOk ph (PagerS.useP s e.1) { c with oa := oa, n := (used (fpages l) e.1.page).length, oc := oc } (othersF l e.1.page ++ [e]) := by
  refine ⟨PagerS.ok_use h.ok hr hp hl hi, h.ph, ?_, by rw [used_pages l e.1.page e rfl]⟩
  show (s.held.filter fun g => !(g.page == e.1.page)) ++ [e.1] = _
  rw [h.held, List.filter_map, List.map_append]
  rfl
theorem used_len {ph : Nat} {s : PS} {c : PC} {l : List FV} (h : PgOk ph s c l) (e : FV) : max s.most (used (fpages l) e.1.page).length = (PagerS.useP s e.1).most := by
  show _ = max s.most ((s.held.filter fun g => !(g.page == e.1.page)) ++ [e.1]).length
  unfold used
  rw [← others_pages, h.held, List.filter_map, List.length_append, List.length_append, List.length_map]
  simp [fpages, othersF, Function.comp_def]
theorem roomP_over {s : PS} {h : HostS.HS} (ho : Over s h) : Over (PagerS.roomP s h).2.1 (PagerS.roomP s h).2.2 ∧ (PagerS.roomP s h).2.2.ops ≤ h.ops + 1 := by
  unfold PagerS.roomP
  split
  · exact ⟨ho, Nat.le_succ _⟩
  · dsimp only
    obtain ⟨w1, w2⟩ := writeP_over ((s.held.head?.map PagerS.Fr.page).getD 0) ho
    split
    · split
      · exact ⟨⟨w1.pages, w1.size⟩, w2⟩
      · exact ⟨w1, w2⟩
    · exact ⟨⟨ho.pages, ho.size⟩, Nat.le_succ _⟩
theorem writeP_same (s : PS) (h : HostS.HS) (n : Int) : PagerS.numbers (PagerS.writeP s h n).2.1 = PagerS.numbers s ∧ (PagerS.writeP s h n).2.1.window = s.window ∧ (PagerS.writeP s h n).2.1.pages = s.pages ∧ (PagerS.writeP s h n).2.1.text = s.text ∧ (PagerS.writeP s h n).2.1.key = s.key := by
  rcases writeP_cases s h n with ee|⟨_, _, _, ee⟩|⟨_, ee⟩ <;> rw [ee]
  · exact ⟨rfl, rfl, rfl, rfl, rfl⟩
  · exact ⟨rfl, rfl, rfl, rfl, rfl⟩
  · exact ⟨PagerS.cleaned_pages _ _, rfl, rfl, rfl, rfl⟩
/-- Behind room there is room; what is not held is not held. -/
theorem roomP_same {s : PS} {h : HostS.HS} (hk : PagerS.Ok s) : (PagerS.roomP s h).2.1.window = s.window ∧ (PagerS.roomP s h).2.1.pages = s.pages ∧ (PagerS.roomP s h).2.1.text = s.text ∧ (PagerS.roomP s h).2.1.key = s.key ∧ (∀ n, n ∉ PagerS.numbers s → n ∉ PagerS.numbers (PagerS.roomP s h).2.1) ∧ ((PagerS.roomP s h).1 = 0 → (PagerS.roomP s h).2.1.held.length < s.window) := by
  have tl : ∀ (x : PS) n, n ∉ PagerS.numbers x → n ∉ PagerS.numbers { x with held := x.held.tail } := fun x n hn hh => hn (by
    unfold PagerS.numbers at hh ⊢
    obtain ⟨f, hf, e⟩ := List.mem_map.1 hh
    exact List.mem_map.2 ⟨f, List.mem_of_mem_tail hf, e⟩)
  have hw0 := hk.w0
  have hm := hk.many
  unfold PagerS.roomP
  split
  · rename_i hl; exact ⟨rfl, rfl, rfl, rfl, fun _ h => h, fun _ => hl⟩
  · rename_i hl
    dsimp only
    obtain ⟨w1, w2, w3, w4, w5⟩ := writeP_same s h ((s.held.head?.map PagerS.Fr.page).getD 0)
    have hlen : (PagerS.writeP s h ((s.held.head?.map PagerS.Fr.page).getD 0)).2.1.held.length = s.held.length := by
      have := congrArg List.length w1
      unfold PagerS.numbers at this
      rwa [List.length_map, List.length_map] at this
    split
    · split
      · refine ⟨w2, w3, w4, w5, fun n hn => tl _ n (by rw [w1]; exact hn), fun _ => ?_⟩
        show (PagerS.writeP s h _).2.1.held.tail.length < _
        rw [List.length_tail, hlen]; omega
      · rename_i h0
        exact ⟨w2, w3, w4, w5, fun n hn => by rw [w1]; exact hn, fun hh => absurd hh h0⟩
    · refine ⟨rfl, rfl, rfl, rfl, fun n hn => tl s n hn, fun _ => ?_⟩
      show s.held.tail.length < _
      rw [List.length_tail]; omega
end Go.Sl

/- the document's pager (trystref13): use over the one piece; Numbers, Save, walked. -/
set_option maxHeartbeats 4000000
set_option maxRecDepth 10000
set_option linter.unusedVariables false
set_option linter.unusedSimpArgs false
namespace Go.Sl
open Go Go.Proofs
attribute [local irreducible] pt pur ex all den denOps denS xOps xC cX CX xthen xblk xcut xloop xng retX resX Calls PV Rd Con
attribute [local irreducible] hostA refA pcl pgSealB pgOpenR HostS.writeR HostS.readR
open PagerS (PS Over)
section
variable {p q : Nat} {s : PS} {c : RC} {hl : List HE} {wl : List Plc}
theorem usedH_most (hk : RpOk s c hl wl) (e : HE) : max s.most (usedH hl e).length = (PagerS.useP s e.2).most := by
  show _ = max s.most ((s.held.filter fun g => !(g.page == e.2.page)) ++ [e.2]).length
  unfold usedH
  rw [hk.held, List.filter_map, List.length_append, List.length_append, List.length_map]
  simp [Function.comp_def]
theorem rpcl_use (hk : RpOk s c hl wl) (e : HE) (c' : RC) : rpcl { s with most := max s.most (usedH hl e).length } c' = rpcl (PagerS.useP s e.2) c' := by
  rw [usedH_most hk e]; rfl
theorem rpok_use (hk : RpOk s c hl wl) (e : HE) (hr : (PagerS.frOf s e.2.page).isSome = true ∨ s.held.length < s.window) (hp : 0 ≤ e.2.page ∧ e.2.page < s.pages) (hx : e.2.text.length = s.text) (hi : e.2.is ≤ 2) (a : Option Addr) (c' : Nat) : RpOk (PagerS.useP s e.2) { c with ha := a, hn := (usedH hl e).length, hc := c' } (usedH hl e) wl := by
  refine ⟨PagerS.ok_use hk.ok hr hp hx hi, ?_, rfl, hk.ln, hk.last, hk.many⟩
  show (s.held.filter fun g => !(g.page == e.2.page)) ++ [e.2] = _
  unfold usedH
  rw [hk.held, List.filter_map, List.map_append]
  rfl
end
attribute [local irreducible] rpcl
section
variable {p q : Nat} {s : PS} {c : RC} {hl : List HE} {wl : List Plc}
/-- A new page comes in. -/
theorem rp_useL (hk : RpOk s c hl wl) (e : HE) (hr : (PagerS.frOf s e.2.page).isSome = true ∨ s.held.length < s.window) (hp' : 0 ≤ e.2.page ∧ e.2.page < s.pages) (hx : e.2.text.length = s.text) (hi : e.2.is ≤ 2) :
    Con Tryz.prog 65 [hp p, .agg (rhe e).toArray] (rtA e :: rpL p s c hl wl) (fun r M => ∃ c', RpOk (PagerS.useP s e.2) c' (usedH hl e) wl ∧ c'.q = c.q ∧ M = rpL p (PagerS.useP s e.2) c' (usedH hl e) wl) := by
  have hl16 := hk.len
  refine Con.pre ((Con.frame (L := [ownW c.la c.lc wl, star rtA hl, rtA e]) (ruse_x (p := p) hk.ok.key (by omega) hk.hn e hk.nodup)).mono ?_) (Imp.arr qV)
  rintro r M ⟨M', ⟨a', c', rfl⟩, rfl⟩
  refine ⟨_, ?_, _, rpok_use hk e hr hp' hx hi a' c', rfl, rfl⟩
  rw [rpcl_use hk]
  simp only [List.cons_append, List.nil_append]
  exact (Imp.arr (N := star rtA hl :: rtA e :: cl p (rpcl (PagerS.useP s e.2) { c with ha := a', hn := (usedH hl e).length, hc := c' }) 126 :: ownH a' c' (usedH hl e) :: [ownW c.la c.lc wl]) qV).trans (star_filter.trans (Imp.swap.trans (star_snoc.trans qI)))
theorem rp_use (hk : RpOk s c hl wl) (e : HE) (hr : (PagerS.frOf s e.2.page).isSome = true ∨ s.held.length < s.window) (hp' : 0 ≤ e.2.page ∧ e.2.page < s.pages) (hx : e.2.text.length = s.text) (hi : e.2.is ≤ 2) :
    Con Tryz.prog 65 [hp p, .agg (rhe e).toArray] (rtA e :: rpL p s c hl wl) (fun r M => M = [rpA p c.q (PagerS.useP s e.2)]) :=
  (rp_useL hk e hr hp' hx hi).mono fun r M ⟨c', h1, h2, h3⟩ => by
    subst h3; exact ⟨_, by simpa using rpA_mk (p := p) (L := []) h1 h2, rfl⟩
/-- A held page is used. -/
theorem rp_againL (hk : RpOk s c hl wl) {i : Nat} (hi : i < hl.length) :
    Con Tryz.prog 65 [hp p, .agg (rhe hl[i]).toArray] (rpL p s c hl wl) (fun r M => ∃ c', RpOk (PagerS.useP s hl[i].2) c' (usedH hl hl[i]) wl ∧ c'.q = c.q ∧ M = rpL p (PagerS.useP s hl[i].2) c' (usedH hl hl[i]) wl) := by
  have hl16 := hk.len
  refine Con.pre ((Con.frame (L := [ownW c.la c.lc wl, star rtA hl]) (ruse_x (p := p) hk.ok.key (by omega) hk.hn hl[i] hk.nodup)).mono ?_) (Imp.arr qV)
  rintro r M ⟨M', ⟨a', c', rfl⟩, rfl⟩
  have hm := hk.mem hi
  refine ⟨_, ?_, _, rpok_use hk hl[i] (.inl (by rw [hk.fr hi]; rfl)) (hk.ok.there _ hm) (hk.ok.len _ hm) (hk.ok.is _ hm) a' c', rfl, rfl⟩
  rw [rpcl_use hk]
  simp only [List.cons_append, List.nil_append]
  have hf : hl.eraseIdx i = hl.filter fun g => !(g.2.page == hl[i].2.page) := filter_key (key := fun g : HE => g.2.page) hi rfl hk.nodup
  have h8 : Imp (star rtA hl :: cl p (rpcl (PagerS.useP s hl[i].2) { c with ha := a', hn := (usedH hl hl[i]).length, hc := c' }) 126 :: ownH a' c' (usedH hl hl[i]) :: [ownW c.la c.lc wl]) (star rtA (usedH hl hl[i]) :: cl p (rpcl (PagerS.useP s hl[i].2) { c with ha := a', hn := (usedH hl hl[i]).length, hc := c' }) 126 :: ownH a' c' (usedH hl hl[i]) :: [ownW c.la c.lc wl]) := by
    refine (star_at hi).trans ?_
    rw [hf]
    exact star_snoc
  exact (Imp.arr qV).trans (h8.trans qI)
end
end Go.Sl

/- pager: its small methods over one piece; what use leaves, packed. -/
set_option maxHeartbeats 4000000
set_option maxRecDepth 10000
set_option linter.unusedVariables false
set_option linter.unusedSimpArgs false
namespace Go.Sl
open Go Go.Proofs
attribute [local irreducible] pt pur ex all den denOps denS xOps xC cX CX xthen xblk xcut xloop xng retX resX Calls PV Rd Con
attribute [local irreducible] hostA pcl pgSealB pgOpenR PagerS.writeP PagerS.roomP
open PagerS (PS Over)
theorem spoilt_len {h : HostS.HS} (hk : HostS.Ok h) (n : Int) (l : List HostS.Fault) : (HostS.spoilt h n l).length = h.size := by
  unfold HostS.spoilt
  have : ∀ (l : List HostS.Fault) (b : HostS.Bytes), b.length = h.size → (l.foldl (HostS.spoil1 h n) b).length = h.size := by
    intro l
    induction l with
    | nil => intro b hb; exact hb
    | cons f r ih =>
      intro b hb
      rw [List.foldl_cons]
      refine ih _ ?_
      unfold HostS.spoil1
      split
      · split
        · simpa using hb
        · exact hb
      · split
        · exact back_len hk _ _
        · split
          · split
            · exact back_len hk _ _
            · exact hb
          · exact hb
  exact this l _ (back_len hk _ _)
theorem readR_len {h : HostS.HS} (hk : HostS.Ok h) {n : Int} (hz : (HostS.readR h n).2.1 = 0) : (HostS.readR h n).1.length = h.size := by
  unfold HostS.readR at hz ⊢
  split
  · rename_i ht
    rw [if_pos ht] at hz
    dsimp only at hz ⊢
    split
    · exact spoilt_len hk _ _
    · rename_i h0; rw [if_neg h0] at hz; exact absurd hz h0
  · rename_i ht
    rw [if_neg ht] at hz; cases hz
theorem readR_err2 (h : HostS.HS) (n : Int) : (HostS.readR h n).2.1 ≤ 1000 := by
  unfold HostS.readR
  split
  · dsimp only
    split
    · dsimp only; omega
    · dsimp only
      unfold HostS.does
      split
      · (dsimp only; omega)
      · dsimp only
        split
        · (dsimp only; omega)
        · split <;> (dsimp only; omega)
  · dsimp only; omega
section
variable {p ph : Nat} {s : PS} {h : HostS.HS}
theorem pg_small {F : FuncId} {args : List Value} {v : Value} (hc : ∀ c : PC, s.key.length = 32 → Con Tryz.prog F args [cl p (pcl s c) 102] (fun r M => r = v ∧ M = [cl p (pcl s c) 102])) : Con Tryz.prog F args [pgA p ph s] (fun r M => r = v ∧ M = [pgA p ph s]) :=
  Con.pgA (L := []) fun c l hk => ((hc c hk.ok.key).frame (L := [fmA c.bh (heldF l), fmA c.bl (lastF s.last), ownI c.oa c.oc (fpages l), star frA l])).mono fun r M ⟨M', ⟨h1, h2⟩, h3⟩ => by subst h2 h3; exact ⟨_, pgA_mk hk (L := []), h1, rfl⟩
theorem right_p (n : Int) : Con Tryz.prog 53 [hp p, .int .i64 n] [pgA p ph s] (fun r M => r = nvv (PagerS.rightP s n) ∧ M = [pgA p ph s]) := pg_small fun c hk => right_x hk n
theorem pages_p : Con Tryz.prog 51 [hp p] [pgA p ph s] (fun r M => r = .int .i64 s.pages ∧ M = [pgA p ph s]) := pg_small fun c hk => pPages_x hk
theorem text_p : Con Tryz.prog 52 [hp p] [pgA p ph s] (fun r M => r = nvv s.text ∧ M = [pgA p ph s]) := pg_small fun c hk => pText_x hk
theorem most_p : Con Tryz.prog 17 [hp p] [pgA p ph s] (fun r M => r = nvv s.most ∧ M = [pgA p ph s]) := pg_small fun c hk => pMost_x hk
theorem writes_p : Con Tryz.prog 21 [hp p] [pgA p ph s] (fun r M => r = u32b (BitVec.ofNat 32 s.writes) ∧ M = [pgA p ph s]) := pg_small fun c hk => pWrites_x hk
theorem err_p : Con Tryz.prog 18 [hp p] [pgA p ph s] (fun r M => r = nvv s.err ∧ M = [pgA p ph s]) := pg_small fun c hk => pErr_x hk
/-- What use leaves is a pager. -/
theorem pg_used {c : PC} {l : List FV} {L : List Asrt} (hk : PgOk ph s c l) (e : FV) (hr : (PagerS.frOf s e.1.page).isSome = true ∨ s.held.length < s.window) (hpp : 0 ≤ e.1.page ∧ e.1.page < s.pages) (hl : e.1.text.length = s.text) (hi : e.1.is ≤ 2) (oa : Option Addr) (oc : Nat) :
    Imp (cl p (pcl { s with most := max s.most (used (fpages l) e.1.page).length } { c with oa := oa, n := (used (fpages l) e.1.page).length, oc := oc }) 102 :: fmA c.bh (fput (heldF l) e.1.page (some (hp e.2.1))) :: fmA c.bl (lastF s.last) :: ownI oa oc (used (fpages l) e.1.page) :: star frA (othersF l e.1.page) :: frA e :: L) (pgA p ph (PagerS.useP s e.1) :: L) := by
  have hk' := pgok_use hk e hr hpp hl hi oa oc
  have hm := used_len hk e
  rw [hm, ← heldF_use l e.1.page e rfl, ← used_pages l e.1.page e rfl]
  rw [← used_pages l e.1.page e rfl] at hk'
  have h1 : Imp (frA e :: star frA (othersF l e.1.page) :: (cl p (pcl { s with most := (PagerS.useP s e.1).most } { c with oa := oa, n := (fpages (othersF l e.1.page ++ [e])).length, oc := oc }) 102 :: fmA c.bh (heldF (othersF l e.1.page ++ [e])) :: fmA c.bl (lastF s.last) :: ownI oa oc (fpages (othersF l e.1.page ++ [e])) :: L)) (star frA (othersF l e.1.page ++ [e]) :: (cl p (pcl { s with most := (PagerS.useP s e.1).most } { c with oa := oa, n := (fpages (othersF l e.1.page ++ [e])).length, oc := oc }) 102 :: fmA c.bh (heldF (othersF l e.1.page ++ [e])) :: fmA c.bl (lastF s.last) :: ownI oa oc (fpages (othersF l e.1.page ++ [e])) :: L)) := star_snoc
  have h2 : Imp (pgL p (PagerS.useP s e.1) { c with oa := oa, n := (fpages (othersF l e.1.page ++ [e])).length, oc := oc } (othersF l e.1.page ++ [e]) ++ L) (pgA p ph (PagerS.useP s e.1) :: L) := pgA_mk hk'
  have h3 : pcl { s with most := (PagerS.useP s e.1).most } { c with oa := oa, n := (fpages (othersF l e.1.page ++ [e])).length, oc := oc } = pcl (PagerS.useP s e.1) { c with oa := oa, n := (fpages (othersF l e.1.page ++ [e])).length, oc := oc } := by with_unfolding_all rfl
  rw [h3] at h1 ⊢
  exact ((Imp.arr qV).trans h1).trans ((Imp.arr qV).trans h2)
theorem frA_mk {e : FV} {L : List Asrt} : Imp (cl e.2.1 #[.slice e.2.2.1 e.1.text.length e.2.2.2, nvv e.1.is] 106 :: ownB e.2.2.1 e.2.2.2 e.1.text :: L) (frA e :: L) := Imp.app (L := [cl e.2.1 #[.slice e.2.2.1 e.1.text.length e.2.2.2, nvv e.1.is] 106, ownB e.2.2.1 e.2.2.2 e.1.text])
theorem frA_open {e : FV} {L : List Asrt} : Imp (frA e :: L) (cl e.2.1 #[.slice e.2.2.1 e.1.text.length e.2.2.2, nvv e.1.is] 106 :: ownB e.2.2.1 e.2.2.2 e.1.text :: L) := Imp.unapp (L := [cl e.2.1 #[.slice e.2.2.1 e.1.text.length e.2.2.2, nvv e.1.is] 106, ownB e.2.2.1 e.2.2.2 e.1.text])
theorem held_lt {c : PC} {l : List FV} (hk : PgOk ph s c l) {n : Int} (hn : n ∈ fpages l) : ∃ i, ∃ hi : i < l.length, l[i].1.page = n := by
  obtain ⟨i, hi, e⟩ := List.mem_iff_getElem.1 hn
  have hi' : i < l.length := by simpa [fpages] using hi
  exact ⟨i, hi', by rw [← e]; simp [fpages]⟩
theorem numbers_f {c : PC} {l : List FV} (hk : PgOk ph s c l) : PagerS.numbers s = fpages l := by
  unfold PagerS.numbers
  rw [hk.held, List.map_map]; rfl
end
end Go.Sl

/- pager: Load, walked. -/
set_option maxHeartbeats 4000000
set_option maxRecDepth 10000
set_option linter.unusedVariables false
set_option linter.unusedSimpArgs false
namespace Go.Sl
open Go Go.Proofs
attribute [local irreducible] pt pur ex all den denOps denS xOps xC cX CX xthen xblk xcut xloop xng retX resX Calls PV Rd Con
attribute [local irreducible] hostA pcl pgSealB pgOpenR PagerS.writeP PagerS.roomP HostS.readR
open PagerS (PS Over)
section
variable {p ph : Nat} {s : PS} {h : HostS.HS}
theorem load_x (hov : Over s h) (hops : h.ops + 1 < 3518437208880) (n : Int) :
    Con Tryz.prog 14 [hp p, .int .i64 n] [pgA p ph s, hostA ph h] (fun r M => ∃ a c, r = .tuple #[.slice a (PagerS.loadP s h n).1.1.length c, nvv (PagerS.loadP s h n).1.2] ∧ M = [ownB a c (PagerS.loadP s h n).1.1, pgA p ph (PagerS.loadP s h n).2.1, hostA ph (PagerS.loadP s h n).2.2]) := by
  by_cases hr : PagerS.rightP s n = 0
  · obtain ⟨hr0, hr1⟩ : s.err = 0 ∧ 0 ≤ n ∧ n < s.pages := by
      unfold PagerS.rightP at hr
      split at hr
      · rename_i he; exact absurd hr he
      · rename_i he
        split at hr
        · cases hr
        · rename_i hpp; exact ⟨by omega, by omega, by omega⟩
    refine Con.pgA fun c l hk => ?_
    refine Con.pre ?_ (pgA_mk hk)
    by_cases hin : n ∈ fpages l
    · obtain ⟨i, hi, rfl⟩ := held_lt hk hin
      have e : PagerS.loadP s h l[i].1.page = ((l[i].1.text, 0), PagerS.useP s l[i].1, h) := by
        unfold PagerS.loadP
        rw [if_pos hr, hk.fr hi]
      rw [e]
      refine fn_x Tryz.func14 rfl rfl rfl Tryz.mixed (by kernel_rfl) ?_
      intro w0
      refine Y7 ?_
      refine Zh8 rfl (by kernel_rfl) (right_p l[i].1.page) rfl qT ?_
      rintro _ _ ⟨rfl, rfl⟩
      refine Y6 ?_
      refine Zhn 17 rfl (decide_eq_false (fun hh => hh hr)) ?_
      refine V2 ?_
      refine x_pgA fun c l' hk' => ?_
      simp only [List.cons_append, List.nil_append]
      obtain ⟨j, hj, ej⟩ := held_lt hk' (n := l[i].1.page) (by rw [← numbers_f hk', numbers_f hk]; exact hin)
      have hfr : l'[j].1 = l[i].1 := by
        have e1 := hk'.fr hj
        rw [ej, hk.fr hi] at e1
        exact (Option.some.inj e1).symm
      rw [← hfr]
      have htl : l'[j].1.text.length = s.text := hk'.ok.len _ (by rw [hk'.held]; exact List.mem_map.2 ⟨l'[j], List.getElem_mem hj, rfl⟩)
      have his : l'[j].1.is ≤ 2 := hk'.ok.is _ (by rw [hk'.held]; exact List.mem_map.2 ⟨l'[j], List.getElem_mem hj, rfl⟩)
      have hr2 := hr1
      rw [← ej] at hr2 hr
      have hat := others_at hk'.nodup hj
      have hkey := hk'.ok.key
      refine Y4 ?_
      refine Zhp rfl qH (pg_f hkey (k := 4) rfl) ?_
      refine Y1 ?_
      refine Zoc rfl rfl qH (v := hp l'[j].2.1) (by rw [heldF_at hk'.nodup hj]; rfl) ?_
      refine Y5 ?_
      refine Zhn 26 rfl (rfl) ?_
      refine Y6 ?_
      refine Zh8 rfl (by kernel_rfl) (use_x hk'.ok.key (zs := fpages l') (by rw [show (fpages l').length = l'.length by simp [fpages]]; exact hk'.len) hk'.nodup (F := heldF l') l'[j].1.page (l'[j].2.1) (by have := hk'.ok.most; have := hk'.ok.w1; omega) hk'.n) rfl qT ?_
      rintro _ _ ⟨oa', oc', rfl⟩
      refine V2 ?_
      refine Zgp (((Imp.arr (N := star frA l' :: cl p (pcl { s with most := max s.most (used (fpages l') l'[j].1.page).length } { c with oa := oa', n := (used (fpages l') l'[j].1.page).length, oc := oc' }) 102 :: fmA c.bh (fput (heldF l') l'[j].1.page (some (hp l'[j].2.1))) :: fmA c.bl (lastF s.last) :: ownI oa' oc' (used (fpages l') l'[j].1.page) :: [hostA ph h]) qV).trans (star_at hj)).trans frA_open) ?_
      refine Y5 ?_
      refine Zh8 rfl (by kernel_rfl) (cloneB_x (L := [ownB (l'[j].2.2.1) (l'[j].2.2.2) l'[j].1.text]) (Rd.own .here) (by have := hk'.ok.t1; omega)) rfl qT ?_
      rintro _ _ ⟨a', c', rfl, rfl⟩
      refine V4 ?_
      refine rx2 (Zhc rfl (Zg9 rfl (Zg7))) ?_
      have hpk := pg_used (p := p) (L := [hostA ph h]) hk' l'[j] (.inl (by rw [hk'.fr hj]; rfl)) hr2 htl his oa' oc'
      rw [hat] at hpk
      refine ⟨_, ⟨a', c', rfl, rfl⟩, ?_⟩
      exact (Imp.arr (N := ownB a' c' l'[j].1.text :: cl l'[j].2.1 #[.slice l'[j].2.2.1 l'[j].1.text.length l'[j].2.2.2, nvv l'[j].1.is] 106 :: ownB l'[j].2.2.1 l'[j].2.2.2 l'[j].1.text :: star frA (l'.eraseIdx j) :: cl p (pcl { s with most := max s.most (used (fpages l') l'[j].1.page).length } { c with oa := oa', n := (used (fpages l') l'[j].1.page).length, oc := oc' }) 102 :: fmA c.bh (fput (heldF l') l'[j].1.page (some (hp l'[j].2.1))) :: fmA c.bl (lastF s.last) :: ownI oa' oc' (used (fpages l') l'[j].1.page) :: [hostA ph h]) qV).trans (Imp.cons ((frA_mk.trans (Imp.arr qV)).trans hpk))
    · have hno := hk.none hin
      have hnn : n ∉ PagerS.numbers s := by rw [numbers_f hk]; exact hin
      obtain ⟨ro1, ro2⟩ := roomP_over hov
      obtain ⟨rs1, rs2, rs3, rs4, rs5, rs6⟩ := roomP_same (h := h) hk.ok
      have hops1 : (PagerS.roomP s h).2.2.ops < 3518437208880 := by omega
      refine fn_x Tryz.func14 rfl rfl rfl Tryz.mixed (by kernel_rfl) ?_
      intro w0
      refine Y7 ?_
      refine Zh8 rfl (by kernel_rfl) (right_p n) rfl qT ?_
      rintro _ _ ⟨rfl, rfl⟩
      refine Y6 ?_
      refine Zhn 17 rfl (decide_eq_false (fun hh => hh hr)) ?_
      refine V2 ?_
      refine x_pgA fun c l hk => ?_
      simp only [List.cons_append, List.nil_append]
      have hin : n ∉ fpages l := by rw [← numbers_f hk]; exact hnn
      have hkey := hk.ok.key
      refine Y4 ?_
      refine Zhp rfl qH (pg_f hkey (k := 4) rfl) ?_
      refine Y1 ?_
      refine Zoc rfl rfl qH (v := .pointer none) (by rw [heldF_no hin]; rfl) ?_
      refine Y5 ?_
      refine Zhm 26 rfl (rfl) ?_
      refine V2 ?_
      refine Zgp ((Imp.arr (N := pgL p s c l ++ [hostA ph h]) qV).trans (pgA_mk hk)) ?_
      refine Y2 ?_
      refine Zh8 rfl (by kernel_rfl) (room_x hov (by omega)) rfl qT ?_
      rintro _ _ ⟨rfl, rfl⟩
      refine V3 ?_
      by_cases hz : (PagerS.roomP s h).1 = 0
      · refine Y3 ?_
        refine Zhn 30 rfl (decide_eq_false (fun hh => hh hz)) ?_
        refine V2 ?_
        have e : PagerS.loadP s h n = PagerS.fetchP (PagerS.roomP s h).2.1 (PagerS.roomP s h).2.2 n := by
          unfold PagerS.loadP
          rw [if_pos hr, hno]
          dsimp only
          rw [if_pos hz]
        rw [e]
        have hroom := rs6 hz
        rw [← rs1] at hroom
        have hnn1 := rs5 n hnn
        rw [← rs2] at hr1
        generalize (PagerS.roomP s h).2.1 = s1 at *
        generalize (PagerS.roomP s h).2.2 = h1 at *
        refine Y1 ?_
        refine Zhg (Zdm (cs := #[.slice none 0 0, .int .i64 0]) (by kernel_rfl)) ?_
        refine Zh5 rfl ?_; intro b33
        refine V2 ?_
        refine Zgp (Imp.arr (N := pgA p ph s1 :: cl b33 #[.slice none 0 0, nvv 0] 106 :: [hostA ph h1]) qV) ?_
        refine x_pgA fun c l hk => ?_
        simp only [List.cons_append, List.nil_append]
        have hin : n ∉ fpages l := by rw [← numbers_f hk]; exact hnn1
        have hkey := hk.ok.key
        have hoth := others_no hin
        obtain rfl := hk.ph
        cases hl : s1.last n with
        | none =>
          have e : PagerS.fetchP s1 h1 n = ((List.replicate s1.text 0#8, 0), PagerS.useP s1 ⟨n, List.replicate s1.text 0#8, 0⟩, h1) := by unfold PagerS.fetchP; rw [hl]
          rw [e]
          refine Y4 ?_
          refine Zhp rfl qH (pg_f hkey (k := 6) rfl) ?_
          refine Y1 ?_
          refine Zoe rfl rfl qH (v := .agg (plc plc0)) (t := false) (by unfold lastF; rw [hl]; rfl) (by unfold lastF; rw [hl]; rfl) ?_
          refine Y3 ?_
          refine Zhz (cs := #[u64b 0#64, u32b 0#32, u32b 0#32, u32b 0#32]) rfl ?_; intro b9
          first|refine Zhy rfl rfl qR qZ qN qZ ?_|refine Zhx rfl rfl qR qZ qN qZ rfl ?_
          refine V6 ?_
          have htx0 := hk.ok.t0
          have htx1 := hk.ok.t1
          refine Y5 ?_
          refine Zhp rfl qH (pg_f hkey (k := 3) rfl) ?_
          refine Zm3 (f := u8b) (a := 0#8) rfl rfl rfl qS qS qS ?_; intro b81
          refine V4 ?_
          have hrl : (List.replicate s1.text 0#8).length = s1.text := List.length_replicate ..
          refine Zgp ((Imp.arr (N := cl b81 ((List.replicate s1.text 0#8).map u8b).toArray 5 :: cl b33 #[.slice (some ⟨b81, 0, none⟩) s1.text s1.text, nvv 0] 106 :: pgL p s1 c l ++ [hostA c.ph h1]) qV).trans (Imp.own_mk (E := 5) (size := 1) (n := (List.replicate s1.text 0#8).length) (cap := s1.text) (xs := (List.replicate s1.text 0#8).map u8b) (by simp) (by omega) (by simp) (by simp))) ?_
          simp only [List.cons_append, List.nil_append]
          have hcl : cl b33 #[.slice (some ⟨b81, 0, none⟩) s1.text s1.text, nvv 0] 106 = cl b33 #[.slice (some ⟨b81, 0, none⟩) (List.replicate s1.text 0#8).length s1.text, nvv 0] 106 := by rw [hrl]
          rw [hcl]
          refine Y4 ?_
          refine Zh8 rfl (by kernel_rfl) (use_x hk.ok.key (zs := fpages l) (by rw [show (fpages l).length = l.length by simp [fpages]]; exact hk.len) hk.nodup (F := heldF l) n (b33) (by have := hk.ok.most; have := hk.ok.w1; omega) hk.n) rfl qT ?_
          rintro _ _ ⟨oa', oc', rfl⟩
          refine Y7 ?_
          refine Zh8 rfl (by kernel_rfl) (cloneB_x (L := [ownB (some ⟨b81, 0, none⟩) (s1.text) (List.replicate s1.text 0#8)]) (Rd.own .here) (by have := hk.ok.t1; omega)) rfl qT ?_
          rintro _ _ ⟨a', c', rfl, rfl⟩
          refine V4 ?_
          refine rx2 (Zhc rfl (Zg9 rfl (Zg7))) ?_
          have hpk := pg_used (p := p) (L := [hostA c.ph h1]) hk ((⟨n, List.replicate s1.text 0#8, 0⟩, b33, some ⟨b81, 0, none⟩, s1.text) : FV) (.inr hroom) hr1 (by simp) (by dsimp only; omega) oa' oc'
          dsimp only at hpk
          rw [hoth] at hpk
          refine ⟨_, ⟨a', c', rfl, rfl⟩, ?_⟩
          exact (Imp.arr (N := ownB a' c' (List.replicate s1.text 0#8) :: cl b33 #[.slice (some ⟨b81, 0, none⟩) (List.replicate s1.text 0#8).length (s1.text), nvv 0] 106 :: ownB (some ⟨b81, 0, none⟩) (s1.text) (List.replicate s1.text 0#8) :: star frA l :: cl p (pcl { s1 with most := max s1.most (used (fpages l) n).length } { c with oa := oa', n := (used (fpages l) n).length, oc := oc' }) 102 :: fmA c.bh (fput (heldF l) n (some (hp b33))) :: fmA c.bl (lastF s1.last) :: ownI oa' oc' (used (fpages l) n) :: [hostA c.ph h1]) qV).trans (Imp.cons ((((frA_mk (e := ((⟨n, List.replicate s1.text 0#8, 0⟩, b33, some ⟨b81, 0, none⟩, s1.text) : FV))).trans (Imp.arr qV))).trans hpk))
        | some pl =>
          refine Y4 ?_
          refine Zhp rfl qH (pg_f hkey (k := 6) rfl) ?_
          refine Y1 ?_
          refine Zoe rfl rfl qH (v := .agg (plc pl)) (t := true) (by unfold lastF; rw [hl]; rfl) (by unfold lastF; rw [hl]; rfl) ?_
          refine Y3 ?_
          refine Zhz (cs := #[u64b 0#64, u32b 0#32, u32b 0#32, u32b 0#32]) rfl ?_; intro b9
          first|refine Zhy rfl rfl qR qZ qN qZ ?_|refine Zhx rfl rfl qR qZ qN qZ rfl ?_
          refine V6 ?_
          refine Zgt (fun F w H => host_ok qH H) ?_
          intro hho
          have herr := readR_err2 h1 n
          refine Y4 ?_
          refine Zhp rfl qH (pg_st) ?_
          refine Y1 ?_
          refine Znt rfl (met_read c.ph) (by kernel_rfl) (read_x (p := c.ph) n hops1) rfl qT ?_
          rintro _ _ ⟨xa, xc, rfl, rfl⟩
          refine V7 ?_
          by_cases h0 : (HostS.readR h1 n).2.1 = 0
          · have hbl := readR_len hho h0
            have hsz := ro1.size
            have hpz := pg_size (c := c) hkey
            have htx1 := hk.ok.t1
            have hop := fun xa xc => pgOpen_x (L := [ownB xa xc (HostS.readR h1 n).1]) s1.key hkey pl (Bs.own .here) (by omega)
            refine Y3 ?_
            refine Zhm 54 rfl (decide_eq_true (h0)) ?_
            refine V2 ?_
            refine Zij ([cl p (pcl s1 c) 102, cl b9 (plc pl) 108, cl b33 #[.slice none 0 0, nvv 0] 106]) [5] (.q 0 (.q 1 (.q 2 (.q 3 (.q 6 (.r 4 (.r 5 (.e 7 false (.q 8 (.q 9 (.q 10 (.q 11 (.q 12 (.e 13 false (.q 14 .nil))))))))))))))) (by kernel_rfl) (by kernel_rfl) (Imp.arr qV) ?_
            refine W5 ?_
            refine Zix (n := 32) rfl rfl qH qZ (pg_key hkey) ?_
            refine W1 ?_
            refine Ziq rfl ?_
            refine Zh8 rfl (by kernel_rfl) (hop xa xc) rfl qT ?_
            rintro _ _ ⟨ya, yc, rfl, rfl⟩
            refine Y1 ?_
            refine Zg3 ⟨(fun hh => Bool.noConfusion hh), ?_⟩
            refine W5 ?_
            refine Ziq rfl ?_
            refine Y1 ?_
            refine Zg3 ⟨(fun hh => Bool.noConfusion hh), ?_⟩
            refine W2 ?_
            refine Ct.o ?_
            by_cases h2 : (pgOpenR s1.key pl (HostS.readR h1 n).1).2 = 0
            · have e : PagerS.fetchP s1 h1 n = (((pgOpenR s1.key pl (HostS.readR h1 n).1).1, 0), PagerS.useP s1 ⟨n, (pgOpenR s1.key pl (HostS.readR h1 n).1).1, 1⟩, (HostS.readR h1 n).2.2) := by
                unfold PagerS.fetchP
                rw [hl]
                dsimp only
                rw [if_pos h0, if_pos h2]
              rw [e]
              refine Y3 ?_
              refine Zhn 69 rfl (decide_eq_false (fun hh => hh h2)) ?_
              refine V8 ?_
              have hot : (pgOpenR s1.key pl (HostS.readR h1 n).1).1.length = s1.text := by
                have := pg_form s1.key pl (HostS.readR h1 n).1 (by
                  by_cases hh : pgOpens s1.key pl (HostS.readR h1 n).1
                  · exact hh
                  · rw [pgOpenR_not _ _ _ hh] at h2; cases h2)
                omega
              refine Y4 ?_
              refine Zh8 rfl (by kernel_rfl) (use_x hk.ok.key (zs := fpages l) (by rw [show (fpages l).length = l.length by simp [fpages]]; exact hk.len) hk.nodup (F := heldF l) n (b33) (by have := hk.ok.most; have := hk.ok.w1; omega) hk.n) rfl qT ?_
              rintro _ _ ⟨oa', oc', rfl⟩
              refine Y7 ?_
              refine Zh8 rfl (by kernel_rfl) (cloneB_x (L := [ownB (ya) (yc) ((pgOpenR s1.key pl (HostS.readR h1 n).1).1)]) (Rd.own .here) (by have := hk.ok.t1; omega)) rfl qT ?_
              rintro _ _ ⟨a', c', rfl, rfl⟩
              refine V4 ?_
              refine rx2 (Zhc rfl (Zg9 rfl (Zg7))) ?_
              have hpk := pg_used (p := p) (L := [hostA c.ph (HostS.readR h1 n).2.2]) hk ((⟨n, (pgOpenR s1.key pl (HostS.readR h1 n).1).1, 1⟩, b33, ya, yc) : FV) (.inr hroom) hr1 hot (by dsimp only; omega) oa' oc'
              dsimp only at hpk
              rw [hoth] at hpk
              refine ⟨_, ⟨a', c', rfl, rfl⟩, ?_⟩
              exact (Imp.arr (N := ownB a' c' ((pgOpenR s1.key pl (HostS.readR h1 n).1).1) :: cl b33 #[.slice (ya) ((pgOpenR s1.key pl (HostS.readR h1 n).1).1).length (yc), nvv 1] 106 :: ownB (ya) (yc) ((pgOpenR s1.key pl (HostS.readR h1 n).1).1) :: star frA l :: cl p (pcl { s1 with most := max s1.most (used (fpages l) n).length } { c with oa := oa', n := (used (fpages l) n).length, oc := oc' }) 102 :: fmA c.bh (fput (heldF l) n (some (hp b33))) :: fmA c.bl (lastF s1.last) :: ownI oa' oc' (used (fpages l) n) :: [hostA c.ph (HostS.readR h1 n).2.2]) qV).trans (Imp.cons ((((frA_mk (e := ((⟨n, (pgOpenR s1.key pl (HostS.readR h1 n).1).1, 1⟩, b33, ya, yc) : FV))).trans (Imp.arr qV))).trans hpk))
            · have e : PagerS.fetchP s1 h1 n = (([], (pgOpenR s1.key pl (HostS.readR h1 n).1).2), PagerS.die s1 (pgOpenR s1.key pl (HostS.readR h1 n).1).2, (HostS.readR h1 n).2.2) := by
                unfold PagerS.fetchP
                rw [hl]
                dsimp only
                rw [if_pos h0, if_neg h2]
              rw [e]
              have hbig : (pgOpenR s1.key pl (HostS.readR h1 n).1).2 ≤ 1000 := by
                with_unfolding_all unfold pgOpenR
                split <;> simp
              refine Y3 ?_
              refine Zhm 69 rfl (decide_eq_true (h2)) ?_
              refine Y5 ?_
              refine Zh8 rfl (by kernel_rfl) (die_x hkey (pgOpenR s1.key pl (HostS.readR h1 n).1).2) rfl qT ?_
              rintro _ _ ⟨rfl, rfl⟩
              refine V4 ?_
              refine rx2 (Zhc rfl (Zg9 rfl (Zg7))) ?_
              have hkd : PgOk c.ph (PagerS.die s1 (pgOpenR s1.key pl (HostS.readR h1 n).1).2) c l := ⟨PagerS.ok_die hk.ok _ hbig, rfl, hk.held, hk.n⟩
              exact ⟨_, ⟨none, 0, rfl, rfl⟩, ((Imp.arr (N := pgL p (PagerS.die s1 (pgOpenR s1.key pl (HostS.readR h1 n).1).2) c l ++ [hostA c.ph (HostS.readR h1 n).2.2]) qV).trans (pgA_mk hkd)).trans Imp.own_nil⟩
          · have e : PagerS.fetchP s1 h1 n = (([], (HostS.readR h1 n).2.1), PagerS.die s1 (HostS.readR h1 n).2.1, (HostS.readR h1 n).2.2) := by
              unfold PagerS.fetchP
              rw [hl]
              dsimp only
              rw [if_neg h0]
            rw [e]
            refine Y3 ?_
            refine Zhn 54 rfl (decide_eq_false (h0)) ?_
            refine Y5 ?_
            refine Zhm 69 rfl (decide_eq_true (h0)) ?_
            refine Y5 ?_
            refine Zh8 rfl (by kernel_rfl) (die_x hkey (HostS.readR h1 n).2.1) rfl qT ?_
            rintro _ _ ⟨rfl, rfl⟩
            refine V4 ?_
            refine rx2 (Zhc rfl (Zg9 rfl (Zg7))) ?_
            have hkd : PgOk c.ph (PagerS.die s1 (HostS.readR h1 n).2.1) c l := ⟨PagerS.ok_die hk.ok _ herr, rfl, hk.held, hk.n⟩
            exact ⟨_, ⟨none, 0, rfl, rfl⟩, ((Imp.arr (N := pgL p (PagerS.die s1 (HostS.readR h1 n).2.1) c l ++ [hostA c.ph (HostS.readR h1 n).2.2]) qV).trans (pgA_mk hkd)).trans Imp.own_nil⟩
      · have e : PagerS.loadP s h n = (([], (PagerS.roomP s h).1), (PagerS.roomP s h).2) := by
          unfold PagerS.loadP
          rw [if_pos hr, hno]
          dsimp only
          rw [if_neg hz]
        rw [e]
        refine Y3 ?_
        refine Zhm 30 rfl (decide_eq_true (hz)) ?_
        refine V7 ?_
        refine rx2 (Zhc rfl (Zg9 rfl (Zg7))) ?_
        exact ⟨_, ⟨none, 0, rfl, rfl⟩, (Imp.arr (N := [pgA p ph (PagerS.roomP s h).2.1, hostA ph (PagerS.roomP s h).2.2]) qV).trans Imp.own_nil⟩
  · have e : PagerS.loadP s h n = (([], PagerS.rightP s n), s, h) := by unfold PagerS.loadP; rw [if_neg hr]
    rw [e]
    refine fn_x Tryz.func14 rfl rfl rfl Tryz.mixed (by kernel_rfl) ?_
    intro w0
    refine Y7 ?_
    refine Zh8 rfl (by kernel_rfl) (right_p n) rfl qT ?_
    rintro _ _ ⟨rfl, rfl⟩
    refine Y6 ?_
    refine Zhm 17 rfl (decide_eq_true (hr)) ?_
    refine V7 ?_
    refine rx2 (Zhc rfl (Zg9 rfl (Zg7))) ?_
    exact ⟨_, ⟨none, 0, rfl, rfl⟩, (Imp.arr (N := [pgA p ph s, hostA ph h]) qV).trans Imp.own_nil⟩
end
end Go.Sl

/- pager: Save, Flush, Held, walked. -/
set_option maxHeartbeats 4000000
set_option maxRecDepth 10000
set_option linter.unusedVariables false
set_option linter.unusedSimpArgs false
namespace Go.Sl
open Go Go.Proofs
attribute [local irreducible] pt pur ex all den denOps denS xOps xC cX CX xthen xblk xcut xloop xng retX resX Calls PV Rd Con
attribute [local irreducible] hostA pcl pgSealB pgOpenR PagerS.writeP PagerS.roomP HostS.readR
open PagerS (PS Over)
section
variable {p ph : Nat} {s : PS} {h : HostS.HS} {L : List Asrt}
theorem rightP_zero {n : Int} (hr : PagerS.rightP s n = 0) : s.err = 0 ∧ 0 ≤ n ∧ n < s.pages := by
  unfold PagerS.rightP at hr
  split at hr
  · rename_i he; exact absurd hr he
  · rename_i he
    split at hr
    · cases hr
    · rename_i hpp; exact ⟨by omega, by omega, by omega⟩
theorem held_x : Con Tryz.prog 16 [hp p] [pgA p ph s] (fun r M => ∃ a c, r = .slice a (PagerS.numbers s).length c ∧ M = [ownI a c (PagerS.numbers s), pgA p ph s]) := by
  refine Con.pgA fun c l hk => ?_
  simp only [List.cons_append, List.nil_append, List.append_nil]
  have hl16 := hk.len
  have hkey := hk.ok.key
  have hn := hk.n
  have hcl := clone_x (L := [ownI c.oa c.oc (fpages l)]) (a := c.oa) (c := c.oc) (zs := fpages l) (Rd.own .here) (by simp [fpages]; omega)
  rw [← hn] at hcl
  rw [numbers_f hk]
  refine fn_x Tryz.func16 rfl rfl rfl Tryz.mixed (by kernel_rfl) ?_
  intro w0
  refine Y6 ?_
  refine Zhn 4 rfl (rfl) ?_
  refine Y6 ?_
  refine Zhp rfl qH (pg_f hkey (k := 5) rfl) ?_
  refine Zh8 rfl (by kernel_rfl) (hcl) rfl qT ?_
  rintro _ _ ⟨a', c', rfl, rfl⟩
  refine V3 ?_
  refine rx1 (Zhc rfl (Zg7)) ?_
  exact ⟨_, ⟨a', c', by rw [hn], rfl⟩, (Imp.arr (N := ownI a' c' (fpages l) :: pgL p s c l ++ []) qV).trans (Imp.cons (pgA_mk hk))⟩
theorem save_x (hov : Over s h) (hops : h.ops + 1 < 3518437208880) (n : Int) {tv : Value} {t : List Byte} (ht : Bs L tv t) :
    Con Tryz.prog 12 [hp p, .int .i64 n, tv] (pgA p ph s :: hostA ph h :: L) (fun r M => r = nvv (PagerS.saveP s h n t).1 ∧ M = pgA p ph (PagerS.saveP s h n t).2.1 :: hostA ph (PagerS.saveP s h n t).2.2 :: L) := by
  refine Con.get (fun w0 w F H => ht.sh _ _ _ (H.enx (Imp.tail.trans Imp.tail))) ?_
  rintro ⟨ta, tc, rfl, htc, htcm⟩
  by_cases hr : PagerS.rightP s n = 0
  · obtain ⟨hr0, hr1⟩ := rightP_zero hr
    refine Con.pgA fun c l hk => ?_
    refine Con.pre ?_ (pgA_mk hk)
    have ht1 := hk.ok.t1
    by_cases htl : t.length = s.text
    · by_cases hin : n ∈ fpages l
      · obtain ⟨i, hi, rfl⟩ := held_lt hk hin
        have e : PagerS.saveP s h l[i].1.page t = (0, PagerS.useP s ⟨l[i].1.page, t, 2⟩, h) := by
          unfold PagerS.saveP
          rw [if_pos hr, if_pos htl, hk.fr hi]
        rw [e]
        refine fn_x Tryz.func12 rfl rfl rfl Tryz.mixed (by kernel_rfl) ?_
        intro w0
        refine Y6 ?_
        refine Zh8 rfl (by kernel_rfl) (right_p l[i].1.page) rfl qT ?_
        rintro _ _ ⟨rfl, rfl⟩
        refine Y6 ?_
        refine Zhn 13 rfl (decide_eq_false (fun hh => hh hr)) ?_
        refine V2 ?_
        refine x_pgA fun c l' hk' => ?_
        simp only [List.cons_append, List.nil_append]
        obtain ⟨j, hj, ej⟩ := held_lt hk' (n := l[i].1.page) (by rw [← numbers_f hk', numbers_f hk]; exact hin)
        rw [← ej] at hr1 hr
        rw [← ej]
        have hkey := hk'.ok.key
        refine Y6 ?_
        refine Zhp rfl qH (pg_f hkey (k := 3) rfl) ?_
        refine Y1 ?_
        refine Zhn 21 rfl (decide_eq_false (fun hh => hh htl)) ?_
        refine Y6 ?_
        refine Zhp rfl qH (pg_f hkey (k := 4) rfl) ?_
        refine Y1 ?_
        refine Zoc rfl rfl qH (v := hp l'[j].2.1) (by rw [heldF_at hk'.nodup hj]; rfl) ?_
        refine Y1 ?_
        refine Zhn 28 rfl (rfl) ?_
        refine Y6 ?_
        refine Zh8 rfl (by kernel_rfl) (cloneB_x (L := L) ht.rd (by omega)) rfl qT ?_
        rintro _ _ ⟨xa, xc, rfl, rfl⟩
        refine Y1 ?_
        refine Zhg (Zdm (cs := #[.slice _ _ _, .int .i64 2]) rfl) ?_
        refine Zh5 rfl ?_; intro b39
        refine Zh8 rfl (by kernel_rfl) (use_x hk'.ok.key (zs := fpages l') (by rw [show (fpages l').length = l'.length by simp [fpages]]; exact hk'.len) hk'.nodup (F := heldF l') (l'[j].1.page) b39 (by have := hk'.ok.most; have := hk'.ok.w1; omega) hk'.n) rfl qT ?_
        rintro _ _ ⟨oa', oc', rfl⟩
        refine V5 ?_
        refine rx1 (Zg9 rfl (Zg7)) ?_
        have hat := others_at hk'.nodup hj
        have hpk := pg_used (p := p) (L := hostA ph h :: L) hk' ((⟨l'[j].1.page, t, 2⟩, b39, xa, xc) : FV) (.inl (by dsimp only; rw [hk'.fr hj]; rfl)) hr1 htl (by dsimp only; omega) oa' oc'
        dsimp only at hpk
        rw [hat] at hpk
        refine ⟨_, ⟨rfl, rfl⟩, ?_⟩
        exact ((Imp.arr (N := star frA l' :: cl b39 #[.slice xa t.length xc, nvv 2] 106 :: ownB xa xc t :: cl p (pcl { s with most := max s.most (used (fpages l') l'[j].1.page).length } { c with oa := oa', n := (used (fpages l') l'[j].1.page).length, oc := oc' }) 102 :: fmA c.bh (fput (heldF l') l'[j].1.page (some (hp b39))) :: fmA c.bl (lastF s.last) :: ownI oa' oc' (used (fpages l') l'[j].1.page) :: hostA ph h :: L) qV).trans ((star_at hj).trans Imp.tail)).trans (((Imp.arr (N := cl b39 #[.slice xa t.length xc, nvv 2] 106 :: ownB xa xc t :: star frA (l'.eraseIdx j) :: cl p (pcl { s with most := max s.most (used (fpages l') l'[j].1.page).length } { c with oa := oa', n := (used (fpages l') l'[j].1.page).length, oc := oc' }) 102 :: fmA c.bh (fput (heldF l') l'[j].1.page (some (hp b39))) :: fmA c.bl (lastF s.last) :: ownI oa' oc' (used (fpages l') l'[j].1.page) :: hostA ph h :: L) qV).trans (frA_mk (e := ((⟨l'[j].1.page, t, 2⟩, b39, xa, xc) : FV)))).trans ((Imp.arr qV).trans hpk))
      · have hno := hk.none hin
        have hnn : n ∉ PagerS.numbers s := by rw [numbers_f hk]; exact hin
        obtain ⟨ro1, ro2⟩ := roomP_over hov
        obtain ⟨rs1, rs2, rs3, rs4, rs5, rs6⟩ := roomP_same (h := h) hk.ok
        refine fn_x Tryz.func12 rfl rfl rfl Tryz.mixed (by kernel_rfl) ?_
        intro w0
        refine Y6 ?_
        refine Zh8 rfl (by kernel_rfl) (right_p n) rfl qT ?_
        rintro _ _ ⟨rfl, rfl⟩
        refine Y6 ?_
        refine Zhn 13 rfl (decide_eq_false (fun hh => hh hr)) ?_
        refine V2 ?_
        refine x_pgA fun c l hk => ?_
        simp only [List.cons_append, List.nil_append]
        have hin : n ∉ fpages l := by rw [← numbers_f hk]; exact hnn
        have hkey := hk.ok.key
        refine Y6 ?_
        refine Zhp rfl qH (pg_f hkey (k := 3) rfl) ?_
        refine Y1 ?_
        refine Zhn 21 rfl (decide_eq_false (fun hh => hh htl)) ?_
        refine Y6 ?_
        refine Zhp rfl qH (pg_f hkey (k := 4) rfl) ?_
        refine Y1 ?_
        refine Zoc rfl rfl qH (v := .pointer none) (by rw [heldF_no hin]; rfl) ?_
        refine Y1 ?_
        refine Zhm 28 rfl (rfl) ?_
        refine V2 ?_
        refine Zgp ((Imp.arr (N := pgL p s c l ++ (hostA ph h :: L)) qV).trans (pgA_mk hk)) ?_
        refine Y2 ?_
        refine Zh8 rfl (by kernel_rfl) (room_x hov (by omega)) rfl qT ?_
        rintro _ _ ⟨rfl, rfl⟩
        refine V3 ?_
        by_cases hz : (PagerS.roomP s h).1 = 0
        · have e : PagerS.saveP s h n t = (0, PagerS.useP (PagerS.roomP s h).2.1 ⟨n, t, 2⟩, (PagerS.roomP s h).2.2) := by
            unfold PagerS.saveP
            rw [if_pos hr, if_pos htl, hno]
            dsimp only
            rw [if_pos hz]
          rw [e]
          refine Y3 ?_
          refine Zhn 32 rfl (decide_eq_false (fun hh => hh hz)) ?_
          refine V2 ?_
          have hroom := rs6 hz
          rw [← rs1] at hroom
          have hnn1 := rs5 n hnn
          rw [← rs2] at hr1
          have htl1 : t.length = (PagerS.roomP s h).2.1.text := htl.trans rs3.symm
          generalize (PagerS.roomP s h).2.1 = s1 at *
          generalize (PagerS.roomP s h).2.2 = h1 at *
          refine Zgp (Imp.arr (N := pgA p ph s1 :: hostA ph h1 :: L) qV) ?_
          refine x_pgA fun c l' hk' => ?_
          simp only [List.cons_append, List.nil_append]
          have hin : n ∉ fpages l' := by rw [← numbers_f hk']; exact hnn1
          have hkey := hk'.ok.key
          have hoth := others_no hin
          refine Y4 ?_
          refine Zh8 rfl (by kernel_rfl) (cloneB_x (L := L) ht.rd (by omega)) rfl qT ?_
          rintro _ _ ⟨xa, xc, rfl, rfl⟩
          refine Y1 ?_
          refine Zhg (Zdm (cs := #[.slice _ _ _, .int .i64 2]) rfl) ?_
          refine Zh5 rfl ?_; intro b39
          refine Zh8 rfl (by kernel_rfl) (use_x hk'.ok.key (zs := fpages l') (by rw [show (fpages l').length = l'.length by simp [fpages]]; exact hk'.len) hk'.nodup (F := heldF l') (n) b39 (by have := hk'.ok.most; have := hk'.ok.w1; omega) hk'.n) rfl qT ?_
          rintro _ _ ⟨oa', oc', rfl⟩
          refine V5 ?_
          refine rx1 (Zg9 rfl (Zg7)) ?_
          have hpk := pg_used (p := p) (L := hostA ph h1 :: L) hk' ((⟨n, t, 2⟩, b39, xa, xc) : FV) (.inr hroom) hr1 htl1 (by dsimp only; omega) oa' oc'
          dsimp only at hpk
          rw [hoth] at hpk
          refine ⟨_, ⟨rfl, rfl⟩, ?_⟩
          exact ((Imp.arr (N := cl b39 #[.slice xa t.length xc, nvv 2] 106 :: ownB xa xc t :: star frA l' :: cl p (pcl { s1 with most := max s1.most (used (fpages l') n).length } { c with oa := oa', n := (used (fpages l') n).length, oc := oc' }) 102 :: fmA c.bh (fput (heldF l') n (some (hp b39))) :: fmA c.bl (lastF s1.last) :: ownI oa' oc' (used (fpages l') n) :: hostA ph h1 :: L) qV).trans (frA_mk (e := ((⟨n, t, 2⟩, b39, xa, xc) : FV)))).trans ((Imp.arr qV).trans hpk)
        · have e : PagerS.saveP s h n t = PagerS.roomP s h := by
            unfold PagerS.saveP
            rw [if_pos hr, if_pos htl, hno]
            dsimp only
            rw [if_neg hz]
          rw [e]
          refine Y3 ?_
          refine Zhm 32 rfl (decide_eq_true (hz)) ?_
          refine V6 ?_
          refine rx1 (Zg9 rfl (Zg7)) ?_
          exact ⟨_, ⟨rfl, rfl⟩, qI⟩
    · have e : PagerS.saveP s h n t = (4, s, h) := by
        unfold PagerS.saveP
        rw [if_pos hr, if_neg htl]
      rw [e]
      refine fn_x Tryz.func12 rfl rfl rfl Tryz.mixed (by kernel_rfl) ?_
      intro w0
      refine Y6 ?_
      refine Zh8 rfl (by kernel_rfl) (right_p n) rfl qT ?_
      rintro _ _ ⟨rfl, rfl⟩
      refine Y6 ?_
      refine Zhn 13 rfl (decide_eq_false (fun hh => hh hr)) ?_
      refine V2 ?_
      refine x_pgA fun c l hk => ?_
      simp only [List.cons_append, List.nil_append]
      have hkey := hk.ok.key
      refine Y6 ?_
      refine Zhp rfl qH (pg_f hkey (k := 3) rfl) ?_
      refine Y1 ?_
      refine Zhm 21 rfl (decide_eq_true (htl)) ?_
      refine V5 ?_
      refine rx1 (Zg9 rfl (Zg7)) ?_
      exact ⟨_, ⟨rfl, rfl⟩, (Imp.arr (N := pgL p s c l ++ (hostA ph h :: L)) qV).trans (pgA_mk hk)⟩
  · have e : PagerS.saveP s h n t = (PagerS.rightP s n, s, h) := by unfold PagerS.saveP; rw [if_neg hr]
    rw [e]
    refine fn_x Tryz.func12 rfl rfl rfl Tryz.mixed (by kernel_rfl) ?_
    intro w0
    refine Y6 ?_
    refine Zh8 rfl (by kernel_rfl) (right_p n) rfl qT ?_
    rintro _ _ ⟨rfl, rfl⟩
    refine Y6 ?_
    refine Zhm 13 rfl (decide_eq_true (hr)) ?_
    refine V6 ?_
    refine rx1 (Zg9 rfl (Zg7)) ?_
    exact ⟨_, ⟨rfl, rfl⟩, qI⟩
theorem flushL_step (zs : List Int) {i : Nat} (hi : i < zs.length) (s : PS) (h : HostS.HS) : PagerS.flushL (zs.drop i) s h = if PagerS.changedAt s zs[i] then (if (PagerS.writeP s h zs[i]).1 = 0 then PagerS.flushL (zs.drop (i + 1)) (PagerS.writeP s h zs[i]).2.1 (PagerS.writeP s h zs[i]).2.2 else PagerS.writeP s h zs[i]) else PagerS.flushL (zs.drop (i + 1)) s h := by
  rw [List.drop_eq_getElem_cons hi]; rfl
theorem flush_x (hov : Over s h) (hops : h.ops + 16 < 3518437208880) :
    Con Tryz.prog 34 [hp p] [pgA p ph s, hostA ph h] (fun r M => r = nvv (PagerS.flushP s h).1 ∧ M = [pgA p ph (PagerS.flushP s h).2.1, hostA ph (PagerS.flushP s h).2.2]) := by
  refine Con.pgA fun c l hk => ?_
  simp only [List.cons_append, List.nil_append]
  have hkey := hk.ok.key
  by_cases he : s.err = 0
  · have e : PagerS.flushP s h = PagerS.flushL (sortZ (fpages l)) s h := by
      unfold PagerS.flushP
      rw [if_pos he, numbers_f hk]; rfl
    rw [e]
    have hl16 := hk.len
    have hfl : (fpages l).length = l.length := by simp [fpages]
    have hn := hk.n
    have hzl : (sortZ (fpages l)).length = l.length := by rw [sortZ_len, hfl]
    have hmem : ∀ z ∈ sortZ (fpages l), z ∈ fpages l := fun z hz => (List.mergeSort_perm (fpages l) fun x y => decide (x ≤ y)).mem_iff.1 hz
    have hnum := numbers_f hk
    rw [hfl] at hn
    refine fn_x Tryz.func34 rfl rfl rfl Tryz.mixed (by kernel_rfl) ?_
    intro w0
    refine Y6 ?_
    refine Zhn 7 rfl (rfl) ?_
    refine Y6 ?_
    refine Zhp rfl qH (pg_f hkey (k := 9) rfl) ?_
    refine Y1 ?_
    refine Zhn 12 rfl (decide_eq_false (fun hh => hh he)) ?_
    refine Y6 ?_
    refine Zhp rfl qH (pg_f hkey (k := 5) rfl) ?_
    refine Zh8 rfl (by kernel_rfl) (values_x (L := [])) rfl qT ?_
    rintro _ _ ⟨vb, rfl, rfl⟩
    refine Y1 ?_
    refine Zh8 rfl (by kernel_rfl) ((by have hh := sorted_x (a := c.oa) (c := c.oc) (b := vb) (zs := fpages l) (by omega); rw [hfl, ← hn] at hh; exact hh)) rfl qT ?_
    rintro _ _ ⟨sa, sc, rfl, rfl⟩
    refine V4 ?_
    rw [hn]
    rw [show l.length = (sortZ (fpages l)).length from hzl.symm]
    have hmem2 : ∀ z ∈ sortZ (fpages l), z ∈ PagerS.numbers s := fun z hz => by rw [hnum]; exact hmem z hz
    have hlen2 : (sortZ (fpages l)).length ≤ 16 := by omega
    refine Zgp ((Imp.arr (N := pgL p s c l ++ [hostA ph h, own 3 1 (.slice sa (sortZ (fpages l)).length sc) (sortZ (fpages l)).length (zv (sortZ (fpages l)))]) qV).trans (pgA_mk hk)) ?_
    generalize sortZ (fpages l) = zs at *
    refine Zgo [(2, 2), (4, 5), (24, 44)] (by kernel_rfl) (fun t : Nat × PS × HostS.HS => t.1 ≤ zs.length ∧ PagerS.flushL (zs.drop t.1) t.2.1 t.2.2 = PagerS.flushL zs s h ∧ Over t.2.1 t.2.2 ∧ PagerS.numbers t.2.1 = PagerS.numbers s ∧ t.2.2.ops ≤ h.ops + t.1)
      (fun t => [pgA p ph t.2.1, hostA ph t.2.2, own 3 1 (.slice sa zs.length sc) zs.length (zv zs)]) (fun t => [(24, nvv t.1)]) (fun t => zs.length - t.1) (0, s, h) ⟨Nat.zero_le _, rfl, hov, rfl, Nat.le_add_right _ _⟩ qI ⟨rfl, trivial⟩ ?_
    rintro ⟨i, s1, h1⟩ u ⟨hi, hfl1, hov1, hnm, hop1⟩
    dsimp only at hi hfl1 hov1 hnm hop1 ⊢
    refine V3 ?_
    refine Zgg rfl (fun hB => ?_) (fun hB => ?_)
    · refine Zgt (fun F w H => own_someN (n := zs.length) (a := sa) qH (by omega) H) ?_
      rintro ⟨g, rfl⟩
      rw [flushL_step zs hB] at hfl1
      have hzn : zs[i] ∈ PagerS.numbers s1 := by rw [hnm]; exact hmem2 _ (List.getElem_mem hB)
      refine Y2 ?_
      refine Zff rfl ((Rd.own qH : Rd _ 1 (.slice (some ⟨g, 0, none⟩) zs.length sc) zs.length (zv zs)).at0 hB (by rw [List.getElem?_map, List.getElem?_eq_getElem hB]; rfl)) ?_
      refine V2 ?_
      refine x_pgA fun c1 l1 hk1 => ?_
      simp only [List.cons_append, List.nil_append]
      have hkey1 := hk1.ok.key
      obtain ⟨j, hj, ej⟩ := held_lt hk1 (n := zs[i]) (by rw [← numbers_f hk1]; exact hzn)
      have hch := changedAt_at hk1 hj
      rw [ej] at hch
      have hf0 := heldF_at hk1.nodup hj
      rw [ej] at hf0
      refine Zgp (((Imp.arr (N := star frA l1 :: cl p (pcl s1 c1) 102 :: fmA c1.bh (heldF l1) :: fmA c1.bl (lastF s1.last) :: ownI c1.oa c1.oc (fpages l1) :: [hostA ph h1, own 3 1 (.slice (some ⟨g, 0, none⟩) zs.length sc) zs.length (zv zs)]) qV).trans (star_at hj)).trans frA_open) ?_
      refine Y4 ?_
      refine Zhp rfl qH (pg_f hkey1 (k := 4) rfl) ?_
      refine Y1 ?_
      refine Zoc rfl rfl qH (v := hp l1[j].2.1) (by rw [hf0]; rfl) ?_
      refine V5 ?_
      have hst : Imp (frA l1[j] :: star frA (l1.eraseIdx j) :: (cl p (pcl s1 c1) 102 :: fmA c1.bh (heldF l1) :: fmA c1.bl (lastF s1.last) :: ownI c1.oa c1.oc (fpages l1) :: [hostA ph h1, own 3 1 (.slice (some ⟨g, 0, none⟩) zs.length sc) zs.length (zv zs)])) (star frA l1 :: (cl p (pcl s1 c1) 102 :: fmA c1.bh (heldF l1) :: fmA c1.bl (lastF s1.last) :: ownI c1.oa c1.oc (fpages l1) :: [hostA ph h1, own 3 1 (.slice (some ⟨g, 0, none⟩) zs.length sc) zs.length (zv zs)])) := by
        have hb := star_back (A := frA) hj l1[j] (M := cl p (pcl s1 c1) 102 :: fmA c1.bh (heldF l1) :: fmA c1.bl (lastF s1.last) :: ownI c1.oa c1.oc (fpages l1) :: [hostA ph h1, own 3 1 (.slice (some ⟨g, 0, none⟩) zs.length sc) zs.length (zv zs)])
        rwa [List.set_getElem_self] at hb
      refine Zgp ((((Imp.arr (N := cl l1[j].2.1 #[.slice l1[j].2.2.1 l1[j].1.text.length l1[j].2.2.2, nvv l1[j].1.is] 106 :: ownB l1[j].2.2.1 l1[j].2.2.2 l1[j].1.text :: star frA (l1.eraseIdx j) :: (cl p (pcl s1 c1) 102 :: fmA c1.bh (heldF l1) :: fmA c1.bl (lastF s1.last) :: ownI c1.oa c1.oc (fpages l1) :: [hostA ph h1, own 3 1 (.slice (some ⟨g, 0, none⟩) zs.length sc) zs.length (zv zs)])) qV).trans frA_mk).trans hst).trans ((Imp.arr (N := pgL p s1 c1 l1 ++ [hostA ph h1, own 3 1 (.slice (some ⟨g, 0, none⟩) zs.length sc) zs.length (zv zs)]) qV).trans (pgA_mk hk1))) ?_
      by_cases h2 : l1[j].1.is = 2
      · rw [hch, h2, if_pos (show ((2 : Nat) == 2) = true from rfl)] at hfl1
        refine Zge (by show Value.bool (decide _) = _; rw [decide_eq_true h2]) ?_
        refine Y3 ?_
        refine Zh8 rfl (by kernel_rfl) (pwrite_x hov1 (by omega) zs[i] hzn) rfl qT ?_
        rintro _ _ ⟨rfl, rfl⟩
        refine V3 ?_
        obtain ⟨wo1, wo2⟩ := writeP_over zs[i] hov1
        obtain ⟨ws1, _⟩ := writeP_same s1 h1 zs[i]
        by_cases hz : (PagerS.writeP s1 h1 zs[i]).1 = 0
        · rw [if_pos hz] at hfl1
          refine Y3 ?_
          refine Zhn 42 rfl (decide_eq_false (fun hh => hh hz)) ?_
          refine V6 ?_
          exact Zgl (i + 1, (PagerS.writeP s1 h1 zs[i]).2.1, (PagerS.writeP s1 h1 zs[i]).2.2) qO ⟨by dsimp only; omega, hfl1, wo1, ws1.trans hnm, by dsimp only; omega⟩ qI ⟨rfl, trivial⟩
        · rw [if_neg hz] at hfl1
          refine Y3 ?_
          refine Zhm 42 rfl (decide_eq_true (hz)) ?_
          refine V6 ?_
          refine rx1 (Zg9 rfl (Zg7)) ?_
          rw [← hfl1]
          exact ⟨_, ⟨rfl, rfl⟩, qI⟩
      · rw [hch, if_neg (by simpa using h2)] at hfl1
        refine Zgf (by show Value.bool (decide _) = _; rw [decide_eq_false h2]) ?_
        refine V4 ?_
        exact Zgl (i + 1, s1, h1) qO ⟨by dsimp only; omega, hfl1, hov1, hnm, by dsimp only; omega⟩ qI ⟨rfl, trivial⟩
    · refine V3 ?_
      refine rx1 (Zg9 rfl (Zg7)) ?_
      rw [List.drop_of_length_le (by omega)] at hfl1
      rw [← hfl1]
      exact ⟨_, ⟨rfl, rfl⟩, qI⟩
  · have e : PagerS.flushP s h = (s.err, s, h) := by unfold PagerS.flushP; rw [if_neg he]
    rw [e]
    refine fn_x Tryz.func34 rfl rfl rfl Tryz.mixed (by kernel_rfl) ?_
    intro w0
    refine Y6 ?_
    refine Zhn 7 rfl (rfl) ?_
    refine Y6 ?_
    refine Zhp rfl qH (pg_f hkey (k := 9) rfl) ?_
    refine Y1 ?_
    refine Zhm 12 rfl (decide_eq_true (he)) ?_
    refine Y6 ?_
    refine Zhp rfl qH (pg_f hkey (k := 9) rfl) ?_
    refine V2 ?_
    refine rx1 (Zg9 rfl (Zg7)) ?_
    exact ⟨_, ⟨rfl, rfl⟩, (Imp.arr (N := pgL p s c l ++ [hostA ph h]) qV).trans (pgA_mk hk)⟩
end
end Go.Sl

/- the document's pager (trystref13): Save, walked. -/
set_option maxHeartbeats 4000000
set_option maxRecDepth 10000
set_option linter.unusedVariables false
set_option linter.unusedSimpArgs false
namespace Go.Sl
open Go Go.Proofs
attribute [local irreducible] pt pur ex all den denOps denS xOps xC cX CX xthen xblk xcut xloop xng retX resX Calls PV Rd Con
attribute [local irreducible] hostA refA rpcl pcl pgSealB pgOpenR HostS.writeR HostS.readR PagerS.roomP
open PagerS (PS Over)
section
variable {p q : Nat} {s : PS} {h : HostS.HS} {fl : List HostS.Fault} {L : List Asrt}
theorem x_rpA {w0 : World} {c : Code} {ρ : Env} {Q : XQ} (k : ∀ (d : RC) (hl : List HE) (wl : List Plc), RpOk s d hl wl → d.q = q → xC Tryz.prog w0 c ρ (rpL p s d hl wl ++ L) Q) : xC Tryz.prog w0 c ρ (rpA p q s :: L) Q := by
  unfold rpA
  exact Zgr fun t => Zgs (L := pur (RpOk s t.1 t.2.1 t.2.2 ∧ t.1.q = q) :: rpL p s t.1 t.2.1 t.2.2) (Zgq fun hk => k t.1 t.2.1 t.2.2 hk.1 hk.2)
theorem rp_frOf {c : RC} {hl : List HE} {wl : List Plc} (hk : RpOk s c hl wl) {n : Int} (hno : ∀ e ∈ hl, e.2.page ≠ n) : PagerS.frOf s n = none := by
  cases hf : PagerS.frOf s n with
  | none => rfl
  | some f =>
    obtain ⟨h1, h2⟩ := PagerS.frOf_mem hf
    rw [hk.held] at h1
    obtain ⟨e, he, rfl⟩ := List.mem_map.1 h1
    exact absurd h2 (hno e he)
theorem rfind_yes {c : RC} (hk : s.key.length = 32) {hl : List HE} (hz : hl.length ≤ 9223372036854775806) (hn : c.hn = hl.length) {n : Int} (hin : ∃ e ∈ hl, e.2.page = n) : Con Tryz.prog 64 [hp p, .int .i64 n] [cl p (rpcl s c) 126, ownH c.ha c.hc hl] (fun r M => (∃ i, ∃ hi : i < hl.length, hl[i].2.page = n ∧ r = nvv i) ∧ M = [cl p (rpcl s c) 126, ownH c.ha c.hc hl]) :=
  (rfind_x hk hz hn n).mono fun r M hh => ⟨M, Imp.refl _, hh.1.elim id (fun h2 => by obtain ⟨e, he, hp⟩ := hin; exact absurd hp (h2.1 e he)), hh.2⟩
theorem rfind_no {c : RC} (hk : s.key.length = 32) {hl : List HE} (hz : hl.length ≤ 9223372036854775806) (hn : c.hn = hl.length) {n : Int} (hin : ∀ e ∈ hl, e.2.page ≠ n) : Con Tryz.prog 64 [hp p, .int .i64 n] [cl p (rpcl s c) 126, ownH c.ha c.hc hl] (fun r M => r = .int .i64 (-1) ∧ M = [cl p (rpcl s c) 126, ownH c.ha c.hc hl]) :=
  (rfind_x hk hz hn n).mono fun r M hh => ⟨M, Imp.refl _, hh.1.elim (fun ⟨i, hi, h1, _⟩ => absurd h1 (hin _ (List.getElem_mem hi))) (·.2), hh.2⟩
theorem rsave_x {vt : Value} {t : List Byte} (ht : Bs L vt t) (htl : t.length ≤ 140737488355328) (n : Int) (hov : Over s h) (hops : h.ops < 3518437208880) (hw : s.writes < 4294967295) :
    Con Tryz.prog 43 [hp p, .int .i64 n, vt] (rpA p q s :: refA q h fl :: L) (fun r M => r = nvv (PagerS.saveP s h n t).1 ∧ M = rpA p q (PagerS.saveP s h n t).2.1 :: refA q (PagerS.saveP s h n t).2.2 fl :: L) := by
  refine Con.get (fun w0 w F H => ht.sh _ _ _ (H.enx (Imp.tail.trans Imp.tail))) ?_
  rintro ⟨ta, tc, rfl, htc, htcm⟩
  refine Con.rpA fun c hl wl hk hq => ?_
  have hkey := hk.ok.key
  have hl16 := hk.len
  have hback : Imp (rpL p s c hl wl ++ (refA q h fl :: L)) (rpA p q s :: refA q h fl :: L) := rpA_mk hk hq
  simp only [List.cons_append, List.nil_append] at hback ⊢
  by_cases he : s.err = 0
  case neg =>
    have e : PagerS.saveP s h n t = (s.err, s, h) := by
      have er : PagerS.rightP s n = s.err := by unfold PagerS.rightP; rw [if_pos he]
      unfold PagerS.saveP; rw [er, if_neg he]
    rw [e]
    refine fn_x Tryz.func43 rfl rfl rfl Tryz.mixed (by kernel_rfl) ?_
    intro w0
    refine Y7 ?_
    refine Zhp rfl qH (rp_f hkey (k := 8) rfl) ?_
    refine Y1 ?_
    refine Zhm 12 rfl (decide_eq_true (he)) ?_
    refine Y6 ?_
    refine Zhp rfl qH (rp_f hkey (k := 8) rfl) ?_
    refine V2 ?_
    refine rx1 (Zg9 rfl (Zg7)) ?_
    exact ⟨_, ⟨rfl, rfl⟩, (Imp.arr qV).trans hback⟩
  case pos =>
    by_cases h0 : n < 0
    · have e : PagerS.saveP s h n t = (2, s, h) := by
        have er : PagerS.rightP s n = 2 := by unfold PagerS.rightP; rw [if_neg (fun hh => hh he), if_pos (.inl h0)]
        unfold PagerS.saveP; rw [er]; rfl
      rw [e]
      refine fn_x Tryz.func43 rfl rfl rfl Tryz.mixed (by kernel_rfl) ?_
      intro w0
      refine Y7 ?_
      refine Zhp rfl qH (rp_f hkey (k := 8) rfl) ?_
      refine Y1 ?_
      refine Zhn 12 rfl (decide_eq_false ((fun hh => hh he))) ?_
      refine Y4 ?_
      refine Zhg (Zbn (b := 0) rfl rfl) ?_
      refine Zhm 18 rfl (decide_eq_true (h0)) ?_
      refine V13 ?_
      refine rx1 (Zg9 rfl (Zg7)) ?_
      exact ⟨_, ⟨rfl, rfl⟩, (Imp.arr qV).trans hback⟩
    by_cases h1 : s.pages ≤ n
    · have e : PagerS.saveP s h n t = (2, s, h) := by
        have er : PagerS.rightP s n = 2 := by unfold PagerS.rightP; rw [if_neg (fun hh => hh he), if_pos (.inr h1)]
        unfold PagerS.saveP; rw [er]; rfl
      rw [e]
      refine fn_x Tryz.func43 rfl rfl rfl Tryz.mixed (by kernel_rfl) ?_
      intro w0
      refine Y7 ?_
      refine Zhp rfl qH (rp_f hkey (k := 8) rfl) ?_
      refine Y1 ?_
      refine Zhn 12 rfl (decide_eq_false ((fun hh => hh he))) ?_
      refine Y4 ?_
      refine Zhg (Zbn (b := 0) rfl rfl) ?_
      refine Zhn 18 rfl (decide_eq_false (h0)) ?_
      refine Y5 ?_
      first|refine Y0 ?_|(refine Zhh rfl ?_; (refine Zhp rfl qH (rp_f hkey (k := 2) rfl) ?_))
      refine Y1 ?_
      refine Zhm 25 rfl (decide_eq_true (h1)) ?_
      refine V6 ?_
      refine rx1 (Zg9 rfl (Zg7)) ?_
      exact ⟨_, ⟨rfl, rfl⟩, (Imp.arr qV).trans hback⟩
    have er : PagerS.rightP s n = 0 := by unfold PagerS.rightP; rw [if_neg (fun hh => hh he), if_neg (fun hh => hh.elim h0 h1)]
    by_cases hlen : t.length = s.text
    case neg =>
      have e : PagerS.saveP s h n t = (4, s, h) := by unfold PagerS.saveP; rw [if_pos er, if_neg hlen]
      rw [e]
      refine fn_x Tryz.func43 rfl rfl rfl Tryz.mixed (by kernel_rfl) ?_
      intro w0
      refine Y7 ?_
      refine Zhp rfl qH (rp_f hkey (k := 8) rfl) ?_
      refine Y1 ?_
      refine Zhn 12 rfl (decide_eq_false ((fun hh => hh he))) ?_
      refine Y4 ?_
      refine Zhg (Zbn (b := 0) rfl rfl) ?_
      refine Zhn 18 rfl (decide_eq_false (h0)) ?_
      refine Y5 ?_
      first|refine Y0 ?_|(refine Zhh rfl ?_; (refine Zhp rfl qH (rp_f hkey (k := 2) rfl) ?_))
      refine Y1 ?_
      refine Zhn 25 rfl (decide_eq_false (h1)) ?_
      refine Y9 ?_
      refine Zhp rfl qH (rp_f hkey (k := 3) rfl) ?_
      refine Y1 ?_
      refine Zhm 33 rfl (decide_eq_true (hlen)) ?_
      refine V5 ?_
      refine rx1 (Zg9 rfl (Zg7)) ?_
      exact ⟨_, ⟨rfl, rfl⟩, (Imp.arr qV).trans hback⟩
    case pos =>
      have ht1 := hk.ok.t1
      have hpn : 0 ≤ n ∧ n < s.pages := by omega
      by_cases hin : ∃ e ∈ hl, e.2.page = n
      · obtain ⟨f, hf⟩ : ∃ f, PagerS.frOf s n = some f := by
          obtain ⟨e, he1, he2⟩ := hin
          exact PagerS.frOf_of (by unfold PagerS.numbers; rw [hk.held, List.map_map]; exact List.mem_map.2 ⟨e, he1, he2⟩)
        have e : PagerS.saveP s h n t = (0, PagerS.useP s ⟨n, t, 2⟩, h) := by unfold PagerS.saveP; rw [if_pos er, if_pos hlen, hf]
        rw [e]
        have huse := fun (a3 : Option Addr) (c3 : Nat) => rp_use (p := p) hk ((a3, c3), ⟨n, t, 2⟩) (.inl (by rw [hf]; rfl)) hpn hlen (Nat.le_refl _)
        refine fn_x Tryz.func43 rfl rfl rfl Tryz.mixed (by kernel_rfl) ?_
        intro w0
        refine Y7 ?_
        refine Zhp rfl qH (rp_f hkey (k := 8) rfl) ?_
        refine Y1 ?_
        refine Zhn 12 rfl (decide_eq_false ((fun hh => hh he))) ?_
        refine Y4 ?_
        refine Zhg (Zbn (b := 0) rfl rfl) ?_
        refine Zhn 18 rfl (decide_eq_false (h0)) ?_
        refine Y5 ?_
        first|refine Y0 ?_|(refine Zhh rfl ?_; (refine Zhp rfl qH (rp_f hkey (k := 2) rfl) ?_))
        refine Y1 ?_
        refine Zhn 25 rfl (decide_eq_false (h1)) ?_
        refine Y9 ?_
        refine Zhp rfl qH (rp_f hkey (k := 3) rfl) ?_
        refine Y1 ?_
        refine Zhn 33 rfl (decide_eq_false ((fun hh => hh hlen))) ?_
        refine Y5 ?_
        refine Zh8 rfl (by kernel_rfl) (rfind_yes hkey (by omega) hk.hn hin) rfl qT ?_
        rintro _ _ ⟨⟨i, hi, hpg, rfl⟩, rfl⟩
        refine Y1 ?_
        refine Zhg (Zbn (a := (i : Int)) (b := 0) rfl rfl) ?_
        refine Zhn 37 rfl (decide_eq_false ((by omega))) ?_
        refine Y6 ?_
        refine Zh8 rfl (by kernel_rfl) (copyBytes_x ht htl) rfl qT ?_
        rintro _ _ ⟨a3, c3, rfl, rfl⟩
        refine Y1 ?_
        refine Zhg (Zdm (cs := (rhe ((a3, c3), ⟨n, t, 2⟩)).toArray) (by kernel_rfl)) ?_
        refine Zh8 rfl (by kernel_rfl) (huse a3 c3) rfl qT ?_
        rintro _ _ rfl
        refine V5 ?_
        refine rx1 (Zg9 rfl (Zg7)) ?_
        rw [hq]
        exact ⟨_, ⟨rfl, rfl⟩, qI⟩
      · have hno : ∀ e ∈ hl, e.2.page ≠ n := fun e he1 he2 => hin ⟨e, he1, he2⟩
        have hf := rp_frOf hk hno
        have hroom := rroom_x (p := p) (q := q) (fl := fl) hov hops hw
        obtain ⟨w1, w2, w3, w4, w5, w6⟩ := roomP_same (h := h) hk.ok
        by_cases hz : (PagerS.roomP s h).1 = 0
        · have e : PagerS.saveP s h n t = (0, PagerS.useP (PagerS.roomP s h).2.1 ⟨n, t, 2⟩, (PagerS.roomP s h).2.2) := by unfold PagerS.saveP; rw [if_pos er, if_pos hlen, hf]; dsimp only; rw [if_pos hz]
          rw [e]
          have w7 := w6 hz
          refine fn_x Tryz.func43 rfl rfl rfl Tryz.mixed (by kernel_rfl) ?_
          intro w0
          refine Y7 ?_
          refine Zhp rfl qH (rp_f hkey (k := 8) rfl) ?_
          refine Y1 ?_
          refine Zhn 12 rfl (decide_eq_false ((fun hh => hh he))) ?_
          refine Y4 ?_
          refine Zhg (Zbn (b := 0) rfl rfl) ?_
          refine Zhn 18 rfl (decide_eq_false (h0)) ?_
          refine Y5 ?_
          first|refine Y0 ?_|(refine Zhh rfl ?_; (refine Zhp rfl qH (rp_f hkey (k := 2) rfl) ?_))
          refine Y1 ?_
          refine Zhn 25 rfl (decide_eq_false (h1)) ?_
          refine Y9 ?_
          refine Zhp rfl qH (rp_f hkey (k := 3) rfl) ?_
          refine Y1 ?_
          refine Zhn 33 rfl (decide_eq_false ((fun hh => hh hlen))) ?_
          refine Y5 ?_
          refine Zh8 rfl (by kernel_rfl) (rfind_no hkey (by omega) hk.hn hno) rfl qT ?_
          rintro _ _ ⟨rfl, rfl⟩
          refine Y1 ?_
          refine Zhg (Zbn (a := -1) (b := 0) rfl rfl) ?_
          refine Zhm 37 rfl (decide_eq_true ((by omega))) ?_
          refine V2 ?_
          refine Zgp ((Imp.arr (N := cl p (rpcl s c) 126 :: ownH c.ha c.hc hl :: ownW c.la c.lc wl :: star rtA hl :: refA q h fl :: L) qV).trans hback) ?_
          refine Y2 ?_
          refine Zh8 rfl (by kernel_rfl) (hroom) rfl qT ?_
          rintro _ _ ⟨rfl, rfl⟩
          refine Y6 ?_
          refine Zhn 41 rfl (decide_eq_false ((fun hh => hh hz))) ?_
          refine V2 ?_
          refine x_rpA fun c2 hl2 wl2 hk2 hq2 => ?_
          simp only [List.cons_append, List.nil_append]
          have huse := fun (a3 : Option Addr) (c3 : Nat) => rp_use (p := p) hk2 ((a3, c3), ⟨n, t, 2⟩) (.inr (by omega)) (by rw [w2]; exact hpn) (by rw [w3]; exact hlen) (Nat.le_refl _)
          refine Y4 ?_
          refine Zh8 rfl (by kernel_rfl) (copyBytes_x ht htl) rfl qT ?_
          rintro _ _ ⟨a3, c3, rfl, rfl⟩
          refine Y1 ?_
          refine Zhg (Zdm (cs := (rhe ((a3, c3), ⟨n, t, 2⟩)).toArray) (by kernel_rfl)) ?_
          refine Zh8 rfl (by kernel_rfl) (huse a3 c3) rfl qT ?_
          rintro _ _ rfl
          refine V5 ?_
          refine rx1 (Zg9 rfl (Zg7)) ?_
          rw [hq2]
          exact ⟨_, ⟨rfl, rfl⟩, qI⟩
        · have e : PagerS.saveP s h n t = PagerS.roomP s h := by unfold PagerS.saveP; rw [if_pos er, if_pos hlen, hf]; dsimp only; rw [if_neg hz]
          rw [e]
          refine fn_x Tryz.func43 rfl rfl rfl Tryz.mixed (by kernel_rfl) ?_
          intro w0
          refine Y7 ?_
          refine Zhp rfl qH (rp_f hkey (k := 8) rfl) ?_
          refine Y1 ?_
          refine Zhn 12 rfl (decide_eq_false ((fun hh => hh he))) ?_
          refine Y4 ?_
          refine Zhg (Zbn (b := 0) rfl rfl) ?_
          refine Zhn 18 rfl (decide_eq_false (h0)) ?_
          refine Y5 ?_
          first|refine Y0 ?_|(refine Zhh rfl ?_; (refine Zhp rfl qH (rp_f hkey (k := 2) rfl) ?_))
          refine Y1 ?_
          refine Zhn 25 rfl (decide_eq_false (h1)) ?_
          refine Y9 ?_
          refine Zhp rfl qH (rp_f hkey (k := 3) rfl) ?_
          refine Y1 ?_
          refine Zhn 33 rfl (decide_eq_false ((fun hh => hh hlen))) ?_
          refine Y5 ?_
          refine Zh8 rfl (by kernel_rfl) (rfind_no hkey (by omega) hk.hn hno) rfl qT ?_
          rintro _ _ ⟨rfl, rfl⟩
          refine Y1 ?_
          refine Zhg (Zbn (a := -1) (b := 0) rfl rfl) ?_
          refine Zhm 37 rfl (decide_eq_true ((by omega))) ?_
          refine V2 ?_
          refine Zgp ((Imp.arr (N := cl p (rpcl s c) 126 :: ownH c.ha c.hc hl :: ownW c.la c.lc wl :: star rtA hl :: refA q h fl :: L) qV).trans hback) ?_
          refine Y2 ?_
          refine Zh8 rfl (by kernel_rfl) (hroom) rfl qT ?_
          rintro _ _ ⟨rfl, rfl⟩
          refine Y6 ?_
          refine Zhm 41 rfl (decide_eq_true (hz)) ?_
          refine V6 ?_
          refine rx1 (Zg9 rfl (Zg7)) ?_
          exact ⟨_, ⟨rfl, rfl⟩, qI⟩
end
end Go.Sl

/- the document's pager (trystref13): Load, walked. -/
set_option maxHeartbeats 4000000
set_option maxRecDepth 10000
set_option linter.unusedVariables false
set_option linter.unusedSimpArgs false
namespace Go.Sl
open Go Go.Proofs
attribute [local irreducible] pt pur ex all den denOps denS xOps xC cX CX xthen xblk xcut xloop xng retX resX Calls PV Rd Con
attribute [local irreducible] hostA refA rpcl pcl pgSealB pgOpenR HostS.writeR HostS.readR PagerS.roomP PagerS.useP usedH
open PagerS (PS Over)
theorem usedH_mem (hl : List HE) (e : HE) : e ∈ usedH hl e := by unfold usedH; simp
theorem usedH_bs {hl : List HE} {e : HE} {M M' : List Asrt} (hm : Has M (star rtA (usedH hl e)) M') : Bs M (.slice e.1.1 e.2.text.length e.1.2) e.2.text := by
  obtain ⟨R, hR⟩ := star_has (A := rtA) (usedH_mem hl e) hm
  exact (Bs.own .here).imp hR
section
variable {p q : Nat} {s : PS} {h : HostS.HS} {fl : List HostS.Fault}
theorem rload_held {c : RC} {hl : List HE} {wl : List Plc} (hk : RpOk s c hl wl) (he : s.err = 0) {n : Int} (hpn : 0 ≤ n ∧ n < s.pages) (hin : ∃ e ∈ hl, e.2.page = n) :
    Con Tryz.prog 40 [hp p, .int .i64 n] (rpL p s c hl wl) (fun r M => ∃ i, ∃ hi : i < hl.length, hl[i].2.page = n ∧ ∃ a c2, r = .tuple #[.slice a hl[i].2.text.length c2, nvv 0] ∧ M = [ownB a c2 hl[i].2.text, rpA p c.q (PagerS.useP s hl[i].2)]) := by
  have hkey := hk.ok.key
  have hl16 := hk.len
  have ht1 := hk.ok.t1
  obtain ⟨q', ha, hn, hc, la, ln, lc, took⟩ := c
  have hhn := hk.hn
  dsimp only at hhn
  subst hhn
  have hl0 : 0 < hl.length := by obtain ⟨e, he1, _⟩ := hin; exact List.length_pos_of_mem he1
  refine Con.get (fun w0 w F H => own_someN (n := hl.length) (a := ha) (.there .here) hl0 H) ?_
  rintro ⟨g, rfl⟩
  refine fn_x Tryz.func40 rfl rfl rfl Tryz.mixed (by kernel_rfl) ?_
  intro w0
  refine Y8 ?_
  refine Zhp rfl qH (rp_f hkey (k := 8) rfl) ?_
  refine Y1 ?_
  refine Zhn 18 rfl (decide_eq_false ((fun hh => hh he))) ?_
  refine Y4 ?_
  refine Zhg (Zbn (b := 0) rfl rfl) ?_
  refine Zhn 24 rfl (decide_eq_false ((show ¬ n < 0 by omega))) ?_
  refine Y5 ?_
  first|refine Y0 ?_|(refine Zhh rfl ?_; (refine Zhp rfl qH (rp_f hkey (k := 2) rfl) ?_))
  refine Y1 ?_
  refine Zhn 31 rfl (decide_eq_false ((show ¬ s.pages ≤ n by omega))) ?_
  refine Y6 ?_
  refine Zh8 rfl (by kernel_rfl) (rfind_yes (c := ⟨q', some ⟨g, 0, none⟩, hl.length, hc, la, ln, lc, took⟩) hkey (by omega) rfl hin) rfl qT ?_
  rintro _ _ ⟨⟨i, hi, hpg, rfl⟩, rfl⟩
  refine Y5 ?_
  refine Zhg (Zbq (a := (i : Int)) (b := 0) rfl rfl) ?_
  refine Zhm 37 rfl (decide_eq_true ((show (i : Int) ≥ 0 by omega))) ?_
  refine Y6 ?_
  refine Zhp rfl qH (rp_f hkey (k := 4) rfl) ?_
  refine Y2 ?_
  refine Zfg rfl ((Rd.own (n := hl.length) (.there .here)).agN0 rhe_len (by omega) hi) ?_
  refine Zhz (cs := #[.int .i64 0, .slice none 0 0, .bool false]) rfl ?_; intro b7
  first|refine Zhy rfl rfl qR qZ (by first|rfl|exact oneM_u8 _|exact oneL_u8 _|exact rhe_one _|exact wpc_one _|assumption|(simp [oneC]; done)) qZ ?_|refine Zhx rfl rfl qR qZ (by first|rfl|exact oneM_u8 _|exact oneL_u8 _|exact rhe_one _|exact wpc_one _|assumption|(simp [oneC]; done)) qZ rfl ?_
  refine V1 ?_
  have htl : hl[i].2.text.length = s.text := hk.ok.len _ (hk.mem hi)
  refine Y2 ?_
  refine Zhq (n := 3) rfl qH qZ ((by rfl)) ?_
  refine Zh8 rfl (by kernel_rfl) (rp_againL hk hi) rfl qT ?_
  rintro _ _ ⟨c', hk', hq', rfl⟩
  refine Y4 ?_
  refine Zhp rfl qH ((by rfl)) ?_
  refine Zh8 rfl (by kernel_rfl) (copyBytes_x (L := [star rtA (usedH hl hl[i])]) (usedH_bs .here) (by omega)) rfl qT ?_
  rintro _ _ ⟨a3, c3, rfl, rfl⟩
  refine V4 ?_
  refine rx2 (Zhc rfl (Zg9 rfl (Zg7))) ?_
  refine ⟨_, ⟨i, hi, hpg, a3, c3, rfl, rfl⟩, ?_⟩
  have h9 := rpA_mk (p := p) (L := []) hk' hq'
  simp only [List.cons_append, List.nil_append] at h9
  exact (Imp.arr (N := ownB a3 c3 hl[i].2.text :: rpL p (PagerS.useP s hl[i].2) c' (usedH hl hl[i]) wl) qV).trans (Imp.cons h9)
theorem rload_full {c : RC} {hl : List HE} {wl : List Plc} (hk : RpOk s c hl wl) (hq : c.q = q) (hov : Over s h) (hops : h.ops < 3518437208880) (hw : s.writes < 4294967295) (he : s.err = 0) {n : Int} (hpn : 0 ≤ n ∧ n < s.pages) (hno : ∀ e ∈ hl, e.2.page ≠ n) (hz : (PagerS.roomP s h).1 ≠ 0) :
    Con Tryz.prog 40 [hp p, .int .i64 n] (rpL p s c hl wl ++ [refA q h fl]) (fun r M => r = .tuple #[.slice none 0 0, nvv (PagerS.roomP s h).1] ∧ M = [rpA p q (PagerS.roomP s h).2.1, refA q (PagerS.roomP s h).2.2 fl]) := by
  have hkey := hk.ok.key
  have hl16 := hk.len
  have hback : Imp (rpL p s c hl wl ++ [refA q h fl]) [rpA p q s, refA q h fl] := rpA_mk hk hq
  have hroom := rroom_x (p := p) (q := q) (fl := fl) hov hops hw
  simp only [List.cons_append, List.nil_append] at hback ⊢
  refine fn_x Tryz.func40 rfl rfl rfl Tryz.mixed (by kernel_rfl) ?_
  intro w0
  refine Y8 ?_
  refine Zhp rfl qH (rp_f hkey (k := 8) rfl) ?_
  refine Y1 ?_
  refine Zhn 18 rfl (decide_eq_false ((fun hh => hh he))) ?_
  refine Y4 ?_
  refine Zhg (Zbn (b := 0) rfl rfl) ?_
  refine Zhn 24 rfl (decide_eq_false ((show ¬ n < 0 by omega))) ?_
  refine Y5 ?_
  first|refine Y0 ?_|(refine Zhh rfl ?_; (refine Zhp rfl qH (rp_f hkey (k := 2) rfl) ?_))
  refine Y1 ?_
  refine Zhn 31 rfl (decide_eq_false ((show ¬ s.pages ≤ n by omega))) ?_
  refine Y6 ?_
  refine Zh8 rfl (by kernel_rfl) (rfind_no hkey (by omega) hk.hn hno) rfl qT ?_
  rintro _ _ ⟨rfl, rfl⟩
  refine Y5 ?_
  refine Zhg (Zbq (a := -1) (b := 0) rfl rfl) ?_
  refine Zhn 37 rfl (decide_eq_false ((show ¬ (-1 : Int) ≥ 0 by omega))) ?_
  refine V2 ?_
  refine Zgp ((Imp.arr (N := cl p (rpcl s c) 126 :: ownH c.ha c.hc hl :: ownW c.la c.lc wl :: star rtA hl :: [refA q h fl]) qV).trans hback) ?_
  refine Y2 ?_
  refine Zh8 rfl (by kernel_rfl) (hroom) rfl qT ?_
  rintro _ _ ⟨rfl, rfl⟩
  refine Y6 ?_
  refine Zhm 54 rfl (decide_eq_true (hz)) ?_
  refine V7 ?_
  refine rx2 (Zhc rfl (Zg9 rfl (Zg7))) ?_
  exact ⟨_, ⟨rfl, rfl⟩, qI⟩
theorem rload_new {c : RC} {hl : List HE} {wl : List Plc} (hk : RpOk s c hl wl) (hq : c.q = q) (hov : Over s h) (hops : h.ops < 3518437208880) (hw : s.writes < 4294967295) (he : s.err = 0) {n : Int} (hpn : 0 ≤ n ∧ n < s.pages) (hno : ∀ e ∈ hl, e.2.page ≠ n) (hz : (PagerS.roomP s h).1 = 0) (hla : (PagerS.roomP s h).2.1.last n = none) :
    Con Tryz.prog 40 [hp p, .int .i64 n] (rpL p s c hl wl ++ [refA q h fl]) (fun r M => ∃ a c2, r = .tuple #[.slice a (List.replicate s.text 0#8).length c2, nvv 0] ∧ M = [ownB a c2 (List.replicate s.text 0#8), rpA p q (PagerS.useP (PagerS.roomP s h).2.1 ⟨n, List.replicate s.text 0#8, 0⟩), refA q (PagerS.roomP s h).2.2 fl]) := by
  have hkey := hk.ok.key
  have hl16 := hk.len
  have ht1 := hk.ok.t1
  have hback : Imp (rpL p s c hl wl ++ [refA q h fl]) [rpA p q s, refA q h fl] := rpA_mk hk hq
  have hroom := rroom_x (p := p) (q := q) (fl := fl) hov hops hw
  obtain ⟨w1, w2, w3, w4, w5, w6⟩ := roomP_same (h := h) hk.ok
  have w7 := w6 hz
  simp only [List.cons_append, List.nil_append] at hback ⊢
  refine fn_x Tryz.func40 rfl rfl rfl Tryz.mixed (by kernel_rfl) ?_
  intro w0
  refine Y8 ?_
  refine Zhp rfl qH (rp_f hkey (k := 8) rfl) ?_
  refine Y1 ?_
  refine Zhn 18 rfl (decide_eq_false ((fun hh => hh he))) ?_
  refine Y4 ?_
  refine Zhg (Zbn (b := 0) rfl rfl) ?_
  refine Zhn 24 rfl (decide_eq_false ((show ¬ n < 0 by omega))) ?_
  refine Y5 ?_
  first|refine Y0 ?_|(refine Zhh rfl ?_; (refine Zhp rfl qH (rp_f hkey (k := 2) rfl) ?_))
  refine Y1 ?_
  refine Zhn 31 rfl (decide_eq_false ((show ¬ s.pages ≤ n by omega))) ?_
  refine Y6 ?_
  refine Zh8 rfl (by kernel_rfl) (rfind_no hkey (by omega) hk.hn hno) rfl qT ?_
  rintro _ _ ⟨rfl, rfl⟩
  refine Y5 ?_
  refine Zhg (Zbq (a := -1) (b := 0) rfl rfl) ?_
  refine Zhn 37 rfl (decide_eq_false ((show ¬ (-1 : Int) ≥ 0 by omega))) ?_
  refine V2 ?_
  refine Zgp ((Imp.arr (N := cl p (rpcl s c) 126 :: ownH c.ha c.hc hl :: ownW c.la c.lc wl :: star rtA hl :: [refA q h fl]) qV).trans hback) ?_
  refine Y2 ?_
  refine Zh8 rfl (by kernel_rfl) (hroom) rfl qT ?_
  rintro _ _ ⟨rfl, rfl⟩
  refine Y6 ?_
  refine Zhn 54 rfl (decide_eq_false ((fun hh => hh hz))) ?_
  refine V2 ?_
  generalize (PagerS.roomP s h).2.1 = s2 at *
  refine x_rpA fun c2 hl2 wl2 hk2 hq2 => ?_
  simp only [List.cons_append, List.nil_append]
  have hkey2 := hk2.ok.key
  have hfi : wl2.find? (isPg n) = none := by rw [← hk2.last]; exact hla
  have hpl := rplace_x (p := p) (s := s2) (c := c2) (wl := wl2) hkey2 (by have := hk2.ok.writes; have := hk2.many; omega) hk2.ln n
  rw [hfi] at hpl
  refine Y4 ?_
  refine Zhp rfl qH (rp_f hkey2 (k := 3) rfl) ?_
  refine Zm3 (f := u8b) (a := 0#8) rfl rfl rfl qS qS qS ?_; intro b60
  refine Y5 ?_
  refine Zh8 rfl (by kernel_rfl) (hpl) rfl qT ?_
  rintro _ _ ⟨rfl, rfl⟩
  refine Y4 ?_
  refine Zhz (cs := #[u64b 0#64, u32b 0#32, u32b 0#32, u32b 0#32]) rfl ?_; intro b10
  first|refine Zhy rfl rfl qR qZ (by first|rfl|exact oneM_u8 _|exact oneL_u8 _|exact rhe_one _|exact wpc_one _|assumption|(simp [oneC]; done)) qZ ?_|refine Zhx rfl rfl qR qZ (by first|rfl|exact oneM_u8 _|exact oneL_u8 _|exact rhe_one _|exact wpc_one _|assumption|(simp [oneC]; done)) qZ rfl ?_
  refine V6 ?_
  rw [← w3]
  have ht2 := hk2.ok.t1
  have hmk : ∀ (cc : Nat) (M : List Asrt), cc = s2.text → Imp (cl b60 ((List.replicate s2.text 0#8).map u8b).toArray 5 :: M) (rtA ((some ⟨b60, 0, none⟩, cc), ⟨n, List.replicate s2.text 0#8, 0⟩) :: M) := by
    rintro cc M rfl
    exact Imp.own_mk (E := 5) (size := 1) (n := (List.replicate s2.text 0#8).length) (cap := s2.text) (xs := (List.replicate s2.text 0#8).map u8b) (by simp) (by omega) (by simp) (by simp)
  have huse := rp_useL (p := p) hk2 ((some ⟨b60, 0, none⟩, s2.text), ⟨n, List.replicate s2.text 0#8, 0⟩) (.inr (by omega)) (by rw [w2]; exact hpn) (by simp) (by simp)
  refine Zgp ((Imp.arr (N := cl b60 ((List.replicate s2.text 0#8).map u8b).toArray 5 :: cl p (rpcl s2 c2) 126 :: ownH c2.ha c2.hc hl2 :: ownW c2.la c2.lc wl2 :: star rtA hl2 :: [refA q (PagerS.roomP s h).2.2 fl]) qV).trans (hmk _ _ rfl)) ?_
  have hcs : (rhe ((some ⟨b60, 0, none⟩, s2.text), ⟨n, List.replicate s2.text 0#8, 0⟩)).toArray = #[.int .i64 n, .slice (some ⟨b60, 0, none⟩) s2.text s2.text, .bool false] := by simp [rhe]
  rw [hcs] at huse
  refine Y4 ?_
  refine Zhg (Zdm (cs := #[.int .i64 n, .slice (some ⟨b60, 0, none⟩) s2.text s2.text, .bool false]) (by kernel_rfl)) ?_
  refine Zh8 rfl (by kernel_rfl) (huse) rfl qT ?_
  rintro _ _ ⟨c', hk', hq', rfl⟩
  refine V2 ?_
  have hbs := fun {M M' : List Asrt} (hm : Has M (star rtA (usedH hl2 ((some ⟨b60, 0, none⟩, s2.text), ⟨n, List.replicate s2.text 0#8, 0⟩))) M') => usedH_bs hm
  dsimp only at hbs
  refine Y2 ?_
  refine Zh8 rfl (by kernel_rfl) (copyBytes_x (L := [star rtA (usedH hl2 ((some ⟨b60, 0, none⟩, s2.text), ⟨n, List.replicate s2.text 0#8, 0⟩))]) (l := List.replicate s2.text 0#8) (by have := hbs (M := [star rtA (usedH hl2 ((some ⟨b60, 0, none⟩, s2.text), ⟨n, List.replicate s2.text 0#8, 0⟩))]) .here; rwa [List.length_replicate] at this) (by simp; omega)) rfl qT ?_
  rintro _ _ ⟨a3, c3, rfl, rfl⟩
  refine V4 ?_
  refine rx2 (Zhc rfl (Zg9 rfl (Zg7))) ?_
  refine ⟨_, ⟨a3, c3, rfl, rfl⟩, ?_⟩
  have h9 := rpA_mk (p := p) (q := q) (L := [refA q (PagerS.roomP s h).2.2 fl]) hk' (hq'.trans hq2)
  simp only [List.cons_append, List.nil_append] at h9
  exact (Imp.arr (N := ownB a3 c3 (List.replicate s2.text 0#8) :: (rpL p (PagerS.useP s2 ⟨n, List.replicate s2.text 0#8, 0⟩) c' (usedH hl2 ((some ⟨b60, 0, none⟩, s2.text), ⟨n, List.replicate s2.text 0#8, 0⟩)) wl2 ++ [refA q (PagerS.roomP s h).2.2 fl])) qV).trans (Imp.cons h9)
end
end Go.Sl

/- pager: over a host whose reads are not spoilt a pager is a row of pages. No program in sight. -/
set_option linter.unusedVariables false
set_option linter.unusedSimpArgs false
namespace Go.Sl.PagerS
open Go Go.Sl Go.Sl.HostS
attribute [local irreducible] pgSealB pgOpenR
/-- Only the power may go. -/
def Mild (h : HS) : Prop := ∀ k, ∀ f ∈ h.coming k, 3 ≤ f.kind
theorem mild_taken {h : HS} (hm : Mild h) (c : Int → List Fault) (hc : c = setF h.coming h.ops []) (g : HS) (hg : g.coming = c) : Mild g := by
  intro k f hf
  rw [hg, hc] at hf
  unfold setF at hf
  split at hf
  · cases hf
  · exact hm k f hf
theorem does_coming (h : HS) (op n : Int) (b : Bytes) (act : HS → HS) (ha : ∀ g, (act g).coming = g.coming) : (does h op n b act).1.coming = h.coming ∨ (does h op n b act).1.coming = setF h.coming h.ops [] := by
  unfold does
  split
  · exact .inl rfl
  · dsimp only
    split
    · exact .inr rfl
    · split
      · exact .inr (ha _)
      · exact .inr (ha _)
theorem does_mild {h : HS} (hm : Mild h) (op n : Int) (b : Bytes) (act : HS → HS) (ha : ∀ g, (act g).coming = g.coming) : Mild (does h op n b act).1 := by
  rcases does_coming h op n b act ha with e|e
  · intro k f hf; rw [e] at hf; exact hm k f hf
  · exact mild_taken hm _ rfl _ e
theorem writeR_mild {h : HS} (hm : Mild h) (n : Int) (b : Bytes) : Mild (writeR h n b).2 := by
  unfold writeR
  split
  · split
    · exact does_mild hm _ _ _ _ fun _ => rfl
    · exact hm
  · exact hm
/-- What is done has been done. -/
theorem does_zero {h : HS} {op n : Int} {b : Bytes} {act : HS → HS} (he : (does h op n b act).2 = 0) : (does h op n b act).1 = act (logged h op n b) := by
  unfold does at he ⊢
  split at he
  · cases he
  · rename_i hd
    rw [if_neg hd]
    dsimp only at he ⊢
    split at he
    · cases he
    · rename_i hb
      rw [if_neg hb]
      split at he
      · cases he
      · rename_i hb2
        rw [if_neg hb2]
theorem writeR_zero {h : HS} {n : Int} {b : Bytes} (he : (writeR h n b).1 = 0) : (writeR h n b).2 = wrote n b (logged h 1 n b) := by
  unfold writeR at he ⊢
  split at he
  · rename_i ht
    rw [if_pos ht]
    split at he
    · rename_i hl
      rw [if_pos hl]
      exact does_zero he
    · cases he
  · cases he
theorem wrote_back (h : HS) (n : Int) (b : Bytes) (m : Int) : back (wrote n b (logged h 1 n b)) m 0 = if m = n then b else back h m 0 := by
  have e0 : (wrote n b (logged h 1 n b)).lay m = setF h.lay n (h.lay n ++ [b]) m := rfl
  have ez : (wrote n b (logged h 1 n b)).size = h.size := rfl
  unfold back
  rw [e0, ez]
  by_cases e : m = n
  · subst e
    rw [if_pos rfl]
    have e1 : setF h.lay m (h.lay m ++ [b]) m = h.lay m ++ [b] := by unfold setF; rw [if_pos rfl]
    simp only [e1, List.length_append, List.length_singleton]
    rw [if_pos (by omega), show (((h.lay m).length + 1 : Nat) : Int) - 1 - max 0 0 = ((h.lay m).length : Int) from by omega, Int.toNat_natCast, List.getD_eq_getElem?_getD, List.getElem?_append_right (Nat.le_refl _)]
    simp
  · rw [if_neg e]
    have e1 : setF h.lay n (h.lay n ++ [b]) m = h.lay m := by unfold setF; rw [if_neg e]
    simp only [e1]
/-- As what a page lies there. -/
def Lain (s : PS) (h : HS) (n : Int) (t : Bytes) : Prop := (s.last n = none → t = List.replicate s.text 0#8) ∧ ∀ pl, s.last n = some pl → back h n 0 = pgSealB s.key pl t
def Right (s : PS) (h : HS) (n : Int) (t : Bytes) : Prop := (∀ f, frOf s n = some f → f.text = t) ∧ (changedAt s n = false → Lain s h n t)
structure Sound (s : PS) (h : HS) (b : Int → Bytes) : Prop where
  ok : Ok s
  over : Over s h
  mild : Mild h
  len : ∀ n, (b n).length = s.text
  right : s.err = 0 → ∀ n, Right s h n (b n)
theorem frOf_cleaned (s : PS) (n m : Int) : (cleaned s.held n).find? (fun f => f.page == m) = (frOf s m).map fun f => if f.page = n then { f with is := 1 } else f := by
  unfold cleaned frOf
  rw [List.find?_map]
  congr 1
  congr 1
  funext f
  simp only [Function.comp]
  split <;> rfl
theorem frOf_wrote (s : PS) (n m : Int) : frOf (wroteP s n) m = (frOf s m).map fun f => if f.page = n then { f with is := 1 } else f := frOf_cleaned s n m
theorem changed_wrote (s : PS) (n m : Int) : changedAt (wroteP s n) m = if m = n then false else changedAt s m := by
  unfold changedAt
  rw [frOf_wrote]
  cases hf : frOf s m with
  | none => simp
  | some f =>
    have hp := (frOf_mem hf).2
    simp only [Option.map_some, Option.getD_some]
    rw [hp]
    split
    · rfl
    · rfl
theorem frOf_use (s : PS) (f : Fr) (m : Int) : frOf (useP s f) m = if m = f.page then some f else frOf s m := by
  unfold frOf useP
  dsimp only
  rw [List.find?_append]
  by_cases e : m = f.page
  · rw [if_pos e, List.find?_eq_none.2 (by
      intro x hx
      have := (List.mem_filter.1 hx).2
      simp only [Bool.not_eq_true', beq_eq_false_iff_ne, ne_eq] at this
      simp [e, this])]
    simp [e]
  · rw [if_neg e]
    have e1 : (s.held.filter fun g => !(g.page == f.page)).find? (fun g => g.page == m) = s.held.find? fun g => g.page == m := by
      rw [List.find?_filter]
      congr 1
      funext x
      by_cases hx : x.page = m
      · simp [hx, e]
      · simp [hx]
    rw [e1]
    cases s.held.find? (fun g => g.page == m) with
    | some x => rfl
    | none =>
      have : ¬ f.page = m := fun hh => e hh.symm
      simp [this]
theorem changed_use (s : PS) (f : Fr) (m : Int) : changedAt (useP s f) m = if m = f.page then f.is == 2 else changedAt s m := by
  unfold changedAt
  rw [frOf_use]
  split <;> rfl
theorem frOf_tail {s : PS} (hk : Ok s) {x : Fr} {r : List Fr} (hh : s.held = x :: r) (m : Int) : frOf { s with held := s.held.tail } m = if m = x.page then none else frOf s m := by
  unfold frOf
  dsimp only
  rw [hh, List.tail_cons]
  have hn := hk.once
  unfold numbers at hn
  rw [hh, List.map_cons, List.nodup_cons] at hn
  by_cases e : m = x.page
  · rw [if_pos e, List.find?_eq_none]
    intro f hf
    simp only [beq_iff_eq]
    intro e2
    exact hn.1 (by rw [← e, ← e2]; exact List.mem_map.2 ⟨f, hf, rfl⟩)
  · rw [if_neg e, List.find?_cons_of_neg (by simp only [beq_iff_eq]; exact fun hh => e hh.symm)]
theorem changed_tail {s : PS} (hk : Ok s) {x : Fr} {r : List Fr} (hh : s.held = x :: r) (m : Int) : changedAt { s with held := s.held.tail } m = if m = x.page then false else changedAt s m := by
  unfold changedAt
  rw [frOf_tail hk hh]
  split <;> rfl
section
variable {s : PS} {h : HS} {b : Int → Bytes}
theorem writeP_errs (s : PS) (h : HS) (n : Int) : (writeP s h n).1 ≠ 0 → (writeP s h n).1 ≤ 1000 ∧ (writeP s h n).2.1 = die s (writeP s h n).1 := by
  unfold writeP
  split
  · intro _; exact ⟨by dsimp only; omega, rfl⟩
  · dsimp only
    split
    · intro hh; exact absurd rfl hh
    · intro _
      refine ⟨?_, rfl⟩
      dsimp only
      unfold writeR
      split
      · split
        · unfold does
          split
          · (dsimp only; omega)
          · dsimp only
            split
            · (dsimp only; omega)
            · split <;> (dsimp only; omega)
        · (dsimp only; omega)
      · (dsimp only; omega)
theorem writeP_zero {n : Int} (he : (writeP s h n).1 = 0) : s.writes ≠ 4294967295 ∧ (writeR h n (boxOf s n)).1 = 0 ∧ writeP s h n = (0, wroteP s n, (writeR h n (boxOf s n)).2) := by
  unfold writeP at he ⊢
  split at he
  · cases he
  · rename_i hw
    rw [if_neg hw]
    dsimp only at he ⊢
    split at he
    · rename_i h0; rw [if_pos h0]; exact ⟨hw, h0, rfl⟩
    · rename_i h0; exact absurd he h0
theorem writeP_host (n : Int) : (writeP s h n).2.2 = h ∨ (writeP s h n).2.2 = (writeR h n (boxOf s n)).2 := by
  unfold writeP
  split
  · exact .inl rfl
  · dsimp only
    split
    · exact .inr rfl
    · exact .inr rfl
theorem does_same (h : HS) (op page : Int) (b : Bytes) (act : HS → HS) (ha : ∀ s, (act s).pages = s.pages ∧ (act s).size = s.size) : (does h op page b act).1.pages = h.pages ∧ (does h op page b act).1.size = h.size := by
  have h2 := ha (logged h op page b)
  unfold does
  split
  · exact ⟨rfl, rfl⟩
  · dsimp only
    split
    · exact ⟨rfl, rfl⟩
    · split
      · exact h2
      · exact h2
theorem writeR_same (h : HS) (page : Int) (b : Bytes) : (writeR h page b).2.pages = h.pages ∧ (writeR h page b).2.size = h.size := by
  unfold writeR
  split
  · split
    · exact does_same h 1 page b _ (fun _ => ⟨rfl, rfl⟩)
    · exact ⟨rfl, rfl⟩
  · exact ⟨rfl, rfl⟩
theorem readR_same (h : HS) (page : Int) : (readR h page).2.2.pages = h.pages ∧ (readR h page).2.2.size = h.size := by
  have d := does_same h 0 page [] id (fun _ => ⟨rfl, rfl⟩)
  unfold readR
  split
  · dsimp only
    split
    · exact d
    · exact d
  · exact ⟨rfl, rfl⟩
theorem Sound.dead (hs : Sound s h b) (e : Nat) (h0 : e ≠ 0) (he : e ≤ 1000) {h' : HS} (hm : Mild h') (hp : h'.pages = h.pages ∧ h'.size = h.size) : Sound (die s e) h' b :=
  ⟨ok_die hs.ok e he, ⟨hp.1.trans hs.over.pages, hp.2.trans hs.over.size⟩, hm, hs.len, fun hh => absurd hh h0⟩
theorem Sound.write (hs : Sound s h b) (h0 : s.err = 0) {n : Int} (hn : n ∈ numbers s) : Sound (writeP s h n).2.1 (writeP s h n).2.2 b := by
  by_cases he : (writeP s h n).1 = 0
  · obtain ⟨hw, hz, e⟩ := writeP_zero he
    rw [e, writeR_zero hz]
    have hwl := hs.ok.writes
    refine ⟨ok_wrote hs.ok n (by omega), ⟨hs.over.pages, hs.over.size⟩, mild_taken hs.mild _ rfl _ rfl, hs.len, fun _ m => ?_⟩
    obtain ⟨r1, r2⟩ := hs.right h0 m
    refine ⟨?_, ?_⟩
    · intro f hf
      rw [frOf_wrote] at hf
      obtain ⟨g, hg, rfl⟩ := Option.map_eq_some_iff.1 hf
      have := r1 g hg
      split
      · exact this
      · exact this
    · intro hc
      rw [changed_wrote] at hc
      by_cases e1 : m = n
      · subst e1
        obtain ⟨f, hf⟩ := frOf_of hn
        refine ⟨fun hh => ?_, fun pl hh => ?_⟩
        · have : (wroteP s m).last m = some (nextPl s m) := by unfold wroteP setF; simp
          rw [this] at hh; cases hh
        · have : (wroteP s m).last m = some (nextPl s m) := by unfold wroteP setF; simp
          rw [this] at hh
          obtain rfl := Option.some.inj hh
          dsimp only
          rw [wrote_back, if_pos rfl]
          show boxOf s m = _
          unfold boxOf
          have : textOf s m = b m := by unfold textOf; rw [hf]; exact r1 f hf
          rw [this]; rfl
      · rw [if_neg e1] at hc
        obtain ⟨l1, l2⟩ := r2 hc
        have hl : (wroteP s n).last m = s.last m := by unfold wroteP setF; simp [e1]
        refine ⟨fun hh => l1 (hl ▸ hh), fun pl hh => ?_⟩
        dsimp only
        rw [wrote_back, if_neg e1]
        exact l2 pl (hl ▸ hh)
  · obtain ⟨e1, e2⟩ := writeP_errs s h n he
    rw [e2]
    rcases writeP_host (s := s) (h := h) n with e|e
    · rw [e]; exact hs.dead _ he e1 hs.mild ⟨rfl, rfl⟩
    · rw [e]; exact hs.dead _ he e1 (writeR_mild hs.mild _ _) (writeR_same _ _ _)
theorem writeP_numbers (s : PS) (h : HS) (n : Int) : numbers (writeP s h n).2.1 = numbers s ∧ (writeP s h n).2.1.window = s.window ∧ (writeP s h n).2.1.pages = s.pages ∧ (writeP s h n).2.1.text = s.text ∧ (writeP s h n).2.1.key = s.key ∧ (writeP s h n).2.1.round = s.round := by
  by_cases he : (writeP s h n).1 = 0
  · obtain ⟨_, _, e⟩ := writeP_zero he
    rw [e]
    exact ⟨cleaned_pages _ _, rfl, rfl, rfl, rfl, rfl⟩
  · obtain ⟨_, e⟩ := writeP_errs s h n he
    rw [e]
    exact ⟨rfl, rfl, rfl, rfl, rfl, rfl⟩
theorem Sound.tail (hs : Sound s h b) (hc : ∀ x r, s.held = x :: r → changedAt s x.page = false) : Sound { s with held := s.held.tail } h b := by
  cases hh : s.held with
  | nil =>
    have : ({ s with held := ([] : List Fr).tail } : PS) = s := by rw [List.tail_nil, ← hh]
    rw [this]; exact hs
  | cons x r =>
    rw [← hh]
    refine ⟨ok_tail hs.ok, ⟨hs.over.pages, hs.over.size⟩, hs.mild, hs.len, fun h0 m => ?_⟩
    obtain ⟨r1, r2⟩ := hs.right h0 m
    refine ⟨fun f hf => ?_, fun hcm => ?_⟩
    · rw [frOf_tail hs.ok hh] at hf
      split at hf
      · cases hf
      · exact r1 f hf
    · rw [changed_tail hs.ok hh] at hcm
      by_cases e : m = x.page
      · subst e
        exact r2 (hc x r hh)
      · rw [if_neg e] at hcm
        exact r2 hcm
theorem Sound.room (hs : Sound s h b) (h0 : s.err = 0) : Sound (roomP s h).2.1 (roomP s h).2.2 b ∧ ((roomP s h).1 = 0 → (roomP s h).2.1.err = 0) ∧ ((roomP s h).1 ≠ 0 → (roomP s h).2.1.err = (roomP s h).1) := by
  unfold roomP
  split
  · exact ⟨hs, fun _ => h0, fun hh => absurd rfl hh⟩
  · rename_i hl
    dsimp only
    have hw0 := hs.ok.w0
    obtain ⟨x, r, hh⟩ : ∃ x r, s.held = x :: r := by
      cases hh : s.held with
      | nil => rw [hh] at hl; simp at hl; omega
      | cons x r => exact ⟨x, r, rfl⟩
    have hd : (s.held.head?.map Fr.page).getD 0 = x.page := by rw [hh]; rfl
    rw [hd]
    have hx : x.page ∈ numbers s := by unfold numbers; rw [hh]; simp
    by_cases hc : changedAt s x.page = true
    · rw [if_pos hc]
      have hw := hs.write h0 hx
      split
      · rename_i hz
        obtain ⟨_, hz2, e⟩ := writeP_zero hz
        refine ⟨hw.tail ?_, fun _ => ?_, fun hh => absurd rfl hh⟩
        · intro y t ht
          have e2 : numbers (writeP s h x.page).2.1 = numbers s := (writeP_numbers s h x.page).1
          unfold numbers at e2
          rw [ht, hh, List.map_cons, List.map_cons] at e2
          obtain ⟨e3, _⟩ := List.cons.inj e2
          rw [e3, e]
          dsimp only
          rw [changed_wrote, if_pos rfl]
        · rw [e]; exact h0
      · rename_i hz
        refine ⟨hw, fun hh => absurd hh hz, fun _ => ?_⟩
        rw [(writeP_errs s h x.page hz).2]; rfl
    · rw [if_neg hc]
      refine ⟨?_, fun _ => h0, fun hh => absurd rfl hh⟩
      refine hs.tail ?_
      intro y t ht
      rw [hh] at ht
      obtain ⟨e3, _⟩ := List.cons.inj ht
      rw [← e3]
      simpa using hc
theorem Sound.use (hs : Sound s h b) (f : Fr) (b' : Int → Bytes) (hf : f.text = b' f.page) (hb : ∀ m, m ≠ f.page → b' m = b m) (hlen : f.text.length = s.text) (hr : (frOf s f.page).isSome = true ∨ s.held.length < s.window) (hp : 0 ≤ f.page ∧ f.page < s.pages) (hi : f.is ≤ 2)
    (hl : s.err = 0 → f.is ≠ 2 → Lain s h f.page f.text) : Sound (useP s f) h b' := by
  refine ⟨ok_use hs.ok hr hp hlen hi, ⟨hs.over.pages, hs.over.size⟩, hs.mild, fun n => ?_, fun h0 m => ?_⟩
  · by_cases e : n = f.page
    · rw [e, ← hf]; exact hlen
    · rw [hb n e]; exact hs.len n
  · obtain ⟨r1, r2⟩ := hs.right h0 m
    refine ⟨fun g hg => ?_, fun hc => ?_⟩
    · rw [frOf_use] at hg
      split at hg
      · rename_i e
        obtain rfl := Option.some.inj hg
        rw [e]; exact hf
      · rename_i e
        rw [hb m e]; exact r1 g hg
    · rw [changed_use] at hc
      split at hc
      · rename_i e
        rw [e, ← hf]
        exact hl h0 (by simpa using hc)
      · rename_i e
        rw [hb m e]; exact r2 hc
theorem changed_no {s : PS} {n : Int} (hn : n ∉ numbers s) : changedAt s n = false := by
  unfold changedAt
  cases hf : frOf s n with
  | none => rfl
  | some f => exact absurd (by obtain ⟨h1, h2⟩ := frOf_mem hf; rw [← h2]; exact List.mem_map.2 ⟨f, h1, rfl⟩) hn
theorem roomP_leaves (hk : Ok s) : (∀ n, n ∉ numbers s → n ∉ numbers (roomP s h).2.1) ∧ (roomP s h).2.1.window = s.window ∧ (roomP s h).2.1.pages = s.pages ∧ (roomP s h).2.1.text = s.text ∧ ((roomP s h).1 = 0 → (roomP s h).2.1.held.length < s.window) := by
  have tl : ∀ (x : PS) n, n ∉ numbers x → n ∉ numbers { x with held := x.held.tail } := fun x n hn hh => hn (by
    unfold numbers at hh ⊢
    obtain ⟨f, hf, e⟩ := List.mem_map.1 hh
    exact List.mem_map.2 ⟨f, List.mem_of_mem_tail hf, e⟩)
  have hw0 := hk.w0
  have hm := hk.many
  unfold roomP
  split
  · rename_i hl; exact ⟨fun _ h => h, rfl, rfl, rfl, fun _ => hl⟩
  · rename_i hl
    dsimp only
    obtain ⟨w1, w2, w3, w4, w5⟩ := writeP_numbers s h ((s.held.head?.map Fr.page).getD 0)
    have hlen : (writeP s h ((s.held.head?.map Fr.page).getD 0)).2.1.held.length = s.held.length := by
      have := congrArg List.length w1
      unfold numbers at this
      rwa [List.length_map, List.length_map] at this
    split
    · split
      · refine ⟨fun n hn => tl _ n (by rw [w1]; exact hn), w2, w3, w4, fun _ => ?_⟩
        show (writeP s h _).2.1.held.tail.length < _
        rw [List.length_tail, hlen]; omega
      · rename_i h0
        exact ⟨fun n hn => by rw [w1]; exact hn, w2, w3, w4, fun hh => absurd hh h0⟩
    · refine ⟨fun n hn => tl s n hn, rfl, rfl, rfl, fun _ => ?_⟩
      show s.held.tail.length < _
      rw [List.length_tail]; omega
theorem right_zero {n : Int} (h : rightP s n = 0) : s.err = 0 ∧ 0 ≤ n ∧ n < s.pages := by
  unfold rightP at h
  split at h
  · rename_i he; exact absurd h he
  · rename_i he
    split at h
    · cases h
    · rename_i hp; exact ⟨by omega, by omega, by omega⟩
/-- The page's text is what was saved. -/
theorem Sound.save (hs : Sound s h b) (n : Int) (t : Bytes) : Sound (saveP s h n t).2.1 (saveP s h n t).2.2 (if (saveP s h n t).1 = 0 then setF b n t else b) ∧ ((saveP s h n t).1 = 0 → t.length = s.text ∧ rightP s n = 0 ∧ (saveP s h n t).2.1.err = 0) ∧ (rightP s n = 0 → t.length = s.text → (saveP s h n t).2.1.err = (saveP s h n t).1) ∧ (rightP s n ≠ 0 → (saveP s h n t).1 = rightP s n) ∧ (rightP s n = 0 → t.length ≠ s.text → (saveP s h n t).1 = 4) := by
  unfold saveP
  by_cases hr : rightP s n = 0
  · rw [if_pos hr]
    obtain ⟨h0, hp⟩ := right_zero hr
    by_cases ht : t.length = s.text
    · rw [if_pos ht]
      have put : ∀ (s1 : PS) (h1 : HS), Sound s1 h1 b → s1.text = s.text → s1.pages = s.pages → ((frOf s1 n).isSome = true ∨ s1.held.length < s1.window) → Sound (useP s1 ⟨n, t, 2⟩) h1 (setF b n t) := by
        intro s1 h1 hs1 e1 e2 e3
        refine hs1.use ⟨n, t, 2⟩ _ (by unfold setF; simp) (fun m hm => by unfold setF; rw [if_neg hm]) (by rw [e1]; exact ht) e3 (by rw [e2]; exact hp) (Nat.le_refl _) (fun _ hh => absurd rfl hh)
      cases hf : frOf s n with
      | some f =>
        dsimp only
        rw [if_pos rfl]
        exact ⟨put s h hs rfl rfl (.inl (by rw [hf]; rfl)), fun _ => ⟨ht, hr, h0⟩, fun _ _ => h0, fun hh => absurd hr hh, fun _ hh => absurd ht hh⟩
      | none =>
        dsimp only
        have hn := frOf_none hf
        obtain ⟨q1, q2, q3⟩ := hs.room h0
        obtain ⟨v1, v2, v3, v4, v5⟩ := roomP_leaves (h := h) hs.ok
        by_cases hz : (roomP s h).1 = 0
        · simp only [if_pos hz, if_true]
          exact ⟨put _ _ q1 v4 v3 (.inr (by rw [v2]; exact v5 hz)), fun _ => ⟨ht, hr, q2 hz⟩, fun _ _ => q2 hz, fun hh => absurd hr hh, fun _ hh => absurd ht hh⟩
        · simp only [if_neg hz]
          exact ⟨q1, fun hh => absurd hh hz, fun _ _ => q3 hz, fun hh => absurd hr hh, fun _ hh => absurd ht hh⟩
    · rw [if_neg ht]
      dsimp only
      rw [if_neg (by omega)]
      exact ⟨hs, fun hh => by omega, fun _ hh => absurd hh ht, fun hh => absurd hr hh, fun _ _ => rfl⟩
  · rw [if_neg hr]
    dsimp only
    rw [if_neg hr]
    exact ⟨hs, fun hh => absurd hh hr, fun hh => absurd hh hr, fun _ => rfl, fun hh => absurd hh hr⟩
theorem sound_fresh {key : Bytes} {round : BitVec 64} {window : Nat} {pages : Int} {text : Nat} (hk : Ok (freshP key round window pages text)) {h : HS} (hp : h.pages = pages) (hz : h.size = text + 28) (hm : Mild h) : Sound (freshP key round window pages text) h (fun _ => List.replicate text 0#8) :=
  ⟨hk, ⟨hp, hz⟩, hm, fun _ => by simp [freshP], fun _ n => ⟨fun f hf => (by unfold frOf freshP at hf; cases hf), fun _ => ⟨fun _ => rfl, fun pl hh => by cases hh⟩⟩⟩
end
end Go.Sl.PagerS

/- the document's pager (trystref13): Flush, walked. -/
set_option maxHeartbeats 4000000
set_option maxRecDepth 10000
set_option linter.unusedVariables false
set_option linter.unusedSimpArgs false
namespace Go.Sl
open Go Go.Proofs
attribute [local irreducible] pt pur ex all den denOps denS xOps xC cX CX xthen xblk xcut xloop xng retX resX Calls PV Rd Con
attribute [local irreducible] hostA refA rpcl pcl pgSealB pgOpenR HostS.writeR HostS.readR PagerS.roomP PagerS.useP usedH
open PagerS (PS Over)
def lo (i : Int) (l : List Int) : List Int := l.filter fun z => decide (i ≤ z)
theorem lo_out {l : List Int} {i : Int} (h : i ∉ l) : lo i l = lo (i + 1) l := by
  unfold lo
  apply List.filter_congr
  intro z hz
  have : z ≠ i := fun e => h (e ▸ hz)
  rw [decide_eq_decide]
  omega
theorem lo_in {l : List Int} {i : Int} (hs : l.Pairwise (· < ·)) (h : i ∈ l) : lo i l = i :: lo (i + 1) l := by
  induction l with
  | nil => cases h
  | cons x r ih =>
    rw [List.pairwise_cons] at hs
    unfold lo at ih ⊢
    rcases List.mem_cons.1 h with e|h
    · subst e
      rw [List.filter_cons_of_pos (by simp), List.filter_cons_of_neg (by simp; omega)]
      congr 1
      apply List.filter_congr
      intro z hz
      have := hs.1 z hz
      rw [decide_eq_decide]
      omega
    · have := hs.1 i h
      rw [List.filter_cons_of_neg (by simp; omega), List.filter_cons_of_neg (by simp; omega)]
      exact ih hs.2 h
theorem lo_all {l : List Int} {i : Int} (h : ∀ z ∈ l, i ≤ z) : lo i l = l := List.filter_eq_self.2 fun z hz => by simpa using h z hz
theorem lo_nil {l : List Int} {i : Int} (h : ∀ z ∈ l, z < i) : lo i l = [] := List.filter_eq_nil_iff.2 fun z hz => by have := h z hz; simp; omega
theorem sortZ_lt {zs : List Int} (hn : zs.Nodup) : (sortZ zs).Pairwise (· < ·) := by
  have h1 : (sortZ zs).Pairwise (fun x y => decide (x ≤ y) = true) := List.pairwise_mergeSort (fun a b c h1 h2 => by simp at *; omega) (fun a b => by simp; omega) zs
  have h2 : (sortZ zs).Nodup := (List.mergeSort_perm zs _).nodup_iff.2 hn
  exact (h1.and h2).imp fun ⟨a, b⟩ => by have := of_decide_eq_true a; omega
theorem lo_le (i : Int) (l : List Int) : (lo i l).length ≤ l.length := List.length_filter_le _ _
attribute [local irreducible] lo
theorem sortZ_mem {zs : List Int} {z : Int} : z ∈ sortZ zs ↔ z ∈ zs := (List.mergeSort_perm zs fun x y => decide (x ≤ y)).mem_iff
theorem flushL_cons (n : Int) (r : List Int) (s : PS) (h : HostS.HS) : PagerS.flushL (n :: r) s h = if PagerS.changedAt s n then (if (PagerS.writeP s h n).1 = 0 then PagerS.flushL r (PagerS.writeP s h n).2.1 (PagerS.writeP s h n).2.2 else PagerS.writeP s h n) else PagerS.flushL r s h := rfl
section
variable {p q : Nat} {s : PS} {h : HostS.HS} {fl : List HostS.Fault}
theorem rp_changed {c : RC} {hl : List HE} {wl : List Plc} (hk : RpOk s c hl wl) {i : Nat} (hi : i < hl.length) : PagerS.changedAt s hl[i].2.page = (hl[i].2.is == 2) := by
  unfold PagerS.changedAt; rw [hk.fr hi]; rfl
theorem rp_num {c : RC} {hl : List HE} {wl : List Plc} (hk : RpOk s c hl wl) (n : Int) : n ∈ PagerS.numbers s ↔ ∃ e ∈ hl, e.2.page = n := by
  unfold PagerS.numbers
  rw [hk.held, List.map_map, List.mem_map]; rfl
theorem rflush_x (hov : Over s h) (hops : h.ops + 16 < 3518437208880) (hw : s.writes + 16 < 4294967295) :
    Con Tryz.prog 45 [hp p] [rpA p q s, refA q h fl] (fun r M => r = nvv (PagerS.flushP s h).1 ∧ M = [rpA p q (PagerS.flushP s h).2.1, refA q (PagerS.flushP s h).2.2 fl]) := by
  refine Con.rpA fun c hl wl hk hq => ?_
  have hkey := hk.ok.key
  have hl16 := hk.len
  have hback : Imp (rpL p s c hl wl ++ [refA q h fl]) [rpA p q s, refA q h fl] := rpA_mk hk hq
  by_cases he : s.err = 0
  case neg =>
    have e : PagerS.flushP s h = (s.err, s, h) := by unfold PagerS.flushP; rw [if_neg he]
    rw [e]
    simp only [List.cons_append, List.nil_append] at hback ⊢
    refine fn_x Tryz.func45 rfl rfl rfl Tryz.mixed (by kernel_rfl) ?_
    intro w0
    refine Y7 ?_
    refine Zhp rfl qH (rp_f hkey (k := 8) rfl) ?_
    refine Y1 ?_
    refine Zhm 10 rfl (decide_eq_true (he)) ?_
    refine Y6 ?_
    refine Zhp rfl qH (rp_f hkey (k := 8) rfl) ?_
    refine V2 ?_
    refine rx1 (Zg9 rfl (Zg7)) ?_
    exact ⟨_, ⟨rfl, rfl⟩, (Imp.arr qV).trans hback⟩
  case pos =>
    have e : PagerS.flushP s h = PagerS.flushL (sortZ (PagerS.numbers s)) s h := by unfold PagerS.flushP; rw [if_pos he]; rfl
    have hzl : (sortZ (PagerS.numbers s)).length ≤ 16 := by
      rw [sortZ_len]; unfold PagerS.numbers; rw [hk.held, List.length_map, List.length_map]; omega
    have hlt := sortZ_lt hk.ok.once
    have hin0 : ∀ z ∈ sortZ (PagerS.numbers s), 0 ≤ z ∧ z < s.pages := fun z hz => by
      obtain ⟨f, hf, rfl⟩ := List.mem_map.1 (sortZ_mem.1 hz)
      exact hk.ok.there f hf
    have hmem : ∀ z, z ∈ sortZ (PagerS.numbers s) ↔ z ∈ PagerS.numbers s := fun z => sortZ_mem
    have hp0 := hk.ok.p0
    have hp1 := hk.ok.p1
    rw [e]
    generalize sortZ (PagerS.numbers s) = zs at *
    simp only [List.cons_append, List.nil_append] at hback ⊢
    refine fn_x Tryz.func45 rfl rfl rfl Tryz.mixed (by kernel_rfl) ?_
    intro w0
    refine Y7 ?_
    refine Zhp rfl qH (rp_f hkey (k := 8) rfl) ?_
    refine Y1 ?_
    refine Zhn 10 rfl (decide_eq_false ((fun hh => hh he))) ?_
    refine V5 ?_
    refine Zgp ((Imp.arr (N := cl p (rpcl s c) 126 :: ownH c.ha c.hc hl :: ownW c.la c.lc wl :: star rtA hl :: [refA q h fl]) qV).trans hback) ?_
    refine Zgo [(2, 5), (15, 48)] (by kernel_rfl) (fun t : Nat × PS × HostS.HS => (t.1 : Int) ≤ s.pages ∧ PagerS.flushL (lo t.1 zs) t.2.1 t.2.2 = PagerS.flushL zs s h ∧ Over t.2.1 t.2.2 ∧ PagerS.numbers t.2.1 = PagerS.numbers s ∧ t.2.1.pages = s.pages ∧ t.2.2.ops + (lo t.1 zs).length ≤ h.ops + 16 ∧ t.2.1.writes + (lo t.1 zs).length ≤ s.writes + 16 ∧ t.2.1.err = 0)
      (fun t => [rpA p q t.2.1, refA q t.2.2 fl]) (fun t => [(3, nvv t.1)]) (fun t => s.pages.toNat - t.1) (0, s, h) ⟨by dsimp only; omega, by dsimp only; rw [lo_all (i := ((0 : Nat) : Int)) (fun z hz => (hin0 z hz).1)], hov, rfl, rfl, by have := lo_le ((0 : Nat) : Int) zs; dsimp only; omega, by have := lo_le ((0 : Nat) : Int) zs; dsimp only; omega, he⟩ qI ⟨rfl, trivial⟩ ?_
    rintro ⟨i, s1, h1⟩ u ⟨hi, hfl1, hov1, hnm, hpg1, hop1, hw1, he1⟩
    dsimp only at hi hfl1 hov1 hnm hpg1 hop1 hw1 he1 ⊢
    refine x_rpA fun c1 hl1 wl1 hk1 hq1 => ?_
    have hkey1 := hk1.ok.key
    have hl161 := hk1.len
    have hback1 : Imp (rpL p s1 c1 hl1 wl1 ++ [refA q h1 fl]) [rpA p q s1, refA q h1 fl] := rpA_mk hk1 hq1
    simp only [List.cons_append, List.nil_append] at hback1 ⊢
    have hc1 : (rpcl s1 c1)[33 + 2]? = some (.int .i64 s.pages) := by rw [← hpg1]; exact rp_f hkey1 (k := 2) rfl
    by_cases hB : (i : Int) < s.pages
    · refine Y5 ?_
      refine Zhp rfl qH (hc1) ?_
      refine Zhg (Zbn (a := (i : Int)) (b := s.pages) rfl rfl) ?_
      refine Zhm 20 rfl (decide_eq_true (hB)) ?_
      refine V2 ?_
      by_cases hin : ∃ e ∈ hl1, e.2.page = (i : Int)
      · have hiz : (i : Int) ∈ zs := (hmem _).2 (by rw [← hnm]; exact (rp_num hk1 _).2 hin)
        have elo := lo_in hlt hiz
        rw [show ((i : Int) + 1) = ((i + 1 : Nat) : Int) from rfl] at elo
        rw [elo] at hfl1 hop1 hw1
        rw [List.length_cons] at hop1 hw1
        rw [flushL_cons] at hfl1
        obtain ⟨q', ha, hn, hc, la, ln, lc, took⟩ := c1
        have hhn := hk1.hn
        dsimp only at hhn hq1
        subst hhn hq1
        have hsz := rp_size (s := s1) (c := ⟨q', ha, hl1.length, hc, la, ln, lc, took⟩) hkey1
        refine Y3 ?_
        refine Zh8 rfl (by kernel_rfl) (rfind_yes (c := ⟨q', ha, hl1.length, hc, la, ln, lc, took⟩) hkey1 (by omega) rfl hin) rfl qT ?_
        rintro _ _ ⟨⟨j, hj, hpg, rfl⟩, rfl⟩
        refine V3 ?_
        refine Zgt (fun F w H => own_someN (n := hl1.length) (a := ha) qH (by omega) H) ?_
        rintro ⟨g, rfl⟩
        have hch := rp_changed hk1 hj
        rw [hpg] at hch
        rw [hch] at hfl1
        by_cases h2 : hl1[j].2.is = 2
        · rw [h2, if_pos (show ((2 : Nat) == 2) = true from rfl)] at hfl1
          have hwx := rwrite_x (p := p) (fl := fl) hk1 hov1 (by omega) (by omega) hj
          rw [hpg] at hwx
          have hb2 : Value.bool (hl1[j].2.is == 2) = .bool true := by rw [h2]; rfl
          obtain ⟨wo1, wo2⟩ := writeP_over (s := s1) (h := h1) (i : Int) hov1
          obtain ⟨ws1, _, ws3, _⟩ := writeP_same s1 h1 (i : Int)
          simp only [List.cons_append, List.nil_append] at hwx ⊢
          refine Y2 ?_
          refine Zhg (Zbn (a := (j : Int)) (b := 0) rfl rfl) ?_
          refine Zhn 27 rfl (decide_eq_false ((by omega))) ?_
          refine Y4 ?_
          first|refine Y0 ?_|(refine Zhh rfl ?_; (refine Zhp rfl qH (rp_f hkey1 (k := 4) rfl) ?_))
          refine Y3 ?_
          first|refine Y0 ?_|(refine Zhh rfl ?_; (refine Zff rfl (((Rd.own (n := hl1.length) qH).atN0 (j := 2) rhe_len hj (by omega) rfl)) ?_))
          first|refine Y0 ?_|(refine Zhh rfl ?_; (refine Zhg (Zb0 hb2) ?_))
          refine Zhn 37 rfl (rfl) ?_
          refine V3 ?_
          by_cases h0 : (HostS.writeR h1 (i : Int) (PagerS.boxOf s1 (i : Int))).1 = 0
          · rw [rwriteP_ok h0] at hwx
            have ew := writeP_ok (s := s1) (h := h1) (n := (i : Int)) (by omega) h0
            rw [ew] at hfl1 wo1 wo2 ws1 ws3
            rw [if_pos rfl] at hfl1
            dsimp only at hfl1 wo1 wo2 ws1 ws3 hwx
            refine Y3 ?_
            refine Zh8 rfl (by kernel_rfl) (hwx) rfl qT ?_
            rintro _ _ ⟨rfl, c', hl', wl', hk', hq', rfl⟩
            refine Y6 ?_
            refine Zhn 43 rfl (decide_eq_false ((fun hh => hh rfl))) ?_
            refine V7 ?_
            have hbk := rpA_mk (p := p) (L := [refA q' (HostS.writeR h1 (i : Int) (PagerS.boxOf s1 (i : Int))).2 fl]) hk' hq'
            simp only [List.cons_append, List.nil_append] at hbk
            exact Zgl (i + 1, PagerS.wroteP s1 (i : Int), (HostS.writeR h1 (i : Int) (PagerS.boxOf s1 (i : Int))).2) qO ⟨by dsimp only; omega, hfl1, wo1, ws1.trans hnm, ws3.trans hpg1, by dsimp only; omega, by show s1.writes + 1 + _ ≤ _; dsimp only; omega, he1⟩ ((Imp.arr qV).trans hbk) ⟨rfl, trivial⟩
          · rw [rwriteP_no h0] at hwx
            have herr := writeR_err h1 (i : Int) (PagerS.boxOf s1 (i : Int))
            have ew := writeP_no (s := s1) (h := h1) (n := (i : Int)) (by omega) h0
            rw [ew] at hfl1
            rw [if_neg h0] at hfl1
            refine Y3 ?_
            refine Zh8 rfl (by kernel_rfl) (hwx) rfl qT ?_
            rintro _ _ ⟨rfl, c', hl', wl', hk', hq', rfl⟩
            refine V3 ?_
            have hkey' := hk'.ok.key
            have hsz2 := rp_size (s := s1) (c := c') hkey'
            refine Y3 ?_
            refine Zhm 43 rfl (decide_eq_true (h0)) ?_
            refine Y7 ?_
            refine Zht rfl rfl qR qZ (rp_s (s := s1) (c := c') (s' := PagerS.die s1 (HostS.writeR h1 (i : Int) (PagerS.boxOf s1 (i : Int))).1) (c' := c') hkey' (k := 8) rfl rfl rfl) ?_
            refine V5 ?_
            refine rx1 (Zg9 rfl (Zg7)) ?_
            rw [← hfl1]
            refine ⟨_, ⟨rfl, rfl⟩, ?_⟩
            have h9 := rpA_mk (p := p) (L := [refA q' (HostS.writeR h1 (i : Int) (PagerS.boxOf s1 (i : Int))).2 fl]) (rp_die hk' herr) hq'
            simp only [List.cons_append, List.nil_append] at h9
            exact (Imp.arr qV).trans h9
        · rw [if_neg (by simpa using h2)] at hfl1
          have hb2 : Value.bool (hl1[j].2.is == 2) = .bool false := by rw [show (hl1[j].2.is == 2) = false by simpa using h2]
          refine Y2 ?_
          refine Zhg (Zbn (a := (j : Int)) (b := 0) rfl rfl) ?_
          refine Zhn 27 rfl (decide_eq_false ((by omega))) ?_
          refine Y4 ?_
          first|refine Y0 ?_|(refine Zhh rfl ?_; (refine Zhp rfl qH (rp_f hkey1 (k := 4) rfl) ?_))
          refine Y3 ?_
          first|refine Y0 ?_|(refine Zhh rfl ?_; (refine Zff rfl (((Rd.own (n := hl1.length) qH).atN0 (j := 2) rhe_len hj (by omega) rfl)) ?_))
          first|refine Y0 ?_|(refine Zhh rfl ?_; (refine Zhg (Zb0 hb2) ?_))
          refine Zhm 37 rfl (rfl) ?_
          refine V8 ?_
          exact Zgl (i + 1, s1, h1) qO ⟨by dsimp only; omega, hfl1, hov1, hnm, hpg1, by dsimp only; omega, by dsimp only; omega, he1⟩ ((Imp.arr qV).trans hback1) ⟨rfl, trivial⟩
      · have hno : ∀ e ∈ hl1, e.2.page ≠ (i : Int) := fun e he1 he2 => hin ⟨e, he1, he2⟩
        have hiz : (i : Int) ∉ zs := fun hh => hin ((rp_num hk1 _).1 (by rw [hnm]; exact (hmem _).1 hh))
        have elo := lo_out hiz
        rw [show ((i : Int) + 1) = ((i + 1 : Nat) : Int) from rfl] at elo
        rw [elo] at hfl1 hop1 hw1
        refine Y3 ?_
        refine Zh8 rfl (by kernel_rfl) (rfind_no (c := c1) hkey1 (by omega) hk1.hn hno) rfl qT ?_
        rintro _ _ ⟨rfl, rfl⟩
        refine Y5 ?_
        refine Zhg (Zbn (a := -1) (b := 0) rfl rfl) ?_
        refine Zhm 27 rfl (decide_eq_true ((by omega))) ?_
        refine V18 ?_
        exact Zgl (i + 1, s1, h1) qO ⟨by dsimp only; omega, hfl1, hov1, hnm, hpg1, by dsimp only; omega, by dsimp only; omega, he1⟩ ((Imp.arr qV).trans hback1) ⟨rfl, trivial⟩
    · have hie : (i : Int) = s.pages := by omega
      rw [hie, lo_nil (fun z hz => (hin0 z hz).2)] at hfl1
      have hfl2 : (0, s1, h1) = PagerS.flushL zs s h := hfl1
      refine Y5 ?_
      refine Zhp rfl qH (hc1) ?_
      refine Zhg (Zbn (a := (i : Int)) (b := s.pages) rfl rfl) ?_
      refine Zhn 20 rfl (decide_eq_false (hB)) ?_
      refine V5 ?_
      refine rx1 (Zg9 rfl (Zg7)) ?_
      rw [← hfl2]
      exact ⟨_, ⟨rfl, rfl⟩, (Imp.arr qV).trans hback1⟩
end
end Go.Sl

/- engine: literals of structs, part by part, over lists of cells. -/
set_option linter.unusedVariables false
namespace Go.Sl
open Go
/-- A part that is a row of cells. -/
theorem fill_seg {pl : Nat → Option (Nat × Nat)} {A B C V : List Value} {cs : Array Value} {i o n : Nat} {v : Value} {rest : List (Nat × Value)} (hp : pl i = some (o, n)) (ho : o = A.length) (hn : n = B.length) (hv : v.cells.toList = V) (hl : V.length = B.length) (k : Instr.fill pl (A ++ (V ++ C)).toArray rest = some cs) : Instr.fill pl (A ++ (B ++ C)).toArray ((i, v) :: rest) = some cs := by
  subst ho hn hv
  exact fill_part (z' := (A ++ (v.cells.toList ++ C)).toArray) hp (by rw [← hl]; simp) (by simp) (wr_mid A B C _ _ rfl hl) k
/-- A part that is one cell, behind a row of them. -/
theorem fill_tl {pl : Nat → Option (Nat × Nat)} {H T T' : List Value} {cs : Array Value} {i o k : Nat} {v : Value} {rest : List (Nat × Value)} (hp : pl i = some (o, 1)) (ho : o = H.length + k) (hk : k < T.length) (hv : v.cells = #[v]) (hT : T.set k v = T') (hh : Instr.fill pl (H ++ T').toArray rest = some cs) : Instr.fill pl (H ++ T).toArray ((i, v) :: rest) = some cs := by
  subst ho hT
  refine fill_part (z' := (H ++ T.set k v).toArray) hp (by rw [hv]; rfl) (by simp; omega) ?_ hh
  rw [hv]
  apply Array.ext'
  rw [wr_toList _ _ _ (by simp; omega)]
  simp [List.take_append, List.drop_append, List.set_eq_take_append_cons_drop, hk]
  rw [List.take_of_length_le (by omega), List.drop_of_length_le (by omega), show H.length + k + 1 - H.length = k + 1 by omega]; rfl
/-- A pointer as an interface. -/
theorem Zol {P : Program} {ρ : Env} {T E : Nat} {x : Operand} {a : Option Addr} [hs : TyPtr P T E] (hx : ev ρ x = .pointer a) : PV P (.makeInterface T x) ρ (.iface T (.pointer a)) := by
  intro oo w ho; unfold execOp; rw [ho]; refine op_run_value ?_; rw [hx]
  unfold Instr.makeInterface
  rw [run_bind P _ _ w w _ (run_under hs.h)]; rfl
end Go.Sl

/- pager: New, walked. -/
set_option maxHeartbeats 4000000
set_option maxRecDepth 10000
set_option linter.unusedVariables false
set_option linter.unusedSimpArgs false
namespace Go.Sl
open Go Go.Proofs
attribute [local irreducible] pt pur ex all den denOps denS xOps xC cX CX xthen xblk xcut xloop xng retX resX Calls PV Rd Con
attribute [local irreducible] hostA pgSealB pgOpenR PagerS.writeP PagerS.roomP HostS.readR
open PagerS (PS Over)
theorem met_pages (ph : Nat) : Met Tryz.prog 28 (hp ph) "Pages" 209 (hp ph) := by intro w; kernel_rfl
theorem met_size (ph : Nat) : Met Tryz.prog 28 (hp ph) "Size" 212 (hp ph) := by intro w; kernel_rfl
abbrev ptail0 : List Value := [.int .u64 0, .int .i64 0, .int .i64 0, .int .i64 0, .map none, .slice none 0 0, .map none, .int .i64 0, .int .u32 0, .int .i64 0]
abbrev ptailN (round : BitVec 64) (window pages : Int) (text : Nat) (bh bl : Nat) : List Value := [u64b round, .int .i64 window, .int .i64 pages, nvv text, .map (some bh), .slice none 0 0, .map (some bl), .int .i64 0, .int .u32 0, .int .i64 0]
theorem newp_fill {pl : Nat → Option (Nat × Nat)} {ph : Nat} {key : List Byte} {round : BitVec 64} {window pages : Int} {text bh bl : Nat} (hk : key.length = 32) (h0 : pl 0 = some (0, 1)) (h1 : pl 1 = some (1, 32)) (h2 : pl 2 = some (33, 1)) (h3 : pl 3 = some (34, 1)) (h4 : pl 4 = some (35, 1)) (h5 : pl 5 = some (36, 1)) (h6 : pl 6 = some (37, 1)) (h8 : pl 8 = some (39, 1)) :
    Instr.fill pl ([] ++ ([Value.nilIface] ++ (List.replicate 32 (Value.int .u8 0) ++ ptail0))).toArray [(0, stV ph), (1, .agg (key.map u8b).toArray), (2, u64b round), (3, .int .i64 window), (4, .int .i64 pages), (5, nvv text), (6, .map (some bh)), (8, .map (some bl))] = some ((stV ph :: key.map u8b) ++ ptailN round window pages text bh bl).toArray := by
  refine fill_seg (V := [stV ph]) h0 rfl rfl rfl rfl ?_
  refine fill_seg (A := [stV ph]) (V := key.map u8b) h1 rfl (by simp) (by simp [Value.cells]) (by simp [hk]) ?_
  have hh : (stV ph :: key.map u8b).length = 33 := by simp [hk]
  refine fill_tl (H := stV ph :: key.map u8b) (k := 0) h2 (by omega) (by decide) rfl rfl ?_
  refine fill_tl (k := 1) h3 (by omega) (by simp) rfl rfl ?_
  refine fill_tl (k := 2) h4 (by omega) (by simp) rfl rfl ?_
  refine fill_tl (k := 3) h5 (by omega) (by simp) rfl rfl ?_
  refine fill_tl (k := 4) h6 (by omega) (by simp) rfl rfl ?_
  refine fill_tl (k := 6) h8 (by omega) (by simp) rfl rfl ?_
  exact fill_end
section
variable {ph : Nat} {h : HostS.HS}
/-- What New answers. -/
def newR (h : HostS.HS) (window : Int) : Nat := if window < 2 ∨ 16 < window then 2 else if h.size ≤ 28 then 5 else 0
theorem new_x {key : List Byte} (hk : key.length = 32) (round : BitVec 64) (window : Int) :
    Con Tryz.prog 38 [stV ph, .agg (key.map u8b).toArray, u64b round, .int .i64 window] [hostA ph h] (fun r M => (newR h window = 0 ∧ ∃ p, r = .tuple #[hp p, nvv 0] ∧ M = [pgA p ph (PagerS.freshP key round window.toNat h.pages (h.size - 28)), hostA ph h] ∧ PagerS.Ok (PagerS.freshP key round window.toNat h.pages (h.size - 28)) ∧ Over (PagerS.freshP key round window.toNat h.pages (h.size - 28)) h) ∨ (newR h window ≠ 0 ∧ r = .tuple #[.pointer none, nvv (newR h window)] ∧ M = [hostA ph h])) := by
  refine Con.get (fun w0 w F H => host_ok qH H) ?_
  intro hho
  unfold newR
  by_cases hw1 : window < 2
  · rw [if_pos (.inl hw1)]
    refine fn_x Tryz.func38 rfl rfl rfl Tryz.mixed (by kernel_rfl) ?_
    intro w0
    refine Y1 ?_
    refine Zh5 rfl ?_; intro b5
    refine Y5 ?_
    refine Zhg (Zbn (b := 2) rfl rfl) ?_
    refine Zhm 13 rfl (decide_eq_true (hw1)) ?_
    refine V10 ?_
    refine rx2 (Zhb rfl (Zg9 rfl (Zg7))) ?_
    exact ⟨_, .inr ⟨by omega, rfl, rfl⟩, qI⟩
  by_cases hw2 : 16 < window
  · rw [if_pos (.inr hw2)]
    refine fn_x Tryz.func38 rfl rfl rfl Tryz.mixed (by kernel_rfl) ?_
    intro w0
    refine Y1 ?_
    refine Zh5 rfl ?_; intro b5
    refine Y5 ?_
    refine Zhg (Zbn (b := 2) rfl rfl) ?_
    refine Zhn 13 rfl (decide_eq_false (hw1)) ?_
    refine Y2 ?_
    first|refine Y0 ?_|(refine Zhh rfl ?_; (refine Zhg (Zbp (b := 16) rfl rfl) ?_))
    refine Zhm 16 rfl (decide_eq_true (hw2)) ?_
    refine V7 ?_
    refine rx2 (Zhb rfl (Zg9 rfl (Zg7))) ?_
    exact ⟨_, .inr ⟨by omega, rfl, rfl⟩, qI⟩
  rw [if_neg (show ¬ (window < 2 ∨ 16 < window) by omega)]
  have hp0 := hho.p0
  have hp1 := hho.p1
  have hz0 := hho.z0
  have hz1 := hho.z1
  by_cases hz : h.size ≤ 28
  · rw [if_pos hz]
    refine fn_x Tryz.func38 rfl rfl rfl Tryz.mixed (by kernel_rfl) ?_
    intro w0
    refine Y1 ?_
    refine Zh5 rfl ?_; intro b5
    refine Y5 ?_
    refine Zhg (Zbn (b := 2) rfl rfl) ?_
    refine Zhn 13 rfl (decide_eq_false (hw1)) ?_
    refine Y2 ?_
    first|refine Y0 ?_|(refine Zhh rfl ?_; (refine Zhg (Zbp (b := 16) rfl rfl) ?_))
    refine Zhn 16 rfl (decide_eq_false (hw2)) ?_
    refine Y5 ?_
    refine Znt rfl (met_pages ph) (by kernel_rfl) (pages_x) rfl qT ?_
    rintro _ _ ⟨rfl, rfl⟩
    refine Y2 ?_
    refine Znt rfl (met_size ph) (by kernel_rfl) (size_x) rfl qT ?_
    rintro _ _ ⟨rfl, rfl⟩
    refine Y6 ?_
    refine Zhg (Zbn (b := 0) rfl rfl) ?_
    refine Zhn 23 rfl (decide_eq_false ((show ¬ h.pages < 0 by omega))) ?_
    refine Y2 ?_
    first|refine Y0 ?_|(refine Zhh rfl ?_; (refine Zhg (Zbp (b := 65536) rfl rfl) ?_))
    refine Zhn 26 rfl (decide_eq_false ((show ¬ h.pages > 65536 by omega))) ?_
    refine Y3 ?_
    first|refine Y0 ?_|(refine Zhh rfl ?_; (refine Zhg (Zmg (b := 28) rfl rfl) ?_))
    refine Zhm 30 rfl (decide_eq_true (hz)) ?_
    refine V11 ?_
    refine rx2 (Zhb rfl (Zg9 rfl (Zg7))) ?_
    exact ⟨_, .inr ⟨by omega, rfl, rfl⟩, qI⟩
  · rw [if_neg hz]
    have hok : PagerS.Ok (PagerS.freshP key round window.toNat h.pages (h.size - 28)) := PagerS.ok_fresh hk (by omega) (by omega) (by omega)
    have hov : Over (PagerS.freshP key round window.toNat h.pages (h.size - 28)) h := ⟨rfl, by show h.size = h.size - 28 + 28; omega⟩
    refine fn_x Tryz.func38 rfl rfl rfl Tryz.mixed (by kernel_rfl) ?_
    intro w0
    refine Y1 ?_
    refine Zh5 rfl ?_; intro b5
    refine Y5 ?_
    refine Zhg (Zbn (b := 2) rfl rfl) ?_
    refine Zhn 13 rfl (decide_eq_false (hw1)) ?_
    refine Y2 ?_
    first|refine Y0 ?_|(refine Zhh rfl ?_; (refine Zhg (Zbp (b := 16) rfl rfl) ?_))
    refine Zhn 16 rfl (decide_eq_false (hw2)) ?_
    refine Y5 ?_
    refine Znt rfl (met_pages ph) (by kernel_rfl) (pages_x) rfl qT ?_
    rintro _ _ ⟨rfl, rfl⟩
    refine Y2 ?_
    refine Znt rfl (met_size ph) (by kernel_rfl) (size_x) rfl qT ?_
    rintro _ _ ⟨rfl, rfl⟩
    refine Y6 ?_
    refine Zhg (Zbn (b := 0) rfl rfl) ?_
    refine Zhn 23 rfl (decide_eq_false ((show ¬ h.pages < 0 by omega))) ?_
    refine Y2 ?_
    first|refine Y0 ?_|(refine Zhh rfl ?_; (refine Zhg (Zbp (b := 65536) rfl rfl) ?_))
    refine Zhn 26 rfl (decide_eq_false ((show ¬ h.pages > 65536 by omega))) ?_
    refine Y3 ?_
    first|refine Y0 ?_|(refine Zhh rfl ?_; (refine Zhg (Zmg (b := 28) rfl rfl) ?_))
    refine Zhn 30 rfl (decide_eq_false (hz)) ?_
    refine Y3 ?_
    first|refine Y0 ?_|(refine Zhh rfl ?_; (refine Zhg (Zmh (b := 4124) rfl rfl) ?_))
    refine Zhn 34 rfl (decide_eq_false ((show ¬ 4124 < h.size by omega))) ?_
    refine V3 ?_
    have e0 : window = ((window.toNat : Nat) : Int) := by omega
    refine Y7 ?_
    refine Zhg (Zmb (b := 28) rfl rfl (by omega) (by omega)) ?_
    refine Zoh ?_; intro bh
    refine Zoh ?_; intro bl
    refine Zhg (Zdm (cs := ((stV ph :: key.map u8b) ++ ptailN round window h.pages (h.size - 28) bh bl).toArray) (newp_fill hk rfl rfl rfl rfl rfl rfl rfl rfl)) ?_
    refine Zh5 rfl ?_; intro b46
    refine V3 ?_
    have ec : ((stV ph :: key.map u8b) ++ ptailN round window h.pages (h.size - 28) bh bl).toArray = pcl (PagerS.freshP key round window.toNat h.pages (h.size - 28)) ⟨ph, bh, none, 0, 0, bl⟩ := by
      unfold pcl
      show ((stV ph :: key.map u8b) ++ ptailN round window h.pages (h.size - 28) bh bl).toArray = ((stV ph :: key.map u8b) ++ [u64b round, .int .i64 ((window.toNat : Nat) : Int), .int .i64 h.pages, nvv (h.size - 28), .map (some bh), .slice none 0 0, .map (some bl), nvv 0, u32b (BitVec.ofNat 32 0), nvv 0]).toArray
      rw [← e0]; rfl
    rw [ec]
    refine rx2 (Zhb rfl (Zg9 rfl (Zg7))) ?_
    refine ⟨_, .inl ⟨rfl, b46, rfl, rfl, hok, hov⟩, ?_⟩
    have hkk : PgOk ph (PagerS.freshP key round window.toNat h.pages (h.size - 28)) ⟨ph, bh, none, 0, 0, bl⟩ [] := ⟨hok, rfl, rfl, rfl⟩
    have e1 : (fun _ => none : Int → Option Value) = heldF [] := rfl
    have e2 : (fun _ => none : Int → Option Value) = lastF (fun _ => none) := rfl
    have h1 : Imp (fmA bh (heldF []) :: fmA bl (lastF (fun _ => none)) :: cl b46 (pcl (PagerS.freshP key round window.toNat h.pages (h.size - 28)) ⟨ph, bh, none, 0, 0, bl⟩) 102 :: [hostA ph h]) (pgA b46 ph (PagerS.freshP key round window.toNat h.pages (h.size - 28)) :: [hostA ph h]) :=
      ((Imp.own_nil (E := 3) (size := 1)).trans (star_nil (A := frA))).trans ((Imp.arr (N := pgL b46 (PagerS.freshP key round window.toNat h.pages (h.size - 28)) ⟨ph, bh, none, 0, 0, bl⟩ [] ++ [hostA ph h]) qV).trans (pgA_mk hkk))
    rw [e2] at *
    exact (Imp.arr qV).trans h1
theorem pnew_ok {key : List Byte} (hk : key.length = 32) (round : BitVec 64) {window : Int} (hz : newR h window = 0) : Con Tryz.prog 38 [stV ph, .agg (key.map u8b).toArray, u64b round, .int .i64 window] [hostA ph h] (fun r M => ∃ p, r = .tuple #[hp p, nvv 0] ∧ M = [pgA p ph (PagerS.freshP key round window.toNat h.pages (h.size - 28)), hostA ph h]) :=
  (new_x hk round window).mono fun r M hh => by
    rcases hh with ⟨_, p, h1, h2, _, _⟩|⟨hn, _⟩
    · exact ⟨M, Imp.refl _, p, h1, h2⟩
    · exact absurd hz hn
theorem pnew_no {key : List Byte} (hk : key.length = 32) (round : BitVec 64) {window : Int} (hz : newR h window ≠ 0) : Con Tryz.prog 38 [stV ph, .agg (key.map u8b).toArray, u64b round, .int .i64 window] [hostA ph h] (fun r M => r = .tuple #[.pointer none, nvv (newR h window)] ∧ M = [hostA ph h]) :=
  (new_x hk round window).mono fun r M hh => by
    rcases hh with ⟨hn, _⟩|⟨_, h1, h2⟩
    · exact absurd hn hz
    · exact ⟨M, Imp.refl _, h1, h2⟩
end
end Go.Sl
