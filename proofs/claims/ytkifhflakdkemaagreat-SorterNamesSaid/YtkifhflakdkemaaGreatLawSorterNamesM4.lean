/- Parts of the proof. -/
import Derived.Test.YtkifhflakdkemaaGreatLawSorterNamesM0
import Derived.Test.YtkifhflakdkemaaGreatLawSorterNamesM1
import Derived.Test.YtkifhflakdkemaaGreatLawSorterNamesM2
import Derived.Test.YtkifhflakdkemaaGreatLawSorterNamesM3
set_option maxHeartbeats 4000000
set_option maxRecDepth 10000
set_option linter.unusedVariables false
set_option linter.unusedSimpArgs false
namespace Go.Sl
open Go
def yesM (b : Bool) : BitVec 64 := if b then 18446744073709551615#64 else 0#64
theorem yesM_and (a b : Bool) : yesM a &&& yesM b = yesM (a && b) := by cases a <;> cases b <;> decide
theorem yesM_or (a b : Bool) : yesM a ||| yesM b = yesM (a || b) := by cases a <;> cases b <;> decide
theorem yesM_xor (a b : Bool) : yesM a ^^^ yesM b = yesM (a ^^ b) := by cases a <;> cases b <;> decide
theorem yesM_eq0 (a : Bool) : yesM a = 0#64 ↔ a = false := by cases a <;> decide
theorem shr63 (v : BitVec 64) : v >>> 63 = if v.msb then 1#64 else 0#64 := by
  apply BitVec.eq_of_toNat_eq
  rw [BitVec.toNat_ushiftRight, Nat.shiftRight_eq_div_pow, BitVec.msb_eq_decide]
  have := v.isLt
  by_cases h : 2 ^ (64 - 1) ≤ v.toNat
  · rw [decide_eq_true h]
    show _ = 1
    omega
  · rw [decide_eq_false h]
    show _ = 0
    omega
theorem bitM (b : Bool) : 0#64 - ((if b then 1#64 else 0#64) &&& 1#64) = yesM b := by cases b <;> decide
theorem bitN (b : Bool) : 0#64 - (((if b then 1#64 else 0#64) ^^^ 1#64) &&& 1#64) = yesM (!b) := by cases b <;> decide
theorem zeroB_is (x : BitVec 64) : zeroB x = yesM (decide (x = 0#64)) := by
  unfold zeroB
  rw [shr63, bitN]
  congr 1
  rw [BitVec.msb_or, BitVec.msb_eq_decide, BitVec.msb_eq_decide, BitVec.toNat_sub]
  have := x.isLt
  by_cases h : x = 0#64
  · subst h; decide
  · have h0 : x.toNat ≠ 0 := fun hh => h (BitVec.eq_of_toNat_eq hh)
    rw [decide_eq_false h]
    have e0 : (0#64 : BitVec 64).toNat = 0 := rfl
    rw [e0]
    by_cases h1 : 2 ^ (64 - 1) ≤ x.toNat
    · rw [decide_eq_true h1]; rfl
    · rw [decide_eq_false h1, decide_eq_true (by omega)]; rfl
def lessB (x y : BitVec 64) : BitVec 64 := 0#64 - ((((~~~ x &&& y) ||| ((~~~ x ||| y) &&& (x - y))) >>> 63) &&& 1#64)
theorem lessB_is {x y : BitVec 64} (hx : x.toNat < 9223372036854775808) (hy : y.toNat < 9223372036854775808) : lessB x y = yesM (decide (x.toNat < y.toNat)) := by
  unfold lessB
  rw [shr63, bitM]
  congr 1
  have mx : x.msb = false := by rw [BitVec.msb_eq_decide]; exact decide_eq_false (by omega)
  have my : y.msb = false := by rw [BitVec.msb_eq_decide]; exact decide_eq_false (by omega)
  have md : (x - y).msb = decide (x.toNat < y.toNat) := by
    rw [BitVec.msb_eq_decide, BitVec.toNat_sub]
    have := x.isLt
    by_cases h : x.toNat < y.toNat
    · rw [decide_eq_true h]; exact decide_eq_true (by omega)
    · rw [decide_eq_false h]; exact decide_eq_false (by omega)
  have mn : (~~~ x).msb = true := by rw [BitVec.msb_not, mx]; rfl
  rw [BitVec.msb_or, BitVec.msb_and, BitVec.msb_and, BitVec.msb_or, mn, my, md]
  simp
theorem pickB (b : Bool) (x y : BitVec 64) : y ^^^ (yesM b &&& (x ^^^ y)) = if b then x else y := by
  cases b with
  | false => show y ^^^ (0#64 &&& _) = y; simp
  | true =>
    show y ^^^ (18446744073709551615#64 &&& (x ^^^ y)) = x
    have : (18446744073709551615#64 : BitVec 64) = BitVec.allOnes 64 := by decide
    rw [this, BitVec.allOnes_and, BitVec.xor_comm x y, ← BitVec.xor_assoc, BitVec.xor_self, BitVec.zero_xor]
def ltB : List Byte → List Byte → Bool
  | [], [] => false
  | [], _ :: _ => true
  | _ :: _, [] => false
  | x :: a, y :: b => if x = y then ltB a b else decide (x.toNat < y.toNat)
theorem ltB_rest : ∀ (l r a b : List Byte), l.length = r.length → ltB (l ++ a) (r ++ b) = (ltB l r || (decide (l = r) && ltB a b))
  | [], [], a, b, _ => by simp [ltB]
  | x :: l, y :: r, a, b, h => by
    have ih := ltB_rest l r a b (by simpa using h)
    simp only [List.cons_append, ltB]
    by_cases e : x = y
    · subst e
      rw [if_pos rfl, if_pos rfl, ih]
      simp
    · rw [if_neg e, if_neg e]
      simp [e]
  | [], _ :: _, _, _, h => by simp at h
  | _ :: _, [], _, _, h => by simp at h
theorem ltB_one (x y : Byte) : ltB [x] [y] = decide (x.toNat < y.toNat) := by
  unfold ltB
  by_cases e : x = y
  · subst e; rw [if_pos rfl]; simp [ltB]
  · rw [if_neg e]
theorem ltB_step {a b : List Byte} {i : Nat} (ha : i < a.length) (hb : i < b.length) : ltB (a.take (i + 1)) (b.take (i + 1)) = (ltB (a.take i) (b.take i) || (decide (a.take i = b.take i) && decide (a[i].toNat < b[i].toNat))) := by
  rw [List.take_succ_eq_append_getElem ha, List.take_succ_eq_append_getElem hb, ltB_rest _ _ _ _ (by rw [List.length_take, List.length_take]; omega), ltB_one]
theorem eqT_step {a b : List Byte} {i : Nat} (ha : i < a.length) (hb : i < b.length) : decide (a.take (i + 1) = b.take (i + 1)) = (decide (a.take i = b.take i) && decide (a[i] = b[i])) := by
  rw [List.take_succ_eq_append_getElem ha, List.take_succ_eq_append_getElem hb, ← Bool.decide_and]
  apply decide_eq_decide.2
  constructor
  · intro h
    have h1 := List.append_inj h (by rw [List.length_take, List.length_take]; omega)
    exact ⟨h1.1, by simpa using h1.2⟩
  · rintro ⟨h1, h2⟩; rw [h1, h2]
theorem ltB_end (a b : List Byte) : ltB a b = (ltB (a.take (min a.length b.length)) (b.take (min a.length b.length)) || (decide (a.take (min a.length b.length) = b.take (min a.length b.length)) && decide (a.length < b.length))) := by
  have h := ltB_rest (a.take (min a.length b.length)) (b.take (min a.length b.length)) (a.drop (min a.length b.length)) (b.drop (min a.length b.length)) (by rw [List.length_take, List.length_take]; omega)
  rw [List.take_append_drop, List.take_append_drop] at h
  rw [h]
  congr 2
  by_cases hl : a.length < b.length
  · rw [Nat.min_eq_left (by omega), List.drop_length, decide_eq_true hl]
    cases hd : b.drop a.length with
    | nil => have := congrArg List.length hd; simp at this; omega
    | cons y r => rfl
  · rw [Nat.min_eq_right (by omega), List.drop_length, decide_eq_false hl]
    cases a.drop b.length <;> rfl
def trd (m : Byte) (x y : Byte) : Byte := m &&& (x ^^^ y)
def tradeT (m : Byte) (A B : List Byte) (i : Nat) : List Byte × List Byte :=
  ((List.range A.length).map fun k => if k < i then A.getD k 0#8 ^^^ trd m (A.getD k 0#8) (B.getD k 0#8) else A.getD k 0#8, (List.range B.length).map fun k => if k < i then B.getD k 0#8 ^^^ trd m (A.getD k 0#8) (B.getD k 0#8) else B.getD k 0#8)
def tradeB (m : BitVec 64) (A B : List Byte) : List Byte × List Byte := tradeT (m.setWidth 8) A B A.length
theorem tradeT_len (m : Byte) (A B : List Byte) (i : Nat) : (tradeT m A B i).1.length = A.length ∧ (tradeT m A B i).2.length = B.length := by simp [tradeT]
theorem range_self (A : List Byte) : (List.range A.length).map (fun k => A.getD k 0#8) = A := by
  apply List.ext_getElem (by simp)
  intro j h1 h2
  simp [h2]
theorem tradeT_zero (m : Byte) (A B : List Byte) : tradeT m A B 0 = (A, B) := by
  unfold tradeT
  simp only [Nat.not_lt_zero, if_false, range_self]
theorem tradeT_at (m : Byte) {A B : List Byte} {i : Nat} (ha : i < A.length) (hb : i < B.length) : (tradeT m A B i).1[i]'(by rw [(tradeT_len m A B i).1]; exact ha) = A[i] ∧ (tradeT m A B i).2[i]'(by rw [(tradeT_len m A B i).2]; exact hb) = B[i] := by
  simp [tradeT, ha, hb]
theorem tradeT_set1 (m : Byte) {A B : List Byte} {i : Nat} (ha : i < A.length) (hb : i < B.length) : (tradeT m A B i).1.set i (A[i] ^^^ trd m A[i] B[i]) = (tradeT m A B (i + 1)).1 := by
  apply List.ext_getElem (by simp [tradeT])
  intro j h1 h2
  rw [List.getElem_set]
  simp only [tradeT, List.getElem_map, List.getElem_range]
  by_cases e : i = j
  · subst e
    rw [if_pos rfl, if_pos (by omega)]; simp only [List.getD_eq_getElem?_getD, List.getElem?_eq_getElem ha, List.getElem?_eq_getElem hb, Option.getD_some]
  · rw [if_neg e]
    by_cases e2 : j < i
    · rw [if_pos e2, if_pos (by omega)]
    · rw [if_neg e2, if_neg (by omega)]
theorem tradeT_set2 (m : Byte) {A B : List Byte} {i : Nat} (ha : i < A.length) (hb : i < B.length) : (tradeT m A B i).2.set i (B[i] ^^^ trd m A[i] B[i]) = (tradeT m A B (i + 1)).2 := by
  apply List.ext_getElem (by simp [tradeT])
  intro j h1 h2
  rw [List.getElem_set]
  simp only [tradeT, List.getElem_map, List.getElem_range]
  by_cases e : i = j
  · subst e
    rw [if_pos rfl, if_pos (by omega)]; simp only [List.getD_eq_getElem?_getD, List.getElem?_eq_getElem ha, List.getElem?_eq_getElem hb, Option.getD_some]
  · rw [if_neg e]
    by_cases e2 : j < i
    · rw [if_pos e2, if_pos (by omega)]
    · rw [if_neg e2, if_neg (by omega)]
theorem tradeB_len (m : BitVec 64) (A B : List Byte) : (tradeB m A B).1.length = A.length ∧ (tradeB m A B).2.length = B.length := tradeT_len _ _ _ _
-- records
def isR (r : List Byte) : Bool := decide (26 ≤ r.length) && decide ((r.getD 0 0#8).toNat < 2) && decide ((r.getD 1 0#8).toNat < 2)
def liveR (r : List Byte) : Bool := isR r && decide (r.getD 0 0#8 = 1#8)
def num4 (r : List Byte) (k : Nat) : BitVec 32 := lowB 32 ((r.drop k).take 4)
def grpR (r : List Byte) : List Byte := (r.drop 10).take 16
def byIdx (a b : List Byte) : Bool := (isR a && isR b) && decide ((num4 a 2).toNat < (num4 b 2).toNat)
def byGrp (a b : List Byte) : Bool :=
  (isR a && isR b) && (if liveR a ^^ liveR b then liveR a else if liveR a then (if ltB (grpR a) (grpR b) || ltB (grpR b) (grpR a) then ltB (grpR a) (grpR b) else byIdx a b) else byIdx a b)
end Go.Sl
namespace Go.Sl
open Go Go.Proofs
attribute [local irreducible] pt pur ex all den denOps denS xOps xC cX CX xthen xblk xcut xloop xng retX resX Calls PV Rd Con
theorem less_x (x y : BitVec 64) (hx : x.toNat < 9223372036854775808) (hy : y.toNat < 9223372036854775808) : Con Tryz.prog 89 [u64b x, u64b y] [] (fun r M => r = u64b (yesM (decide (x.toNat < y.toNat))) ∧ M = []) := by
  rw [← lessB_is hx hy]
  refine fn_y Tryz.func89 Tryz.mixed ?_
  intro w0
  refine Y5 ?_
  refine Zhg (Zll rfl) ?_
  refine Y3 ?_
  refine Zhg (Zll rfl) ?_
  refine Y4 ?_
  refine Zhg (Zld rfl rfl) ?_
  refine Y2 ?_
  refine Zhg (Zlk (m := 63) rfl rfl) ?_
  refine Zor (c := bit_x _) (k := ?_)
  rintro _ _ ⟨rfl, rfl⟩
  refine V3 ?_
  refine rx1 (Zg9 rfl (Zg7)) ?_
  exact ⟨_, ⟨rfl, rfl⟩, by exact Imp.arr (by repeat (first|exact Arr.nil|exact Arr.stop|refine Arr.cons (by repeat constructor) ?_|refine Arr.skip ?_))⟩
theorem equal_x (x y : BitVec 64) : Con Tryz.prog 123 [u64b x, u64b y] [] (fun r M => r = u64b (yesM (decide (x = y))) ∧ M = []) := by
  have e : zeroB (x ^^^ y) = yesM (decide (x = y)) := by
    rw [zeroB_is]
    congr 1
    apply decide_eq_decide.2
    exact ⟨fun h => by have := congrArg (fun z => z ^^^ y) h; simpa [BitVec.xor_assoc] using this, fun h => by rw [h, BitVec.xor_self]⟩
  rw [← e]
  refine fn_y Tryz.func123 Tryz.mixed ?_
  intro w0
  refine Y7 ?_
  refine Zor (c := zero_x _) (k := ?_)
  rintro _ _ ⟨rfl, rfl⟩
  refine V3 ?_
  refine rx1 (Zg9 rfl (Zg7)) ?_
  exact ⟨_, ⟨rfl, rfl⟩, by exact Imp.arr (by repeat (first|exact Arr.nil|exact Arr.stop|refine Arr.cons (by repeat constructor) ?_|refine Arr.skip ?_))⟩
theorem pick_x (b : Bool) (x y : BitVec 64) : Con Tryz.prog 88 [u64b (yesM b), u64b x, u64b y] [] (fun r M => r = u64b (if b then x else y) ∧ M = []) := by
  rw [← pickB b x y]
  refine fn_y Tryz.func88 Tryz.mixed ?_
  intro w0
  refine V13 ?_
  refine rx1 (Zg9 rfl (Zg7)) ?_
  exact ⟨_, ⟨rfl, rfl⟩, by exact Imp.arr (by repeat (first|exact Arr.nil|exact Arr.stop|refine Arr.cons (by repeat constructor) ?_|refine Arr.skip ?_))⟩
theorem byte64 (x : Byte) : (x.setWidth 64).toNat = x.toNat := by
  have := x.isLt
  rw [BitVec.toNat_setWidth]
  omega
theorem byte64_eq (x y : Byte) : decide (x.setWidth 64 = y.setWidth 64) = decide (x = y) := by
  apply decide_eq_decide.2
  constructor
  · intro h
    have := congrArg BitVec.toNat h
    rw [byte64, byte64] at this
    exact BitVec.eq_of_toNat_eq this
  · intro h; rw [h]
theorem before_x {L : List Asrt} {va vb : Value} {a b : List Byte} (ha : Bs L va a) (hb : Bs L vb b) : Con Tryz.prog 87 [va, vb] L (fun r M => r = u64b (yesM (ltB a b)) ∧ L = M) := by
  refine Con.get (fun w0 w F H => ha.sh _ _ _ H) ?_
  rintro ⟨aa, ac, rfl, hac, hacm⟩
  refine Con.get (fun w0 w F H => hb.sh _ _ _ H) ?_
  rintro ⟨ba, bc, rfl, hbc, hbcm⟩
  have hmin : (min (a.length : Int) (b.length : Int)) = ((min a.length b.length : Nat) : Int) := by omega
  refine fn_y Tryz.func87 Tryz.mixed ?_
  intro w0
  refine V11 ?_
  rw [hmin]
  refine V10 ?_
  refine Zgo [(6, 10), (17, 42)] (by kernel_rfl) (fun i : Nat => i ≤ min a.length b.length) (fun _ => L) (fun i => [(6, u64b (yesM (decide (a.take i = b.take i)))), (7, u64b (yesM (ltB (a.take i) (b.take i)))), (17, nvv i)]) (fun i => min a.length b.length - i) 0 (by omega) qI ⟨by rw [List.take_zero, List.take_zero]; rfl, by rw [List.take_zero, List.take_zero]; rfl, rfl, trivial⟩ ?_
  intro i u hi
  refine V3 ?_
  refine Zgg rfl (fun hB => ?_) (fun hB => ?_)
  · have hB1 : i < a.length := by omega
    have hB2 : i < b.length := by omega
    refine Zgt (fun F w H => ha.some (by omega) H) ?_
    rintro ⟨a1, a2, rfl⟩
    refine Zgt (fun F w H => hb.some (by omega) H) ?_
    rintro ⟨a3, a4, rfl⟩
    have l1 := less_x (a[i].setWidth 64) (b[i].setWidth 64) (by rw [byte64]; omega) (by rw [byte64]; omega)
    have l2 := equal_x (a[i].setWidth 64) (b[i].setWidth 64)
    rw [byte64, byte64] at l1
    rw [byte64_eq] at l2
    refine V4 ?_
    refine Zij (L) [8, 9] (.q 0 (.q 1 (.q 2 (.q 5 (.q 6 (.q 7 (.r 3 (.q 4 (.q 10 (.r 8 (.r 9 (.q 11 .nil)))))))))))) (by kernel_rfl) (by kernel_rfl) (Imp.arr qV) ?_
    refine W6 ?_
    refine Zfh rfl rfl (ha.rd.at hB1 (getM hB1)) ?_
    refine Zim rfl (Zjx rfl) ?_
    refine W1 ?_
    refine Zfh rfl rfl (hb.rd.at hB2 (getM hB2)) ?_
    refine Ziz rfl (Zjx rfl) ?_
    refine W2 ?_
    refine Y5 ?_
    refine Zor (c := l1) (k := ?_)
    rintro _ _ ⟨rfl, rfl⟩
    refine Y9 ?_
    refine Zor (c := l2) (k := ?_)
    rintro _ _ ⟨rfl, rfl⟩
    refine V8 ?_
    exact Zgl (i + 1) qO (by omega) qI ⟨by rw [eqT_step hB1 hB2, ← yesM_and]; rfl, by rw [ltB_step hB1 hB2, ← yesM_or, ← yesM_and]; rfl, rfl, trivial⟩
  · have hie : i = min a.length b.length := by omega
    have l1 := less_x (BitVec.ofNat 64 a.length) (BitVec.ofNat 64 b.length) (by rw [BitVec.toNat_ofNat]; omega) (by rw [BitVec.toNat_ofNat]; omega)
    rw [BitVec.toNat_ofNat, BitVec.toNat_ofNat, Nat.mod_eq_of_lt (by omega), Nat.mod_eq_of_lt (by omega)] at l1
    have e9 := ltB_end a b
    rw [← hie] at e9
    refine Y5 ?_
    refine Zhg (Zlv rfl) ?_
    refine Y2 ?_
    refine Zhg (Zlv rfl) ?_
    refine Zor (c := l1) (k := ?_)
    rintro _ _ ⟨rfl, rfl⟩
    refine V5 ?_
    refine rx1 (Zg9 rfl (Zg7)) ?_
    exact ⟨_, ⟨by rw [e9, ← yesM_or, ← yesM_and], rfl⟩, qI⟩
theorem trade_x {L : List Asrt} {a b n : Nat} (m : BitVec 64) {A B : List Byte} (hA : A.length = n) (hB : B.length = n) (hn : n ≤ 4096) : Con Tryz.prog 95 [u64b m, fsl a n, fsl b n] (blk a A :: blk b B :: L) (fun r M => r = nvv 0 ∧ blk a (tradeB m A B).1 :: blk b (tradeB m A B).2 :: L = M) := by
  refine fn_y Tryz.func95 Tryz.mixed ?_
  intro w0
  refine Y9 ?_
  refine Zot 13 rfl ((fun hh => hh rfl)) ?_
  refine V7 ?_
  refine Zgo [(7, 8), (16, 45)] (by kernel_rfl) (fun i : Nat => i ≤ n) (fun i => blk a (tradeT (m.setWidth 8) A B i).1 :: blk b (tradeT (m.setWidth 8) A B i).2 :: L) (fun i => [(16, nvv i)]) (fun i => n - i) 0 (Nat.zero_le _) (by rw [tradeT_zero]; exact qI) ⟨rfl, trivial⟩ ?_
  intro i u hi
  obtain ⟨hl1, hl2⟩ := tradeT_len (m.setWidth 8) A B i
  refine V3 ?_
  refine Zgg rfl (fun hC => ?_) (fun hC => ?_)
  · obtain ⟨g1, g2⟩ := tradeT_at (m.setWidth 8) (A := A) (B := B) (i := i) (by omega) (by omega)
    refine V4 ?_
    refine Zij ((blk a (tradeT (m.setWidth 8) A B i).1 :: blk b (tradeT (m.setWidth 8) A B i).2 :: L)) [9] (.q 0 (.q 1 (.q 2 (.q 3 (.q 4 (.q 6 (.q 7 (.q 8 (.r 5 (.r 9 (.q 10 (.q 11 (.q 12 .nil))))))))))))) (by kernel_rfl) (by kernel_rfl) (Imp.arr qV) ?_
    refine W1 ?_
    refine Zim rfl (Zlx rfl) ?_
    refine W6 ?_
    refine Ziv rfl rfl qH ((getL (f := u8b) (l := (tradeT (m.setWidth 8) A B i).1) (by omega)).trans (by rw [g1])) ?_
    refine Ziv rfl rfl qH ((getL (f := u8b) (l := (tradeT (m.setWidth 8) A B i).2) (by omega)).trans (by rw [g2])) ?_
    refine Zim rfl (Zje (x := A[i]) (y := B[i]) rfl rfl) ?_
    refine Zim rfl (Zjc (x := m.setWidth 8) (y := A[i] ^^^ B[i]) rfl rfl) ?_
    refine W2 ?_
    refine Y4 ?_
    refine Zhp rfl qH ((getL (f := u8b) (l := (tradeT (m.setWidth 8) A B i).1) (by omega)).trans (by rw [g1])) ?_
    refine Y1 ?_
    refine Zhg (Zje (x := A[i]) (y := trd (m.setWidth 8) A[i] B[i]) rfl rfl) ?_
    refine Y1 ?_
    refine Zht rfl rfl qR qZ (setL (f := u8b) (l := (tradeT (m.setWidth 8) A B i).1)) ?_
    refine Y5 ?_
    refine Zhp rfl qH ((getL (f := u8b) (l := (tradeT (m.setWidth 8) A B i).2) (by omega)).trans (by rw [g2])) ?_
    refine Y1 ?_
    refine Zhg (Zje (x := B[i]) (y := trd (m.setWidth 8) A[i] B[i]) rfl rfl) ?_
    refine Y1 ?_
    refine Zht rfl rfl qR qZ (setL (f := u8b) (l := (tradeT (m.setWidth 8) A B i).2)) ?_
    refine V1 ?_
    rw [tradeT_set1 _ (by omega) (by omega), tradeT_set2 _ (by omega) (by omega)]
    refine V4 ?_
    exact Zgl (i + 1) qO (by omega) qI ⟨rfl, trivial⟩
  · have hie : i = A.length := by omega
    subst hie
    refine V3 ?_
    refine rx1 (Zg9 rfl (Zg7)) ?_
    exact ⟨_, ⟨rfl, rfl⟩, qI⟩
end Go.Sl
namespace Go.Sl
open Go Go.Proofs
attribute [local irreducible] pt pur ex all den denOps denS xOps xC cX CX xthen xblk xcut xloop xng retX resX Calls PV Rd Con
attribute [local irreducible] lowB
section
variable {L : List Asrt} {v vb : Value} {r b : List Byte}
theorem r_get {l : List Byte} {k : Nat} (hk : k < l.length) : (l.map u8b)[k]? = some (u8b (l.getD k 0#8)) := by
  rw [List.getElem?_map, List.getElem?_eq_getElem hk, List.getD_eq_getElem?_getD, List.getElem?_eq_getElem hk]; rfl
theorem rcIs_x (h : Bs L v r) : Con Tryz.prog 84 [v] L (fun x M => x = u64b (yesM (isR r)) ∧ L = M) := by
  refine Con.get (fun w0 w F H => h.sh _ _ _ H) ?_
  rintro ⟨a, c, rfl, hac, hacm⟩
  by_cases h26 : r.length < 26
  · have e : isR r = false := by unfold isR; rw [decide_eq_false (by omega)]; rfl
    rw [e]
    refine fn_y Tryz.func84 Tryz.mixed ?_
    intro w0
    refine Y7 ?_
    refine Zos 5 rfl (h26) ?_
    refine V5 ?_
    refine rx1 (Zg9 rfl (Zg7)) ?_
    exact ⟨_, ⟨rfl, rfl⟩, qI⟩
  · have e : isR r = (decide ((r.getD 0 0#8).toNat < 2) && decide ((r.getD 1 0#8).toNat < 2)) := by unfold isR; rw [decide_eq_true (by omega)]; rfl
    rw [e, ← yesM_and]
    refine Con.get (fun w0 w F H => h.some (by omega) H) ?_
    rintro ⟨g, o, rfl⟩
    have l1 := less_x ((r.getD 0 0#8).setWidth 64) 2#64 (by rw [byte64]; omega) (by decide)
    have l2 := less_x ((r.getD 1 0#8).setWidth 64) 2#64 (by rw [byte64]; omega) (by decide)
    rw [byte64] at l1 l2
    have k1 := h.rd.at (j := 0) (by omega) (r_get (by omega))
    rw [Nat.add_zero] at k1
    refine fn_y Tryz.func84 Tryz.mixed ?_
    intro w0
    refine Y7 ?_
    refine Zot 5 rfl (h26) ?_
    refine V2 ?_
    refine Zij (L) [4, 7, 8] (.q 0 (.q 1 (.q 5 (.q 6 (.r 2 (.q 3 (.r 7 (.r 8 (.e 4 true (.e 9 false (.q 10 (.q 11 .nil)))))))))))) (by kernel_rfl) (by kernel_rfl) (Imp.arr qV) ?_
    refine W1 ?_
    first|refine Zim rfl (Zl4 (n := 0) rfl rfl) ?_|refine Zim rfl (Zl1 (n := 0) rfl rfl) ?_
    refine W1 ?_
    first|refine Zim rfl (Zl4 (n := 1) rfl rfl) ?_|refine Zim rfl (Zl1 (n := 1) rfl rfl) ?_
    refine Zfh rfl rfl (k1) ?_
    refine Zim rfl (Zjx rfl) ?_
    refine Zfh rfl rfl (h.rd.at (j := 1) (by omega) (r_get (by omega))) ?_
    refine Ziz rfl (Zjx rfl) ?_
    refine Ziq rfl ?_
    refine Zor (c := l1) (k := ?_)
    rintro _ _ ⟨rfl, rfl⟩
    refine Y1 ?_
    refine Zg3 ⟨fun _ => Imp.arr qV, ?_⟩
    refine Ziq rfl ?_
    refine Zor (c := l2) (k := ?_)
    rintro _ _ ⟨rfl, rfl⟩
    refine Y1 ?_
    refine Zg3 ⟨(fun hh => Bool.noConfusion hh), ?_⟩
    refine W3 ?_
    refine Ct.o ?_
    refine rx1 (Zg9 rfl (Zg7)) ?_
    exact ⟨_, ⟨rfl, rfl⟩, qI⟩
theorem bs_cut {g o c l n : Nat} (h : Bs L (.slice (some ⟨g, o, none⟩) r.length c) r) (hc : r.length ≤ c) (hl : l + n ≤ r.length) (hn : 0 < n) : Bs L (.slice (some ⟨g, o + l, none⟩) n (c - l)) ((r.drop l).take n) := by
  have h1 := bs_drop h (k := l) (by omega) (by omega)
  have e : r.length - l = (r.drop l).length := by simp
  rw [e] at h1
  exact h1.take (by rw [List.length_drop]; omega)
theorem number_x (h : Bs L v r) (k : Nat) (hk : k + 4 ≤ r.length) (hk2 : k ≤ 1000) : Con Tryz.prog 90 [v, nvv k] L (fun x M => x = u32b (num4 r k) ∧ L = M) := by
  refine Con.get (fun w0 w F H => h.sh _ _ _ H) ?_
  rintro ⟨a, c, rfl, hac, hacm⟩
  refine Con.get (fun w0 w F H => h.some (by omega) H) ?_
  rintro ⟨g, o, rfl⟩
  have hb := bs_cut h hac (l := k) (n := 4) hk (by omega)
  have hlen : ((r.drop k).take 4).length = 4 := by rw [List.length_take, List.length_drop]; omega
  have hln := little32_x hb hlen
  have e4 : k + 4 - k = 4 := by omega
  unfold num4
  refine fn_y Tryz.func90 Tryz.mixed ?_
  intro w0
  refine Y8 ?_
  refine Zhg (Zmz (l := k) (h := k + 4) rfl rfl rfl (by omega) (by omega) (by omega)) ?_
  rw [e4]; refine Zor (c := hln) (k := ?_); rintro _ _ ⟨rfl, rfl⟩; refine Zg2 qA ?_
  refine V10 ?_
  refine rx1 (Zg9 rfl (Zg7)) ?_
  exact ⟨_, ⟨rfl, rfl⟩, qI⟩
theorem live_x (h : Bs L v r) : Con Tryz.prog 85 [v] L (fun x M => x = u64b (yesM (liveR r)) ∧ L = M) := by
  refine Con.get (fun w0 w F H => h.sh _ _ _ H) ?_
  rintro ⟨a, c, rfl, hac, hacm⟩
  by_cases hi : isR r = true
  · have h26 : 26 ≤ r.length := by unfold isR at hi; simp at hi; omega
    have e : liveR r = decide (r.getD 0 0#8 = 1#8) := by unfold liveR; rw [hi]; rfl
    rw [e]
    refine Con.get (fun w0 w F H => h.some (by omega) H) ?_
    rintro ⟨g, o, rfl⟩
    have l1 := equal_x ((r.getD 0 0#8).setWidth 64) 1#64
    rw [show (1#64 : BitVec 64) = (1#8 : Byte).setWidth 64 by decide, byte64_eq] at l1
    have l1 : Con Tryz.prog 123 [u64b ((r.getD 0 0#8).setWidth 64), u64b 1#64] [] (fun x M => x = u64b (yesM (decide (r.getD 0 0#8 = 1#8))) ∧ M = []) := l1
    have k1 := h.rd.at (j := 0) (by omega) (r_get (by omega))
    rw [Nat.add_zero] at k1
    refine fn_y Tryz.func85 Tryz.mixed ?_
    intro w0
    refine Y5 ?_
    refine Zor (c := rcIs_x h) (k := ?_)
    rintro _ _ ⟨rfl, rfl⟩
    refine Y1 ?_
    refine Zhg (Zln (x := yesM (isR r)) (y := 0#64) rfl rfl) ?_
    refine Zot 5 rfl ((fun hh => by rw [yesM_eq0, hi] at hh; cases hh)) ?_
    refine Y4 ?_
    first|refine Zhg (Zl4 (n := 0) rfl rfl) ?_|refine Zhg (Zl1 (n := 0) rfl rfl) ?_
    refine Zff rfl (k1) ?_
    refine Zhg (Zjx rfl) ?_
    refine Zor (c := l1) (k := ?_)
    rintro _ _ ⟨rfl, rfl⟩
    refine V3 ?_
    refine rx1 (Zg9 rfl (Zg7)) ?_
    exact ⟨_, ⟨rfl, rfl⟩, qI⟩
  · have e : liveR r = false := by unfold liveR; rw [Bool.not_eq_true] at hi; rw [hi]; rfl
    rw [e]
    refine fn_y Tryz.func85 Tryz.mixed ?_
    intro w0
    refine Y5 ?_
    refine Zor (c := rcIs_x h) (k := ?_)
    rintro _ _ ⟨rfl, rfl⟩
    refine Y1 ?_
    refine Zhg (Zln (x := yesM (isR r)) (y := 0#64) rfl rfl) ?_
    refine Zos 5 rfl ((by rw [yesM_eq0]; simpa using hi)) ?_
    refine V5 ?_
    refine rx1 (Zg9 rfl (Zg7)) ?_
    exact ⟨_, ⟨rfl, rfl⟩, qI⟩
theorem u32_64 (x : BitVec 32) : (x.setWidth 64).toNat = x.toNat := by
  have := x.isLt
  rw [BitVec.toNat_setWidth]
  omega
theorem isR_len {r : List Byte} (hi : isR r = true) : 26 ≤ r.length := by unfold isR at hi; simp at hi; omega
theorem byIdx_x (h : Bs L v r) (hb : Bs L vb b) : Con Tryz.prog 47 [v, vb] L (fun x M => x = u64b (yesM (byIdx r b)) ∧ L = M) := by
  by_cases hi : (isR r && isR b) = true
  · have e : byIdx r b = decide ((num4 r 2).toNat < (num4 b 2).toNat) := by unfold byIdx; rw [hi]; rfl
    rw [e]
    have h1 : isR r = true := (Bool.and_eq_true _ _ ▸ hi).1
    have h2 : isR b = true := (Bool.and_eq_true _ _ ▸ hi).2
    have i1 := isR_len h1
    have i2 := isR_len h2
    have l1 := less_x ((num4 r 2).setWidth 64) ((num4 b 2).setWidth 64) (by rw [u32_64]; omega) (by rw [u32_64]; omega)
    rw [u32_64, u32_64] at l1
    refine fn_y Tryz.func47 Tryz.mixed ?_
    intro w0
    refine Y5 ?_
    refine Zor (c := rcIs_x h) (k := ?_)
    rintro _ _ ⟨rfl, rfl⟩
    refine Y2 ?_
    refine Zor (c := rcIs_x hb) (k := ?_)
    rintro _ _ ⟨rfl, rfl⟩
    refine Y1 ?_
    refine Zhg (Zlf (x := yesM (isR r)) (y := yesM (isR b)) rfl rfl) ?_
    refine Zhg (Zln (x := yesM (isR r) &&& yesM (isR b)) (y := 0#64) rfl rfl) ?_
    refine Zot 10 rfl ((fun hh => by rw [yesM_and, yesM_eq0, hi] at hh; cases hh)) ?_
    refine Y4 ?_
    refine Zor (c := number_x h 2 (by omega) (by omega)) (k := ?_)
    rintro _ _ ⟨rfl, rfl⟩
    refine Y1 ?_
    refine Zhg (Zlb rfl) ?_
    refine Y1 ?_
    refine Zor (c := number_x hb 2 (by omega) (by omega)) (k := ?_)
    rintro _ _ ⟨rfl, rfl⟩
    refine Y1 ?_
    refine Zhg (Zlb rfl) ?_
    refine Zor (c := l1) (k := ?_)
    rintro _ _ ⟨rfl, rfl⟩
    refine V3 ?_
    refine rx1 (Zg9 rfl (Zg7)) ?_
    exact ⟨_, ⟨rfl, rfl⟩, qI⟩
  · have e : byIdx r b = false := by unfold byIdx; rw [Bool.not_eq_true] at hi; rw [hi]; rfl
    rw [e]
    refine fn_y Tryz.func47 Tryz.mixed ?_
    intro w0
    refine Y5 ?_
    refine Zor (c := rcIs_x h) (k := ?_)
    rintro _ _ ⟨rfl, rfl⟩
    refine Y2 ?_
    refine Zor (c := rcIs_x hb) (k := ?_)
    rintro _ _ ⟨rfl, rfl⟩
    refine Y1 ?_
    refine Zhg (Zlf (x := yesM (isR r)) (y := yesM (isR b)) rfl rfl) ?_
    refine Zhg (Zln (x := yesM (isR r) &&& yesM (isR b)) (y := 0#64) rfl rfl) ?_
    refine Zos 10 rfl ((by rw [yesM_and, yesM_eq0]; simpa using hi)) ?_
    refine V5 ?_
    refine rx1 (Zg9 rfl (Zg7)) ?_
    exact ⟨_, ⟨rfl, rfl⟩, qI⟩
end
end Go.Sl
namespace Go.Sl
open Go Go.Proofs
attribute [local irreducible] pt pur ex all den denOps denS xOps xC cX CX xthen xblk xcut xloop xng retX resX Calls PV Rd Con
attribute [local irreducible] lowB
theorem Rd.ag {M : List Asrt} {b o m k : Nat} {xs : List Value} (h : Rd M 1 (.slice (some ⟨b, o, none⟩) m k) m xs) (hm : 0 < m) : RdAg M b o m xs.toArray := by
  unfold Rd at h
  unfold RdAg
  intro _ _ _ H
  obtain ⟨hx, h2⟩ := h _ _ _ H
  rcases h2 with ⟨a, k', _, h0⟩|⟨b', o', k', c, E, fr, hv, hb, hle, he⟩
  · omega
  · simp only [Value.slice.injEq, Option.some.injEq, Addr.mk.injEq] at hv
    obtain ⟨⟨rfl, rfl, _⟩, _, rfl⟩ := hv
    refine ⟨c, E, fr, hb, by omega, ?_⟩
    apply Array.ext'
    rw [← he, Nat.mul_one]
section
variable {L : List Asrt} {v vb : Value} {r b : List Byte}
theorem group_x (h : Bs L v r) (hr : 26 ≤ r.length) : Con Tryz.prog 86 [v] L (fun x M => x = .agg ((grpR r).map u8b).toArray ∧ L = M) := by
  refine Con.get (fun w0 w F H => h.sh _ _ _ H) ?_
  rintro ⟨a, c, rfl, hac, hacm⟩
  refine Con.get (fun w0 w F H => h.some (by omega) H) ?_
  rintro ⟨g, o, rfl⟩
  have hb := bs_cut h hac (l := 10) (n := 16) (by omega) (by omega)
  have hlen : (grpR r).length = 16 := by unfold grpR; rw [List.length_take, List.length_drop]; omega
  have hag := hb.rd
  have e16 : ((r.drop 10).take 16).length = 16 := hlen
  rw [e16] at hag
  have hag2 := Rd.ag hag (by omega)
  have hag3 : RdAg L g (o + 10) 16 ((grpR r).map u8b).toArray := hag2
  have hsz : ((grpR r).map u8b).toArray.size = 16 := by simp [hlen]
  refine fn_y Tryz.func86 Tryz.mixed ?_
  intro w0
  refine Y1 ?_
  refine Zhz (cs := ((List.replicate 16 0#8).map u8b).toArray) rfl ?_; intro b2
  refine Y3 ?_
  refine Zhg (Zmz (l := 10) (h := 26) rfl rfl rfl (by omega) (by omega) (by omega)) ?_
  refine Zhg (Zl9 rfl) ?_
  refine Zfg rfl ((hag3.imp qI)) ?_
  first|refine Zhy rfl rfl qR qZ (by first|rfl|exact oneM_u8 _|exact oneL_u8 _|assumption|(simp [oneC]; done)) qZ ?_|refine Zhx rfl rfl qR qZ (by first|rfl|exact oneM_u8 _|exact oneL_u8 _|assumption|(simp [oneC]; done)) qZ rfl ?_
  refine V1 ?_
  refine rx1 (Zhe rfl qH qZ (Zg7)) ?_
  exact ⟨_, ⟨rfl, rfl⟩, qI⟩
theorem byGrp_x (h : Bs L v r) (hb : Bs L vb b) : Con Tryz.prog 46 [v, vb] L (fun x M => x = u64b (yesM (byGrp r b)) ∧ L = M) := by
  by_cases hi : (isR r && isR b) = true
  · have e : byGrp r b = (if liveR r ^^ liveR b then liveR r else if liveR r then (if ltB (grpR r) (grpR b) || ltB (grpR b) (grpR r) then ltB (grpR r) (grpR b) else byIdx r b) else byIdx r b) := by unfold byGrp; rw [hi]; rfl
    have h1 : isR r = true := (Bool.and_eq_true _ _ ▸ hi).1
    have h2 : isR b = true := (Bool.and_eq_true _ _ ▸ hi).2
    have i1 := isR_len h1
    have i2 := isR_len h2
    have s1 : ((grpR r).map u8b).toArray.size = 16 := by unfold grpR; simp; omega
    have s2 : ((grpR b).map u8b).toArray.size = 16 := by unfold grpR; simp; omega
    have l1 : (grpR r).length = 16 := by simpa using s1
    have l2 : (grpR b).length = 16 := by simpa using s2
    have p1 := pick_x (ltB (grpR r) (grpR b) || ltB (grpR b) (grpR r)) (yesM (ltB (grpR r) (grpR b))) (yesM (byIdx r b))
    have e1 : (if ltB (grpR r) (grpR b) || ltB (grpR b) (grpR r) then yesM (ltB (grpR r) (grpR b)) else yesM (byIdx r b)) = yesM (if ltB (grpR r) (grpR b) || ltB (grpR b) (grpR r) then ltB (grpR r) (grpR b) else byIdx r b) := by split <;> rfl
    rw [e1] at p1
    generalize hal : (if ltB (grpR r) (grpR b) || ltB (grpR b) (grpR r) then ltB (grpR r) (grpR b) else byIdx r b) = al at *
    have p2 := pick_x (liveR r) (yesM al) (yesM (byIdx r b))
    have e2 : (if liveR r then yesM al else yesM (byIdx r b)) = yesM (if liveR r then al else byIdx r b) := by split <;> rfl
    rw [e2] at p2
    have p3 := pick_x (liveR r ^^ liveR b) (yesM (liveR r)) (yesM (if liveR r then al else byIdx r b))
    have e3 : (if liveR r ^^ liveR b then yesM (liveR r) else yesM (if liveR r then al else byIdx r b)) = yesM (if liveR r ^^ liveR b then liveR r else if liveR r then al else byIdx r b) := by split <;> rfl
    rw [e3] at p3
    rw [e]
    rw [← yesM_or] at p1
    rw [← yesM_xor] at p3
    refine fn_y Tryz.func46 Tryz.mixed ?_
    intro w0
    refine Y5 ?_
    refine Zor (c := rcIs_x h) (k := ?_)
    rintro _ _ ⟨rfl, rfl⟩
    refine Y2 ?_
    refine Zor (c := rcIs_x hb) (k := ?_)
    rintro _ _ ⟨rfl, rfl⟩
    refine Y1 ?_
    refine Zhg (Zlf (x := yesM (isR r)) (y := yesM (isR b)) rfl rfl) ?_
    refine Y4 ?_
    refine Zhg (Zln (x := yesM (isR r) &&& yesM (isR b)) (y := 0#64) rfl rfl) ?_
    refine Zot 20 rfl ((fun hh => by rw [yesM_and, yesM_eq0, hi] at hh; cases hh)) ?_
    refine Y4 ?_
    refine Zor (c := live_x h) (k := ?_)
    rintro _ _ ⟨rfl, rfl⟩
    refine Y2 ?_
    refine Zor (c := live_x hb) (k := ?_)
    rintro _ _ ⟨rfl, rfl⟩
    refine Y6 ?_
    refine Zor (c := group_x h i1) (k := ?_)
    rintro _ _ ⟨rfl, rfl⟩
    refine Y2 ?_
    refine Zor (c := group_x hb i2) (k := ?_)
    rintro _ _ ⟨rfl, rfl⟩
    refine Y1 ?_
    refine Zhz (cs := ((List.replicate 16 0#8).map u8b).toArray) rfl ?_; intro b8
    refine Zhz (cs := ((List.replicate 16 0#8).map u8b).toArray) rfl ?_; intro b9
    first|refine Zhy rfl rfl qR qZ (by first|rfl|exact oneM_u8 _|exact oneL_u8 _|assumption|(simp [oneC]; done)) qZ ?_|refine Zhx rfl rfl qR qZ (by first|rfl|exact oneM_u8 _|exact oneL_u8 _|assumption|(simp [oneC]; done)) qZ rfl ?_
    first|refine Zhy rfl rfl qR qZ (by first|rfl|exact oneM_u8 _|exact oneL_u8 _|assumption|(simp [oneC]; done)) qZ ?_|refine Zhx rfl rfl qR qZ (by first|rfl|exact oneM_u8 _|exact oneL_u8 _|assumption|(simp [oneC]; done)) qZ rfl ?_
    refine V1 ?_
    have q1 : Bs [cl b8 ((grpR r).map u8b).toArray 161, cl b9 ((grpR b).map u8b).toArray 161] (.slice (some ⟨b8, 0, none⟩) 16 16) (grpR r) := bs_full qH l1 (by omega)
    have q2 : Bs [cl b8 ((grpR r).map u8b).toArray 161, cl b9 ((grpR b).map u8b).toArray 161] (.slice (some ⟨b9, 0, none⟩) 16 16) (grpR b) := bs_full qH l2 (by omega)
    refine Ct.o ?_
    refine Zij ([]) [] (.q 0 (.q 1 (.e 2 false (.q 3 .nil)))) (by kernel_rfl) (by kernel_rfl) (Imp.arr Arr.stop) ?_
    refine Zim rfl (Zmy (h := 16) rfl rfl) ?_
    refine Zim rfl (Zmy (h := 16) rfl rfl) ?_
    refine Ziq rfl ?_
    refine Zor (c := before_x q1 q2) (k := ?_)
    rintro _ _ ⟨rfl, rfl⟩
    refine Y1 ?_
    refine Zg3 ⟨(fun hh => Bool.noConfusion hh), ?_⟩
    refine W2 ?_
    refine Ct.o ?_
    refine Zij ([]) [] (.q 0 (.q 1 (.e 2 false (.q 3 .nil)))) (by kernel_rfl) (by kernel_rfl) (Imp.arr Arr.stop) ?_
    refine Zim rfl (Zmy (h := 16) rfl rfl) ?_
    refine Zim rfl (Zmy (h := 16) rfl rfl) ?_
    refine Ziq rfl ?_
    refine Zor (c := before_x q2 q1) (k := ?_)
    rintro _ _ ⟨rfl, rfl⟩
    refine Y1 ?_
    refine Zg3 ⟨(fun hh => Bool.noConfusion hh), ?_⟩
    refine W2 ?_
    refine Y3 ?_
    refine Zor (c := byIdx_x h hb) (k := ?_)
    rintro _ _ ⟨rfl, rfl⟩
    refine Y6 ?_
    refine Zhg (Zlg (x := yesM (ltB (grpR r) (grpR b))) (y := yesM (ltB (grpR b) (grpR r))) rfl rfl) ?_
    refine Y2 ?_
    refine Zor (c := p1) (k := ?_)
    rintro _ _ ⟨rfl, rfl⟩
    refine Y6 ?_
    refine Zhg (Zlh (x := yesM (liveR r)) (y := yesM (liveR b)) rfl rfl) ?_
    refine Y4 ?_
    refine Zor (c := p2) (k := ?_)
    rintro _ _ ⟨rfl, rfl⟩
    refine Y1 ?_
    refine Zor (c := p3) (k := ?_)
    rintro _ _ ⟨rfl, rfl⟩
    refine V3 ?_
    refine rx1 (Zg9 rfl (Zg7)) ?_
    exact ⟨_, ⟨rfl, rfl⟩, qI⟩
  · have e : byGrp r b = false := by unfold byGrp; rw [Bool.not_eq_true] at hi; rw [hi]; rfl
    rw [e]
    refine fn_y Tryz.func46 Tryz.mixed ?_
    intro w0
    refine Y5 ?_
    refine Zor (c := rcIs_x h) (k := ?_)
    rintro _ _ ⟨rfl, rfl⟩
    refine Y2 ?_
    refine Zor (c := rcIs_x hb) (k := ?_)
    rintro _ _ ⟨rfl, rfl⟩
    refine Y1 ?_
    refine Zhg (Zlf (x := yesM (isR r)) (y := yesM (isR b)) rfl rfl) ?_
    refine Y4 ?_
    refine Zhg (Zln (x := yesM (isR r) &&& yesM (isR b)) (y := 0#64) rfl rfl) ?_
    refine Zos 20 rfl ((by rw [yesM_and, yesM_eq0]; simpa using hi)) ?_
    refine V5 ?_
    refine rx1 (Zg9 rfl (Zg7)) ?_
    exact ⟨_, ⟨rfl, rfl⟩, qI⟩
end
end Go.Sl
namespace Go.Sl.NetS
def pairG (μ : Row → Row → BitVec 64) (rows : List Row) (g : Nat × Nat) : List Row :=
  (rows.set g.1 (Go.Sl.tradeB (μ (rows.getD g.2 []) (rows.getD g.1 [])) (rows.getD g.1 []) (rows.getD g.2 [])).1).set g.2 (Go.Sl.tradeB (μ (rows.getD g.2 []) (rows.getD g.1 [])) (rows.getD g.1 []) (rows.getD g.2 [])).2
end Go.Sl.NetS
namespace Go.Sl
open Go Go.Proofs
attribute [local irreducible] pt pur ex all den denOps denS xOps xC cX CX xthen xblk xcut xloop xng retX resX Calls PV Rd Con
attribute [local irreducible] hostA pgA qsA NetS.gates xS xT xround
open SlotS (SL Acc Fit QI slv)
open PagerS (PS Over)
open NetS (gates pairG)
theorem twin_x {L : List Asrt} {v : Value} {l : List Byte} (h : Bs L v l) (hl : l.length ≤ 1000000) : Con Tryz.prog 96 [v] L (fun r M => ∃ a c, r = .slice a l.length c ∧ M = ownB a c l :: L) := by
  refine Con.get (fun w0 w F H => h.sh _ _ _ H) ?_
  rintro ⟨va, vc, rfl, hvc, hvcm⟩
  refine fn_y Tryz.func96 Tryz.mixed ?_
  intro w0
  refine Y1 ?_
  refine Zhg (Za2 rfl) ?_; refine Zgw (Imp.own_nil (E := 5) (size := 1)) ?_
  refine Y3 ?_
  refine Zia rfl rfl qH ((h.rd.imp Imp.tail)) (by first|rfl|exact oneM_u8 _|exact oneL_u8 _|exact acc_one _|exact acc_ones _|assumption|(simp [oneC]; done)) (by omega) qS ?_; intro a3 c3
  refine V2 ?_
  refine rx1 (Zhc rfl (Zg7)) ?_
  refine ⟨_, ⟨a3, c3, by rw [Nat.zero_add], rfl⟩, ?_⟩
  unfold ownB
  rw [Nat.zero_add, List.nil_append]
  exact qI
structure BCon (F : FuncId) (fi ca : Array Value) (n : Nat) (X : List Asrt) (μ : List Byte → List Byte → BitVec 64) : Prop where
  callable : callable Tryz.prog F = true
  con : ∀ (a1 a2 : Option Addr) (c1 c2 : Nat) A B, A.length = n → B.length = n → Con Tryz.prog F (fi.toList ++ [.slice a1 n c1, .slice a2 n c2] ++ ca.toList) (ownB a1 c1 A :: ownB a2 c2 B :: X) (fun r M => r = u64b (μ A B) ∧ M = X)
section
variable {F : FuncId} {fi ca : Array Value} {X : List Asrt} {μ : List Byte → List Byte → BitVec 64} {n g a b : Nat} {A B : List Byte}
theorem soOne_x (hc : BCon F fi ca n X μ) (hA : A.length = n) (hB : B.length = n) (hn : n ≤ 4096) :
    Con Tryz.prog 94 [fsl a n, fsl b n, .pointer (some ⟨g, 0, none⟩)] (blk a A :: blk b B :: cl g #[.func (.func F) fi ca] 92 :: X) (fun r M => M = blk a (tradeB (μ B A) A B).1 :: blk b (tradeB (μ B A) A B).2 :: cl g #[.func (.func F) fi ca] 92 :: X) := by
  have t1 := twin_x (L := [blk b B]) (v := fsl b n) (bs_full (l := B) .here hB (by omega)) (by omega)
  have t2 := twin_x (L := [blk a A]) (v := fsl a n) (bs_full (l := A) .here hA (by omega)) (by omega)
  rw [hB] at t1
  rw [hA] at t2
  have tr := trade_x (L := []) (a := a) (b := b) (μ B A) hA hB hn
  refine fn_y Tryz.func94 Tryz.mixed ?_
  intro w0
  refine Ct.o ?_
  refine Zij ([cl g #[.func (.func F) fi ca] 92]) [2, 4] (.q 1 (.q 3 (.q 6 (.q 7 (.r 0 (.e 2 true (.e 4 true (.e 5 false (.e 8 false .nil))))))))) (by kernel_rfl) (by kernel_rfl) (Imp.arr qV) ?_
  refine W5 ?_
  refine Ziq rfl ?_
  refine Zor (c := t1) (k := ?_)
  rintro _ _ ⟨a1, c1, rfl, rfl⟩
  refine Y1 ?_
  refine Zg3 ⟨fun _ => Imp.arr qV, ?_⟩
  refine Ziq rfl ?_
  refine Zor (c := t2) (k := ?_)
  rintro _ _ ⟨a2, c2, rfl, rfl⟩
  refine Y1 ?_
  refine Zg3 ⟨fun _ => Imp.arr qV, ?_⟩
  refine Ziq rfl ?_; refine Zh8 rfl hc.callable (hc.con a1 a2 c1 c2 B A hB hA) rfl qT ?_; rintro _ _ ⟨rfl, rfl⟩; refine Zg2 qA ?_; refine Zg3 ⟨(fun hh => Bool.noConfusion hh), ?_⟩
  refine Ziq rfl ?_
  refine Zor (c := tr) (k := ?_)
  rintro _ _ ⟨rfl, rfl⟩
  refine Y1 ?_
  refine Zg3 ⟨(fun hh => Bool.noConfusion hh), ?_⟩
  refine Zik ?_
  refine Ct.o ?_
  all_goals
    first|refine rx0 ?_|refine rx0n ?_
    exact ⟨_, rfl, qI⟩
theorem soOne_con (hc : BCon F fi ca n X μ) (hn : n ≤ 4096) : FCon 94 #[] #[.pointer (some ⟨g, 0, none⟩)] n (cl g #[.func (.func F) fi ca] 92 :: X) (fun A B => tradeB (μ B A) A B) (fun _ _ _ _ Z => Z = cl g #[.func (.func F) fi ca] 92 :: X) :=
  ⟨by kernel_rfl, fun A B hA hB => ⟨(tradeB_len _ A B).1.trans hA, (tradeB_len _ A B).2.trans hB⟩, fun a b A B hA hB => (soOne_x hc hA hB hn).mono fun r M hM => ⟨M, Imp.refl _, _, rfl, hM⟩⟩
end
section
variable {q pp ph : Nat} {s0 : SL} {tg : PS × HostS.HS} {rows : List (List Byte)} {log : List Acc} {L : List Asrt} {F : FuncId} {fi ca : Array Value} {μ : List Byte → List Byte → BitVec 64}
theorem fits_nil_x (n : Int) : Con Tryz.prog 91 [.pointer none, .int .i64 n] [] (fun r M => r = nvv 1 ∧ M = []) := by
  refine fn_y Tryz.func91 Tryz.mixed ?_
  intro w0
  refine Y6 ?_
  refine Zhm 6 rfl (rfl) ?_
  refine V5 ?_
  refine rx1 (Zg9 rfl (Zg7)) ?_
  exact ⟨_, ⟨rfl, rfl⟩, qI⟩
theorem sfits_x (n : Nat) (h : n ≤ s0.n) : Con Tryz.prog 91 [hp q, nvv n] [qsA q pp ph s0 tg rows log] (fun r M => r = nvv 0 ∧ M = [qsA q pp ph s0 tg rows log]) := by
  refine fn_y Tryz.func91 Tryz.mixed ?_
  intro w0
  refine Y6 ?_
  refine Zhn 6 rfl (rfl) ?_
  refine Y5 ?_
  refine Zot 8 rfl ((by omega)) ?_
  refine Y3 ?_
  first|refine Y0 ?_|(refine Zhh rfl ?_; (refine Zor (c := qlen_x) (k := ?_)); (rintro _ _ ⟨rfl, rfl⟩); (refine Zg2 qA ?_))
  first|refine Y0 ?_|(refine Zhh rfl ?_; (refine Zhg (Zmh (a := n) (b := s0.n) rfl rfl) ?_))
  refine Zot 13 rfl ((by omega)) ?_
  refine V6 ?_
  refine rx1 (Zg9 rfl (Zg7)) ?_
  exact ⟨_, ⟨rfl, rfl⟩, qI⟩
def accG (g : Nat × Nat) : Acc := (2, (g.1 : Int), (g.2 : Int))
theorem soSort_x {n m : Nat} {gs : List (Nat × Nat)} (hn : n ≤ 256) (hns : n ≤ s0.n) (hpad : padN n = n) (hgs : ∀ b, Gives Tryz.prog 127 [.pointer (some ⟨b, 0, none⟩)] [cl b #[nvv n] 3] (gs.map encG)) (hok : ∀ g ∈ gs, NetS.okG s0.n g) (hlog : log.length + gs.length ≤ 2000000) (hz : s0.size ≤ 4096) (hc : BCon F fi ca s0.size L μ) :
    Con Tryz.prog 50 [hp q, nvv n, .func (.func F) fi ca] (qsA q pp ph s0 tg rows log :: L) (fun r M => r = nvv 0 ∧ M = qsA q pp ph s0 tg (gs.foldl (pairG μ) rows) (log ++ gs.map accG) :: L) := by
  refine fn_s (n := 33) Tryz.func50 rfl rfl (by kernel_rfl) ?_
  intro w0
  refine xS_seq Tryz.mixed rfl (by kernel_rfl) ?_
  refine Y1 ?_
  refine Zh3 rfl ?_; intro b3
  refine Zh0 (v := .func (.func F) fi ca) (cs := #[.func (.func F) fi ca]) rfl rfl ?_; intro b5
  refine Zhz (cs := #[.int .i64 0]) rfl ?_; intro b6
  refine V1 ?_
  refine xS_seq Tryz.mixed rfl (by kernel_rfl) ?_
  refine Y3 ?_
  refine Zor (c := sfits_x (q := q) (pp := pp) (ph := ph) (s0 := s0) (tg := tg) (rows := rows) (log := log) n hns) (k := ?_)
  rintro _ _ ⟨rfl, rfl⟩
  refine Y6 ?_
  refine Zot 14 rfl ((fun hh => hh rfl)) ?_
  refine V2 ?_
  refine xS_seq Tryz.mixed rfl (by kernel_rfl) ?_
  refine Y3 ?_
  refine Zor (c := pad_x n hn) (k := ?_)
  rintro _ _ ⟨rfl, rfl⟩
  refine Y1 ?_
  refine Zhg (Zmk (a := n) (b := padN n) rfl rfl) ?_
  refine Zot 19 rfl ((fun hh => hh hpad.symm)) ?_
  refine V2 ?_
  refine xS_t ?_
  refine xT_seq Tryz.mixed rfl (by kernel_rfl) ?_
  refine Y2 ?_
  refine Zor (c := bitonic_x n) (k := ?_)
  rintro _ _ ⟨bn, rfl, rfl⟩
  refine V2 ?_
  refine xT_rf Tryz.mixed rfl (gf := 127) (lb := #[.pointer (some ⟨bn, 0, none⟩)]) (Mi := [cl bn #[nvv n] 3]) (N := qsA q pp ph s0 tg rows log :: cl b6 #[.int .i64 0] 22 :: cl b5 #[.func (.func F) fi ca] 92 :: cl b3 #[hp q] 28 :: L) (xs := gs.map encG) rfl (by kernel_rfl) (hgs bn) (by exact Imp.refl _) (by kernel_rfl) (fun v hv => by obtain ⟨g, _, rfl⟩ := List.mem_map.1 hv; rfl)
    (S := Nat) (T := Empty) (fun k s => s = k) (fun k => qsA q pp ph s0 tg ((gs.take k).foldl (pairG μ) rows) (log ++ (gs.take k).map accG) :: cl b6 #[.int .i64 0] 22 :: cl b5 #[.func (.func F) fi ca] 92 :: cl b3 #[hp q] 28 :: L) (fun e => e.elim) 0 rfl (by rw [List.take_zero]; show Imp _ (qsA q pp ph s0 tg rows (log ++ []) :: _); rw [List.append_nil]; exact Imp.refl _) ?round ?done (fun t => t.elim)
  case round =>
    rintro k hk s w0 hs
    obtain rfl : k = s := (show s = k from hs).symm
    have hk2 : k < gs.length := by simpa using hk
    have ek : (gs.map encG)[k] = encG gs[k] := by simp
    rw [ek]
    show xC _ _ _ (put _ (some 22) (.agg #[nvv gs[k].1, nvv gs[k].2])) _ _
    obtain ⟨h1, h2, h3⟩ := hok _ (List.getElem_mem hk2)
    have hlk : (log ++ (gs.take k).map accG).length ≤ 2000000 := by simp; omega
    have hp2 := qpair_x (q := q) (pp := pp) (ph := ph) (tg := tg) (rows := (gs.take k).foldl (pairG μ) rows) (log := log ++ (gs.take k).map accG) hlk h1 h2 h3 (soOne_con (g := b5) hc hz)
    have e1 : pairR (fun A B => tradeB (μ B A) A B) ((gs.take k).foldl (pairG μ) rows) gs[k].1 gs[k].2 = (gs.take (k + 1)).foldl (pairG μ) rows := by
      rw [List.take_succ_eq_append_getElem hk2, List.foldl_append]
      rfl
    have e2 : (log ++ (gs.take k).map accG) ++ [(2, (gs[k].1 : Int), (gs[k].2 : Int))] = log ++ (gs.take (k + 1)).map accG := by
      rw [List.take_succ_eq_append_getElem hk2, List.map_append, List.append_assoc]
      rfl
    rw [e1, e2] at hp2
    generalize gs[k] = gk at *
    refine Y1 ?_
    refine Zhz (cs := #[.int .i64 0, .int .i64 0]) rfl ?_; intro b8
    first|refine Zhy rfl rfl qR qZ (by first|rfl|exact oneM_u8 _|exact oneL_u8 _|exact acc_one _|exact acc_ones _|assumption|(simp [oneC]; done)) qZ ?_|refine Zhx rfl rfl qR qZ (by first|rfl|exact oneM_u8 _|exact oneL_u8 _|exact acc_one _|exact acc_ones _|assumption|(simp [oneC]; done)) qZ rfl ?_
    refine Y8 ?_
    refine Zor (c := hp2) (k := ?_)
    rintro _ _ ⟨rfl, a1, a2, Z, rfl, rfl⟩
    refine Y6 ?_
    refine Zot 31 rfl ((fun hh => hh rfl)) ?_
    refine V2 ?_
    exact Zoy (k + 1) rfl qI
  case done =>
    rintro s D hs
    obtain rfl : s = gs.length := (show s = _ from hs).trans (by simp)
    rw [List.take_length]
    refine xS_c (rs := [.cell 6 22]) Tryz.mixed rfl (by kernel_rfl) ?_
    refine Zgp Imp.fst ?_
    refine V3 ?_
    refine rx1 (Zhf rfl qH (Zg7)) ?_
    exact ⟨_, ⟨rfl, rfl⟩, qI⟩
end
end Go.Sl
namespace Go.Sl
open Go Go.Proofs
attribute [local irreducible] pt pur ex all den denOps denS xOps xC cX CX xthen xblk xcut xloop xng retX resX Calls PV Rd Con
attribute [local irreducible] hostA pgA qsA NetS.gates xS xT xround
open SlotS (SL Acc Fit QI slv)
open PagerS (PS Over)
open NetS (gates pairG)
theorem drop2 {A B : Asrt} {L : List Asrt} : Imp (A :: B :: L) L := Imp.tail.trans Imp.tail
theorem byGrp_con {n : Nat} {L : List Asrt} : BCon 46 #[] #[] n L (fun a b => yesM (byGrp a b)) :=
  ⟨by kernel_rfl, fun a1 a2 c1 c2 A B hA hB => by
    subst hA
    have h1 : Bs (ownB a1 c1 A :: ownB a2 c2 B :: L) (.slice a1 A.length c1) A := Bs.own .here
    have h2 : Bs (ownB a1 c1 A :: ownB a2 c2 B :: L) (.slice a2 A.length c2) B := by rw [← hB]; exact Bs.own (.there .here)
    refine (byGrp_x h1 h2).mono ?_
    rintro r M ⟨h3, h4⟩
    subst h4
    exact ⟨_, drop2, h3, rfl⟩⟩
def orW (μ : List Byte → List Byte → BitVec 64) (rows : List (List Byte)) : Nat → BitVec 64
  | 0 => 0#64
  | i + 1 => if 0 < i then orW μ rows i ||| μ (rows.getD i []) (rows.getD (i - 1) []) else orW μ rows i
def getsL (i : Nat) : List Acc := (List.range i).map fun k : Nat => ((0, (k : Int), 0) : Acc)
theorem getsL_succ (i : Nat) : getsL (i + 1) = getsL i ++ [(0, (i : Int), 0)] := by unfold getsL; rw [List.range_succ, List.map_append]; rfl
theorem getsL_len (i : Nat) : (getsL i).length = i := by unfold getsL; simp
def lastR (rows : List (List Byte)) (i : Nat) : List Byte := if 0 < i then rows.getD (i - 1) [] else []
section
variable {q pp ph : Nat} {s0 : SL} {tg : PS × HostS.HS} {rows : List (List Byte)} {log : List Acc} {L : List Asrt} {F : FuncId} {fi ca : Array Value} {μ : List Byte → List Byte → BitVec 64}
theorem soSorted_x {n : Nat} (hns : n ≤ s0.n) (hn : n ≤ 1000) (hlog : log.length + n ≤ 2000000) (hz : s0.size ≤ 4096) (hrl : ∀ k, k < s0.n → (rows.getD k []).length = s0.size) (hc : BCon F fi ca s0.size L μ) :
    Con Tryz.prog 51 [hp q, nvv n, .func (.func F) fi ca] (qsA q pp ph s0 tg rows log :: L) (fun r M => r = .tuple #[.bool (decide (orW μ rows n = 0#64)), nvv 0] ∧ M = qsA q pp ph s0 tg rows (log ++ getsL n) :: L) := by
  refine fn_y Tryz.func51 Tryz.mixed ?_
  intro w0
  refine Y7 ?_
  refine Zor (c := sfits_x (q := q) (pp := pp) (ph := ph) (s0 := s0) (tg := tg) (rows := rows) (log := log) n hns) (k := ?_)
  rintro _ _ ⟨rfl, rfl⟩
  refine Y6 ?_
  refine Zot 18 rfl ((fun hh => hh rfl)) ?_
  refine V12 ?_
  refine Zgo [(6, 7), (9, 13), (21, 43)] (by kernel_rfl) (fun s : Nat × Option Addr × Nat => s.1 ≤ n) (fun s => qsA q pp ph s0 tg rows (log ++ getsL s.1) :: ownB s.2.1 s.2.2 (lastR rows s.1) :: L) (fun s => [(9, .slice s.2.1 (lastR rows s.1).length s.2.2), (10, u64b (orW μ rows s.1)), (21, nvv s.1)]) (fun s => n - s.1) (0, none, 0) (Nat.zero_le _) (by show Imp _ (qsA q pp ph s0 tg rows (log ++ []) :: ownB none 0 [] :: L); rw [List.append_nil]; exact (Imp.cons Imp.own_nil)) ⟨rfl, rfl, rfl, trivial⟩ ?_
  rintro ⟨i, la, lc⟩ u hi
  dsimp only at hi ⊢
  refine V3 ?_
  refine Zgg rfl (fun hB => ?_) (fun hB => ?_)
  · have hgt := qget_x (q := q) (pp := pp) (ph := ph) (s0 := s0) (tg := tg) (rows := rows) (log := log ++ getsL i) (by rw [List.length_append, getsL_len]; omega) (m := i) (by omega)
    have hri := hrl i (by omega)
    have e1 : lastR rows (i + 1) = rows.getD i [] := by unfold lastR; rw [if_pos (by omega), Nat.add_sub_cancel]
    have e2 : log ++ getsL i ++ [(0, (i : Int), 0)] = log ++ getsL (i + 1) := by rw [getsL_succ, List.append_assoc]
    rw [e2] at hgt
    by_cases h0 : 0 < i
    · have hrj := hrl (i - 1) (by omega)
      have e3 : lastR rows i = rows.getD (i - 1) [] := by unfold lastR; rw [if_pos h0]
      have e4 : orW μ rows (i + 1) = orW μ rows i ||| μ (rows.getD i []) (rows.getD (i - 1) []) := by show (if 0 < i then _ else _) = _; rw [if_pos h0]
      have htw := fun ga gc => twin_x (L := [ownB ga gc (rows.getD i [])]) (v := .slice ga (rows.getD i []).length gc) (Bs.own .here) (by omega)
      have hbe := fun a1 c1 a2 c2 => hc.con a1 a2 c1 c2 (rows.getD i []) (rows.getD (i - 1) []) hri hrj
      rw [hri] at hgt htw
      rw [e3, hrj]
      refine Y7 ?_
      refine Zor (c := hgt) (k := ?_)
      rintro _ _ ⟨ga, gc, rfl, rfl⟩
      refine Y10 ?_
      refine Zot 31 rfl ((fun hh => hh rfl)) ?_
      refine Y4 ?_
      refine Zhg (Zmh (a := i) (b := 0) rfl rfl) ?_
      refine Zos 34 rfl (h0) ?_
      refine Y6 ?_
      refine Zor (c := htw ga gc) (k := ?_)
      rintro _ _ ⟨ta, tc, rfl, rfl⟩
      refine Y2 ?_
      refine Zh8 rfl hc.callable (hbe ta tc la lc) rfl qT ?_; rintro _ _ ⟨rfl, rfl⟩; refine Zg2 qA ?_
      refine Zhg (Zlg (x := orW μ rows i) (y := μ (rows.getD i []) (rows.getD (i - 1) [])) rfl rfl) ?_
      refine V10 ?_
      exact Zgl (i + 1, ga, gc) qO (by dsimp only; omega) (by dsimp only; rw [e1]; exact qI) ⟨by dsimp only; rw [e1, hri]; rfl, by dsimp only; rw [e4]; rfl, rfl, trivial⟩
    · have e4 : orW μ rows (i + 1) = orW μ rows i := by show (if 0 < i then _ else _) = _; rw [if_neg h0]
      refine Y7 ?_
      refine Zor (c := hgt) (k := ?_)
      rintro _ _ ⟨ga, gc, rfl, rfl⟩
      refine Y10 ?_
      refine Zot 31 rfl ((fun hh => hh rfl)) ?_
      refine Y4 ?_
      refine Zhg (Zmh (a := i) (b := 0) rfl rfl) ?_
      refine Zot 34 rfl (h0) ?_
      refine V10 ?_
      exact Zgl (i + 1, ga, gc) qO (by dsimp only; omega) (by dsimp only; rw [e1]; exact qI) ⟨by dsimp only; rw [e1]; rfl, by dsimp only; rw [e4]; rfl, rfl, trivial⟩
  · obtain rfl : i = n := by omega
    refine Y2 ?_
    refine Zhg (Zln (x := orW μ rows i) (y := 0#64) rfl rfl) ?_
    refine V3 ?_
    refine rx2 (Zha rfl (Zg9 rfl (Zg7))) ?_
    exact ⟨_, ⟨rfl, rfl⟩, qI⟩
end
end Go.Sl
namespace Go.Sl
open Go Go.Proofs
attribute [local irreducible] pt pur ex all den denOps denS xOps xC cX CX xthen xblk xcut xloop xng retX resX Calls PV Rd Con
end Go.Sl
namespace Go.Sl
open Go Go.Proofs
attribute [local irreducible] pt pur ex all den denOps denS xOps xC cX CX xthen xblk xcut xloop xng retX resX Calls PV Rd Con
end Go.Sl
namespace Go.Sl
open Go Go.Proofs
attribute [local irreducible] pt pur ex all den denOps denS xOps xC cX CX xthen xblk xcut xloop xng retX resX Calls PV Rd Con
end Go.Sl
namespace Go.Sl
open Go Go.Proofs
attribute [local irreducible] pt pur ex all den denOps denS xOps xC cX CX xthen xblk xcut xloop xng retX resX Calls PV Rd Con
attribute [local irreducible] hostA pgA qsA PagerS.loadP PagerS.saveP withinN wso
open SlotS (SL Acc Fit QI slv zb)
open PagerS (PS Over)
abbrev oPs (x : SoWorldV) : PS := psN x.key_ x.round_ (oWn x) (oPg x) (oTx x)
abbrev oHs (x : SoWorldV) (fl : List HostS.Fault) : HostS.HS := HostS.fresh (oPg x : Int) (oTx x + 28) fl
abbrev oSl (x : SoWorldV) : SL := ⟨0, oNn x, oSz x, oTx x / oSz x, []⟩
abbrev oTg (x : SoWorldV) : PS × HostS.HS := (psN (zb 32) x.round_ (oWn x) (oPg x) (oTx x), hsN (oPg x) (oTx x))
theorem oNew (x : SoWorldV) (key : List Byte) : SlotS.newS 0 (oNn x) (oSz x) (psN key x.round_ (oWn x) (oPg x) (oTx x)) = 0 := by
  have h := onum x
  have h1 := h.sz; have h2 := h.tx
  unfold SlotS.newS
  have e1 : (psN key x.round_ (oWn x) (oPg x) (oTx x)).text = oTx x := rfl
  have e2 : (psN key x.round_ (oWn x) (oPg x) (oTx x)).pages = (oPg x : Int) := rfl
  have e3 : SlotS.takeN (oNn x) (oTx x / oSz x) = oPg x := rfl
  rw [e1, e2]
  simp only [Int.toNat_natCast]
  rw [if_neg (by omega), if_neg (by omega), if_neg (by rw [e3]; omega)]
theorem oQi {x : SoWorldV} (hk : x.key_.length = 32) : QI (oSl x) (oTg x) (List.replicate (oNn x) (zb (oSz x))) [] (oPs x) (hsN (oPg x) (oTx x)) (fun _ => List.replicate (oTx x) 0#8) := by
  have h := onum x
  have h1 := h.sz; have h2 := h.tx; have h3 := h.pg; have h4 := h.wn
  exact SlotS.qi_fresh (pages := (oPg x : Int)) (text := oTx x) hk h4 ⟨by omega, by omega⟩ ⟨by omega, by omega⟩ (oNew x x.key_)
theorem begun_x {L : List Asrt} {x : SoWorldV} (hi : SoIn x) {fv : Value} {fl : List HostS.Fault} (hfl : fl.length ≤ 1000000) (hfo : ∀ f ∈ fl, HostS.FOk f) (hf : Rd L 6 fv fl.length (fl.flatMap fcells)) (hkd : fl.all HostS.kindly = true) : Con Tryz.prog 57 [.agg (wso x), fv] L (fun r M => ∃ q pp ph, r = .tuple #[hp ph, hp q, .bool true] ∧ M = slA q pp (oSl x) :: pgA pp ph (oPs x) :: hostA ph (oHs x fl) :: L) := by
  have hk := hi.key
  have hlen := wso_len hk
  have h := onum x
  have h1 := h.sz; have h2 := h.tx; have h3 := h.pg; have h4 := h.wn; have h5 := h.n
  have hsh := shape_x hi
  have hnw := new_ok (L := L) (oPg x : Int) ((oTx x + 28 : Nat) : Int) (by omega) hfo hf ⟨⟨by omega, by omega, by omega, by omega⟩, hkd⟩
  rw [Int.toNat_natCast] at hnw
  have hnw : Con Tryz.prog 19 [nvv (oPg x), nvv (oTx x + 28), fv] L (fun v M => ∃ p, v = .tuple #[hp p, nvv 0] ∧ M = hostA p (oHs x fl) :: L) := hnw
  have hz : newR (oHs x fl) (oWn x : Int) = 0 := by
    unfold newR
    rw [if_neg (by omega), if_neg (show ¬ (oHs x fl).size ≤ 28 by show ¬ oTx x + 28 ≤ 28; omega)]
  have hpn := fun ph => pnew_ok (ph := ph) (h := oHs x fl) hk x.round_ hz
  have hpe : PagerS.freshP x.key_ x.round_ ((oWn x : Int)).toNat (oHs x fl).pages ((oHs x fl).size - 28) = oPs x := by
    show PagerS.freshP x.key_ x.round_ (oWn x) (oPg x : Int) (oTx x + 28 - 28) = _
    rw [Nat.add_sub_cancel]
  rw [hpe] at hpn
  have hok : PagerS.Ok (oPs x) := PagerS.ok_fresh hk h4 ⟨by omega, by omega⟩ ⟨by omega, by omega⟩
  have hsn := fun pp ph => slnew_ok (pp := pp) (ph := ph) hok (first := 0) (n := (oNn x : Int)) (size := (oSz x : Int)) (by omega) (by omega) (by omega) (oNew x x.key_)
  have hs0 : SlotS.freshS 0 (oNn x : Int) (oSz x : Int) (oPs x) = oSl x := rfl
  rw [hs0] at hsn
  generalize hH0 : oHs x fl = H0 at *
  refine fn_y Tryz.func57 Tryz.mixed ?_
  intro w0
  refine Y1 ?_
  refine Zh5 rfl ?_; intro b2
  refine Y6 ?_
  refine Zor (c := hsh) (k := ?_)
  rintro _ _ ⟨rfl, rfl⟩
  refine Y1 ?_
  refine Zhz (cs := #[.int .i64 0, .int .i64 0, .int .i64 0, .int .i64 0, .int .i64 0]) rfl ?_; intro b7
  first|refine Zhy rfl rfl qR qZ (by first|rfl|exact oneM_u8 _|exact oneL_u8 _|exact acc_one _|exact acc_ones _|assumption|(simp [oneC]; done)) qZ ?_|refine Zhx rfl rfl qR qZ (by first|rfl|exact oneM_u8 _|exact oneL_u8 _|exact acc_one _|exact acc_ones _|assumption|(simp [oneC]; done)) qZ rfl ?_
  refine Y8 ?_
  refine Zor (c := hnw) (k := ?_)
  rintro _ _ ⟨ph, rfl, rfl⟩
  refine Y10 ?_
  refine Zot 27 rfl ((fun hh => hh rfl)) ?_
  refine Y3 ?_
  refine Zhn 30 rfl (rfl) ?_
  refine Y5 ?_
  refine Zhg (Zol rfl) ?_
  refine Y1 ?_
  refine Zhq (n := 32) rfl qH qZ (wso_key_ hk) ?_
  refine Y1 ?_
  refine Zhp rfl qH (wso_round_ hk) ?_
  refine Y2 ?_
  refine Zor (c := hpn ph) (k := ?_)
  rintro _ _ ⟨pp, rfl, rfl⟩
  refine Y10 ?_
  refine Zot 45 rfl ((fun hh => hh rfl)) ?_
  refine Y3 ?_
  refine Zhn 48 rfl (rfl) ?_
  refine Y9 ?_
  refine Zor (c := hsn pp ph) (k := ?_)
  rintro _ _ ⟨q, rfl, rfl⟩
  refine Y12 ?_
  refine Zos 62 rfl (rfl) ?_
  refine Y3 ?_
  refine Zhm 65 rfl (rfl) ?_
  refine V5 ?_
  refine rx3 (Zhb rfl (Zhb rfl (Zha rfl (Zg7)))) ?_
  exact ⟨_, ⟨q, pp, ph, rfl, rfl⟩, qI⟩
theorem begunQ_x {L : List Asrt} {x : SoWorldV} (hi : SoIn x) : Con Tryz.prog 57 [.agg (wso x), nilF] L (fun r M => ∃ q pp ph, r = .tuple #[hp ph, hp q, .bool true] ∧ M = qsA q pp ph (oSl x) (oTg x) (List.replicate (oNn x) (zb (oSz x))) [] :: L) :=
  (begun_x (L := L) hi (fv := nilF) (fl := []) (by simp) (by simp) Rd.nil rfl).mono fun r M hh => by
    obtain ⟨q, pp, ph, h1, rfl⟩ := hh
    exact ⟨_, qsA_mk (s0 := oSl x) (log := []) (oQi hi.key), q, pp, ph, h1, rfl⟩
def powN (n : Nat) : Nat := if n = 0 then 0 else 2 ^ n.log2
def gatesN (n : Nat) : List (Nat × Nat) := if n = 0 then [] else NetS.gates n.log2
theorem gatesN_g {n : Nat} (hn : n ≤ 256) (b : Nat) : Gives Tryz.prog 127 [.pointer (some ⟨b, 0, none⟩)] [cl b #[nvv (powN n)] 3] ((gatesN n).map encG) := by
  unfold powN gatesN
  by_cases h : n = 0
  · rw [if_pos h, if_pos h]; exact bitonic0_g
  · rw [if_neg h, if_neg h]
    have : n.log2 < 9 := (Nat.log2_lt h).2 (by omega)
    exact bitonic_g (by omega)
theorem gatesN_ok {n N : Nat} (hN : n ≤ N) : ∀ g ∈ gatesN n, NetS.okG N g := by
  intro g hg
  unfold gatesN at hg
  split at hg
  · cases hg
  · rename_i h
    obtain ⟨h1, h2, h3⟩ := NetS.gates_ok _ g hg
    have := Nat.log2_self_le h
    exact ⟨by omega, by omega, h3⟩
end Go.Sl
namespace Go.Sl
open Go Go.Proofs
attribute [local irreducible] pt pur ex all den denOps denS xOps xC cX CX xthen xblk xcut xloop xng retX resX Calls PV Rd Con
attribute [local irreducible] hostA pgA qsA PagerS.loadP PagerS.saveP withinN wso
open SlotS (SL Acc Fit QI slv zb)
open PagerS (PS Over)
def setsL (i : Nat) : List Acc := (List.range i).map fun k : Nat => ((1, (k : Int), 0) : Acc)
theorem setsL_succ (i : Nat) : setsL (i + 1) = setsL i ++ [(1, (i : Int), 0)] := by unfold setsL; rw [List.range_succ, List.map_append]; rfl
theorem setsL_len (i : Nat) : (setsL i).length = i := by unfold setsL; simp
section
variable {L : List Asrt} {x : SoWorldV} {v : Value} {ps : List (Value × List Byte)}
end
section
variable {q pp ph : Nat} {s0 : SL} {tg : PS × HostS.HS} {rows : List (List Byte)} {log : List Acc}
end
end Go.Sl
namespace Go.Sl
open Go Go.Proofs
attribute [local irreducible] pt pur ex all den denOps denS xOps xC cX CX xthen xblk xcut xloop xng retX resX Calls PV Rd Con
attribute [local irreducible] lowB leB
def hdV (live flag : Byte) (index rank : BitVec 32) (grp : List Byte) : Array Value := #[u8b live, u8b flag, u32b index, u32b rank] ++ (grp.map u8b).toArray
def mkR (live flag : Byte) (index rank : BitVec 32) (grp body : List Byte) : List Byte := (([live, flag] ++ leB index 4) ++ leB rank 4) ++ grp ++ body
theorem mkR_len {live flag : Byte} {index rank : BitVec 32} {grp body : List Byte} (hg : grp.length = 16) : (mkR live flag index rank grp body).length = 26 + body.length := by unfold mkR; simp only [List.length_append, leB_len, hg, List.length_cons, List.length_nil]
theorem hdV_len {live flag : Byte} {index rank : BitVec 32} {grp : List Byte} (hg : grp.length = 16) : (hdV live flag index rank grp).size = 20 := by unfold hdV; simp [hg]
section
variable {live flag : Byte} {index rank : BitVec 32} {grp : List Byte}
theorem hdV_0 : (hdV live flag index rank grp)[0]? = some (u8b live) := by unfold hdV; simp
theorem hdV_1 : (hdV live flag index rank grp)[1]? = some (u8b flag) := by unfold hdV; simp
theorem hdV_2 : (hdV live flag index rank grp)[2]? = some (u32b index) := by unfold hdV; simp
theorem hdV_3 : (hdV live flag index rank grp)[3]? = some (u32b rank) := by unfold hdV; simp
theorem hdV_g (hg : grp.length = 16) : (hdV live flag index rank grp).extract 4 (4 + 16 * 1) = (grp.map u8b).toArray := by
  unfold hdV
  apply Array.ext'
  simp [List.extract_eq_take_drop, List.take_of_length_le, hg]
attribute [local irreducible] hdV
theorem head_x (hg : grp.length = 16) : Con Tryz.prog 122 [.agg (hdV live flag index rank grp)] [] (fun r M => ∃ a c, r = .slice a (mkR live flag index rank grp []).length c ∧ M = [ownB a c (mkR live flag index rank grp [])]) := by
  have hlen := hdV_len (live := live) (flag := flag) (index := index) (rank := rank) hg
  have p1 := fun b => put32_x (L := [cl b #[u8b live, u8b flag] 5]) (v := .slice (some ⟨b, 0, none⟩) 2 2) (b := [live, flag]) index (bs_full (n := 2) .here rfl (by omega)) (by show 2 ≤ _; omega)
  have l1 : ([live, flag] ++ leB index 4).length = 6 := by simp [leB_len]
  have p2 := fun a c => put32_x (L := [own 5 1 (.slice a ([live, flag] ++ leB index 4).length c) ([live, flag] ++ leB index 4).length (([live, flag] ++ leB index 4).map u8b)]) (b := [live, flag] ++ leB index 4) rank (Bs.own .here) (by omega)
  have l2 : (([live, flag] ++ leB index 4) ++ leB rank 4).length = 10 := by simp [leB_len]
  have e9 : mkR live flag index rank grp [] = (([live, flag] ++ leB index 4) ++ leB rank 4) ++ grp := by unfold mkR; rw [List.append_nil]
  rw [e9]
  generalize ([live, flag] ++ leB index 4) ++ leB rank 4 = l10 at *
  generalize [live, flag] ++ leB index 4 = l6 at *
  refine fn_y Tryz.func122 Tryz.mixed ?_
  intro w0
  refine Y1 ?_
  refine Zh5 rfl ?_; intro b1
  refine Y4 ?_
  refine Zhp rfl qH (hdV_0) ?_
  refine Y1 ?_
  refine Zhp rfl qH (hdV_1) ?_
  refine Zh7 (cs := #[.int .u8 _, .int .u8 _]) (by omega) (by omega) rfl ?_; intro b8
  refine Y1 ?_
  refine Zhp rfl qH (hdV_2) ?_
  refine Zor (c := p1 b8) (k := ?_)
  rintro _ _ ⟨a1, c1, rfl, rfl⟩
  refine Y6 ?_
  refine Zhp rfl qH (hdV_3) ?_
  refine Zor (c := p2 a1 c1) (k := ?_)
  rintro _ _ ⟨a2, c2, rfl, rfl⟩
  refine Y6 ?_
  refine Zhg (Zmy (h := 16) rfl rfl) ?_
  refine Zia rfl rfl qH (Rd.cl (xs := grp.map u8b) qH (by rw [List.length_map, hg]) (by omega) (by rw [hdV_g hg])) (by first|rfl|exact oneM_u8 _|exact oneL_u8 _|assumption|(simp [oneC]; done)) (by omega) qS ?_; intro a3 c3
  refine V2 ?_
  refine rx1 (Zhc rfl (Zg7)) ?_
  refine ⟨_, ⟨a3, c3, ?_, rfl⟩, ?_⟩
  · rw [List.length_append, hg]
  · unfold ownB
    rw [List.length_append, hg, List.map_append]
    exact qI
theorem make_x {L : List Asrt} {vb : Value} {body : List Byte} (hg : grp.length = 16) (hb : Bs L vb body) (hbl : body.length ≤ 1000000) : Con Tryz.prog 83 [.agg (hdV live flag index rank grp), vb] L (fun r M => ∃ a c, r = .slice a (mkR live flag index rank grp body).length c ∧ M = ownB a c (mkR live flag index rank grp body) :: L) := by
  refine Con.get (fun w0 w F H => hb.sh _ _ _ H) ?_
  rintro ⟨va, vc, rfl, hvc, hvcm⟩
  have hlen := hdV_len (live := live) (flag := flag) (index := index) (rank := rank) hg
  have hh := head_x (live := live) (flag := flag) (index := index) (rank := rank) hg
  have hl := mkR_len (live := live) (flag := flag) (index := index) (rank := rank) (body := []) hg
  have e9 : mkR live flag index rank grp body = mkR live flag index rank grp [] ++ body := by unfold mkR; rw [List.append_nil]
  rw [e9]
  generalize mkR live flag index rank grp [] = l26 at *
  have hl : l26.length = 26 := hl
  refine fn_y Tryz.func83 Tryz.mixed ?_
  intro w0
  refine Y1 ?_
  refine Zh5 rfl ?_; intro b2
  refine Y4 ?_
  refine Zor (c := hh) (k := ?_)
  rintro _ _ ⟨a1, c1, rfl, rfl⟩
  refine Y2 ?_
  refine Zia rfl rfl qH ((hb.rd.imp qI)) (by first|rfl|exact oneM_u8 _|exact oneL_u8 _|assumption|(simp [oneC]; done)) (by omega) qS ?_; intro a3 c3
  refine V2 ?_
  refine rx1 (Zhc rfl (Zg7)) ?_
  refine ⟨_, ⟨a3, c3, by rw [List.length_append], rfl⟩, ?_⟩
  unfold ownB
  rw [List.length_append, List.map_append]
  exact qI
end
end Go.Sl
namespace Go.Sl
open Go Go.Proofs
attribute [local irreducible] pt pur ex all den denOps denS xOps xC cX CX xthen xblk xcut xloop xng retX resX Calls PV Rd Con
attribute [local irreducible] hostA pgA qsA PagerS.loadP PagerS.saveP withinN wso
open SlotS (SL Acc Fit QI slv zb)
open PagerS (PS Over)
open NetS (pairG)
theorem hd_fill {pl : Nat → Option (Nat × Nat)} {live : Byte} {index : BitVec 32} {grp : List Byte} (hg : grp.length = 16) (h0 : pl 0 = some (0, 1)) (h2 : pl 2 = some (2, 1)) (h4 : pl 4 = some (4, 16)) :
    Instr.fill pl ([] ++ ([Value.int .u8 0] ++ ([Value.int .u8 0, .int .u32 0, .int .u32 0] ++ List.replicate 16 (Value.int .u8 0)))).toArray [(0, u8b live), (2, u32b index), (4, .agg (grp.map u8b).toArray)] = some (hdV live 0#8 index 0#32 grp) := by
  refine fill_seg (V := [u8b live]) h0 rfl rfl rfl rfl ?_
  show Instr.fill pl ([u8b live, Value.int .u8 0] ++ ([Value.int .u32 0] ++ (Value.int .u32 0 :: List.replicate 16 (Value.int .u8 0)))).toArray _ = _
  refine fill_seg (V := [u32b index]) h2 rfl rfl rfl rfl ?_
  show Instr.fill pl ([u8b live, Value.int .u8 0, u32b index, Value.int .u32 0] ++ (List.replicate 16 (Value.int .u8 0) ++ [])).toArray _ = _
  refine fill_seg (V := grp.map u8b) h4 rfl (by simp) (by simp [Value.cells]) (by simp [hg]) ?_
  rw [fill_end]
  congr 1
  unfold hdV
  apply Array.ext'
  simp
-- works
namespace SoW
def x0 (b : Nat) : SoWorldV := ⟨26, 60, 2, List.replicate 32 0#8, 0#64, .slice none 0 0, [], .slice (some ⟨b, 0, none⟩) 4 4, List.replicate 4 (.slice none 0 0, []), .slice none 0 0, []⟩
def grp (i : Nat) : Byte := [2#8, 1#8, 0#8, 1#8].getD i 0#8
def lv (i : Nat) : Byte := if (grp i).toNat = 0 then 0#8 else 1#8
def rec (i : Nat) : List Byte := mkR (lv i) 0#8 (BitVec.ofInt 32 (i : Int)) 0#32 (grp i :: List.replicate 15 0#8) []
def rowsW (i : Nat) : List (List Byte) := (List.range 4).map fun k => if k < i then rec k else zb 26
def rows2 : List (List Byte) := (gatesN 4).foldl (pairG fun a b => yesM (byGrp a b)) (rowsW 4)
theorem sz0 (b : Nat) : oSz (x0 b) = 26 := by with_unfolding_all rfl
theorem n0 (b : Nat) : oNn (x0 b) = 4 := by with_unfolding_all rfl
theorem was : orW (fun a b => yesM (byGrp a b)) (rowsW 4) 4 ≠ 0#64 := by decide +kernel
theorem is : orW (fun a b => yesM (byGrp a b)) rows2 4 = 0#64 := by decide +kernel
theorem r0 : (rows2.getD 0 []).length = 26 ∧ (rows2.getD 0 [])[2]? = some 1#8 := by decide +kernel
theorem lens : ∀ k : Fin 4, ((rowsW 4).getD k []).length = 26 ∧ (rows2.getD k []).length = 26 := by decide +kernel
theorem glen : (gatesN 4).length = 6 := by decide +kernel
theorem rset : ∀ i : Fin 4, (rowsW i).set i (rec i) = rowsW (i + 1) := by decide +kernel
theorem rlen : ∀ i : Fin 4, (rec i).length = 26 := by decide +kernel
theorem lvN : ∀ i : Fin 4, min (grp i).toNat 1 = (lv i).toNat := by decide
theorem pw : powN 4 = 4 := by decide +kernel
end SoW
attribute [local irreducible] SoW.rowsW SoW.rows2 SoW.rec hdV mkR
namespace SoW
theorem grpAt : ∀ i : Nat, i < 4 → (#[u8b 2#8, u8b 1#8, u8b 0#8, u8b 1#8])[i]? = some (u8b (grp i))
  | 0, _ => rfl
  | 1, _ => rfl
  | 2, _ => rfl
  | 3, _ => rfl
theorem pv_lv {ρ : Env} {x : Operand} {i : Nat} (hi : i < 4) (hx : ev ρ x = .int .i64 (min ((grp i).toNat : Int) 1)) : PV Tryz.prog (.convert 3 5 x) ρ (u8b (lv i)) := by
  have e := lvN ⟨i, hi⟩
  have e2 : (min ((grp i).toNat : Int) 1) = ((lv i).toNat : Int) := by
    have e : min (grp i).toNat 1 = (lv i).toNat := e
    omega
  rw [e2] at hx
  have := Zjs (P := Tryz.prog) (S := 3) (D := 5) hx
  have e3 : BitVec.ofInt 8 ((lv i).toNat : Int) = lv i := by
    apply BitVec.eq_of_toNat_eq
    rw [BitVec.toNat_ofInt]
    have := (lv i).isLt
    omega
  rwa [e3] at this
end SoW
attribute [local irreducible] SoW.lv SoW.grp
open SoW in
theorem soWorks_x : Con Tryz.prog 41 [] [] (fun r M => r = .bool true ∧ M = []) := by
  have hbg := fun b => begunQ_x (L := []) (x := x0 b) ⟨rfl, ⟨_, _, rfl⟩, by show Big 26; omega, by show Big 60; omega, by show Big 2; omega⟩
  have en := fun b => show (oSl (x0 b)).n = 4 from n0 b
  have es := fun b => show (oSl (x0 b)).size = 26 from sz0 b
  have e0 : ∀ b, List.replicate (oNn (x0 b)) (zb (oSz (x0 b))) = rowsW 0 := fun b => by rw [n0, sz0]; with_unfolding_all rfl
  simp only [e0] at hbg
  obtain ⟨r0a, r0b⟩ := r0
  have hlen := lens
  refine fn_y Tryz.func41 Tryz.mixed ?_
  intro w0
  refine Y4 ?_
  refine Zh6 rfl rfl qS qS qS (by omega) ?_; intro b14
  refine Zhg (Zdm (cs := wso (x0 b14)) (by kernel_rfl)) ?_
  refine Zor (c := hbg b14) (k := ?_)
  rintro _ _ ⟨q, pp, ph, rfl, rfl⟩
  refine V9 ?_
  have en := en b14
  have es := es b14
  clear hbg e0
  generalize oSl (x0 b14) = S0 at *
  generalize oTg (x0 b14) = T0 at *
  refine Y2 ?_
  refine Zhg (Zb0 rfl) ?_
  refine Zhn 21 rfl (rfl) ?_
  refine Y3 ?_
  refine Zhn 24 rfl (rfl) ?_
  refine Y4 ?_
  refine Zh7 (cs := #[u8b 2#8, u8b 1#8, u8b 0#8, u8b 1#8]) (by omega) (by omega) (by kernel_rfl) ?_; intro b26
  refine V5 ?_
  refine Zgo [(0, 0), (5, 5), (27, 50)] (by kernel_rfl) (fun i : Nat => i ≤ 4) (fun i => [qsA q pp ph S0 T0 (rowsW i) (setsL i), cl b26 #[u8b 2#8, u8b 1#8, u8b 0#8, u8b 1#8] 5]) (fun i => [(5, nvv i)]) (fun i => 4 - i) 0 (Nat.zero_le _) qI ⟨rfl, trivial⟩ ?_
  intro i u hi
  refine V4 ?_
  refine Zgg rfl (fun hB => ?_) (fun hB => ?_)
  · have hrl : (rec i).length = 26 := rlen ⟨i, hB⟩
    have hmk := make_x (L := []) (live := lv i) (flag := 0#8) (index := BitVec.ofInt 32 (i : Int)) (rank := 0#32) (grp := grp i :: List.replicate 15 0#8) (vb := .slice none 0 0) (body := []) (by simp) Bs.nil (by simp)
    have hre : mkR (lv i) 0#8 (BitVec.ofInt 32 (i : Int)) 0#32 (grp i :: List.replicate 15 0#8) [] = rec i := by with_unfolding_all rfl
    rw [hre] at hmk
    have hst := fun a c => qset_x (q := q) (pp := pp) (ph := ph) (s0 := S0) (tg := T0) (rows := rowsW i) (log := setsL i) (L := [ownB a c (rec i)]) (by rw [setsL_len]; omega) (m := i) (by omega) (v := rec i) (by omega) (Bs.own .here)
    have ers : (rowsW i).set i (rec i) = rowsW (i + 1) := rset ⟨i, hB⟩
    rw [ers, ← setsL_succ] at hst
    rw [hrl] at hmk hst
    refine Ct.o ?_
    refine Zij ([cl b26 #[u8b 2#8, u8b 1#8, u8b 0#8, u8b 1#8] 5]) [14, 15] (.q 0 (.q 1 (.q 2 (.q 3 (.q 4 (.q 9 (.q 10 (.q 11 (.q 12 (.q 13 (.r 5 (.q 6 (.q 7 (.q 8 (.r 14 (.r 15 (.q 16 (.e 17 false (.e 18 false (.q 19 .nil)))))))))))))))))))) (by kernel_rfl) (by kernel_rfl) (Imp.arr qV) ?_
    refine W6 ?_
    refine Zim rfl (Zk6 rfl) ?_
    refine W3 ?_
    refine Ziv rfl rfl qH (grpAt i hB) ?_
    refine Zim rfl (Zjt rfl) ?_
    refine W1 ?_
    refine Zim rfl (pv_lv hB rfl) ?_
    refine Ziv rfl rfl qH (grpAt i hB) ?_
    refine Ziz rfl (Zdn (cs := ((grp i :: List.replicate 15 0#8).map u8b).toArray) rfl) ?_
    refine Zim rfl (Zdm (cs := hdV (lv i) 0#8 (BitVec.ofInt 32 (i : Int)) 0#32 (grp i :: List.replicate 15 0#8)) (hd_fill (by simp) rfl rfl rfl)) ?_
    refine Ziq rfl ?_
    refine Zor (c := hmk) (k := ?_)
    rintro _ _ ⟨ma, mc, rfl, rfl⟩
    refine Y1 ?_
    refine Zg3 ⟨(fun hh => Bool.noConfusion hh), ?_⟩
    refine Ziq rfl ?_
    refine Zor (c := hst ma mc) (k := ?_)
    rintro _ _ ⟨rfl, rfl⟩
    refine Y1 ?_
    refine Zg3 ⟨(fun hh => Bool.noConfusion hh), ?_⟩
    refine W1 ?_
    refine Zov 50 rfl ((fun hh => hh rfl)) ?_
    refine Zik ?_
    refine Ct.o ?_
    all_goals
      refine V6 ?_
      exact Zgl (i + 1) qO (by omega) qI ⟨rfl, trivial⟩
  · obtain rfl : i = 4 := by omega
    have hz : S0.size ≤ 4096 := by omega
    have hrl1 : ∀ k, k < S0.n → ((rowsW 4).getD k []).length = S0.size := fun k hk => by rw [es]; exact (hlen ⟨k, by omega⟩).1
    have hrl2 : ∀ k, k < S0.n → (rows2.getD k []).length = S0.size := fun k hk => by rw [es]; exact (hlen ⟨k, by omega⟩).2
    have hs1 := soSorted_x (q := q) (pp := pp) (ph := ph) (s0 := S0) (tg := T0) (rows := rowsW 4) (log := setsL 4) (n := 4) (by omega) (by omega) (by rw [setsL_len]; omega) hz hrl1 (byGrp_con (L := []))
    rw [decide_eq_false was] at hs1
    have hgs := fun b => gatesN_g (n := 4) (by omega) b
    rw [pw] at hgs
    have hs2 := soSort_x (m := 0) (q := q) (pp := pp) (ph := ph) (s0 := S0) (tg := T0) (rows := rowsW 4) (log := setsL 4 ++ getsL 4) (n := 4) (gs := gatesN 4) (by omega) (by omega) (by decide) hgs (gatesN_ok (by omega)) (by rw [glen, List.length_append, setsL_len, getsL_len]; omega) hz (byGrp_con (L := []))
    have er : (gatesN 4).foldl (pairG fun a b => yesM (byGrp a b)) (rowsW 4) = rows2 := by with_unfolding_all rfl
    rw [er] at hs2
    have hs3 := soSorted_x (q := q) (pp := pp) (ph := ph) (s0 := S0) (tg := T0) (rows := rows2) (log := setsL 4 ++ getsL 4 ++ (gatesN 4).map accG) (n := 4) (by omega) (by omega) (by rw [List.length_append, List.length_append, List.length_map, glen, setsL_len, getsL_len]; omega) hz hrl2 (byGrp_con (L := []))
    rw [decide_eq_true is] at hs3
    have hgt := qget_x (q := q) (pp := pp) (ph := ph) (s0 := S0) (tg := T0) (rows := rows2) (log := setsL 4 ++ getsL 4 ++ (gatesN 4).map accG ++ getsL 4) (by rw [List.length_append, List.length_append, List.length_append, List.length_map, glen, setsL_len, getsL_len]; omega) (m := 0) (by omega)
    have hll : (setsL 4 ++ getsL 4 ++ (gatesN 4).map accG ++ getsL 4 ++ [(0, ((0 : Nat) : Int), 0)]).length = 19 := by rw [List.length_append, List.length_append, List.length_append, List.length_append, List.length_map, glen, setsL_len, getsL_len]; rfl
    have hlg := qlog_x (q := q) (pp := pp) (ph := ph) (s0 := S0) (tg := T0) (rows := rows2) (log := setsL 4 ++ getsL 4 ++ (gatesN 4).map accG ++ getsL 4 ++ [(0, ((0 : Nat) : Int), 0)]) (by rw [hll]; omega)
    rw [hll] at hlg
    generalize setsL 4 ++ getsL 4 ++ (gatesN 4).map accG ++ getsL 4 ++ [(0, ((0 : Nat) : Int), 0)] = l5 at *
    generalize setsL 4 ++ getsL 4 ++ (gatesN 4).map accG ++ getsL 4 = l4 at *
    generalize setsL 4 ++ getsL 4 ++ (gatesN 4).map accG = l3 at *
    generalize setsL 4 ++ getsL 4 = l2 at *
    have hb2 : (rows2.getD 0 []).map u8b = (rows2.getD 0 []).map u8b := rfl
    have h2at : ((rows2.getD 0 []).map u8b)[2]? = some (u8b 1#8) := by rw [List.getElem?_map, r0b]; rfl
    generalize rows2.getD 0 [] = rr at *
    refine Y2 ?_
    refine Zor (c := hs1) (k := ?_)
    rintro _ _ ⟨rfl, rfl⟩
    refine Y9 ?_
    refine Zor (c := hs2) (k := ?_)
    rintro _ _ ⟨rfl, rfl⟩
    refine Y5 ?_
    refine Zor (c := hs3) (k := ?_)
    rintro _ _ ⟨rfl, rfl⟩
    refine Y9 ?_
    refine Zor (c := hgt) (k := ?_)
    rintro _ _ ⟨ga, gc, rfl, rfl⟩
    refine V7 ?_
    refine Zgt (fun F w H => own_some (a := ga) qH (by omega) H) ?_
    rintro ⟨g, rfl⟩
    refine Y2 ?_
    refine Zhg (Zb0 rfl) ?_
    refine Y6 ?_
    refine Zos 75 rfl (rfl) ?_
    refine Y4 ?_
    refine Zos 79 rfl (rfl) ?_
    refine Y4 ?_
    refine Zos 83 rfl (rfl) ?_
    refine Y4 ?_
    refine Zos 87 rfl (rfl) ?_
    refine Y4 ?_
    first|refine Y0 ?_|(refine Zhh rfl ?_; (refine Zhg (Zmj (a := rr.length) (b := 26) rfl rfl) ?_))
    refine Zos 92 rfl (r0a) ?_
    refine Y3 ?_
    first|refine Y0 ?_|(refine Zhh rfl ?_; (first|refine Zhg (Zl4 (n := 2) rfl rfl) ?_|refine Zhg (Zl1 (n := 2) rfl rfl) ?_))
    first|refine Y0 ?_|(refine Zhh rfl ?_; (refine Zff rfl (((Rd.own (n := rr.length) qH).at0 (by omega) h2at)) ?_))
    first|refine Y0 ?_|(refine Zhh rfl ?_; (refine Zhg (Zjk (x := 1#8) (y := 1#8) rfl rfl) ?_))
    refine Zos 98 rfl (rfl) ?_
    refine Y3 ?_
    first|refine Y0 ?_|(refine Zhh rfl ?_; (refine Zor (c := hlg) (k := ?_)); (rintro _ _ ⟨la, lc, rfl, rfl⟩); (refine Zg2 qA ?_))
    refine Y2 ?_
    refine Zos 104 rfl (rfl) ?_
    refine V3 ?_
    refine rx1 (Zha rfl (Zg7)) ?_
    exact ⟨_, ⟨rfl, rfl⟩, qI⟩
end Go.Sl
namespace Go.Sl
open Go Go.Proofs
attribute [local irreducible] pt pur ex all den denOps denS xOps xC cX CX xthen xblk xcut xloop xng retX resX Calls PV Rd Con
attribute [local irreducible] hostA pgA qsA withinN wso xS xT xround
theorem soSort_nil (n : Int) (F : FuncId) (fi ca : Array Value) : Con Tryz.prog 50 [.pointer none, .int .i64 n, .func (.func F) fi ca] [] (fun r M => r = nvv 1 ∧ M = []) := by
  refine fn_s (n := 33) Tryz.func50 rfl rfl (by kernel_rfl) ?_
  intro w0
  refine xS_seq Tryz.mixed rfl (by kernel_rfl) ?_
  refine Y1 ?_
  refine Zh3 rfl ?_; intro b3
  refine Zh0 (v := .func (.func F) fi ca) (cs := #[.func (.func F) fi ca]) rfl rfl ?_; intro b5
  refine Zhz (cs := #[.int .i64 0]) rfl ?_; intro b6
  refine V1 ?_
  refine xS_seq (rs := [.cell 6 22]) Tryz.mixed rfl (by kernel_rfl) ?_
  refine Y3 ?_
  refine Zor (c := fits_nil_x n) (k := ?_)
  rintro _ _ ⟨rfl, rfl⟩
  refine Y6 ?_
  refine Zos 14 rfl ((fun hh => by cases hh)) ?_
  refine V6 ?_
  refine rx1 (Zhf rfl qH (Zg7)) ?_
  exact ⟨_, ⟨rfl, rfl⟩, by exact Imp.arr (by repeat (first|exact Arr.nil|exact Arr.stop|refine Arr.cons (by repeat constructor) ?_|refine Arr.skip ?_))⟩
theorem soBack_nil (n : Int) : Con Tryz.prog 56 [.pointer none, .int .i64 n] [] (fun r M => r = nvv 1 ∧ M = []) := by
  refine fn_y Tryz.func56 Tryz.mixed ?_
  intro w0
  refine Y6 ?_
  refine Zor (c := soSort_nil n 47 #[] #[]) (k := ?_)
  rintro _ _ ⟨rfl, rfl⟩
  refine V3 ?_
  refine rx1 (Zg9 rfl (Zg7)) ?_
  exact ⟨_, ⟨rfl, rfl⟩, qI⟩
theorem soSorted_nil (n : Int) (f : Value) : Con Tryz.prog 51 [.pointer none, .int .i64 n, f] [] (fun r M => r = .tuple #[.bool false, nvv 1] ∧ M = []) := by
  refine fn_y Tryz.func51 Tryz.mixed ?_
  intro w0
  refine Y7 ?_
  refine Zor (c := fits_nil_x n) (k := ?_)
  rintro _ _ ⟨rfl, rfl⟩
  refine Y6 ?_
  refine Zos 18 rfl ((fun hh => by cases hh)) ?_
  refine V7 ?_
  refine rx2 (Zha rfl (Zg9 rfl (Zg7))) ?_
  exact ⟨_, ⟨rfl, rfl⟩, qI⟩
theorem soNames_x : Con Tryz.prog 9 [] [] (fun r M => r = .bool true ∧ M = []) := by
  refine fn_y Tryz.func9 Tryz.mixed ?_
  intro w0
  refine Y4 ?_
  refine Zor (c := soSorted_nil (-1) (.func (.func 46) #[] #[])) (k := ?_)
  rintro _ _ ⟨rfl, rfl⟩
  refine Y9 ?_
  first|refine Y0 ?_|(refine Zhh rfl ?_; (refine Zor (c := soWorks_x) (k := ?_)); (rintro _ _ ⟨rfl, rfl⟩); (refine Zg2 qA ?_))
  refine Y3 ?_
  first|refine Y0 ?_|(refine Zhh rfl ?_; (refine Zhg (Zb0 rfl) ?_))
  refine Zhm 12 rfl (rfl) ?_
  refine Y4 ?_
  refine Zos 16 rfl (rfl) ?_
  refine Y2 ?_
  first|refine Y0 ?_|(refine Zhh rfl ?_; (refine Zor (c := soSort_nil 3 46 #[] #[]) (k := ?_)); (rintro _ _ ⟨rfl, rfl⟩); (refine Zg2 qA ?_))
  refine Y1 ?_
  refine Zos 20 rfl (rfl) ?_
  refine Y2 ?_
  first|refine Y0 ?_|(refine Zhh rfl ?_; (refine Zor (c := soBack_nil 0) (k := ?_)); (rintro _ _ ⟨rfl, rfl⟩); (refine Zg2 qA ?_))
  refine Y1 ?_
  refine Zos 24 rfl (rfl) ?_
  refine V3 ?_
  refine rx1 (Zha rfl (Zg7)) ?_
  exact ⟨_, ⟨rfl, rfl⟩, qI⟩
theorem soNames_w (W : World) : Con Tryz.prog 9 [] [old W] (fun r M => r = .bool true ∧ [old W] = M) := (Con.frame (L := [old W]) soNames_x).mono fun r M ⟨M', ⟨h1, h2⟩, h3⟩ => by
  subst h2
  exact ⟨_, Imp.refl _, h1, by rw [← h3]; rfl⟩
end Go.Sl
