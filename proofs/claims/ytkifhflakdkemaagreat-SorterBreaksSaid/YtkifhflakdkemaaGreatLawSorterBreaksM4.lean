/- Parts of the proof. -/
import Derived.Test.YtkifhflakdkemaaGreatLawSorterBreaksM0
import Derived.Test.YtkifhflakdkemaaGreatLawSorterBreaksM1
import Derived.Test.YtkifhflakdkemaaGreatLawSorterBreaksM2
import Derived.Test.YtkifhflakdkemaaGreatLawSorterBreaksM3
set_option maxHeartbeats 4000000
set_option maxRecDepth 10000
set_option linter.unusedVariables false
set_option linter.unusedSimpArgs false
namespace Go.Sl
open Go Go.Proofs
attribute [local irreducible] pt old pur ex all den denOps denS xOps xC cX CX xthen xblk xcut xloop xng retX resX Calls PV Rd Con
attribute [local irreducible] hostA pgA PagerS.loadP PagerS.saveP SlotS.getS SlotS.setS SlotS.pairL SlotS.pairE SlotS.ghost
open SlotS (SL Acc Fit QI slv)
open PagerS (PS Over)
abbrev Bk := Int → List Byte
def qsF (q pp ph : Nat) (s0 : SL) (tg : PS × HostS.HS) (rows : List (List Byte)) (log : List Acc) (t : PS × HostS.HS × Bk) : Asrt := all [pur (QI s0 tg rows log t.1 t.2.1 t.2.2), slA q pp (slv s0 log), pgA pp ph t.1, hostA ph t.2.1]
def qsA (q pp ph : Nat) (s0 : SL) (tg : PS × HostS.HS) (rows : List (List Byte)) (log : List Acc) : Asrt := ex (qsF q pp ph s0 tg rows log)
section
variable {q pp ph : Nat} {s0 : SL} {tg : PS × HostS.HS} {rows : List (List Byte)} {log : List Acc} {p : PS} {h : HostS.HS} {b : Bk} {L : List Asrt}
theorem qsA_mk (k : QI s0 tg rows log p h b) : Imp (slA q pp (slv s0 log) :: pgA pp ph p :: hostA ph h :: L) (qsA q pp ph s0 tg rows log :: L) :=
  (Imp.pur_mk k).trans ((Imp.app (L := [pur (QI s0 tg rows log p h b), slA q pp (slv s0 log), pgA pp ph p, hostA ph h]) (M := L)).trans (Imp.head fun f hf => by unfold qsA Sl.ex; exact Exists.intro (p := fun x => (qsF q pp ph s0 tg rows log x).on f) (p, h, b) hf))
theorem Con.qsA {F : FuncId} {args : List Value} {Φ : Value → List Asrt → Prop} (hc : ∀ p h b, QI s0 tg rows log p h b → Con Tryz.prog F args (Sl.slA q pp (slv s0 log) :: Sl.pgA pp ph p :: Sl.hostA ph h :: L) Φ) : Con Tryz.prog F args (Sl.qsA q pp ph s0 tg rows log :: L) Φ :=
  Con.ex fun t => Con.pre (Con.pur fun k => hc t.1 t.2.1 t.2.2 k) (Imp.unapp (L := [Sl.pur (QI s0 tg rows log t.1 t.2.1 t.2.2), Sl.slA q pp (slv s0 log), Sl.pgA pp ph t.1, Sl.hostA ph t.2.1]) (M := L))
theorem qs_get {w0 w : World} {F : Asrt} {M M' : List Asrt} (hm : Has M (qsA q pp ph s0 tg rows log) M') (H : St w0 w (F :: M)) : ∃ p h b, QI s0 tg rows log p h b := by
  have H := H.pick (.there hm)
  unfold qsA at H
  obtain ⟨t, H⟩ := H.ex_get
  exact ⟨t.1, t.2.1, t.2.2, St.pur_get (St.all_get H)⟩
theorem qlen_x : Con Tryz.prog 26 [hp q] [qsA q pp ph s0 tg rows log] (fun r M => r = nvv s0.n ∧ M = [qsA q pp ph s0 tg rows log]) :=
  Con.qsA (L := []) fun p h b k => by
    refine ((slen_x (q := q) (pp := pp) (s := slv s0 log)).frame (L := [pgA pp ph p, hostA ph h])).mono ?_
    rintro r M ⟨M', ⟨h1, h2⟩, h3⟩
    subst h2 h3
    exact ⟨_, qsA_mk (L := []) k, h1, rfl⟩
theorem qlog_x (hl : log.length ≤ 2000000) : Con Tryz.prog 28 [hp q] [qsA q pp ph s0 tg rows log] (fun r M => ∃ a c, r = .slice a log.length c ∧ M = [ownAcc a c log, qsA q pp ph s0 tg rows log]) :=
  Con.qsA (L := []) fun p h b k => by
    refine ((slog_x (q := q) (pp := pp) (s := slv s0 log) (by show log.length ≤ _; omega)).frame (L := [pgA pp ph p, hostA ph h])).mono ?_
    rintro r M ⟨M', ⟨a, c, h1, h2⟩, h3⟩
    subst h2 h3
    exact ⟨_, Imp.cons (qsA_mk (L := []) k), a, c, h1, rfl⟩
theorem qget_x (hl : log.length ≤ 2000000) {m : Nat} (hm : m < s0.n) : Con Tryz.prog 35 [hp q, nvv m] [qsA q pp ph s0 tg rows log] (fun r M => ∃ a c, r = .tuple #[.slice a (rows.getD m []).length c, nvv 0] ∧ M = [ownB a c (rows.getD m []), qsA q pp ph s0 tg rows (log ++ [(0, (m : Int), 0)])]) :=
  Con.qsA (L := []) fun p h b k => by
    obtain ⟨e1, e2, k2⟩ := k.get hl hm
    have hop := k.ops
    refine (sget_x (q := q) (pp := pp) (ph := ph) k.fit k.quiet.sound.ok k.quiet.sound.over (by omega) (by show log.length ≤ _; omega) (m : Int)).mono ?_
    rintro r M ⟨a, c, rfl, rfl⟩
    rw [e1, e2]
    exact ⟨_, Imp.cons (qsA_mk (L := []) k2), a, c, rfl, rfl⟩
theorem qset_x (hl : log.length ≤ 2000000) {m : Nat} (hm : m < s0.n) {vb : Value} {v : List Byte} (hv : v.length = s0.size) (hb : Bs L vb v) : Con Tryz.prog 31 [hp q, nvv m, vb] (qsA q pp ph s0 tg rows log :: L) (fun r M => r = nvv 0 ∧ M = qsA q pp ph s0 tg (rows.set m v) (log ++ [(1, (m : Int), 0)]) :: L) :=
  Con.qsA fun p h b k => by
    obtain ⟨e1, e2, k2⟩ := k.set hl hm hv
    have hop := k.ops
    refine (sset_x (q := q) (pp := pp) (ph := ph) k.fit k.quiet.sound.ok k.quiet.sound.over (by omega) (by show log.length ≤ _; omega) (m : Int) hb).mono ?_
    rintro r M ⟨rfl, rfl⟩
    rw [e1, e2]
    exact ⟨_, qsA_mk k2, rfl, rfl⟩
def pairR (φ : List Byte → List Byte → List Byte × List Byte) (rows : List (List Byte)) (m j : Nat) : List (List Byte) := (rows.set m (φ (rows.getD m []) (rows.getD j [])).1).set j (φ (rows.getD m []) (rows.getD j [])).2
theorem qpair_x {F : FuncId} {fi ca : Array Value} {φ : List Byte → List Byte → List Byte × List Byte} {Y : List Byte → List Byte → Nat → Nat → List Asrt → Prop} (hl : log.length ≤ 2000000) {m j : Nat} (hm : m < s0.n) (hj : j < s0.n) (hmj : m ≠ j) (hc : FCon F fi ca s0.size L φ Y) :
    Con Tryz.prog 32 [hp q, nvv m, nvv j, .func (.func F) fi ca] (qsA q pp ph s0 tg rows log :: L) (fun r M => r = nvv 0 ∧ ∃ a b Z, Y (rows.getD m []) (rows.getD j []) a b Z ∧ M = qsA q pp ph s0 tg (pairR φ rows m j) (log ++ [(2, (m : Int), (j : Int))]) :: blk a (φ (rows.getD m []) (rows.getD j [])).1 :: blk b (φ (rows.getD m []) (rows.getD j [])).2 :: Z) :=
  Con.qsA fun p h b k => by
    obtain ⟨hv, hw⟩ := hc.len _ _ (k.rlen hm) (k.rlen hj)
    obtain ⟨e1, e2, e3, e4, k2⟩ := k.pair hl hm hj hmj hv hw
    have hop := k.ops
    refine (pair_ok (q := q) (pp := pp) (ph := ph) k.fit k.quiet.sound.ok k.quiet.sound.over (by omega) (by show log.length ≤ _; omega) (i := m) (j := j) hm hj hmj hc e1).mono ?_
    rintro r M ⟨A, B, E, hA, hB, hE, hr, a, c, Z, hY, hM⟩
    have hA : A = rows.getD m [] := hA.trans e2
    have hB : B = rows.getD j [] := hB.trans e3
    subst hA hB hE hr hM
    exact ⟨_, qsA_mk (s0 := s0) (tg := tg) (rows := pairR φ rows m j) (log := log ++ [(2, (m : Int), (j : Int))]) k2, by rw [e4], a, c, Z, hY, rfl⟩
end
end Go.Sl
namespace Go.Sl
open Go
def yesM (b : Bool) : BitVec 64 := if b then 18446744073709551615#64 else 0#64
theorem yesM_and (a b : Bool) : yesM a &&& yesM b = yesM (a && b) := by cases a <;> cases b <;> decide
theorem yesM_or (a b : Bool) : yesM a ||| yesM b = yesM (a || b) := by cases a <;> cases b <;> decide
theorem yesM_xor (a b : Bool) : yesM a ^^^ yesM b = yesM (a ^^ b) := by cases a <;> cases b <;> decide
theorem yesM_eq0 (a : Bool) : yesM a = 0#64 ↔ a = false := by cases a <;> decide
theorem shr63 (v : BitVec 64) : v >>> 63 = if v.msb then 1#64 else 0#64 := by
  apply BitVec.eq_of_toNat_eq
  rw [BitVec.toNat_ushiftRight, Nat.shiftRight_eq_div_pow, BitVec.msb_eq_decide]
  have := v.isLt
  by_cases h : 2 ^ (64 - 1) ≤ v.toNat
  · rw [decide_eq_true h]
    show _ = 1
    omega
  · rw [decide_eq_false h]
    show _ = 0
    omega
theorem bitM (b : Bool) : 0#64 - ((if b then 1#64 else 0#64) &&& 1#64) = yesM b := by cases b <;> decide
theorem bitN (b : Bool) : 0#64 - (((if b then 1#64 else 0#64) ^^^ 1#64) &&& 1#64) = yesM (!b) := by cases b <;> decide
theorem zeroB_is (x : BitVec 64) : zeroB x = yesM (decide (x = 0#64)) := by
  unfold zeroB
  rw [shr63, bitN]
  congr 1
  rw [BitVec.msb_or, BitVec.msb_eq_decide, BitVec.msb_eq_decide, BitVec.toNat_sub]
  have := x.isLt
  by_cases h : x = 0#64
  · subst h; decide
  · have h0 : x.toNat ≠ 0 := fun hh => h (BitVec.eq_of_toNat_eq hh)
    rw [decide_eq_false h]
    have e0 : (0#64 : BitVec 64).toNat = 0 := rfl
    rw [e0]
    by_cases h1 : 2 ^ (64 - 1) ≤ x.toNat
    · rw [decide_eq_true h1]; rfl
    · rw [decide_eq_false h1, decide_eq_true (by omega)]; rfl
def lessB (x y : BitVec 64) : BitVec 64 := 0#64 - ((((~~~ x &&& y) ||| ((~~~ x ||| y) &&& (x - y))) >>> 63) &&& 1#64)
theorem lessB_is {x y : BitVec 64} (hx : x.toNat < 9223372036854775808) (hy : y.toNat < 9223372036854775808) : lessB x y = yesM (decide (x.toNat < y.toNat)) := by
  unfold lessB
  rw [shr63, bitM]
  congr 1
  have mx : x.msb = false := by rw [BitVec.msb_eq_decide]; exact decide_eq_false (by omega)
  have my : y.msb = false := by rw [BitVec.msb_eq_decide]; exact decide_eq_false (by omega)
  have md : (x - y).msb = decide (x.toNat < y.toNat) := by
    rw [BitVec.msb_eq_decide, BitVec.toNat_sub]
    have := x.isLt
    by_cases h : x.toNat < y.toNat
    · rw [decide_eq_true h]; exact decide_eq_true (by omega)
    · rw [decide_eq_false h]; exact decide_eq_false (by omega)
  have mn : (~~~ x).msb = true := by rw [BitVec.msb_not, mx]; rfl
  rw [BitVec.msb_or, BitVec.msb_and, BitVec.msb_and, BitVec.msb_or, mn, my, md]
  simp
theorem pickB (b : Bool) (x y : BitVec 64) : y ^^^ (yesM b &&& (x ^^^ y)) = if b then x else y := by
  cases b with
  | false => show y ^^^ (0#64 &&& _) = y; simp
  | true =>
    show y ^^^ (18446744073709551615#64 &&& (x ^^^ y)) = x
    have : (18446744073709551615#64 : BitVec 64) = BitVec.allOnes 64 := by decide
    rw [this, BitVec.allOnes_and, BitVec.xor_comm x y, ← BitVec.xor_assoc, BitVec.xor_self, BitVec.zero_xor]
def ltB : List Byte → List Byte → Bool
  | [], [] => false
  | [], _ :: _ => true
  | _ :: _, [] => false
  | x :: a, y :: b => if x = y then ltB a b else decide (x.toNat < y.toNat)
theorem ltB_rest : ∀ (l r a b : List Byte), l.length = r.length → ltB (l ++ a) (r ++ b) = (ltB l r || (decide (l = r) && ltB a b))
  | [], [], a, b, _ => by simp [ltB]
  | x :: l, y :: r, a, b, h => by
    have ih := ltB_rest l r a b (by simpa using h)
    simp only [List.cons_append, ltB]
    by_cases e : x = y
    · subst e
      rw [if_pos rfl, if_pos rfl, ih]
      simp
    · rw [if_neg e, if_neg e]
      simp [e]
  | [], _ :: _, _, _, h => by simp at h
  | _ :: _, [], _, _, h => by simp at h
theorem ltB_one (x y : Byte) : ltB [x] [y] = decide (x.toNat < y.toNat) := by
  unfold ltB
  by_cases e : x = y
  · subst e; rw [if_pos rfl]; simp [ltB]
  · rw [if_neg e]
theorem ltB_step {a b : List Byte} {i : Nat} (ha : i < a.length) (hb : i < b.length) : ltB (a.take (i + 1)) (b.take (i + 1)) = (ltB (a.take i) (b.take i) || (decide (a.take i = b.take i) && decide (a[i].toNat < b[i].toNat))) := by
  rw [List.take_succ_eq_append_getElem ha, List.take_succ_eq_append_getElem hb, ltB_rest _ _ _ _ (by rw [List.length_take, List.length_take]; omega), ltB_one]
theorem eqT_step {a b : List Byte} {i : Nat} (ha : i < a.length) (hb : i < b.length) : decide (a.take (i + 1) = b.take (i + 1)) = (decide (a.take i = b.take i) && decide (a[i] = b[i])) := by
  rw [List.take_succ_eq_append_getElem ha, List.take_succ_eq_append_getElem hb, ← Bool.decide_and]
  apply decide_eq_decide.2
  constructor
  · intro h
    have h1 := List.append_inj h (by rw [List.length_take, List.length_take]; omega)
    exact ⟨h1.1, by simpa using h1.2⟩
  · rintro ⟨h1, h2⟩; rw [h1, h2]
theorem ltB_end (a b : List Byte) : ltB a b = (ltB (a.take (min a.length b.length)) (b.take (min a.length b.length)) || (decide (a.take (min a.length b.length) = b.take (min a.length b.length)) && decide (a.length < b.length))) := by
  have h := ltB_rest (a.take (min a.length b.length)) (b.take (min a.length b.length)) (a.drop (min a.length b.length)) (b.drop (min a.length b.length)) (by rw [List.length_take, List.length_take]; omega)
  rw [List.take_append_drop, List.take_append_drop] at h
  rw [h]
  congr 2
  by_cases hl : a.length < b.length
  · rw [Nat.min_eq_left (by omega), List.drop_length, decide_eq_true hl]
    cases hd : b.drop a.length with
    | nil => have := congrArg List.length hd; simp at this; omega
    | cons y r => rfl
  · rw [Nat.min_eq_right (by omega), List.drop_length, decide_eq_false hl]
    cases a.drop b.length <;> rfl
def trd (m : Byte) (x y : Byte) : Byte := m &&& (x ^^^ y)
def tradeT (m : Byte) (A B : List Byte) (i : Nat) : List Byte × List Byte :=
  ((List.range A.length).map fun k => if k < i then A.getD k 0#8 ^^^ trd m (A.getD k 0#8) (B.getD k 0#8) else A.getD k 0#8, (List.range B.length).map fun k => if k < i then B.getD k 0#8 ^^^ trd m (A.getD k 0#8) (B.getD k 0#8) else B.getD k 0#8)
def tradeB (m : BitVec 64) (A B : List Byte) : List Byte × List Byte := tradeT (m.setWidth 8) A B A.length
theorem tradeT_len (m : Byte) (A B : List Byte) (i : Nat) : (tradeT m A B i).1.length = A.length ∧ (tradeT m A B i).2.length = B.length := by simp [tradeT]
theorem range_self (A : List Byte) : (List.range A.length).map (fun k => A.getD k 0#8) = A := by
  apply List.ext_getElem (by simp)
  intro j h1 h2
  simp [h2]
theorem tradeT_zero (m : Byte) (A B : List Byte) : tradeT m A B 0 = (A, B) := by
  unfold tradeT
  simp only [Nat.not_lt_zero, if_false, range_self]
theorem tradeT_at (m : Byte) {A B : List Byte} {i : Nat} (ha : i < A.length) (hb : i < B.length) : (tradeT m A B i).1[i]'(by rw [(tradeT_len m A B i).1]; exact ha) = A[i] ∧ (tradeT m A B i).2[i]'(by rw [(tradeT_len m A B i).2]; exact hb) = B[i] := by
  simp [tradeT, ha, hb]
theorem tradeT_set1 (m : Byte) {A B : List Byte} {i : Nat} (ha : i < A.length) (hb : i < B.length) : (tradeT m A B i).1.set i (A[i] ^^^ trd m A[i] B[i]) = (tradeT m A B (i + 1)).1 := by
  apply List.ext_getElem (by simp [tradeT])
  intro j h1 h2
  rw [List.getElem_set]
  simp only [tradeT, List.getElem_map, List.getElem_range]
  by_cases e : i = j
  · subst e
    rw [if_pos rfl, if_pos (by omega)]; simp only [List.getD_eq_getElem?_getD, List.getElem?_eq_getElem ha, List.getElem?_eq_getElem hb, Option.getD_some]
  · rw [if_neg e]
    by_cases e2 : j < i
    · rw [if_pos e2, if_pos (by omega)]
    · rw [if_neg e2, if_neg (by omega)]
theorem tradeT_set2 (m : Byte) {A B : List Byte} {i : Nat} (ha : i < A.length) (hb : i < B.length) : (tradeT m A B i).2.set i (B[i] ^^^ trd m A[i] B[i]) = (tradeT m A B (i + 1)).2 := by
  apply List.ext_getElem (by simp [tradeT])
  intro j h1 h2
  rw [List.getElem_set]
  simp only [tradeT, List.getElem_map, List.getElem_range]
  by_cases e : i = j
  · subst e
    rw [if_pos rfl, if_pos (by omega)]; simp only [List.getD_eq_getElem?_getD, List.getElem?_eq_getElem ha, List.getElem?_eq_getElem hb, Option.getD_some]
  · rw [if_neg e]
    by_cases e2 : j < i
    · rw [if_pos e2, if_pos (by omega)]
    · rw [if_neg e2, if_neg (by omega)]
theorem tradeB_len (m : BitVec 64) (A B : List Byte) : (tradeB m A B).1.length = A.length ∧ (tradeB m A B).2.length = B.length := tradeT_len _ _ _ _
-- records
def isR (r : List Byte) : Bool := decide (26 ≤ r.length) && decide ((r.getD 0 0#8).toNat < 2) && decide ((r.getD 1 0#8).toNat < 2)
def liveR (r : List Byte) : Bool := isR r && decide (r.getD 0 0#8 = 1#8)
def num4 (r : List Byte) (k : Nat) : BitVec 32 := lowB 32 ((r.drop k).take 4)
def grpR (r : List Byte) : List Byte := (r.drop 10).take 16
def byIdx (a b : List Byte) : Bool := (isR a && isR b) && decide ((num4 a 2).toNat < (num4 b 2).toNat)
def byGrp (a b : List Byte) : Bool :=
  (isR a && isR b) && (if liveR a ^^ liveR b then liveR a else if liveR a then (if ltB (grpR a) (grpR b) || ltB (grpR b) (grpR a) then ltB (grpR a) (grpR b) else byIdx a b) else byIdx a b)
end Go.Sl
namespace Go.Sl
open Go Go.Proofs
attribute [local irreducible] pt old pur ex all den denOps denS xOps xC cX CX xthen xblk xcut xloop xng retX resX Calls PV Rd Con
theorem less_x (x y : BitVec 64) (hx : x.toNat < 9223372036854775808) (hy : y.toNat < 9223372036854775808) : Con Tryz.prog 89 [u64b x, u64b y] [] (fun r M => r = u64b (yesM (decide (x.toNat < y.toNat))) ∧ M = []) := by
  rw [← lessB_is hx hy]
  refine fn_y Tryz.func89 Tryz.mixed ?_
  intro w0
  refine Y5 ?_
  refine Zhg (Zll rfl) ?_
  refine Y3 ?_
  refine Zhg (Zll rfl) ?_
  refine Y4 ?_
  refine Zhg (Zld rfl rfl) ?_
  refine Y2 ?_
  refine Zhg (Zlk (m := 63) rfl rfl) ?_
  refine Zor (c := bit_x _) (k := ?_)
  rintro _ _ ⟨rfl, rfl⟩
  refine V3 ?_
  refine rx1 (Zg9 rfl (Zg7)) ?_
  exact ⟨_, ⟨rfl, rfl⟩, by exact Imp.arr (by repeat (first|exact Arr.nil|exact Arr.stop|refine Arr.cons (by repeat constructor) ?_|refine Arr.skip ?_))⟩
theorem equal_x (x y : BitVec 64) : Con Tryz.prog 123 [u64b x, u64b y] [] (fun r M => r = u64b (yesM (decide (x = y))) ∧ M = []) := by
  have e : zeroB (x ^^^ y) = yesM (decide (x = y)) := by
    rw [zeroB_is]
    congr 1
    apply decide_eq_decide.2
    exact ⟨fun h => by have := congrArg (fun z => z ^^^ y) h; simpa [BitVec.xor_assoc] using this, fun h => by rw [h, BitVec.xor_self]⟩
  rw [← e]
  refine fn_y Tryz.func123 Tryz.mixed ?_
  intro w0
  refine Y7 ?_
  refine Zor (c := zero_x _) (k := ?_)
  rintro _ _ ⟨rfl, rfl⟩
  refine V3 ?_
  refine rx1 (Zg9 rfl (Zg7)) ?_
  exact ⟨_, ⟨rfl, rfl⟩, by exact Imp.arr (by repeat (first|exact Arr.nil|exact Arr.stop|refine Arr.cons (by repeat constructor) ?_|refine Arr.skip ?_))⟩
theorem pick_x (b : Bool) (x y : BitVec 64) : Con Tryz.prog 88 [u64b (yesM b), u64b x, u64b y] [] (fun r M => r = u64b (if b then x else y) ∧ M = []) := by
  rw [← pickB b x y]
  refine fn_y Tryz.func88 Tryz.mixed ?_
  intro w0
  refine V13 ?_
  refine rx1 (Zg9 rfl (Zg7)) ?_
  exact ⟨_, ⟨rfl, rfl⟩, by exact Imp.arr (by repeat (first|exact Arr.nil|exact Arr.stop|refine Arr.cons (by repeat constructor) ?_|refine Arr.skip ?_))⟩
theorem byte64 (x : Byte) : (x.setWidth 64).toNat = x.toNat := by
  have := x.isLt
  rw [BitVec.toNat_setWidth]
  omega
theorem byte64_eq (x y : Byte) : decide (x.setWidth 64 = y.setWidth 64) = decide (x = y) := by
  apply decide_eq_decide.2
  constructor
  · intro h
    have := congrArg BitVec.toNat h
    rw [byte64, byte64] at this
    exact BitVec.eq_of_toNat_eq this
  · intro h; rw [h]
theorem before_x {L : List Asrt} {va vb : Value} {a b : List Byte} (ha : Bs L va a) (hb : Bs L vb b) : Con Tryz.prog 87 [va, vb] L (fun r M => r = u64b (yesM (ltB a b)) ∧ L = M) := by
  refine Con.get (fun w0 w F H => ha.sh _ _ _ H) ?_
  rintro ⟨aa, ac, rfl, hac, hacm⟩
  refine Con.get (fun w0 w F H => hb.sh _ _ _ H) ?_
  rintro ⟨ba, bc, rfl, hbc, hbcm⟩
  have hmin : (min (a.length : Int) (b.length : Int)) = ((min a.length b.length : Nat) : Int) := by omega
  refine fn_y Tryz.func87 Tryz.mixed ?_
  intro w0
  refine V11 ?_
  rw [hmin]
  refine V10 ?_
  refine Zgo [(6, 10), (17, 42)] (by kernel_rfl) (fun i : Nat => i ≤ min a.length b.length) (fun _ => L) (fun i => [(6, u64b (yesM (decide (a.take i = b.take i)))), (7, u64b (yesM (ltB (a.take i) (b.take i)))), (17, nvv i)]) (fun i => min a.length b.length - i) 0 (by omega) qI ⟨by rw [List.take_zero, List.take_zero]; rfl, by rw [List.take_zero, List.take_zero]; rfl, rfl, trivial⟩ ?_
  intro i u hi
  refine V3 ?_
  refine Zgg rfl (fun hB => ?_) (fun hB => ?_)
  · have hB1 : i < a.length := by omega
    have hB2 : i < b.length := by omega
    refine Zgt (fun F w H => ha.some (by omega) H) ?_
    rintro ⟨a1, a2, rfl⟩
    refine Zgt (fun F w H => hb.some (by omega) H) ?_
    rintro ⟨a3, a4, rfl⟩
    have l1 := less_x (a[i].setWidth 64) (b[i].setWidth 64) (by rw [byte64]; omega) (by rw [byte64]; omega)
    have l2 := equal_x (a[i].setWidth 64) (b[i].setWidth 64)
    rw [byte64, byte64] at l1
    rw [byte64_eq] at l2
    refine V4 ?_
    refine Zij (L) [8, 9] (.q 0 (.q 1 (.q 2 (.q 5 (.q 6 (.q 7 (.r 3 (.q 4 (.q 10 (.r 8 (.r 9 (.q 11 .nil)))))))))))) (by kernel_rfl) (by kernel_rfl) (Imp.arr qV) ?_
    refine W6 ?_
    refine Zfh rfl rfl (ha.rd.at hB1 (getM hB1)) ?_
    refine Zim rfl (Zjx rfl) ?_
    refine W1 ?_
    refine Zfh rfl rfl (hb.rd.at hB2 (getM hB2)) ?_
    refine Ziz rfl (Zjx rfl) ?_
    refine W2 ?_
    refine Y5 ?_
    refine Zor (c := l1) (k := ?_)
    rintro _ _ ⟨rfl, rfl⟩
    refine Y9 ?_
    refine Zor (c := l2) (k := ?_)
    rintro _ _ ⟨rfl, rfl⟩
    refine V8 ?_
    exact Zgl (i + 1) qO (by omega) qI ⟨by rw [eqT_step hB1 hB2, ← yesM_and]; rfl, by rw [ltB_step hB1 hB2, ← yesM_or, ← yesM_and]; rfl, rfl, trivial⟩
  · have hie : i = min a.length b.length := by omega
    have l1 := less_x (BitVec.ofNat 64 a.length) (BitVec.ofNat 64 b.length) (by rw [BitVec.toNat_ofNat]; omega) (by rw [BitVec.toNat_ofNat]; omega)
    rw [BitVec.toNat_ofNat, BitVec.toNat_ofNat, Nat.mod_eq_of_lt (by omega), Nat.mod_eq_of_lt (by omega)] at l1
    have e9 := ltB_end a b
    rw [← hie] at e9
    refine Y5 ?_
    refine Zhg (Zlv rfl) ?_
    refine Y2 ?_
    refine Zhg (Zlv rfl) ?_
    refine Zor (c := l1) (k := ?_)
    rintro _ _ ⟨rfl, rfl⟩
    refine V5 ?_
    refine rx1 (Zg9 rfl (Zg7)) ?_
    exact ⟨_, ⟨by rw [e9, ← yesM_or, ← yesM_and], rfl⟩, qI⟩
theorem trade_x {L : List Asrt} {a b n : Nat} (m : BitVec 64) {A B : List Byte} (hA : A.length = n) (hB : B.length = n) (hn : n ≤ 4096) : Con Tryz.prog 95 [u64b m, fsl a n, fsl b n] (blk a A :: blk b B :: L) (fun r M => r = nvv 0 ∧ blk a (tradeB m A B).1 :: blk b (tradeB m A B).2 :: L = M) := by
  refine fn_y Tryz.func95 Tryz.mixed ?_
  intro w0
  refine Y9 ?_
  refine Zot 13 rfl ((fun hh => hh rfl)) ?_
  refine V7 ?_
  refine Zgo [(7, 8), (16, 45)] (by kernel_rfl) (fun i : Nat => i ≤ n) (fun i => blk a (tradeT (m.setWidth 8) A B i).1 :: blk b (tradeT (m.setWidth 8) A B i).2 :: L) (fun i => [(16, nvv i)]) (fun i => n - i) 0 (Nat.zero_le _) (by rw [tradeT_zero]; exact qI) ⟨rfl, trivial⟩ ?_
  intro i u hi
  obtain ⟨hl1, hl2⟩ := tradeT_len (m.setWidth 8) A B i
  refine V3 ?_
  refine Zgg rfl (fun hC => ?_) (fun hC => ?_)
  · obtain ⟨g1, g2⟩ := tradeT_at (m.setWidth 8) (A := A) (B := B) (i := i) (by omega) (by omega)
    refine V4 ?_
    refine Zij ((blk a (tradeT (m.setWidth 8) A B i).1 :: blk b (tradeT (m.setWidth 8) A B i).2 :: L)) [9] (.q 0 (.q 1 (.q 2 (.q 3 (.q 4 (.q 6 (.q 7 (.q 8 (.r 5 (.r 9 (.q 10 (.q 11 (.q 12 .nil))))))))))))) (by kernel_rfl) (by kernel_rfl) (Imp.arr qV) ?_
    refine W1 ?_
    refine Zim rfl (Zlx rfl) ?_
    refine W6 ?_
    refine Ziv rfl rfl qH ((getL (f := u8b) (l := (tradeT (m.setWidth 8) A B i).1) (by omega)).trans (by rw [g1])) ?_
    refine Ziv rfl rfl qH ((getL (f := u8b) (l := (tradeT (m.setWidth 8) A B i).2) (by omega)).trans (by rw [g2])) ?_
    refine Zim rfl (Zje (x := A[i]) (y := B[i]) rfl rfl) ?_
    refine Zim rfl (Zjc (x := m.setWidth 8) (y := A[i] ^^^ B[i]) rfl rfl) ?_
    refine W2 ?_
    refine Y4 ?_
    refine Zhp rfl qH ((getL (f := u8b) (l := (tradeT (m.setWidth 8) A B i).1) (by omega)).trans (by rw [g1])) ?_
    refine Y1 ?_
    refine Zhg (Zje (x := A[i]) (y := trd (m.setWidth 8) A[i] B[i]) rfl rfl) ?_
    refine Y1 ?_
    refine Zht rfl rfl qR qZ (setL (f := u8b) (l := (tradeT (m.setWidth 8) A B i).1)) ?_
    refine Y5 ?_
    refine Zhp rfl qH ((getL (f := u8b) (l := (tradeT (m.setWidth 8) A B i).2) (by omega)).trans (by rw [g2])) ?_
    refine Y1 ?_
    refine Zhg (Zje (x := B[i]) (y := trd (m.setWidth 8) A[i] B[i]) rfl rfl) ?_
    refine Y1 ?_
    refine Zht rfl rfl qR qZ (setL (f := u8b) (l := (tradeT (m.setWidth 8) A B i).2)) ?_
    refine V1 ?_
    rw [tradeT_set1 _ (by omega) (by omega), tradeT_set2 _ (by omega) (by omega)]
    refine V4 ?_
    exact Zgl (i + 1) qO (by omega) qI ⟨rfl, trivial⟩
  · have hie : i = A.length := by omega
    subst hie
    refine V3 ?_
    refine rx1 (Zg9 rfl (Zg7)) ?_
    exact ⟨_, ⟨rfl, rfl⟩, qI⟩
end Go.Sl
namespace Go.Sl
open Go Go.Proofs
attribute [local irreducible] pt old pur ex all den denOps denS xOps xC cX CX xthen xblk xcut xloop xng retX resX Calls PV Rd Con
attribute [local irreducible] lowB
section
variable {L : List Asrt} {v vb : Value} {r b : List Byte}
theorem r_get {l : List Byte} {k : Nat} (hk : k < l.length) : (l.map u8b)[k]? = some (u8b (l.getD k 0#8)) := by
  rw [List.getElem?_map, List.getElem?_eq_getElem hk, List.getD_eq_getElem?_getD, List.getElem?_eq_getElem hk]; rfl
theorem rcIs_x (h : Bs L v r) : Con Tryz.prog 84 [v] L (fun x M => x = u64b (yesM (isR r)) ∧ L = M) := by
  refine Con.get (fun w0 w F H => h.sh _ _ _ H) ?_
  rintro ⟨a, c, rfl, hac, hacm⟩
  by_cases h26 : r.length < 26
  · have e : isR r = false := by unfold isR; rw [decide_eq_false (by omega)]; rfl
    rw [e]
    refine fn_y Tryz.func84 Tryz.mixed ?_
    intro w0
    refine Y7 ?_
    refine Zos 5 rfl (h26) ?_
    refine V5 ?_
    refine rx1 (Zg9 rfl (Zg7)) ?_
    exact ⟨_, ⟨rfl, rfl⟩, qI⟩
  · have e : isR r = (decide ((r.getD 0 0#8).toNat < 2) && decide ((r.getD 1 0#8).toNat < 2)) := by unfold isR; rw [decide_eq_true (by omega)]; rfl
    rw [e, ← yesM_and]
    refine Con.get (fun w0 w F H => h.some (by omega) H) ?_
    rintro ⟨g, o, rfl⟩
    have l1 := less_x ((r.getD 0 0#8).setWidth 64) 2#64 (by rw [byte64]; omega) (by decide)
    have l2 := less_x ((r.getD 1 0#8).setWidth 64) 2#64 (by rw [byte64]; omega) (by decide)
    rw [byte64] at l1 l2
    have k1 := h.rd.at (j := 0) (by omega) (r_get (by omega))
    rw [Nat.add_zero] at k1
    refine fn_y Tryz.func84 Tryz.mixed ?_
    intro w0
    refine Y7 ?_
    refine Zot 5 rfl (h26) ?_
    refine V2 ?_
    refine Zij (L) [4, 7, 8] (.q 0 (.q 1 (.q 5 (.q 6 (.r 2 (.q 3 (.r 7 (.r 8 (.e 4 true (.e 9 false (.q 10 (.q 11 .nil)))))))))))) (by kernel_rfl) (by kernel_rfl) (Imp.arr qV) ?_
    refine W1 ?_
    first|refine Zim rfl (Zl4 (n := 0) rfl rfl) ?_|refine Zim rfl (Zl1 (n := 0) rfl rfl) ?_
    refine W1 ?_
    first|refine Zim rfl (Zl4 (n := 1) rfl rfl) ?_|refine Zim rfl (Zl1 (n := 1) rfl rfl) ?_
    refine Zfh rfl rfl (k1) ?_
    refine Zim rfl (Zjx rfl) ?_
    refine Zfh rfl rfl (h.rd.at (j := 1) (by omega) (r_get (by omega))) ?_
    refine Ziz rfl (Zjx rfl) ?_
    refine Ziq rfl ?_
    refine Zor (c := l1) (k := ?_)
    rintro _ _ ⟨rfl, rfl⟩
    refine Y1 ?_
    refine Zg3 ⟨fun _ => Imp.arr qV, ?_⟩
    refine Ziq rfl ?_
    refine Zor (c := l2) (k := ?_)
    rintro _ _ ⟨rfl, rfl⟩
    refine Y1 ?_
    refine Zg3 ⟨(fun hh => Bool.noConfusion hh), ?_⟩
    refine W3 ?_
    refine Ct.o ?_
    refine rx1 (Zg9 rfl (Zg7)) ?_
    exact ⟨_, ⟨rfl, rfl⟩, qI⟩
theorem bs_cut {g o c l n : Nat} (h : Bs L (.slice (some ⟨g, o, none⟩) r.length c) r) (hc : r.length ≤ c) (hl : l + n ≤ r.length) (hn : 0 < n) : Bs L (.slice (some ⟨g, o + l, none⟩) n (c - l)) ((r.drop l).take n) := by
  have h1 := bs_drop h (k := l) (by omega) (by omega)
  have e : r.length - l = (r.drop l).length := by simp
  rw [e] at h1
  exact h1.take (by rw [List.length_drop]; omega)
theorem number_x (h : Bs L v r) (k : Nat) (hk : k + 4 ≤ r.length) (hk2 : k ≤ 1000) : Con Tryz.prog 90 [v, nvv k] L (fun x M => x = u32b (num4 r k) ∧ L = M) := by
  refine Con.get (fun w0 w F H => h.sh _ _ _ H) ?_
  rintro ⟨a, c, rfl, hac, hacm⟩
  refine Con.get (fun w0 w F H => h.some (by omega) H) ?_
  rintro ⟨g, o, rfl⟩
  have hb := bs_cut h hac (l := k) (n := 4) hk (by omega)
  have hlen : ((r.drop k).take 4).length = 4 := by rw [List.length_take, List.length_drop]; omega
  have hln := little32_x hb hlen
  have e4 : k + 4 - k = 4 := by omega
  unfold num4
  refine fn_y Tryz.func90 Tryz.mixed ?_
  intro w0
  refine Y8 ?_
  refine Zhg (Zmz (l := k) (h := k + 4) rfl rfl rfl (by omega) (by omega) (by omega)) ?_
  rw [e4]; refine Zor (c := hln) (k := ?_); rintro _ _ ⟨rfl, rfl⟩; refine Zg2 qA ?_
  refine V10 ?_
  refine rx1 (Zg9 rfl (Zg7)) ?_
  exact ⟨_, ⟨rfl, rfl⟩, qI⟩
theorem live_x (h : Bs L v r) : Con Tryz.prog 85 [v] L (fun x M => x = u64b (yesM (liveR r)) ∧ L = M) := by
  refine Con.get (fun w0 w F H => h.sh _ _ _ H) ?_
  rintro ⟨a, c, rfl, hac, hacm⟩
  by_cases hi : isR r = true
  · have h26 : 26 ≤ r.length := by unfold isR at hi; simp at hi; omega
    have e : liveR r = decide (r.getD 0 0#8 = 1#8) := by unfold liveR; rw [hi]; rfl
    rw [e]
    refine Con.get (fun w0 w F H => h.some (by omega) H) ?_
    rintro ⟨g, o, rfl⟩
    have l1 := equal_x ((r.getD 0 0#8).setWidth 64) 1#64
    rw [show (1#64 : BitVec 64) = (1#8 : Byte).setWidth 64 by decide, byte64_eq] at l1
    have l1 : Con Tryz.prog 123 [u64b ((r.getD 0 0#8).setWidth 64), u64b 1#64] [] (fun x M => x = u64b (yesM (decide (r.getD 0 0#8 = 1#8))) ∧ M = []) := l1
    have k1 := h.rd.at (j := 0) (by omega) (r_get (by omega))
    rw [Nat.add_zero] at k1
    refine fn_y Tryz.func85 Tryz.mixed ?_
    intro w0
    refine Y5 ?_
    refine Zor (c := rcIs_x h) (k := ?_)
    rintro _ _ ⟨rfl, rfl⟩
    refine Y1 ?_
    refine Zhg (Zln (x := yesM (isR r)) (y := 0#64) rfl rfl) ?_
    refine Zot 5 rfl ((fun hh => by rw [yesM_eq0, hi] at hh; cases hh)) ?_
    refine Y4 ?_
    first|refine Zhg (Zl4 (n := 0) rfl rfl) ?_|refine Zhg (Zl1 (n := 0) rfl rfl) ?_
    refine Zff rfl (k1) ?_
    refine Zhg (Zjx rfl) ?_
    refine Zor (c := l1) (k := ?_)
    rintro _ _ ⟨rfl, rfl⟩
    refine V3 ?_
    refine rx1 (Zg9 rfl (Zg7)) ?_
    exact ⟨_, ⟨rfl, rfl⟩, qI⟩
  · have e : liveR r = false := by unfold liveR; rw [Bool.not_eq_true] at hi; rw [hi]; rfl
    rw [e]
    refine fn_y Tryz.func85 Tryz.mixed ?_
    intro w0
    refine Y5 ?_
    refine Zor (c := rcIs_x h) (k := ?_)
    rintro _ _ ⟨rfl, rfl⟩
    refine Y1 ?_
    refine Zhg (Zln (x := yesM (isR r)) (y := 0#64) rfl rfl) ?_
    refine Zos 5 rfl ((by rw [yesM_eq0]; simpa using hi)) ?_
    refine V5 ?_
    refine rx1 (Zg9 rfl (Zg7)) ?_
    exact ⟨_, ⟨rfl, rfl⟩, qI⟩
theorem u32_64 (x : BitVec 32) : (x.setWidth 64).toNat = x.toNat := by
  have := x.isLt
  rw [BitVec.toNat_setWidth]
  omega
theorem isR_len {r : List Byte} (hi : isR r = true) : 26 ≤ r.length := by unfold isR at hi; simp at hi; omega
theorem byIdx_x (h : Bs L v r) (hb : Bs L vb b) : Con Tryz.prog 47 [v, vb] L (fun x M => x = u64b (yesM (byIdx r b)) ∧ L = M) := by
  by_cases hi : (isR r && isR b) = true
  · have e : byIdx r b = decide ((num4 r 2).toNat < (num4 b 2).toNat) := by unfold byIdx; rw [hi]; rfl
    rw [e]
    have h1 : isR r = true := (Bool.and_eq_true _ _ ▸ hi).1
    have h2 : isR b = true := (Bool.and_eq_true _ _ ▸ hi).2
    have i1 := isR_len h1
    have i2 := isR_len h2
    have l1 := less_x ((num4 r 2).setWidth 64) ((num4 b 2).setWidth 64) (by rw [u32_64]; omega) (by rw [u32_64]; omega)
    rw [u32_64, u32_64] at l1
    refine fn_y Tryz.func47 Tryz.mixed ?_
    intro w0
    refine Y5 ?_
    refine Zor (c := rcIs_x h) (k := ?_)
    rintro _ _ ⟨rfl, rfl⟩
    refine Y2 ?_
    refine Zor (c := rcIs_x hb) (k := ?_)
    rintro _ _ ⟨rfl, rfl⟩
    refine Y1 ?_
    refine Zhg (Zlf (x := yesM (isR r)) (y := yesM (isR b)) rfl rfl) ?_
    refine Zhg (Zln (x := yesM (isR r) &&& yesM (isR b)) (y := 0#64) rfl rfl) ?_
    refine Zot 10 rfl ((fun hh => by rw [yesM_and, yesM_eq0, hi] at hh; cases hh)) ?_
    refine Y4 ?_
    refine Zor (c := number_x h 2 (by omega) (by omega)) (k := ?_)
    rintro _ _ ⟨rfl, rfl⟩
    refine Y1 ?_
    refine Zhg (Zlb rfl) ?_
    refine Y1 ?_
    refine Zor (c := number_x hb 2 (by omega) (by omega)) (k := ?_)
    rintro _ _ ⟨rfl, rfl⟩
    refine Y1 ?_
    refine Zhg (Zlb rfl) ?_
    refine Zor (c := l1) (k := ?_)
    rintro _ _ ⟨rfl, rfl⟩
    refine V3 ?_
    refine rx1 (Zg9 rfl (Zg7)) ?_
    exact ⟨_, ⟨rfl, rfl⟩, qI⟩
  · have e : byIdx r b = false := by unfold byIdx; rw [Bool.not_eq_true] at hi; rw [hi]; rfl
    rw [e]
    refine fn_y Tryz.func47 Tryz.mixed ?_
    intro w0
    refine Y5 ?_
    refine Zor (c := rcIs_x h) (k := ?_)
    rintro _ _ ⟨rfl, rfl⟩
    refine Y2 ?_
    refine Zor (c := rcIs_x hb) (k := ?_)
    rintro _ _ ⟨rfl, rfl⟩
    refine Y1 ?_
    refine Zhg (Zlf (x := yesM (isR r)) (y := yesM (isR b)) rfl rfl) ?_
    refine Zhg (Zln (x := yesM (isR r) &&& yesM (isR b)) (y := 0#64) rfl rfl) ?_
    refine Zos 10 rfl ((by rw [yesM_and, yesM_eq0]; simpa using hi)) ?_
    refine V5 ?_
    refine rx1 (Zg9 rfl (Zg7)) ?_
    exact ⟨_, ⟨rfl, rfl⟩, qI⟩
end
end Go.Sl
namespace Go.Sl
open Go Go.Proofs
attribute [local irreducible] pt old pur ex all den denOps denS xOps xC cX CX xthen xblk xcut xloop xng retX resX Calls PV Rd Con
attribute [local irreducible] lowB
theorem Rd.ag {M : List Asrt} {b o m k : Nat} {xs : List Value} (h : Rd M 1 (.slice (some ⟨b, o, none⟩) m k) m xs) (hm : 0 < m) : RdAg M b o m xs.toArray := by
  unfold Rd at h
  unfold RdAg
  intro _ _ _ H
  obtain ⟨hx, h2⟩ := h _ _ _ H
  rcases h2 with ⟨a, k', _, h0⟩|⟨b', o', k', c, E, fr, hv, hb, hle, he⟩
  · omega
  · simp only [Value.slice.injEq, Option.some.injEq, Addr.mk.injEq] at hv
    obtain ⟨⟨rfl, rfl, _⟩, _, rfl⟩ := hv
    refine ⟨c, E, fr, hb, by omega, ?_⟩
    apply Array.ext'
    rw [← he, Nat.mul_one]
section
variable {L : List Asrt} {v vb : Value} {r b : List Byte}
theorem group_x (h : Bs L v r) (hr : 26 ≤ r.length) : Con Tryz.prog 86 [v] L (fun x M => x = .agg ((grpR r).map u8b).toArray ∧ L = M) := by
  refine Con.get (fun w0 w F H => h.sh _ _ _ H) ?_
  rintro ⟨a, c, rfl, hac, hacm⟩
  refine Con.get (fun w0 w F H => h.some (by omega) H) ?_
  rintro ⟨g, o, rfl⟩
  have hb := bs_cut h hac (l := 10) (n := 16) (by omega) (by omega)
  have hlen : (grpR r).length = 16 := by unfold grpR; rw [List.length_take, List.length_drop]; omega
  have hag := hb.rd
  have e16 : ((r.drop 10).take 16).length = 16 := hlen
  rw [e16] at hag
  have hag2 := Rd.ag hag (by omega)
  have hag3 : RdAg L g (o + 10) 16 ((grpR r).map u8b).toArray := hag2
  have hsz : ((grpR r).map u8b).toArray.size = 16 := by simp [hlen]
  refine fn_y Tryz.func86 Tryz.mixed ?_
  intro w0
  refine Y1 ?_
  refine Zhz (cs := ((List.replicate 16 0#8).map u8b).toArray) rfl ?_; intro b2
  refine Y3 ?_
  refine Zhg (Zmz (l := 10) (h := 26) rfl rfl rfl (by omega) (by omega) (by omega)) ?_
  refine Zhg (Zl9 rfl) ?_
  refine Zfg rfl ((hag3.imp qI)) ?_
  first|refine Zhy rfl rfl qR qZ (by first|rfl|exact oneM_u8 _|exact oneL_u8 _|assumption|(simp [oneC]; done)) qZ ?_|refine Zhx rfl rfl qR qZ (by first|rfl|exact oneM_u8 _|exact oneL_u8 _|assumption|(simp [oneC]; done)) qZ rfl ?_
  refine V1 ?_
  refine rx1 (Zhe rfl qH qZ (Zg7)) ?_
  exact ⟨_, ⟨rfl, rfl⟩, qI⟩
theorem byGrp_x (h : Bs L v r) (hb : Bs L vb b) : Con Tryz.prog 46 [v, vb] L (fun x M => x = u64b (yesM (byGrp r b)) ∧ L = M) := by
  by_cases hi : (isR r && isR b) = true
  · have e : byGrp r b = (if liveR r ^^ liveR b then liveR r else if liveR r then (if ltB (grpR r) (grpR b) || ltB (grpR b) (grpR r) then ltB (grpR r) (grpR b) else byIdx r b) else byIdx r b) := by unfold byGrp; rw [hi]; rfl
    have h1 : isR r = true := (Bool.and_eq_true _ _ ▸ hi).1
    have h2 : isR b = true := (Bool.and_eq_true _ _ ▸ hi).2
    have i1 := isR_len h1
    have i2 := isR_len h2
    have s1 : ((grpR r).map u8b).toArray.size = 16 := by unfold grpR; simp; omega
    have s2 : ((grpR b).map u8b).toArray.size = 16 := by unfold grpR; simp; omega
    have l1 : (grpR r).length = 16 := by simpa using s1
    have l2 : (grpR b).length = 16 := by simpa using s2
    have p1 := pick_x (ltB (grpR r) (grpR b) || ltB (grpR b) (grpR r)) (yesM (ltB (grpR r) (grpR b))) (yesM (byIdx r b))
    have e1 : (if ltB (grpR r) (grpR b) || ltB (grpR b) (grpR r) then yesM (ltB (grpR r) (grpR b)) else yesM (byIdx r b)) = yesM (if ltB (grpR r) (grpR b) || ltB (grpR b) (grpR r) then ltB (grpR r) (grpR b) else byIdx r b) := by split <;> rfl
    rw [e1] at p1
    generalize hal : (if ltB (grpR r) (grpR b) || ltB (grpR b) (grpR r) then ltB (grpR r) (grpR b) else byIdx r b) = al at *
    have p2 := pick_x (liveR r) (yesM al) (yesM (byIdx r b))
    have e2 : (if liveR r then yesM al else yesM (byIdx r b)) = yesM (if liveR r then al else byIdx r b) := by split <;> rfl
    rw [e2] at p2
    have p3 := pick_x (liveR r ^^ liveR b) (yesM (liveR r)) (yesM (if liveR r then al else byIdx r b))
    have e3 : (if liveR r ^^ liveR b then yesM (liveR r) else yesM (if liveR r then al else byIdx r b)) = yesM (if liveR r ^^ liveR b then liveR r else if liveR r then al else byIdx r b) := by split <;> rfl
    rw [e3] at p3
    rw [e]
    rw [← yesM_or] at p1
    rw [← yesM_xor] at p3
    refine fn_y Tryz.func46 Tryz.mixed ?_
    intro w0
    refine Y5 ?_
    refine Zor (c := rcIs_x h) (k := ?_)
    rintro _ _ ⟨rfl, rfl⟩
    refine Y2 ?_
    refine Zor (c := rcIs_x hb) (k := ?_)
    rintro _ _ ⟨rfl, rfl⟩
    refine Y1 ?_
    refine Zhg (Zlf (x := yesM (isR r)) (y := yesM (isR b)) rfl rfl) ?_
    refine Y4 ?_
    refine Zhg (Zln (x := yesM (isR r) &&& yesM (isR b)) (y := 0#64) rfl rfl) ?_
    refine Zot 20 rfl ((fun hh => by rw [yesM_and, yesM_eq0, hi] at hh; cases hh)) ?_
    refine Y4 ?_
    refine Zor (c := live_x h) (k := ?_)
    rintro _ _ ⟨rfl, rfl⟩
    refine Y2 ?_
    refine Zor (c := live_x hb) (k := ?_)
    rintro _ _ ⟨rfl, rfl⟩
    refine Y6 ?_
    refine Zor (c := group_x h i1) (k := ?_)
    rintro _ _ ⟨rfl, rfl⟩
    refine Y2 ?_
    refine Zor (c := group_x hb i2) (k := ?_)
    rintro _ _ ⟨rfl, rfl⟩
    refine Y1 ?_
    refine Zhz (cs := ((List.replicate 16 0#8).map u8b).toArray) rfl ?_; intro b8
    refine Zhz (cs := ((List.replicate 16 0#8).map u8b).toArray) rfl ?_; intro b9
    first|refine Zhy rfl rfl qR qZ (by first|rfl|exact oneM_u8 _|exact oneL_u8 _|assumption|(simp [oneC]; done)) qZ ?_|refine Zhx rfl rfl qR qZ (by first|rfl|exact oneM_u8 _|exact oneL_u8 _|assumption|(simp [oneC]; done)) qZ rfl ?_
    first|refine Zhy rfl rfl qR qZ (by first|rfl|exact oneM_u8 _|exact oneL_u8 _|assumption|(simp [oneC]; done)) qZ ?_|refine Zhx rfl rfl qR qZ (by first|rfl|exact oneM_u8 _|exact oneL_u8 _|assumption|(simp [oneC]; done)) qZ rfl ?_
    refine V1 ?_
    have q1 : Bs [cl b8 ((grpR r).map u8b).toArray 161, cl b9 ((grpR b).map u8b).toArray 161] (.slice (some ⟨b8, 0, none⟩) 16 16) (grpR r) := bs_full qH l1 (by omega)
    have q2 : Bs [cl b8 ((grpR r).map u8b).toArray 161, cl b9 ((grpR b).map u8b).toArray 161] (.slice (some ⟨b9, 0, none⟩) 16 16) (grpR b) := bs_full qH l2 (by omega)
    refine Ct.o ?_
    refine Zij ([]) [] (.q 0 (.q 1 (.e 2 false (.q 3 .nil)))) (by kernel_rfl) (by kernel_rfl) (Imp.arr Arr.stop) ?_
    refine Zim rfl (Zmy (h := 16) rfl rfl) ?_
    refine Zim rfl (Zmy (h := 16) rfl rfl) ?_
    refine Ziq rfl ?_
    refine Zor (c := before_x q1 q2) (k := ?_)
    rintro _ _ ⟨rfl, rfl⟩
    refine Y1 ?_
    refine Zg3 ⟨(fun hh => Bool.noConfusion hh), ?_⟩
    refine W2 ?_
    refine Ct.o ?_
    refine Zij ([]) [] (.q 0 (.q 1 (.e 2 false (.q 3 .nil)))) (by kernel_rfl) (by kernel_rfl) (Imp.arr Arr.stop) ?_
    refine Zim rfl (Zmy (h := 16) rfl rfl) ?_
    refine Zim rfl (Zmy (h := 16) rfl rfl) ?_
    refine Ziq rfl ?_
    refine Zor (c := before_x q2 q1) (k := ?_)
    rintro _ _ ⟨rfl, rfl⟩
    refine Y1 ?_
    refine Zg3 ⟨(fun hh => Bool.noConfusion hh), ?_⟩
    refine W2 ?_
    refine Y3 ?_
    refine Zor (c := byIdx_x h hb) (k := ?_)
    rintro _ _ ⟨rfl, rfl⟩
    refine Y6 ?_
    refine Zhg (Zlg (x := yesM (ltB (grpR r) (grpR b))) (y := yesM (ltB (grpR b) (grpR r))) rfl rfl) ?_
    refine Y2 ?_
    refine Zor (c := p1) (k := ?_)
    rintro _ _ ⟨rfl, rfl⟩
    refine Y6 ?_
    refine Zhg (Zlh (x := yesM (liveR r)) (y := yesM (liveR b)) rfl rfl) ?_
    refine Y4 ?_
    refine Zor (c := p2) (k := ?_)
    rintro _ _ ⟨rfl, rfl⟩
    refine Y1 ?_
    refine Zor (c := p3) (k := ?_)
    rintro _ _ ⟨rfl, rfl⟩
    refine V3 ?_
    refine rx1 (Zg9 rfl (Zg7)) ?_
    exact ⟨_, ⟨rfl, rfl⟩, qI⟩
  · have e : byGrp r b = false := by unfold byGrp; rw [Bool.not_eq_true] at hi; rw [hi]; rfl
    rw [e]
    refine fn_y Tryz.func46 Tryz.mixed ?_
    intro w0
    refine Y5 ?_
    refine Zor (c := rcIs_x h) (k := ?_)
    rintro _ _ ⟨rfl, rfl⟩
    refine Y2 ?_
    refine Zor (c := rcIs_x hb) (k := ?_)
    rintro _ _ ⟨rfl, rfl⟩
    refine Y1 ?_
    refine Zhg (Zlf (x := yesM (isR r)) (y := yesM (isR b)) rfl rfl) ?_
    refine Y4 ?_
    refine Zhg (Zln (x := yesM (isR r) &&& yesM (isR b)) (y := 0#64) rfl rfl) ?_
    refine Zos 20 rfl ((by rw [yesM_and, yesM_eq0]; simpa using hi)) ?_
    refine V5 ?_
    refine rx1 (Zg9 rfl (Zg7)) ?_
    exact ⟨_, ⟨rfl, rfl⟩, qI⟩
end
end Go.Sl
namespace Go.Sl.NetS
theorem gAt_len (k j i : Nat) : (gAt k j i).length ≤ 1 := by unfold gAt; split <;> simp
theorem flat_len {α β : Type} (f : α → List β) (h : ∀ a, (f a).length ≤ 1) : ∀ l : List α, (l.flatMap f).length ≤ l.length
  | [] => by simp
  | a :: l => by
    have := flat_len f h l
    have := h a
    rw [List.flatMap_cons, List.length_append, List.length_cons]
    omega
theorem gRow_len (n k j : Nat) : (gRow n k j).length ≤ n := by
  have := flat_len (gAt k j) (gAt_len k j) (List.range n)
  rwa [List.length_range] at this
theorem gStage_len (n k : Nat) : ∀ q, (gStage n k q).length ≤ n * (q + 1)
  | 0 => by show (gRow n k 1).length ≤ _; have := gRow_len n k 1; omega
  | q + 1 => by
    show (gRow n k _ ++ gStage n k q).length ≤ _
    have h1 := gRow_len n k (2 ^ (q + 1))
    have h2 := gStage_len n k q
    rw [List.length_append, Nat.mul_succ]
    omega
theorem gTo_len (n : Nat) : ∀ p, (gTo n p).length ≤ n * (p * p)
  | 0 => by show 0 ≤ _; omega
  | p + 1 => by
    show (gTo n p ++ gStage n _ p).length ≤ _
    have h1 := gTo_len n p
    have h2 := gStage_len n (2 ^ (p + 1)) p
    have e : n * ((p + 1) * (p + 1)) = n * (p * p) + (n * (p + 1) + n * p) := by
      have : (p + 1) * (p + 1) = p * p + ((p + 1) + p) := by rw [Nat.add_mul, Nat.mul_add]; omega
      rw [this, Nat.mul_add, Nat.mul_add]
    rw [List.length_append, e]
    omega
theorem gates_len {m : Nat} (h : m ≤ 8) : (gates m).length ≤ 16384 := by
  have h1 := gTo_len (2 ^ m) m
  have h2 : 2 ^ m ≤ 2 ^ 8 := Nat.pow_le_pow_right (by omega) h
  have h3 : m * m ≤ 8 * 8 := Nat.mul_le_mul h h
  have h4 : 2 ^ m * (m * m) ≤ 2 ^ 8 * (8 * 8) := Nat.mul_le_mul h2 h3
  unfold gates
  omega
def pairG (μ : Row → Row → BitVec 64) (rows : List Row) (g : Nat × Nat) : List Row :=
  (rows.set g.1 (Go.Sl.tradeB (μ (rows.getD g.2 []) (rows.getD g.1 [])) (rows.getD g.1 []) (rows.getD g.2 [])).1).set g.2 (Go.Sl.tradeB (μ (rows.getD g.2 []) (rows.getD g.1 [])) (rows.getD g.1 []) (rows.getD g.2 [])).2
end Go.Sl.NetS
namespace Go.Sl
open Go Go.Proofs
attribute [local irreducible] pt old pur ex all den denOps denS xOps xC cX CX xthen xblk xcut xloop xng retX resX Calls PV Rd Con
attribute [local irreducible] hostA pgA qsA NetS.gates xS xT xround
open SlotS (SL Acc Fit QI slv)
open PagerS (PS Over)
open NetS (gates pairG)
theorem twin_x {L : List Asrt} {v : Value} {l : List Byte} (h : Bs L v l) (hl : l.length ≤ 1000000) : Con Tryz.prog 96 [v] L (fun r M => ∃ a c, r = .slice a l.length c ∧ M = ownB a c l :: L) := by
  refine Con.get (fun w0 w F H => h.sh _ _ _ H) ?_
  rintro ⟨va, vc, rfl, hvc, hvcm⟩
  refine fn_y Tryz.func96 Tryz.mixed ?_
  intro w0
  refine Y1 ?_
  refine Zhg (Za2 rfl) ?_; refine Zgw (Imp.own_nil (E := 5) (size := 1)) ?_
  refine Y3 ?_
  refine Zia rfl rfl qH ((h.rd.imp Imp.tail)) (by first|rfl|exact oneM_u8 _|exact oneL_u8 _|exact acc_one _|exact acc_ones _|assumption|(simp [oneC]; done)) (by omega) qS ?_; intro a3 c3
  refine V2 ?_
  refine rx1 (Zhc rfl (Zg7)) ?_
  refine ⟨_, ⟨a3, c3, by rw [Nat.zero_add], rfl⟩, ?_⟩
  unfold ownB
  rw [Nat.zero_add, List.nil_append]
  exact qI
structure BCon (F : FuncId) (fi ca : Array Value) (n : Nat) (X : List Asrt) (μ : List Byte → List Byte → BitVec 64) : Prop where
  callable : callable Tryz.prog F = true
  con : ∀ (a1 a2 : Option Addr) (c1 c2 : Nat) A B, A.length = n → B.length = n → Con Tryz.prog F (fi.toList ++ [.slice a1 n c1, .slice a2 n c2] ++ ca.toList) (ownB a1 c1 A :: ownB a2 c2 B :: X) (fun r M => r = u64b (μ A B) ∧ M = X)
section
variable {F : FuncId} {fi ca : Array Value} {X : List Asrt} {μ : List Byte → List Byte → BitVec 64} {n g a b : Nat} {A B : List Byte}
theorem soOne_x (hc : BCon F fi ca n X μ) (hA : A.length = n) (hB : B.length = n) (hn : n ≤ 4096) :
    Con Tryz.prog 94 [fsl a n, fsl b n, .pointer (some ⟨g, 0, none⟩)] (blk a A :: blk b B :: cl g #[.func (.func F) fi ca] 92 :: X) (fun r M => M = blk a (tradeB (μ B A) A B).1 :: blk b (tradeB (μ B A) A B).2 :: cl g #[.func (.func F) fi ca] 92 :: X) := by
  have t1 := twin_x (L := [blk b B]) (v := fsl b n) (bs_full (l := B) .here hB (by omega)) (by omega)
  have t2 := twin_x (L := [blk a A]) (v := fsl a n) (bs_full (l := A) .here hA (by omega)) (by omega)
  rw [hB] at t1
  rw [hA] at t2
  have tr := trade_x (L := []) (a := a) (b := b) (μ B A) hA hB hn
  refine fn_y Tryz.func94 Tryz.mixed ?_
  intro w0
  refine Ct.o ?_
  refine Zij ([cl g #[.func (.func F) fi ca] 92]) [2, 4] (.q 1 (.q 3 (.q 6 (.q 7 (.r 0 (.e 2 true (.e 4 true (.e 5 false (.e 8 false .nil))))))))) (by kernel_rfl) (by kernel_rfl) (Imp.arr qV) ?_
  refine W5 ?_
  refine Ziq rfl ?_
  refine Zor (c := t1) (k := ?_)
  rintro _ _ ⟨a1, c1, rfl, rfl⟩
  refine Y1 ?_
  refine Zg3 ⟨fun _ => Imp.arr qV, ?_⟩
  refine Ziq rfl ?_
  refine Zor (c := t2) (k := ?_)
  rintro _ _ ⟨a2, c2, rfl, rfl⟩
  refine Y1 ?_
  refine Zg3 ⟨fun _ => Imp.arr qV, ?_⟩
  refine Ziq rfl ?_; refine Zh8 rfl hc.callable (hc.con a1 a2 c1 c2 B A hB hA) rfl qT ?_; rintro _ _ ⟨rfl, rfl⟩; refine Zg2 qA ?_; refine Zg3 ⟨(fun hh => Bool.noConfusion hh), ?_⟩
  refine Ziq rfl ?_
  refine Zor (c := tr) (k := ?_)
  rintro _ _ ⟨rfl, rfl⟩
  refine Y1 ?_
  refine Zg3 ⟨(fun hh => Bool.noConfusion hh), ?_⟩
  refine Zik ?_
  refine Ct.o ?_
  all_goals
    first|refine rx0 ?_|refine rx0n ?_
    exact ⟨_, rfl, qI⟩
theorem soOne_con (hc : BCon F fi ca n X μ) (hn : n ≤ 4096) : FCon 94 #[] #[.pointer (some ⟨g, 0, none⟩)] n (cl g #[.func (.func F) fi ca] 92 :: X) (fun A B => tradeB (μ B A) A B) (fun _ _ _ _ Z => Z = cl g #[.func (.func F) fi ca] 92 :: X) :=
  ⟨by kernel_rfl, fun A B hA hB => ⟨(tradeB_len _ A B).1.trans hA, (tradeB_len _ A B).2.trans hB⟩, fun a b A B hA hB => (soOne_x hc hA hB hn).mono fun r M hM => ⟨M, Imp.refl _, _, rfl, hM⟩⟩
end
section
variable {q pp ph : Nat} {s0 : SL} {tg : PS × HostS.HS} {rows : List (List Byte)} {log : List Acc} {L : List Asrt} {F : FuncId} {fi ca : Array Value} {μ : List Byte → List Byte → BitVec 64}
theorem sfits_x (n : Nat) (h : n ≤ s0.n) : Con Tryz.prog 91 [hp q, nvv n] [qsA q pp ph s0 tg rows log] (fun r M => r = nvv 0 ∧ M = [qsA q pp ph s0 tg rows log]) := by
  refine fn_y Tryz.func91 Tryz.mixed ?_
  intro w0
  refine Y6 ?_
  refine Zhn 6 rfl (rfl) ?_
  refine Y5 ?_
  refine Zot 8 rfl ((by omega)) ?_
  refine Y3 ?_
  first|refine Y0 ?_|(refine Zhh rfl ?_; (refine Zor (c := qlen_x) (k := ?_)); (rintro _ _ ⟨rfl, rfl⟩); (refine Zg2 qA ?_))
  first|refine Y0 ?_|(refine Zhh rfl ?_; (refine Zhg (Zmh (a := n) (b := s0.n) rfl rfl) ?_))
  refine Zot 13 rfl ((by omega)) ?_
  refine V6 ?_
  refine rx1 (Zg9 rfl (Zg7)) ?_
  exact ⟨_, ⟨rfl, rfl⟩, qI⟩
def accG (g : Nat × Nat) : Acc := (2, (g.1 : Int), (g.2 : Int))
theorem soSort_x {n m : Nat} {gs : List (Nat × Nat)} (hn : n ≤ 256) (hns : n ≤ s0.n) (hpad : padN n = n) (hgs : ∀ b, Gives Tryz.prog 127 [.pointer (some ⟨b, 0, none⟩)] [cl b #[nvv n] 3] (gs.map encG)) (hok : ∀ g ∈ gs, NetS.okG s0.n g) (hlog : log.length + gs.length ≤ 2000000) (hz : s0.size ≤ 4096) (hc : BCon F fi ca s0.size L μ) :
    Con Tryz.prog 50 [hp q, nvv n, .func (.func F) fi ca] (qsA q pp ph s0 tg rows log :: L) (fun r M => r = nvv 0 ∧ M = qsA q pp ph s0 tg (gs.foldl (pairG μ) rows) (log ++ gs.map accG) :: L) := by
  refine fn_s (n := 33) Tryz.func50 rfl rfl (by kernel_rfl) ?_
  intro w0
  refine xS_seq Tryz.mixed rfl (by kernel_rfl) ?_
  refine Y1 ?_
  refine Zh3 rfl ?_; intro b3
  refine Zh0 (v := .func (.func F) fi ca) (cs := #[.func (.func F) fi ca]) rfl rfl ?_; intro b5
  refine Zhz (cs := #[.int .i64 0]) rfl ?_; intro b6
  refine V1 ?_
  refine xS_seq Tryz.mixed rfl (by kernel_rfl) ?_
  refine Y3 ?_
  refine Zor (c := sfits_x (q := q) (pp := pp) (ph := ph) (s0 := s0) (tg := tg) (rows := rows) (log := log) n hns) (k := ?_)
  rintro _ _ ⟨rfl, rfl⟩
  refine Y6 ?_
  refine Zot 14 rfl ((fun hh => hh rfl)) ?_
  refine V2 ?_
  refine xS_seq Tryz.mixed rfl (by kernel_rfl) ?_
  refine Y3 ?_
  refine Zor (c := pad_x n hn) (k := ?_)
  rintro _ _ ⟨rfl, rfl⟩
  refine Y1 ?_
  refine Zhg (Zmk (a := n) (b := padN n) rfl rfl) ?_
  refine Zot 19 rfl ((fun hh => hh hpad.symm)) ?_
  refine V2 ?_
  refine xS_t ?_
  refine xT_seq Tryz.mixed rfl (by kernel_rfl) ?_
  refine Y2 ?_
  refine Zor (c := bitonic_x n) (k := ?_)
  rintro _ _ ⟨bn, rfl, rfl⟩
  refine V2 ?_
  refine xT_rf Tryz.mixed rfl (gf := 127) (lb := #[.pointer (some ⟨bn, 0, none⟩)]) (Mi := [cl bn #[nvv n] 3]) (N := qsA q pp ph s0 tg rows log :: cl b6 #[.int .i64 0] 22 :: cl b5 #[.func (.func F) fi ca] 92 :: cl b3 #[hp q] 28 :: L) (xs := gs.map encG) rfl (by kernel_rfl) (hgs bn) (by exact Imp.refl _) (by kernel_rfl) (fun v hv => by obtain ⟨g, _, rfl⟩ := List.mem_map.1 hv; rfl)
    (S := Nat) (T := Empty) (fun k s => s = k) (fun k => qsA q pp ph s0 tg ((gs.take k).foldl (pairG μ) rows) (log ++ (gs.take k).map accG) :: cl b6 #[.int .i64 0] 22 :: cl b5 #[.func (.func F) fi ca] 92 :: cl b3 #[hp q] 28 :: L) (fun e => e.elim) 0 rfl (by rw [List.take_zero]; show Imp _ (qsA q pp ph s0 tg rows (log ++ []) :: _); rw [List.append_nil]; exact Imp.refl _) ?round ?done (fun t => t.elim)
  case round =>
    rintro k hk s w0 hs
    obtain rfl : k = s := (show s = k from hs).symm
    have hk2 : k < gs.length := by simpa using hk
    have ek : (gs.map encG)[k] = encG gs[k] := by simp
    rw [ek]
    show xC _ _ _ (put _ (some 22) (.agg #[nvv gs[k].1, nvv gs[k].2])) _ _
    obtain ⟨h1, h2, h3⟩ := hok _ (List.getElem_mem hk2)
    have hlk : (log ++ (gs.take k).map accG).length ≤ 2000000 := by simp; omega
    have hp2 := qpair_x (q := q) (pp := pp) (ph := ph) (tg := tg) (rows := (gs.take k).foldl (pairG μ) rows) (log := log ++ (gs.take k).map accG) hlk h1 h2 h3 (soOne_con (g := b5) hc hz)
    have e1 : pairR (fun A B => tradeB (μ B A) A B) ((gs.take k).foldl (pairG μ) rows) gs[k].1 gs[k].2 = (gs.take (k + 1)).foldl (pairG μ) rows := by
      rw [List.take_succ_eq_append_getElem hk2, List.foldl_append]
      rfl
    have e2 : (log ++ (gs.take k).map accG) ++ [(2, (gs[k].1 : Int), (gs[k].2 : Int))] = log ++ (gs.take (k + 1)).map accG := by
      rw [List.take_succ_eq_append_getElem hk2, List.map_append, List.append_assoc]
      rfl
    rw [e1, e2] at hp2
    generalize gs[k] = gk at *
    refine Y1 ?_
    refine Zhz (cs := #[.int .i64 0, .int .i64 0]) rfl ?_; intro b8
    first|refine Zhy rfl rfl qR qZ (by first|rfl|exact oneM_u8 _|exact oneL_u8 _|exact acc_one _|exact acc_ones _|assumption|(simp [oneC]; done)) qZ ?_|refine Zhx rfl rfl qR qZ (by first|rfl|exact oneM_u8 _|exact oneL_u8 _|exact acc_one _|exact acc_ones _|assumption|(simp [oneC]; done)) qZ rfl ?_
    refine Y8 ?_
    refine Zor (c := hp2) (k := ?_)
    rintro _ _ ⟨rfl, a1, a2, Z, rfl, rfl⟩
    refine Y6 ?_
    refine Zot 31 rfl ((fun hh => hh rfl)) ?_
    refine V2 ?_
    exact Zoy (k + 1) rfl qI
  case done =>
    rintro s D hs
    obtain rfl : s = gs.length := (show s = _ from hs).trans (by simp)
    rw [List.take_length]
    refine xS_c (rs := [.cell 6 22]) Tryz.mixed rfl (by kernel_rfl) ?_
    refine Zgp Imp.fst ?_
    refine V3 ?_
    refine rx1 (Zhf rfl qH (Zg7)) ?_
    exact ⟨_, ⟨rfl, rfl⟩, qI⟩
end
end Go.Sl
namespace Go.Sl
open Go Go.Proofs
attribute [local irreducible] pt old pur ex all den denOps denS xOps xC cX CX xthen xblk xcut xloop xng retX resX Calls PV Rd Con
attribute [local irreducible] hostA pgA qsA NetS.gates xS xT xround
open SlotS (SL Acc Fit QI slv)
open PagerS (PS Over)
open NetS (gates pairG)
theorem drop2 {A B : Asrt} {L : List Asrt} : Imp (A :: B :: L) L := Imp.tail.trans Imp.tail
theorem byGrp_con {n : Nat} {L : List Asrt} : BCon 46 #[] #[] n L (fun a b => yesM (byGrp a b)) :=
  ⟨by kernel_rfl, fun a1 a2 c1 c2 A B hA hB => by
    subst hA
    have h1 : Bs (ownB a1 c1 A :: ownB a2 c2 B :: L) (.slice a1 A.length c1) A := Bs.own .here
    have h2 : Bs (ownB a1 c1 A :: ownB a2 c2 B :: L) (.slice a2 A.length c2) B := by rw [← hB]; exact Bs.own (.there .here)
    refine (byGrp_x h1 h2).mono ?_
    rintro r M ⟨h3, h4⟩
    subst h4
    exact ⟨_, drop2, h3, rfl⟩⟩
def orW (μ : List Byte → List Byte → BitVec 64) (rows : List (List Byte)) : Nat → BitVec 64
  | 0 => 0#64
  | i + 1 => if 0 < i then orW μ rows i ||| μ (rows.getD i []) (rows.getD (i - 1) []) else orW μ rows i
def getsL (i : Nat) : List Acc := (List.range i).map fun k : Nat => ((0, (k : Int), 0) : Acc)
theorem getsL_succ (i : Nat) : getsL (i + 1) = getsL i ++ [(0, (i : Int), 0)] := by unfold getsL; rw [List.range_succ, List.map_append]; rfl
theorem getsL_len (i : Nat) : (getsL i).length = i := by unfold getsL; simp
def lastR (rows : List (List Byte)) (i : Nat) : List Byte := if 0 < i then rows.getD (i - 1) [] else []
section
variable {q pp ph : Nat} {s0 : SL} {tg : PS × HostS.HS} {rows : List (List Byte)} {log : List Acc} {L : List Asrt} {F : FuncId} {fi ca : Array Value} {μ : List Byte → List Byte → BitVec 64}
theorem soSorted_x {n : Nat} (hns : n ≤ s0.n) (hn : n ≤ 1000) (hlog : log.length + n ≤ 2000000) (hz : s0.size ≤ 4096) (hrl : ∀ k, k < s0.n → (rows.getD k []).length = s0.size) (hc : BCon F fi ca s0.size L μ) :
    Con Tryz.prog 51 [hp q, nvv n, .func (.func F) fi ca] (qsA q pp ph s0 tg rows log :: L) (fun r M => r = .tuple #[.bool (decide (orW μ rows n = 0#64)), nvv 0] ∧ M = qsA q pp ph s0 tg rows (log ++ getsL n) :: L) := by
  refine fn_y Tryz.func51 Tryz.mixed ?_
  intro w0
  refine Y7 ?_
  refine Zor (c := sfits_x (q := q) (pp := pp) (ph := ph) (s0 := s0) (tg := tg) (rows := rows) (log := log) n hns) (k := ?_)
  rintro _ _ ⟨rfl, rfl⟩
  refine Y6 ?_
  refine Zot 18 rfl ((fun hh => hh rfl)) ?_
  refine V12 ?_
  refine Zgo [(6, 7), (9, 13), (21, 43)] (by kernel_rfl) (fun s : Nat × Option Addr × Nat => s.1 ≤ n) (fun s => qsA q pp ph s0 tg rows (log ++ getsL s.1) :: ownB s.2.1 s.2.2 (lastR rows s.1) :: L) (fun s => [(9, .slice s.2.1 (lastR rows s.1).length s.2.2), (10, u64b (orW μ rows s.1)), (21, nvv s.1)]) (fun s => n - s.1) (0, none, 0) (Nat.zero_le _) (by show Imp _ (qsA q pp ph s0 tg rows (log ++ []) :: ownB none 0 [] :: L); rw [List.append_nil]; exact (Imp.cons Imp.own_nil)) ⟨rfl, rfl, rfl, trivial⟩ ?_
  rintro ⟨i, la, lc⟩ u hi
  dsimp only at hi ⊢
  refine V3 ?_
  refine Zgg rfl (fun hB => ?_) (fun hB => ?_)
  · have hgt := qget_x (q := q) (pp := pp) (ph := ph) (s0 := s0) (tg := tg) (rows := rows) (log := log ++ getsL i) (by rw [List.length_append, getsL_len]; omega) (m := i) (by omega)
    have hri := hrl i (by omega)
    have e1 : lastR rows (i + 1) = rows.getD i [] := by unfold lastR; rw [if_pos (by omega), Nat.add_sub_cancel]
    have e2 : log ++ getsL i ++ [(0, (i : Int), 0)] = log ++ getsL (i + 1) := by rw [getsL_succ, List.append_assoc]
    rw [e2] at hgt
    by_cases h0 : 0 < i
    · have hrj := hrl (i - 1) (by omega)
      have e3 : lastR rows i = rows.getD (i - 1) [] := by unfold lastR; rw [if_pos h0]
      have e4 : orW μ rows (i + 1) = orW μ rows i ||| μ (rows.getD i []) (rows.getD (i - 1) []) := by show (if 0 < i then _ else _) = _; rw [if_pos h0]
      have htw := fun ga gc => twin_x (L := [ownB ga gc (rows.getD i [])]) (v := .slice ga (rows.getD i []).length gc) (Bs.own .here) (by omega)
      have hbe := fun a1 c1 a2 c2 => hc.con a1 a2 c1 c2 (rows.getD i []) (rows.getD (i - 1) []) hri hrj
      rw [hri] at hgt htw
      rw [e3, hrj]
      refine Y7 ?_
      refine Zor (c := hgt) (k := ?_)
      rintro _ _ ⟨ga, gc, rfl, rfl⟩
      refine Y10 ?_
      refine Zot 31 rfl ((fun hh => hh rfl)) ?_
      refine Y4 ?_
      refine Zhg (Zmh (a := i) (b := 0) rfl rfl) ?_
      refine Zos 34 rfl (h0) ?_
      refine Y6 ?_
      refine Zor (c := htw ga gc) (k := ?_)
      rintro _ _ ⟨ta, tc, rfl, rfl⟩
      refine Y2 ?_
      refine Zh8 rfl hc.callable (hbe ta tc la lc) rfl qT ?_; rintro _ _ ⟨rfl, rfl⟩; refine Zg2 qA ?_
      refine Zhg (Zlg (x := orW μ rows i) (y := μ (rows.getD i []) (rows.getD (i - 1) [])) rfl rfl) ?_
      refine V10 ?_
      exact Zgl (i + 1, ga, gc) qO (by dsimp only; omega) (by dsimp only; rw [e1]; exact qI) ⟨by dsimp only; rw [e1, hri]; rfl, by dsimp only; rw [e4]; rfl, rfl, trivial⟩
    · have e4 : orW μ rows (i + 1) = orW μ rows i := by show (if 0 < i then _ else _) = _; rw [if_neg h0]
      refine Y7 ?_
      refine Zor (c := hgt) (k := ?_)
      rintro _ _ ⟨ga, gc, rfl, rfl⟩
      refine Y10 ?_
      refine Zot 31 rfl ((fun hh => hh rfl)) ?_
      refine Y4 ?_
      refine Zhg (Zmh (a := i) (b := 0) rfl rfl) ?_
      refine Zot 34 rfl (h0) ?_
      refine V10 ?_
      exact Zgl (i + 1, ga, gc) qO (by dsimp only; omega) (by dsimp only; rw [e1]; exact qI) ⟨by dsimp only; rw [e1]; rfl, by dsimp only; rw [e4]; rfl, rfl, trivial⟩
  · obtain rfl : i = n := by omega
    refine Y2 ?_
    refine Zhg (Zln (x := orW μ rows i) (y := 0#64) rfl rfl) ?_
    refine V3 ?_
    refine rx2 (Zha rfl (Zg9 rfl (Zg7))) ?_
    exact ⟨_, ⟨rfl, rfl⟩, qI⟩
end
end Go.Sl
namespace Go.Sl
open Go Go.Proofs
attribute [local irreducible] pt old pur ex all den denOps denS xOps xC cX CX xthen xblk xcut xloop xng retX resX Calls PV Rd Con
attribute [local irreducible] hostA pgA PagerS.loadP PagerS.saveP SlotS.getS SlotS.setS SlotS.pairL SlotS.pairE SlotS.ghost NetS.gates xS xT xround
open SlotS (SL Acc Fit QI slv ghost Cut brk)
open PagerS (PS Over)
open NetS (pairG)
def brF (q pp ph : Nat) (s0 : SL) (tg : PS × HostS.HS) (f : HostS.Fault) (F : Nat) (rows : List (List Byte)) (log : List Acc) (t : PS × HostS.HS × Bk) : Asrt := all [pur (QI s0 tg rows log t.1 t.2.1 t.2.2 ∧ t.2.1.ops ≤ F), slA q pp (slv s0 log), pgA pp ph t.1, hostA ph (brk f t.2.1)]
def brA (q pp ph : Nat) (s0 : SL) (tg : PS × HostS.HS) (f : HostS.Fault) (F : Nat) (rows : List (List Byte)) (log : List Acc) : Asrt := ex (brF q pp ph s0 tg f F rows log)
def sgF (q pp ph : Nat) (s : SL) (R : HostS.HS → Prop) (t : PS × HostS.HS) : Asrt := all [pur (R t.2), slA q pp s, pgA pp ph t.1, hostA ph t.2]
def sgA (q pp ph : Nat) (s : SL) (R : HostS.HS → Prop) : Asrt := ex (sgF q pp ph s R)
section
variable {q pp ph : Nat} {s0 : SL} {tg : PS × HostS.HS} {f : HostS.Fault} {F : Nat} {rows : List (List Byte)} {log : List Acc} {p : PS} {h : HostS.HS} {b : Bk} {L : List Asrt} {s : SL} {R : HostS.HS → Prop}
theorem brA_mk (k : QI s0 tg rows log p h b) (kF : h.ops ≤ F) : Imp (slA q pp (slv s0 log) :: pgA pp ph p :: hostA ph (brk f h) :: L) (brA q pp ph s0 tg f F rows log :: L) :=
  (Imp.pur_mk (⟨k, kF⟩ : QI s0 tg rows log p h b ∧ h.ops ≤ F)).trans ((Imp.app (L := [pur (QI s0 tg rows log p h b ∧ h.ops ≤ F), slA q pp (slv s0 log), pgA pp ph p, hostA ph (brk f h)]) (M := L)).trans (Imp.head fun g hg => by unfold brA Sl.ex; exact Exists.intro (p := fun x => (brF q pp ph s0 tg f F rows log x).on g) (p, h, b) hg))
theorem sgA_mk (k : R h) : Imp (slA q pp s :: pgA pp ph p :: hostA ph h :: L) (sgA q pp ph s R :: L) :=
  (Imp.pur_mk k).trans ((Imp.app (L := [pur (R h), slA q pp s, pgA pp ph p, hostA ph h]) (M := L)).trans (Imp.head fun g hg => by unfold sgA Sl.ex; exact Exists.intro (p := fun x => (sgF q pp ph s R x).on g) (p, h) hg))
theorem Con.brA {F0 : FuncId} {args : List Value} {Φ : Value → List Asrt → Prop} (hc : ∀ p h b, QI s0 tg rows log p h b → h.ops ≤ F → Con Tryz.prog F0 args (Sl.slA q pp (slv s0 log) :: Sl.pgA pp ph p :: Sl.hostA ph (brk f h) :: L) Φ) : Con Tryz.prog F0 args (Sl.brA q pp ph s0 tg f F rows log :: L) Φ :=
  Con.ex fun t => Con.pre (Con.pur fun k => hc t.1 t.2.1 t.2.2 k.1 k.2) (Imp.unapp (L := [Sl.pur (QI s0 tg rows log t.1 t.2.1 t.2.2 ∧ t.2.1.ops ≤ F), Sl.slA q pp (slv s0 log), Sl.pgA pp ph t.1, Sl.hostA ph (brk f t.2.1)]) (M := L))
theorem x_brA {w0 : World} {cd : Code} {ρ : Env} {Q : XQ} (k : ∀ p h b, QI s0 tg rows log p h b → h.ops ≤ F → xC Tryz.prog w0 cd ρ (slA q pp (slv s0 log) :: pgA pp ph p :: hostA ph (brk f h) :: L) Q) : xC Tryz.prog w0 cd ρ (brA q pp ph s0 tg f F rows log :: L) Q := by
  unfold brA
  exact Zgr fun t => Zgp (Imp.unapp (L := [pur (QI s0 tg rows log t.1 t.2.1 t.2.2 ∧ t.2.1.ops ≤ F), slA q pp (slv s0 log), pgA pp ph t.1, hostA ph (brk f t.2.1)]) (M := L)) (Zgq fun hq => k t.1 t.2.1 t.2.2 hq.1 hq.2)
theorem x_sgA {w0 : World} {cd : Code} {ρ : Env} {Q : XQ} (k : ∀ p h, R h → xC Tryz.prog w0 cd ρ (slA q pp s :: pgA pp ph p :: hostA ph h :: L) Q) : xC Tryz.prog w0 cd ρ (sgA q pp ph s R :: L) Q := by
  unfold sgA
  exact Zgr fun t => Zgp (Imp.unapp (L := [pur (R t.2), slA q pp s, pgA pp ph t.1, hostA ph t.2]) (M := L)) (Zgq fun hq => k t.1 t.2 hq)
theorem br_over (k : QI s0 tg rows log p h b) : Over p (brk f h) := ⟨k.quiet.sound.over.pages, k.quiet.sound.over.size⟩
theorem brset_x (c : Cut f F) (hl : log.length ≤ 2000000) {m : Nat} (hm : m < s0.n) {vb : Value} {v : List Byte} (hv : v.length = s0.size) (hb : Bs L vb v) (hle : (ghost s0 tg (log ++ [(1, (m : Int), 0)])).2.ops ≤ F) : Con Tryz.prog 31 [hp q, nvv m, vb] (brA q pp ph s0 tg f F rows log :: L) (fun r M => r = nvv 0 ∧ M = brA q pp ph s0 tg f F (rows.set m v) (log ++ [(1, (m : Int), 0)]) :: L) :=
  Con.brA fun p h b k kF => by
    obtain ⟨e1, e2, k2⟩ := k.set hl hm hv
    have hop := k.ops
    have ho2 := k2.two.hr.ops
    have hbo : (brk f h).ops = h.ops := rfl
    rcases SlotS.set_out (s := slv s0 log) (p := p) c k.quiet.calm kF (m : Int) v with e|e
    · refine (sset_x (q := q) (pp := pp) (ph := ph) k.fit k.quiet.sound.ok (br_over k) (by omega) (by show log.length ≤ _; omega) (m : Int) hb).mono ?_
      rintro r M ⟨rfl, rfl⟩
      rw [e]
      dsimp only
      rw [e1, e2]
      exact ⟨_, brA_mk k2 (by omega), rfl, rfl⟩
    · omega
theorem brpair_x {F0 : FuncId} {fi ca : Array Value} {φ : List Byte → List Byte → List Byte × List Byte} (c : Cut f F) (hl : log.length ≤ 2000000) {m j : Nat} (hm : m < s0.n) (hj : j < s0.n) (hmj : m ≠ j) (hc : FCon F0 fi ca s0.size L φ (fun _ _ _ _ Z => Z = L)) :
    Con Tryz.prog 32 [hp q, nvv m, nvv j, .func (.func F0) fi ca] (brA q pp ph s0 tg f F rows log :: L) (fun r M => ∃ e : Nat, (e = 0 ∨ (e = 110 ∧ F < (ghost s0 tg (log ++ [(2, (m : Int), (j : Int))])).2.ops)) ∧ r = nvv e ∧ M = (if e = 0 then brA q pp ph s0 tg f F (pairR φ rows m j) (log ++ [(2, (m : Int), (j : Int))]) else sgA q pp ph (slv s0 (log ++ [(2, (m : Int), (j : Int))])) (fun g => g.log <+: (ghost s0 tg (log ++ [(2, (m : Int), (j : Int))])).2.log ∧ ((110 : Nat) = 0 → g.log = (ghost s0 tg (log ++ [(2, (m : Int), (j : Int))])).2.log) ∧ g.ops ≤ 3000000000000)) :: L) :=
  Con.brA fun p h b k kF => by
    obtain ⟨hv, hw⟩ := hc.len _ _ (k.rlen hm) (k.rlen hj)
    obtain ⟨e1, e2, e3, e4, k2⟩ := k.pair hl hm hj hmj hv hw
    have hop := k.ops
    have hbo : (brk f h).ops = h.ops := rfl
    have ho2 := k2.two.hr.ops
    have hl2 := k2.two.hr.log
    have htl : (slv s0 log).log.length ≤ 4000000000000 := by show log.length ≤ _; omega
    have n0 := SlotS.pairL_near (slv s0 log) p (brk f h) m j
    rcases SlotS.pairL_out (s := slv s0 log) (p := p) c k.quiet.calm kF m j with ⟨o, o2, o3⟩|⟨o, o2, o3⟩
    · have h0 : (SlotS.pairL (slv s0 log) p (brk f h) m j).1.1 = 0 := by rw [o]; exact e1
      refine (pair_ok (q := q) (pp := pp) (ph := ph) (X := L) k.fit k.quiet.sound.ok (br_over k) (by omega) htl (i := m) (j := j) hm hj hmj hc h0).mono ?_
      rintro r M ⟨A, B, E, hA, hB, hE, hr, a, c', Z, hY, hM⟩
      rw [o] at hA hB hE
      dsimp only at hA hB hE
      have hA : A = rows.getD m [] := hA.trans e2
      have hB : B = rows.getD j [] := hB.trans e3
      subst hA hB
      rw [o] at n0
      dsimp only at n0
      have n1 := SlotS.pairE_near (slv s0 log) (SlotS.pairL (slv s0 log) p h m j).2.1 (brk f (SlotS.pairL (slv s0 log) p h m j).2.2) m j (SlotS.pairL (slv s0 log) p h m j).1.2.1 (SlotS.pairL (slv s0 log) p h m j).1.2.2 (φ (rows.getD m []) (rows.getD j [])).1 (φ (rows.getD m []) (rows.getD j [])).2
      have hno := n0.ops
      have hno1 := n1.ops
      rcases SlotS.pairE_out (s := slv s0 log) (p := (SlotS.pairL (slv s0 log) p h m j).2.1) c o2 o3 m j (SlotS.pairL (slv s0 log) p h m j).1.2.1 (SlotS.pairL (slv s0 log) p h m j).1.2.2 (φ (rows.getD m []) (rows.getD j [])).1 (φ (rows.getD m []) (rows.getD j [])).2 with ⟨u, u2, u3⟩|⟨u, u2, u3⟩
      · have hE2 := hE.trans u
        subst hE2 hY hM hr
        dsimp only
        rw [e4]
        refine ⟨_, ?_, 0, .inl rfl, rfl, rfl⟩
        rw [if_pos rfl]
        exact (brA_mk (s0 := s0) (tg := tg) (rows := pairR φ rows m j) (log := log ++ [(2, (m : Int), (j : Int))]) k2 u3).trans (Imp.cons (Imp.tail.trans Imp.tail))
      · subst hE hY hM hr
        rw [show (SlotS.pairE (slv s0 log) (SlotS.pairL (slv s0 log) p h m j).2.1 (brk f (SlotS.pairL (slv s0 log) p h m j).2.2) m j (SlotS.pairL (slv s0 log) p h m j).1.2.1 (SlotS.pairL (slv s0 log) p h m j).1.2.2 (φ (rows.getD m []) (rows.getD j [])).1 (φ (rows.getD m []) (rows.getD j [])).2).1 = 110 from u]
        refine ⟨_, ?_, 110, .inr ⟨rfl, by rw [← ho2]; exact u3⟩, rfl, rfl⟩
        rw [if_neg (by decide)]
        exact (sgA_mk (s := slv s0 (log ++ [(2, (m : Int), (j : Int))])) ⟨by rw [← hl2]; exact u2, fun hh => absurd hh (by decide), by omega⟩).trans (Imp.cons (Imp.tail.trans Imp.tail))
    · have hne : (SlotS.pairL (slv s0 log) p (brk f h) m j).1.1 ≠ 0 := fun hh => by have := o.symm.trans hh; cases this
      have o' : (SlotS.pairL (slv s0 log) p (brk f h) m j).1.1 = 110 := o
      have gr := SlotS.grow_pairE (slv s0 log) (SlotS.pairL (slv s0 log) p h m j).2.1 (SlotS.pairL (slv s0 log) p h m j).2.2 m j (SlotS.pairL (slv s0 log) p h m j).1.2.1 (SlotS.pairL (slv s0 log) p h m j).1.2.2 (φ (rows.getD m []) (rows.getD j [])).1 (φ (rows.getD m []) (rows.getD j [])).2
      have hno := n0.ops
      have gl := gr.log
      have go := gr.ops
      refine ((pair_err (q := q) (pp := pp) (ph := ph) (F := F0) (fi := fi) (ca := ca) k.fit k.quiet.sound.ok (br_over k) (by omega) htl (i := m) (j := j) hm hj hmj hne).frame (L := L)).mono ?_
      rintro r M ⟨M', ⟨hr, hM'⟩, hM⟩
      subst hM' hM hr
      rw [o']
      refine ⟨_, ?_, 110, .inr ⟨rfl, by rw [← ho2]; omega⟩, rfl, rfl⟩
      rw [if_neg (by decide)]
      exact sgA_mk (s := slv s0 (log ++ [(2, (m : Int), (j : Int))])) ⟨by rw [← hl2]; exact o2.trans gl, fun hh => absurd hh (by decide), by omega⟩
end
section
variable {q pp ph : Nat} {s0 : SL} {tg : PS × HostS.HS} {rows : List (List Byte)} {log : List Acc} {L : List Asrt} {F0 : FuncId} {fi ca : Array Value} {μ : List Byte → List Byte → BitVec 64} {f : HostS.Fault} {F : Nat}
theorem brfits_x (n : Nat) (hn : n ≤ s0.n) : Con Tryz.prog 91 [hp q, nvv n] [brA q pp ph s0 tg f F rows log] (fun r M => r = nvv 0 ∧ M = [brA q pp ph s0 tg f F rows log]) := by
  have hln : Con Tryz.prog 26 [hp q] [brA q pp ph s0 tg f F rows log] (fun r M => r = nvv s0.n ∧ M = [brA q pp ph s0 tg f F rows log]) :=
    Con.brA (L := []) fun p h b k kF => by
      refine ((slen_x (q := q) (pp := pp) (s := slv s0 log)).frame (L := [pgA pp ph p, hostA ph (brk f h)])).mono ?_
      rintro r M ⟨M', ⟨h1, h2⟩, h3⟩
      subst h2 h3
      exact ⟨_, brA_mk (L := []) k kF, h1, rfl⟩
  refine fn_y Tryz.func91 Tryz.mixed ?_
  intro w0
  refine Y6 ?_
  refine Zhn 6 rfl (rfl) ?_
  refine Y5 ?_
  refine Zot 8 rfl ((by omega)) ?_
  refine Y3 ?_
  first|refine Y0 ?_|(refine Zhh rfl ?_; (refine Zor (c := hln) (k := ?_)); (rintro _ _ ⟨rfl, rfl⟩); (refine Zg2 qA ?_))
  first|refine Y0 ?_|(refine Zhh rfl ?_; (refine Zhg (Zmh (a := n) (b := s0.n) rfl rfl) ?_))
  refine Zot 13 rfl ((by omega)) ?_
  refine V6 ?_
  refine rx1 (Zg9 rfl (Zg7)) ?_
  exact ⟨_, ⟨rfl, rfl⟩, qI⟩
theorem brSort_x {n m : Nat} {gs : List (Nat × Nat)} (hcut : Cut f F) (hn : n ≤ 256) (hns : n ≤ s0.n) (hpad : padN n = n) (hgs : ∀ b, Gives Tryz.prog 127 [.pointer (some ⟨b, 0, none⟩)] [cl b #[nvv n] 3] (gs.map encG)) (hok : ∀ g ∈ gs, NetS.okG s0.n g) (hlog : log.length + gs.length ≤ 2000000) (hz : s0.size ≤ 4096) (hc : BCon F0 fi ca s0.size L μ) :
    Con Tryz.prog 50 [hp q, nvv n, .func (.func F0) fi ca] (brA q pp ph s0 tg f F rows log :: L) (fun r M => ∃ (e : Nat) (l : List Acc), l <+: log ++ gs.map accG ∧ ((e = 0 ∧ l = log ++ gs.map accG ∧ (ghost s0 tg l).2.ops ≤ F) ∨ (e = 110 ∧ F < (ghost s0 tg l).2.ops)) ∧ r = nvv e ∧ M = sgA q pp ph (slv s0 l) (fun g => g.log <+: (ghost s0 tg l).2.log ∧ (e = 0 → g.log = (ghost s0 tg l).2.log) ∧ g.ops ≤ 3000000000000) :: L) := by
  refine fn_s (n := 33) Tryz.func50 rfl rfl (by kernel_rfl) ?_
  intro w0
  refine xS_seq Tryz.mixed rfl (by kernel_rfl) ?_
  refine Y1 ?_
  refine Zh3 rfl ?_; intro b3
  refine Zh0 (v := .func (.func F0) fi ca) (cs := #[.func (.func F0) fi ca]) rfl rfl ?_; intro b5
  refine Zhz (cs := #[.int .i64 0]) rfl ?_; intro b6
  refine V1 ?_
  refine xS_seq Tryz.mixed rfl (by kernel_rfl) ?_
  refine Y3 ?_
  refine Zor (c := brfits_x (q := q) (pp := pp) (ph := ph) (s0 := s0) (tg := tg) (f := f) (F := F) (rows := rows) (log := log) n hns) (k := ?_)
  rintro _ _ ⟨rfl, rfl⟩
  refine Y6 ?_
  refine Zot 14 rfl ((fun hh => hh rfl)) ?_
  refine V2 ?_
  refine xS_seq Tryz.mixed rfl (by kernel_rfl) ?_
  refine Y3 ?_
  refine Zor (c := pad_x n hn) (k := ?_)
  rintro _ _ ⟨rfl, rfl⟩
  refine Y1 ?_
  refine Zhg (Zmk (a := n) (b := padN n) rfl rfl) ?_
  refine Zot 19 rfl ((fun hh => hh hpad.symm)) ?_
  refine V2 ?_
  refine xS_t ?_
  refine xT_seq Tryz.mixed rfl (by kernel_rfl) ?_
  refine Y2 ?_
  refine Zor (c := bitonic_x n) (k := ?_)
  rintro _ _ ⟨bn, rfl, rfl⟩
  refine V2 ?_
  refine xT_rf Tryz.mixed rfl (gf := 127) (lb := #[.pointer (some ⟨bn, 0, none⟩)]) (Mi := [cl bn #[nvv n] 3]) (N := brA q pp ph s0 tg f F rows log :: cl b6 #[.int .i64 0] 22 :: cl b5 #[.func (.func F0) fi ca] 92 :: cl b3 #[hp q] 28 :: L) (xs := gs.map encG) rfl (by kernel_rfl) (hgs bn) (by exact Imp.refl _) (by kernel_rfl) (fun v hv => by obtain ⟨g, _, rfl⟩ := List.mem_map.1 hv; rfl)
    (S := Nat) (T := { t : Nat // F < (ghost s0 tg (log ++ (gs.take t).map accG)).2.ops }) (fun k s => s = k) (fun k => brA q pp ph s0 tg f F ((gs.take k).foldl (pairG μ) rows) (log ++ (gs.take k).map accG) :: cl b6 #[.int .i64 0] 22 :: cl b5 #[.func (.func F0) fi ca] 92 :: cl b3 #[hp q] 28 :: L)
    (fun t => sgA q pp ph (slv s0 (log ++ (gs.take t.1).map accG)) (fun g => g.log <+: (ghost s0 tg (log ++ (gs.take t.1).map accG)).2.log ∧ ((110 : Nat) = 0 → g.log = (ghost s0 tg (log ++ (gs.take t.1).map accG)).2.log) ∧ g.ops ≤ 3000000000000) :: cl b6 #[nvv 110] 22 :: cl b5 #[.func (.func F0) fi ca] 92 :: cl b3 #[hp q] 28 :: L) 0 rfl (by rw [List.take_zero]; show Imp _ (brA q pp ph s0 tg f F rows (log ++ []) :: _); rw [List.append_nil]; exact Imp.refl _) ?round ?done ?stop
  case round =>
    rintro k hk s w0 hs
    obtain rfl : k = s := (show s = k from hs).symm
    have hk2 : k < gs.length := by simpa using hk
    have ek : (gs.map encG)[k] = encG gs[k] := by simp
    rw [ek]
    show xC _ _ _ (put _ (some 22) (.agg #[nvv gs[k].1, nvv gs[k].2])) _ _
    obtain ⟨h1, h2, h3⟩ := hok _ (List.getElem_mem hk2)
    have hlk : (log ++ (gs.take k).map accG).length ≤ 2000000 := by simp; omega
    have hp2 := brpair_x (q := q) (pp := pp) (ph := ph) (tg := tg) (rows := (gs.take k).foldl (pairG μ) rows) (log := log ++ (gs.take k).map accG) hcut hlk h1 h2 h3 (soOne_con (g := b5) hc hz)
    have e1 : pairR (fun A B => tradeB (μ B A) A B) ((gs.take k).foldl (pairG μ) rows) gs[k].1 gs[k].2 = (gs.take (k + 1)).foldl (pairG μ) rows := by
      rw [List.take_succ_eq_append_getElem hk2, List.foldl_append]
      rfl
    have e2 : (log ++ (gs.take k).map accG) ++ [(2, (gs[k].1 : Int), (gs[k].2 : Int))] = log ++ (gs.take (k + 1)).map accG := by
      rw [List.take_succ_eq_append_getElem hk2, List.map_append, List.append_assoc]
      rfl
    rw [e1, e2] at hp2
    generalize gs[k] = gk at *
    refine Y1 ?_
    refine Zhz (cs := #[.int .i64 0, .int .i64 0]) rfl ?_; intro b8
    first|refine Zhy rfl rfl qR qZ (by first|rfl|exact oneM_u8 _|exact oneL_u8 _|exact acc_one _|exact acc_ones _|assumption|(simp [oneC]; done)) qZ ?_|refine Zhx rfl rfl qR qZ (by first|rfl|exact oneM_u8 _|exact oneL_u8 _|exact acc_one _|exact acc_ones _|assumption|(simp [oneC]; done)) qZ rfl ?_
    refine Y8 ?_
    refine Zor (c := hp2) (k := ?_)
    rintro _ _ ⟨e, he, rfl, rfl⟩
    refine V3 ?_
    rcases he with rfl|⟨rfl, ho⟩
    · rw [if_pos (rfl : (0 : Nat) = 0)]
      refine Y3 ?_
      refine Zot 31 rfl ((fun hh => hh rfl)) ?_
      refine V2 ?_
      exact Zoy (k + 1) rfl qI
    · rw [if_neg (by decide : ¬ (110 : Nat) = 0)]
      refine Y3 ?_
      refine Zos 31 rfl ((by decide)) ?_
      refine V6 ?_
      exact Zoz ⟨k + 1, ho⟩ qI
  case done =>
    rintro s D hs
    obtain rfl : s = gs.length := (show s = _ from hs).trans (by simp)
    rw [List.take_length]
    refine xS_c (rs := [.cell 6 22]) Tryz.mixed rfl (by kernel_rfl) ?_
    refine Zgp Imp.fst ?_
    refine x_brA ?_
    intro p h b k kF
    have ho2 := k.two.hr.ops
    have hl2 := k.two.hr.log
    have hop := k.ops
    have hll : (log ++ gs.map accG).length ≤ 2000000 := by simp; omega
    refine Zgp (sgA_mk (s := slv s0 (log ++ gs.map accG)) (R := fun g => g.log <+: (ghost s0 tg (log ++ gs.map accG)).2.log ∧ ((0 : Nat) = 0 → g.log = (ghost s0 tg (log ++ gs.map accG)).2.log) ∧ g.ops ≤ 3000000000000) ⟨by rw [← hl2]; exact List.prefix_refl _, fun _ => hl2, by show h.ops ≤ _; omega⟩) ?_
    refine V3 ?_
    refine rx1 (Zhf rfl qH (Zg7)) ?_
    exact ⟨_, ⟨0, log ++ gs.map accG, List.prefix_refl _, .inl ⟨rfl, rfl, by omega⟩, rfl, rfl⟩, qI⟩
  case stop =>
    rintro ⟨t, ht⟩
    have hpre : (log ++ (gs.take t).map accG) <+: log ++ gs.map accG := (List.prefix_append_right_inj _).2 (by rw [List.map_take]; exact List.take_prefix _ _)
    simp only [List.cons_append, List.nil_append]
    refine rx1 (Zhf rfl qH (Zg7)) ?_
    refine ⟨_, ⟨110, log ++ (gs.take t).map accG, hpre, .inr ⟨rfl, ht⟩, rfl, rfl⟩, ?_⟩
    exact Imp.cons (Imp.tail.trans (Imp.tail.trans (Imp.tail.trans Imp.fst)))
end
end Go.Sl
namespace Go.Sl
open Go Go.Proofs Go.ChangeShapes Go.WideShapes Go.ChangeAt Go.RowKit
structure SoFaultV where
  at_ : Int
  kind_ : Int
  page_ : Int
  byte_ : Int
  by_ : BitVec 8
  back_ : Int
def SoFaultV.cells (x : SoFaultV) : List Value := [.int .i64 x.at_] ++ ([.int .i64 x.kind_] ++ ([.int .i64 x.page_] ++ ([.int .i64 x.byte_] ++ ([u8b x.by_] ++ ([.int .i64 x.back_])))))
structure SoFaultVOk (w : World) (x : SoFaultV) : Prop where
  triv : True
  at_ : -9223372036854775808 ≤ x.at_ ∧ x.at_ ≤ 9223372036854775807
  kind_ : -9223372036854775808 ≤ x.kind_ ∧ x.kind_ ≤ 9223372036854775807
  page_ : -9223372036854775808 ≤ x.page_ ∧ x.page_ ≤ 9223372036854775807
  byte_ : -9223372036854775808 ≤ x.byte_ ∧ x.byte_ ≤ 9223372036854775807
  back_ : -9223372036854775808 ≤ x.back_ ∧ x.back_ ≤ 9223372036854775807
theorem SoFaultV.len {w : World} {x : SoFaultV} (h : SoFaultVOk w x) : x.cells.length = 6 := by
  simp [SoFaultV.cells]
section
variable {H : Type} {enc : TypeId × Value → H} {w : World} {base : Nat} {spare : Nat → Bool} {held : Bool}
theorem open_SoFaultV {n : Nat} {cs : List Value} {y : DataW H × List MemPlace} (h : DataW.trod enc Tryz.prog w base spare held n 119 cs = some y) (hs : Small Tryz.prog 119 y.1) : ∃ x : SoFaultV, cs = x.cells ∧ SoFaultVOk w x := by
  obtain ⟨xs, m, _, hx, hl, hn, hf⟩ := DataW.trod_struct Tryz.underlying119 h
  rw [show Tryz.prog.cellsOf 119 = 6 by kernel_rfl] at hl
  have hn : xs.length = 6 := hn
  have g : ∀ i (hi : i < xs.length), xs[i]? = some xs[i] := fun i hi => List.getElem?_eq_getElem hi
  rw [hx] at hs
  have e0 : DataW.trod enc Tryz.prog w base spare held m 3 ((cs.drop 0).take (Tryz.prog.cellsOf 3)) = some (xs[0]'(by omega)) := (hf 0 _ rfl).trans (g 0 (by omega))
  rw [show Tryz.prog.cellsOf 3 = 1 by kernel_rfl] at e0
  obtain ⟨n0, c0, _, wf0⟩ := DataW.trod_int Tryz.underlying3 e0
  have e1 : DataW.trod enc Tryz.prog w base spare held m 3 ((cs.drop 1).take (Tryz.prog.cellsOf 3)) = some (xs[1]'(by omega)) := (hf 1 _ rfl).trans (g 1 (by omega))
  rw [show Tryz.prog.cellsOf 3 = 1 by kernel_rfl] at e1
  obtain ⟨n1, c1, _, wf1⟩ := DataW.trod_int Tryz.underlying3 e1
  have e2 : DataW.trod enc Tryz.prog w base spare held m 3 ((cs.drop 2).take (Tryz.prog.cellsOf 3)) = some (xs[2]'(by omega)) := (hf 2 _ rfl).trans (g 2 (by omega))
  rw [show Tryz.prog.cellsOf 3 = 1 by kernel_rfl] at e2
  obtain ⟨n2, c2, _, wf2⟩ := DataW.trod_int Tryz.underlying3 e2
  have e3 : DataW.trod enc Tryz.prog w base spare held m 3 ((cs.drop 3).take (Tryz.prog.cellsOf 3)) = some (xs[3]'(by omega)) := (hf 3 _ rfl).trans (g 3 (by omega))
  rw [show Tryz.prog.cellsOf 3 = 1 by kernel_rfl] at e3
  obtain ⟨n3, c3, _, wf3⟩ := DataW.trod_int Tryz.underlying3 e3
  have e4 : DataW.trod enc Tryz.prog w base spare held m 5 ((cs.drop 4).take (Tryz.prog.cellsOf 5)) = some (xs[4]'(by omega)) := (hf 4 _ rfl).trans (g 4 (by omega))
  rw [show Tryz.prog.cellsOf 5 = 1 by kernel_rfl] at e4
  obtain ⟨n4, c4, _, wf4⟩ := DataW.trod_int Tryz.underlying5 e4
  obtain ⟨b4, hb4⟩ := u8_of wf4
  rw [hb4] at c4
  have e5 : DataW.trod enc Tryz.prog w base spare held m 3 ((cs.drop 5).take (Tryz.prog.cellsOf 3)) = some (xs[5]'(by omega)) := (hf 5 _ rfl).trans (g 5 (by omega))
  rw [show Tryz.prog.cellsOf 3 = 1 by kernel_rfl] at e5
  obtain ⟨n5, c5, _, wf5⟩ := DataW.trod_int Tryz.underlying3 e5
  refine ⟨⟨n0, n1, n2, n3, b4, n5⟩, ?_, ⟨trivial, i64_of wf0, i64_of wf1, i64_of wf2, i64_of wf3, i64_of wf5⟩⟩
  have d0 : cs.drop 0 = (cs.drop 0).take 1 ++ cs.drop 1 := by
    have := (List.take_append_drop 1 (cs.drop 0)).symm
    rwa [List.drop_drop] at this
  have d1 : cs.drop 1 = (cs.drop 1).take 1 ++ cs.drop 2 := by
    have := (List.take_append_drop 1 (cs.drop 1)).symm
    rwa [List.drop_drop] at this
  have d2 : cs.drop 2 = (cs.drop 2).take 1 ++ cs.drop 3 := by
    have := (List.take_append_drop 1 (cs.drop 2)).symm
    rwa [List.drop_drop] at this
  have d3 : cs.drop 3 = (cs.drop 3).take 1 ++ cs.drop 4 := by
    have := (List.take_append_drop 1 (cs.drop 3)).symm
    rwa [List.drop_drop] at this
  have d4 : cs.drop 4 = (cs.drop 4).take 1 ++ cs.drop 5 := by
    have := (List.take_append_drop 1 (cs.drop 4)).symm
    rwa [List.drop_drop] at this
  have d5 : cs.drop 5 = (cs.drop 5).take 1 := by rw [List.take_of_length_le (by simp; omega)]
  show cs = _ ++ (_ ++ (_ ++ (_ ++ (_ ++ (_)))))
  have dz : cs = cs.drop 0 := rfl
  rw [dz, d0, d1, d2, d3, d4, d5, c0, c1, c2, c3, c4, c5] <;> rfl
end
structure InSoFaultV (W : World) (v : Value) (l : List SoFaultV) : Prop where
  sl : SlW W 6 v l.length (l.flatMap SoFaultV.cells)
  sh : ∃ a c, v = .slice a l.length c ∧ l.length ≤ c ∧ c ≤ 9223372036854775807
  el : ∀ x ∈ l, SoFaultVOk W x
  len : l.length * 48 ≤ 140737488351232
abbrev SoFaultVS (w : World) := {x : SoFaultV // SoFaultVOk w x}
section
variable {H : Type} {enc : TypeId × Value → H} {w : World} {base : Nat} {spare : Nat → Bool} {held : Bool}
theorem opens_SoFaultV {n : Nat} {cs : List Value} {y : DataW H × List MemPlace} (h : DataW.trod enc Tryz.prog w base spare held n 58 cs = some y) (hs : Small Tryz.prog 58 y.1) : ∃ (v : Value) (l : List SoFaultV), cs = [v] ∧ InSoFaultV w v l := by
  obtain ⟨v, l, h1, h2, h3, h4⟩ := open_sls (encd := fun x : SoFaultVS w => x.1.cells) (good := fun _ => True) Tryz.underlying58 (by kernel_rfl) (by decide) (by kernel_rfl : Tryz.prog.bytesOf 119 = 48) (fun x => SoFaultV.len x.2) (fun n cs y hy hsm => by
    obtain ⟨x, hx, ok⟩ := open_SoFaultV hy hsm
    exact ⟨⟨x, ok⟩, hx, trivial⟩) h hs
  obtain ⟨a, len, cap, h5, h6, h7⟩ := slice_shape Tryz.underlying58 h
  rw [h1] at h5
  simp only [List.cons.injEq, and_true] at h5
  obtain ⟨a', k', hv⟩ := h2.len
  rw [h5] at hv
  simp only [Value.slice.injEq] at hv
  obtain ⟨rfl, rfl, rfl⟩ := hv
  have e : (l.map (·.1)).flatMap SoFaultV.cells = l.flatMap fun x => x.1.cells := by rw [List.flatMap_map]
  refine ⟨v, l.map (·.1), h1, ⟨?_, ?_, ?_, ?_⟩⟩
  · rw [e, List.length_map]; exact h2
  · rw [List.length_map]; exact ⟨_, _, h5, h6, h7⟩
  · intro x hx
    obtain ⟨z, _, rfl⟩ := List.mem_map.1 hx
    exact z.2
  · rw [List.length_map]; exact h4
end
structure SoStepV where
  do_ : Int
  n_ : Int
  order_ : Int
def SoStepV.cells (x : SoStepV) : List Value := [.int .i64 x.do_] ++ ([.int .i64 x.n_] ++ ([.int .i64 x.order_]))
structure SoStepVOk (w : World) (x : SoStepV) : Prop where
  triv : True
  do_ : -9223372036854775808 ≤ x.do_ ∧ x.do_ ≤ 9223372036854775807
  n_ : -9223372036854775808 ≤ x.n_ ∧ x.n_ ≤ 9223372036854775807
  order_ : -9223372036854775808 ≤ x.order_ ∧ x.order_ ≤ 9223372036854775807
theorem SoStepV.len {w : World} {x : SoStepV} (h : SoStepVOk w x) : x.cells.length = 3 := by
  simp [SoStepV.cells]
section
variable {H : Type} {enc : TypeId × Value → H} {w : World} {base : Nat} {spare : Nat → Bool} {held : Bool}
theorem open_SoStepV {n : Nat} {cs : List Value} {y : DataW H × List MemPlace} (h : DataW.trod enc Tryz.prog w base spare held n 110 cs = some y) (hs : Small Tryz.prog 110 y.1) : ∃ x : SoStepV, cs = x.cells ∧ SoStepVOk w x := by
  obtain ⟨xs, m, _, hx, hl, hn, hf⟩ := DataW.trod_struct Tryz.underlying110 h
  rw [show Tryz.prog.cellsOf 110 = 3 by kernel_rfl] at hl
  have hn : xs.length = 3 := hn
  have g : ∀ i (hi : i < xs.length), xs[i]? = some xs[i] := fun i hi => List.getElem?_eq_getElem hi
  rw [hx] at hs
  have e0 : DataW.trod enc Tryz.prog w base spare held m 3 ((cs.drop 0).take (Tryz.prog.cellsOf 3)) = some (xs[0]'(by omega)) := (hf 0 _ rfl).trans (g 0 (by omega))
  rw [show Tryz.prog.cellsOf 3 = 1 by kernel_rfl] at e0
  obtain ⟨n0, c0, _, wf0⟩ := DataW.trod_int Tryz.underlying3 e0
  have e1 : DataW.trod enc Tryz.prog w base spare held m 3 ((cs.drop 1).take (Tryz.prog.cellsOf 3)) = some (xs[1]'(by omega)) := (hf 1 _ rfl).trans (g 1 (by omega))
  rw [show Tryz.prog.cellsOf 3 = 1 by kernel_rfl] at e1
  obtain ⟨n1, c1, _, wf1⟩ := DataW.trod_int Tryz.underlying3 e1
  have e2 : DataW.trod enc Tryz.prog w base spare held m 3 ((cs.drop 2).take (Tryz.prog.cellsOf 3)) = some (xs[2]'(by omega)) := (hf 2 _ rfl).trans (g 2 (by omega))
  rw [show Tryz.prog.cellsOf 3 = 1 by kernel_rfl] at e2
  obtain ⟨n2, c2, _, wf2⟩ := DataW.trod_int Tryz.underlying3 e2
  refine ⟨⟨n0, n1, n2⟩, ?_, ⟨trivial, i64_of wf0, i64_of wf1, i64_of wf2⟩⟩
  have d0 : cs.drop 0 = (cs.drop 0).take 1 ++ cs.drop 1 := by
    have := (List.take_append_drop 1 (cs.drop 0)).symm
    rwa [List.drop_drop] at this
  have d1 : cs.drop 1 = (cs.drop 1).take 1 ++ cs.drop 2 := by
    have := (List.take_append_drop 1 (cs.drop 1)).symm
    rwa [List.drop_drop] at this
  have d2 : cs.drop 2 = (cs.drop 2).take 1 := by rw [List.take_of_length_le (by simp; omega)]
  show cs = _ ++ (_ ++ (_))
  have dz : cs = cs.drop 0 := rfl
  rw [dz, d0, d1, d2, c0, c1, c2] <;> rfl
end
structure InSoStepV (W : World) (v : Value) (l : List SoStepV) : Prop where
  sl : SlW W 3 v l.length (l.flatMap SoStepV.cells)
  sh : ∃ a c, v = .slice a l.length c ∧ l.length ≤ c ∧ c ≤ 9223372036854775807
  el : ∀ x ∈ l, SoStepVOk W x
  len : l.length * 24 ≤ 140737488351232
abbrev SoStepVS (w : World) := {x : SoStepV // SoStepVOk w x}
section
variable {H : Type} {enc : TypeId × Value → H} {w : World} {base : Nat} {spare : Nat → Bool} {held : Bool}
theorem opens_SoStepV {n : Nat} {cs : List Value} {y : DataW H × List MemPlace} (h : DataW.trod enc Tryz.prog w base spare held n 82 cs = some y) (hs : Small Tryz.prog 82 y.1) : ∃ (v : Value) (l : List SoStepV), cs = [v] ∧ InSoStepV w v l := by
  obtain ⟨v, l, h1, h2, h3, h4⟩ := open_sls (encd := fun x : SoStepVS w => x.1.cells) (good := fun _ => True) Tryz.underlying82 (by kernel_rfl) (by decide) (by kernel_rfl : Tryz.prog.bytesOf 110 = 24) (fun x => SoStepV.len x.2) (fun n cs y hy hsm => by
    obtain ⟨x, hx, ok⟩ := open_SoStepV hy hsm
    exact ⟨⟨x, ok⟩, hx, trivial⟩) h hs
  obtain ⟨a, len, cap, h5, h6, h7⟩ := slice_shape Tryz.underlying82 h
  rw [h1] at h5
  simp only [List.cons.injEq, and_true] at h5
  obtain ⟨a', k', hv⟩ := h2.len
  rw [h5] at hv
  simp only [Value.slice.injEq] at hv
  obtain ⟨rfl, rfl, rfl⟩ := hv
  have e : (l.map (·.1)).flatMap SoStepV.cells = l.flatMap fun x => x.1.cells := by rw [List.flatMap_map]
  refine ⟨v, l.map (·.1), h1, ⟨?_, ?_, ?_, ?_⟩⟩
  · rw [e, List.length_map]; exact h2
  · rw [List.length_map]; exact ⟨_, _, h5, h6, h7⟩
  · intro x hx
    obtain ⟨z, _, rfl⟩ := List.mem_map.1 hx
    exact z.2
  · rw [List.length_map]; exact h4
end
structure SoWorldV where
  size_ : Int
  text_ : Int
  window_ : Int
  key_ : List Byte
  round_ : BitVec 64
  faults_V : Value
  faults_ : List SoFaultV
  rows_V : Value
  rows_ : List (Value × List Byte)
  script_V : Value
  script_ : List SoStepV
def SoWorldV.cells (x : SoWorldV) : List Value := [.int .i64 x.size_] ++ ([.int .i64 x.text_] ++ ([.int .i64 x.window_] ++ (x.key_.map u8b ++ ([u64b x.round_] ++ ([x.faults_V] ++ ([x.rows_V] ++ ([x.script_V])))))))
structure SoWorldVOk (w : World) (x : SoWorldV) : Prop where
  triv : True
  size_ : -9223372036854775808 ≤ x.size_ ∧ x.size_ ≤ 9223372036854775807
  text_ : -9223372036854775808 ≤ x.text_ ∧ x.text_ ≤ 9223372036854775807
  window_ : -9223372036854775808 ≤ x.window_ ∧ x.window_ ≤ 9223372036854775807
  key_ : x.key_.length = 32
  faults_ : InSoFaultV w x.faults_V x.faults_
  rows_ : InR w x.rows_V x.rows_
  script_ : InSoStepV w x.script_V x.script_
section
variable {H : Type} {enc : TypeId × Value → H} {w : World} {base : Nat} {spare : Nat → Bool} {held : Bool}
theorem open_SoWorldV {n : Nat} {cs : List Value} {y : DataW H × List MemPlace} (h : DataW.trod enc Tryz.prog w base spare held n 84 cs = some y) (hs : Small Tryz.prog 84 y.1) : ∃ x : SoWorldV, cs = x.cells ∧ SoWorldVOk w x := by
  obtain ⟨xs, m, _, hx, hl, hn, hf⟩ := DataW.trod_struct Tryz.underlying84 h
  rw [show Tryz.prog.cellsOf 84 = 39 by kernel_rfl] at hl
  have hn : xs.length = 8 := hn
  have g : ∀ i (hi : i < xs.length), xs[i]? = some xs[i] := fun i hi => List.getElem?_eq_getElem hi
  rw [hx] at hs
  have e0 : DataW.trod enc Tryz.prog w base spare held m 3 ((cs.drop 0).take (Tryz.prog.cellsOf 3)) = some (xs[0]'(by omega)) := (hf 0 _ rfl).trans (g 0 (by omega))
  rw [show Tryz.prog.cellsOf 3 = 1 by kernel_rfl] at e0
  obtain ⟨n0, c0, _, wf0⟩ := DataW.trod_int Tryz.underlying3 e0
  have e1 : DataW.trod enc Tryz.prog w base spare held m 3 ((cs.drop 1).take (Tryz.prog.cellsOf 3)) = some (xs[1]'(by omega)) := (hf 1 _ rfl).trans (g 1 (by omega))
  rw [show Tryz.prog.cellsOf 3 = 1 by kernel_rfl] at e1
  obtain ⟨n1, c1, _, wf1⟩ := DataW.trod_int Tryz.underlying3 e1
  have e2 : DataW.trod enc Tryz.prog w base spare held m 3 ((cs.drop 2).take (Tryz.prog.cellsOf 3)) = some (xs[2]'(by omega)) := (hf 2 _ rfl).trans (g 2 (by omega))
  rw [show Tryz.prog.cellsOf 3 = 1 by kernel_rfl] at e2
  obtain ⟨n2, c2, _, wf2⟩ := DataW.trod_int Tryz.underlying3 e2
  have e3 : DataW.trod enc Tryz.prog w base spare held m 42 ((cs.drop 3).take (Tryz.prog.cellsOf 42)) = some (xs[3]'(by omega)) := (hf 3 _ rfl).trans (g 3 (by omega))
  rw [show Tryz.prog.cellsOf 42 = 32 by kernel_rfl] at e3
  obtain ⟨l3, c3, ok3⟩ := open_ba e3
  have e4 : DataW.trod enc Tryz.prog w base spare held m 43 ((cs.drop 35).take (Tryz.prog.cellsOf 43)) = some (xs[4]'(by omega)) := (hf 4 _ rfl).trans (g 4 (by omega))
  rw [show Tryz.prog.cellsOf 43 = 1 by kernel_rfl] at e4
  obtain ⟨n4, c4, _, wf4⟩ := DataW.trod_int Tryz.underlying43 e4
  obtain ⟨b4, hb4⟩ := u64_of wf4
  rw [hb4] at c4
  have e5 : DataW.trod enc Tryz.prog w base spare held m 58 ((cs.drop 36).take (Tryz.prog.cellsOf 58)) = some (xs[5]'(by omega)) := (hf 5 _ rfl).trans (g 5 (by omega))
  rw [show Tryz.prog.cellsOf 58 = 1 by kernel_rfl] at e5
  have hs5 := Small.part (j := 5) Tryz.underlying84 hs rfl (by rw [List.getElem?_map, g 5 (by omega)]; rfl)
  obtain ⟨v5, l5, c5, ok5⟩ := opens_SoFaultV e5 hs5
  have e6 : DataW.trod enc Tryz.prog w base spare held m 65 ((cs.drop 37).take (Tryz.prog.cellsOf 65)) = some (xs[6]'(by omega)) := (hf 6 _ rfl).trans (g 6 (by omega))
  rw [show Tryz.prog.cellsOf 65 = 1 by kernel_rfl] at e6
  have hs6 := Small.part (j := 6) Tryz.underlying84 hs rfl (by rw [List.getElem?_map, g 6 (by omega)]; rfl)
  obtain ⟨v6, l6, c6, ok6⟩ := open_rs Tryz.underlying65 (by kernel_rfl) (by kernel_rfl) Tryz.underlying66 Tryz.underlying5 (by kernel_rfl) (by kernel_rfl) e6 hs6
  have e7 : DataW.trod enc Tryz.prog w base spare held m 82 ((cs.drop 38).take (Tryz.prog.cellsOf 82)) = some (xs[7]'(by omega)) := (hf 7 _ rfl).trans (g 7 (by omega))
  rw [show Tryz.prog.cellsOf 82 = 1 by kernel_rfl] at e7
  have hs7 := Small.part (j := 7) Tryz.underlying84 hs rfl (by rw [List.getElem?_map, g 7 (by omega)]; rfl)
  obtain ⟨v7, l7, c7, ok7⟩ := opens_SoStepV e7 hs7
  refine ⟨⟨n0, n1, n2, l3, b4, v5, l5, v6, l6, v7, l7⟩, ?_, ⟨trivial, i64_of wf0, i64_of wf1, i64_of wf2, ok3, ok5, ok6, ok7⟩⟩
  have d0 : cs.drop 0 = (cs.drop 0).take 1 ++ cs.drop 1 := by
    have := (List.take_append_drop 1 (cs.drop 0)).symm
    rwa [List.drop_drop] at this
  have d1 : cs.drop 1 = (cs.drop 1).take 1 ++ cs.drop 2 := by
    have := (List.take_append_drop 1 (cs.drop 1)).symm
    rwa [List.drop_drop] at this
  have d2 : cs.drop 2 = (cs.drop 2).take 1 ++ cs.drop 3 := by
    have := (List.take_append_drop 1 (cs.drop 2)).symm
    rwa [List.drop_drop] at this
  have d3 : cs.drop 3 = (cs.drop 3).take 32 ++ cs.drop 35 := by
    have := (List.take_append_drop 32 (cs.drop 3)).symm
    rwa [List.drop_drop] at this
  have d4 : cs.drop 35 = (cs.drop 35).take 1 ++ cs.drop 36 := by
    have := (List.take_append_drop 1 (cs.drop 35)).symm
    rwa [List.drop_drop] at this
  have d5 : cs.drop 36 = (cs.drop 36).take 1 ++ cs.drop 37 := by
    have := (List.take_append_drop 1 (cs.drop 36)).symm
    rwa [List.drop_drop] at this
  have d6 : cs.drop 37 = (cs.drop 37).take 1 ++ cs.drop 38 := by
    have := (List.take_append_drop 1 (cs.drop 37)).symm
    rwa [List.drop_drop] at this
  have d7 : cs.drop 38 = (cs.drop 38).take 1 := by rw [List.take_of_length_le (by simp; omega)]
  show cs = _ ++ (_ ++ (_ ++ (_ ++ (_ ++ (_ ++ (_ ++ (_)))))))
  have dz : cs = cs.drop 0 := rfl
  rw [dz, d0, d1, d2, d3, d4, d5, d6, d7, c0, c1, c2, c3, c4, c5, c6, c7] <;> rfl
end
end Go.Sl
namespace Go.Sl
open Go
def withinN (a : Int) (n : Nat) : Nat := (if a.tmod n < 0 then a.tmod n + n else a.tmod n).toNat
theorem within_is (a : Int) {n : Nat} (hn : 1 ≤ n) : withinN a n < n ∧ (a.tmod n < 0 → a.tmod n + n = withinN a n) ∧ (¬ a.tmod n < 0 → a.tmod n = withinN a n) := by
  have h1 := Int.lt_tmod_of_pos a (b := (n : Int)) (by omega)
  have h2 := Int.tmod_lt_of_pos a (b := (n : Int)) (by omega)
  unfold withinN
  by_cases h : a.tmod n < 0
  · rw [if_pos h]
    exact ⟨by omega, fun _ => by omega, fun hh => absurd h hh⟩
  · rw [if_neg h]
    exact ⟨by omega, fun hh => absurd hh h, fun _ => by omega⟩
def sizedTo (b : List Byte) (n m : Nat) : List Byte := (List.range n).map fun k => if k < m then b.getD k 0#8 else 0#8
theorem sizedTo_len (b : List Byte) (n m : Nat) : (sizedTo b n m).length = n := by simp [sizedTo]
theorem sizedTo_zero (b : List Byte) (n : Nat) : sizedTo b n 0 = List.replicate n 0#8 := by
  apply List.ext_getElem (by simp [sizedTo]); intro j h1 h2; simp [sizedTo]
theorem sizedTo_set {b : List Byte} {n m : Nat} (hb : m < b.length) (h : m < n) : (sizedTo b n m).set m b[m] = sizedTo b n (m + 1) := by
  apply List.ext_getElem (by simp [sizedTo])
  intro j h1 h2
  rw [List.getElem_set]
  simp only [sizedTo, List.getElem_map, List.getElem_range]
  by_cases e : m = j
  · subst e
    rw [if_pos rfl, if_pos (by omega), List.getD_eq_getElem?_getD, List.getElem?_eq_getElem hb]; rfl
  · rw [if_neg e]
    by_cases e2 : j < m
    · rw [if_pos e2, if_pos (by omega)]
    · rw [if_neg e2, if_neg (by omega)]
def sizedB (b : List Byte) (n : Nat) : List Byte := sizedTo b n (min n b.length)
theorem sizedB_len (b : List Byte) (n : Nat) : (sizedB b n).length = n := sizedTo_len _ _ _
end Go.Sl
namespace Go.Sl
open Go Go.Proofs
attribute [local irreducible] pt old pur ex all den denOps denS xOps xC cX CX xthen xblk xcut xloop xng retX resX Calls PV Rd Con
attribute [local irreducible] hostA pgA
open SlotS (SL Acc Fit)
open PagerS (PS Over)
theorem take_le {n per : Nat} (h1 : 1 ≤ per) (hn : n ≤ 9223372036854775807) (h0 : n % per ≠ 0) : n / per + 1 ≤ 9223372036854775807 := by
  have h2 : 2 ≤ per := by
    by_cases e : per = 1
    · subst e; omega
    · omega
  have : n / per ≤ n / 2 := Nat.div_le_div_left h2 (by omega)
  omega
theorem spages_x (n per : Nat) (h1 : 1 ≤ per) (hn : n ≤ 9223372036854775807) : Con Tryz.prog 72 [nvv n, nvv per] [] (fun r M => r = nvv (SlotS.takeN n per) ∧ M = []) := by
  unfold SlotS.takeN
  by_cases h0 : n % per = 0
  · rw [if_pos h0, Nat.add_zero]
    refine fn_y Tryz.func72 Tryz.mixed ?_
    intro w0
    refine Y14 ?_
    refine Zot 12 rfl ((fun hh => hh h0)) ?_
    refine V6 ?_
    refine rx1 (Zg9 rfl (Zg7)) ?_
    exact ⟨_, ⟨rfl, rfl⟩, qI⟩
  · rw [if_neg h0]
    have := take_le h1 hn h0
    refine fn_y Tryz.func72 Tryz.mixed ?_
    intro w0
    refine Y14 ?_
    refine Zos 12 rfl (h0) ?_
    refine V11 ?_
    refine rx1 (Zg9 rfl (Zg7)) ?_
    exact ⟨_, ⟨rfl, rfl⟩, qI⟩
section
variable {pp ph : Nat} {p : PS}
theorem slnew_x (hk : PagerS.Ok p) (first n size : Int) (hf : first ≤ 9223372036854775807) (hn : n ≤ 9223372036854775807) (hz : size ≤ 9223372036854775807) : Con Tryz.prog 17 [hp pp, .int .i64 first, .int .i64 n, .int .i64 size] [pgA pp ph p] (fun r M => (SlotS.newS first n size p = 0 ∧ ∃ q, r = .tuple #[hp q, nvv 0] ∧ M = [slA q pp (SlotS.freshS first n size p), pgA pp ph p]) ∨ (SlotS.newS first n size p ≠ 0 ∧ r = .tuple #[.pointer none, nvv (SlotS.newS first n size p)] ∧ M = [pgA pp ph p])) := by
  have ht1 := hk.t1
  have hp0 := hk.p0
  have hp1 := hk.p1
  unfold SlotS.newS
  by_cases h1 : first < 0
  · rw [if_pos (.inl h1)]
    refine fn_y Tryz.func17 Tryz.mixed ?_
    intro w0
    refine Y7 ?_
    refine Zhn 12 rfl (rfl) ?_
    refine Y4 ?_
    refine Zhg (Zbn (b := 0) rfl rfl) ?_
    refine Zos 14 rfl (h1) ?_
    refine V14 ?_
    refine rx2 (Zhb rfl (Zg9 rfl (Zg7))) ?_
    exact ⟨_, .inr ⟨by omega, rfl, rfl⟩, qI⟩
  by_cases h2 : n < 0
  · rw [if_pos (.inr (.inl h2))]
    refine fn_y Tryz.func17 Tryz.mixed ?_
    intro w0
    refine Y7 ?_
    refine Zhn 12 rfl (rfl) ?_
    refine Y4 ?_
    refine Zhg (Zbn (b := 0) rfl rfl) ?_
    refine Zot 14 rfl (h1) ?_
    refine Y2 ?_
    first|refine Y0 ?_|(refine Zhh rfl ?_; (refine Zhg (Zbn (b := 0) rfl rfl) ?_))
    refine Zos 17 rfl (h2) ?_
    refine V11 ?_
    refine rx2 (Zhb rfl (Zg9 rfl (Zg7))) ?_
    exact ⟨_, .inr ⟨by omega, rfl, rfl⟩, qI⟩
  by_cases h3 : size < 1
  · rw [if_pos (.inr (.inr h3))]
    refine fn_y Tryz.func17 Tryz.mixed ?_
    intro w0
    refine Y7 ?_
    refine Zhn 12 rfl (rfl) ?_
    refine Y4 ?_
    refine Zhg (Zbn (b := 0) rfl rfl) ?_
    refine Zot 14 rfl (h1) ?_
    refine Y2 ?_
    first|refine Y0 ?_|(refine Zhh rfl ?_; (refine Zhg (Zbn (b := 0) rfl rfl) ?_))
    refine Zot 17 rfl (h2) ?_
    refine Y3 ?_
    first|refine Y0 ?_|(refine Zhh rfl ?_; (refine Zhg (Zbn (b := 1) rfl rfl) ?_))
    refine Zos 21 rfl (h3) ?_
    refine V7 ?_
    refine rx2 (Zhb rfl (Zg9 rfl (Zg7))) ?_
    exact ⟨_, .inr ⟨by omega, rfl, rfl⟩, qI⟩
  rw [if_neg (show ¬ (first < 0 ∨ n < 0 ∨ size < 1) by omega)]
  by_cases h4 : (p.text : Int) < size
  · rw [if_pos h4]
    refine fn_y Tryz.func17 Tryz.mixed ?_
    intro w0
    refine Y7 ?_
    refine Zhn 12 rfl (rfl) ?_
    refine Y4 ?_
    refine Zhg (Zbn (b := 0) rfl rfl) ?_
    refine Zot 14 rfl (h1) ?_
    refine Y2 ?_
    first|refine Y0 ?_|(refine Zhh rfl ?_; (refine Zhg (Zbn (b := 0) rfl rfl) ?_))
    refine Zot 17 rfl (h2) ?_
    refine Y3 ?_
    first|refine Y0 ?_|(refine Zhh rfl ?_; (refine Zhg (Zbn (b := 1) rfl rfl) ?_))
    refine Zot 21 rfl (h3) ?_
    refine Y6 ?_
    refine Zor (c := text_p (p := pp) (ph := ph)) (k := ?_)
    rintro _ _ ⟨rfl, rfl⟩
    refine Y1 ?_
    refine Zhg (Zbp (a := size) (b := (p.text : Int)) rfl rfl) ?_
    refine Zos 26 rfl (h4) ?_
    refine V6 ?_
    refine rx2 (Zhb rfl (Zg9 rfl (Zg7))) ?_
    exact ⟨_, .inr ⟨by omega, rfl, rfl⟩, qI⟩
  rw [if_neg h4]
  obtain ⟨f, rfl⟩ : ∃ k : Nat, first = k := ⟨first.toNat, by omega⟩
  obtain ⟨n, rfl⟩ : ∃ k : Nat, n = k := ⟨n.toNat, by omega⟩
  obtain ⟨z, rfl⟩ : ∃ k : Nat, size = k := ⟨size.toNat, by omega⟩
  simp only [Int.toNat_natCast]
  have ef : SlotS.freshS (f : Int) (n : Int) (z : Int) p = ⟨f, n, z, p.text / z, []⟩ := rfl
  rw [ef]
  have hd : 1 ≤ p.text / z := Nat.div_pos (by omega) (by omega)
  have hd2 : p.text / z ≤ 4096 := Nat.le_trans (Nat.div_le_self _ _) ht1
  have hpx := spages_x n (p.text / z) hd (by omega)
  by_cases h5 : p.pages < (f : Int)
  · rw [if_pos (.inl h5)]
    refine fn_y Tryz.func17 Tryz.mixed ?_
    intro w0
    refine Y7 ?_
    refine Zhn 12 rfl (rfl) ?_
    refine Y4 ?_
    refine Zhg (Zbn (a := (f : Int)) (b := 0) rfl rfl) ?_
    refine Zot 14 rfl (h1) ?_
    refine Y2 ?_
    first|refine Y0 ?_|(refine Zhh rfl ?_; (refine Zhg (Zbn (a := (n : Int)) (b := 0) rfl rfl) ?_))
    refine Zot 17 rfl (h2) ?_
    refine Y3 ?_
    first|refine Y0 ?_|(refine Zhh rfl ?_; (refine Zhg (Zbn (a := (z : Int)) (b := 1) rfl rfl) ?_))
    refine Zot 21 rfl (h3) ?_
    refine Y6 ?_
    refine Zor (c := text_p (p := pp) (ph := ph)) (k := ?_)
    rintro _ _ ⟨rfl, rfl⟩
    refine Y1 ?_
    refine Zhg (Zbp (a := (z : Int)) (b := (p.text : Int)) rfl rfl) ?_
    refine Zot 26 rfl (h4) ?_
    refine Y8 ?_
    refine Zor (c := text_p (p := pp) (ph := ph)) (k := ?_)
    rintro _ _ ⟨rfl, rfl⟩
    refine Y3 ?_
    refine Zhg (Zdm (cs := slc pp ⟨f, n, z, p.text / z, []⟩ none 0) rfl) ?_
    refine Zh5 rfl ?_; intro b36
    refine Y5 ?_
    refine Zor (c := pages_p (p := pp) (ph := ph)) (k := ?_)
    rintro _ _ ⟨rfl, rfl⟩
    refine Y1 ?_
    refine Zhg (Zbp (a := (f : Int)) (b := p.pages) rfl rfl) ?_
    refine Zos 40 rfl (h5) ?_
    refine V19 ?_
    refine rx2 (Zhb rfl (Zg9 rfl (Zg7))) ?_
    exact ⟨_, .inr ⟨by omega, rfl, rfl⟩, qI⟩
  by_cases h6 : p.pages - (f : Int) < SlotS.takeN n (p.text / z)
  · rw [if_pos (.inr h6)]
    refine fn_y Tryz.func17 Tryz.mixed ?_
    intro w0
    refine Y7 ?_
    refine Zhn 12 rfl (rfl) ?_
    refine Y4 ?_
    refine Zhg (Zbn (a := (f : Int)) (b := 0) rfl rfl) ?_
    refine Zot 14 rfl (h1) ?_
    refine Y2 ?_
    first|refine Y0 ?_|(refine Zhh rfl ?_; (refine Zhg (Zbn (a := (n : Int)) (b := 0) rfl rfl) ?_))
    refine Zot 17 rfl (h2) ?_
    refine Y3 ?_
    first|refine Y0 ?_|(refine Zhh rfl ?_; (refine Zhg (Zbn (a := (z : Int)) (b := 1) rfl rfl) ?_))
    refine Zot 21 rfl (h3) ?_
    refine Y6 ?_
    refine Zor (c := text_p (p := pp) (ph := ph)) (k := ?_)
    rintro _ _ ⟨rfl, rfl⟩
    refine Y1 ?_
    refine Zhg (Zbp (a := (z : Int)) (b := (p.text : Int)) rfl rfl) ?_
    refine Zot 26 rfl (h4) ?_
    refine Y8 ?_
    refine Zor (c := text_p (p := pp) (ph := ph)) (k := ?_)
    rintro _ _ ⟨rfl, rfl⟩
    refine Y3 ?_
    refine Zhg (Zdm (cs := slc pp ⟨f, n, z, p.text / z, []⟩ none 0) rfl) ?_
    refine Zh5 rfl ?_; intro b36
    refine Y5 ?_
    refine Zor (c := pages_p (p := pp) (ph := ph)) (k := ?_)
    rintro _ _ ⟨rfl, rfl⟩
    refine Y1 ?_
    refine Zhg (Zbp (a := (f : Int)) (b := p.pages) rfl rfl) ?_
    refine Zot 40 rfl (h5) ?_
    refine Y6 ?_
    first|refine Y0 ?_|(refine Zhh rfl ?_; (refine Zor (c := hpx) (k := ?_)); (rintro _ _ ⟨rfl, rfl⟩); (refine Zg2 qA ?_))
    refine Y1 ?_
    first|refine Y0 ?_|(refine Zhh rfl ?_; (refine Zor (c := pages_p (p := pp) (ph := ph)) (k := ?_)); (rintro _ _ ⟨rfl, rfl⟩); (refine Zg2 qA ?_))
    refine Y1 ?_
    first|refine Y0 ?_|(refine Zhh rfl ?_; (refine Zhg (Zbh (a := p.pages) (b := (f : Int)) rfl rfl (by omega)) ?_))
    first|refine Y0 ?_|(refine Zhh rfl ?_; (refine Zhg (Zbp (a := ((SlotS.takeN n (p.text / z) : Nat) : Int)) (b := p.pages - (f : Int)) rfl rfl) ?_))
    refine Zos 52 rfl (h6) ?_
    refine V7 ?_
    refine rx2 (Zhb rfl (Zg9 rfl (Zg7))) ?_
    exact ⟨_, .inr ⟨by omega, rfl, rfl⟩, qI⟩
  · rw [if_neg (show ¬ (p.pages < (f : Int) ∨ p.pages - (f : Int) < SlotS.takeN n (p.text / z)) by omega)]
    refine fn_y Tryz.func17 Tryz.mixed ?_
    intro w0
    refine Y7 ?_
    refine Zhn 12 rfl (rfl) ?_
    refine Y4 ?_
    refine Zhg (Zbn (a := (f : Int)) (b := 0) rfl rfl) ?_
    refine Zot 14 rfl (h1) ?_
    refine Y2 ?_
    first|refine Y0 ?_|(refine Zhh rfl ?_; (refine Zhg (Zbn (a := (n : Int)) (b := 0) rfl rfl) ?_))
    refine Zot 17 rfl (h2) ?_
    refine Y3 ?_
    first|refine Y0 ?_|(refine Zhh rfl ?_; (refine Zhg (Zbn (a := (z : Int)) (b := 1) rfl rfl) ?_))
    refine Zot 21 rfl (h3) ?_
    refine Y6 ?_
    refine Zor (c := text_p (p := pp) (ph := ph)) (k := ?_)
    rintro _ _ ⟨rfl, rfl⟩
    refine Y1 ?_
    refine Zhg (Zbp (a := (z : Int)) (b := (p.text : Int)) rfl rfl) ?_
    refine Zot 26 rfl (h4) ?_
    refine Y8 ?_
    refine Zor (c := text_p (p := pp) (ph := ph)) (k := ?_)
    rintro _ _ ⟨rfl, rfl⟩
    refine Y3 ?_
    refine Zhg (Zdm (cs := slc pp ⟨f, n, z, p.text / z, []⟩ none 0) rfl) ?_
    refine Zh5 rfl ?_; intro b36
    refine Y5 ?_
    refine Zor (c := pages_p (p := pp) (ph := ph)) (k := ?_)
    rintro _ _ ⟨rfl, rfl⟩
    refine Y1 ?_
    refine Zhg (Zbp (a := (f : Int)) (b := p.pages) rfl rfl) ?_
    refine Zot 40 rfl (h5) ?_
    refine Y6 ?_
    first|refine Y0 ?_|(refine Zhh rfl ?_; (refine Zor (c := hpx) (k := ?_)); (rintro _ _ ⟨rfl, rfl⟩); (refine Zg2 qA ?_))
    refine Y1 ?_
    first|refine Y0 ?_|(refine Zhh rfl ?_; (refine Zor (c := pages_p (p := pp) (ph := ph)) (k := ?_)); (rintro _ _ ⟨rfl, rfl⟩); (refine Zg2 qA ?_))
    refine Y1 ?_
    first|refine Y0 ?_|(refine Zhh rfl ?_; (refine Zhg (Zbh (a := p.pages) (b := (f : Int)) rfl rfl (by omega)) ?_))
    first|refine Y0 ?_|(refine Zhh rfl ?_; (refine Zhg (Zbp (a := ((SlotS.takeN n (p.text / z) : Nat) : Int)) (b := p.pages - (f : Int)) rfl rfl) ?_))
    refine Zot 52 rfl (h6) ?_
    refine V8 ?_
    refine rx2 (Zhb rfl (Zg9 rfl (Zg7))) ?_
    refine ⟨_, .inl ⟨rfl, b36, rfl, rfl⟩, ?_⟩
    exact ((Imp.arr (N := cl b36 (slc pp ⟨f, n, z, p.text / z, []⟩ none 0) 137 :: [pgA pp ph p]) qV).trans (Imp.own_nil (E := 151) (size := 3))).trans ((Imp.arr (N := slL b36 pp ⟨f, n, z, p.text / z, []⟩ none 0 ++ [pgA pp ph p]) qV).trans slA_mk)
theorem slnew_ok (hk : PagerS.Ok p) {first n size : Int} (hf : first ≤ 9223372036854775807) (hn : n ≤ 9223372036854775807) (hz : size ≤ 9223372036854775807) (h : SlotS.newS first n size p = 0) : Con Tryz.prog 17 [hp pp, .int .i64 first, .int .i64 n, .int .i64 size] [pgA pp ph p] (fun r M => ∃ q, r = .tuple #[hp q, nvv 0] ∧ M = [slA q pp (SlotS.freshS first n size p), pgA pp ph p]) :=
  (slnew_x hk first n size hf hn hz).mono fun r M hh => by
    rcases hh with ⟨_, q, h1, h2⟩|⟨hne, _⟩
    · exact ⟨M, Imp.refl _, q, h1, h2⟩
    · exact absurd h hne
end
end Go.Sl
namespace Go.Sl
open Go Go.Proofs
attribute [local irreducible] pt old pur ex all den denOps denS xOps xC cX CX xthen xblk xcut xloop xng retX resX Calls PV Rd Con
attribute [local irreducible] hostA pgA
open SlotS (SL Acc Fit)
open PagerS (PS Over)
abbrev nilF : Value := .slice none 0 0
abbrev hsN (pn n : Nat) : HostS.HS := HostS.fresh (pn : Int) (n + 28) []
abbrev psN (key : List Byte) (round : BitVec 64) (wn pn n : Nat) : PS := PagerS.freshP key round wn (pn : Int) n
abbrev Big (n : Int) : Prop := -9223372036854775808 ≤ n ∧ n ≤ 9223372036854775807
end Go.Sl
namespace Go.Sl
open Go Go.Proofs
attribute [local irreducible] pt old pur ex all den denOps denS xOps xC cX CX xthen xblk xcut xloop xng retX resX Calls PV Rd Con
theorem within_x (a : Int) (n : Nat) (hn : 1 ≤ n) (hn2 : n ≤ 1000000000000) : Con Tryz.prog 67 [.int .i64 a, nvv n] [] (fun r M => r = nvv (withinN a n) ∧ M = []) := by
  obtain ⟨h1, h2, h3⟩ := within_is a hn
  by_cases h : a.tmod n < 0
  · have e := h2 h
    refine fn_y Tryz.func67 Tryz.mixed ?_
    intro w0
    refine Y6 ?_
    refine Zhg (Zbk (a := a) (b := (n : Int)) rfl rfl (by omega)) ?_
    refine Y4 ?_
    refine Zhg (Zbn (a := a.tmod n) (b := 0) rfl rfl) ?_
    refine Zos 9 rfl (h) ?_
    refine Y5 ?_
    refine Zhg (Zbg (a := a.tmod n) (b := (n : Int)) rfl rfl (by omega)) ?_
    refine V2 ?_
    rw [e]
    refine V4 ?_
    refine rx1 (Zg9 rfl (Zg7)) ?_
    exact ⟨_, ⟨rfl, rfl⟩, qI⟩
  · have e := h3 h
    refine fn_y Tryz.func67 Tryz.mixed ?_
    intro w0
    refine Y6 ?_
    refine Zhg (Zbk (a := a) (b := (n : Int)) rfl rfl (by omega)) ?_
    refine Y4 ?_
    refine Zhg (Zbn (a := a.tmod n) (b := 0) rfl rfl) ?_
    refine Zot 9 rfl (h) ?_
    refine V2 ?_
    rw [e]
    refine V4 ?_
    refine rx1 (Zg9 rfl (Zg7)) ?_
    exact ⟨_, ⟨rfl, rfl⟩, qI⟩
theorem sized_x {L : List Asrt} {vb : Value} {b : List Byte} (hb : Bs L vb b) (n : Nat) (hn : n ≤ 4096) : Con Tryz.prog 60 [vb, nvv n] L (fun r M => ∃ g, r = fsl g n ∧ M = blk g (sizedB b n) :: L) := by
  refine Con.get (fun w0 w F H => hb.sh _ _ _ H) ?_
  rintro ⟨ba, bc, rfl, hbc, hbcm⟩
  refine fn_y Tryz.func60 Tryz.mixed ?_
  intro w0
  refine Y5 ?_
  refine Zm3 (f := u8b) (a := 0#8) rfl rfl rfl qS qS qS ?_; intro b8
  refine V5 ?_
  refine Zgo [(6, 6), (9, 26)] (by kernel_rfl) (fun i : Nat => i ≤ min n b.length) (fun i => blk b8 (sizedTo b n i) :: L) (fun i => [(6, nvv i)]) (fun i => n - i) 0 (Nat.zero_le _) (by rw [sizedTo_zero]; exact qI) ⟨rfl, trivial⟩ ?_
  intro i u hi
  have hl := sizedTo_len b n i
  by_cases h1 : i < n
  · by_cases h2 : i < b.length
    · refine Zgt (fun F w H => (hb.imp (Imp.arr (M := _) qV)).some (by omega) H) ?_
      rintro ⟨b1, o1, rfl⟩
      refine Y4 ?_
      refine Zos 11 rfl (h1) ?_
      refine Y5 ?_
      refine Zos 16 rfl (h2) ?_
      refine Y9 ?_
      refine Zff rfl (((hb.imp qI).rd.at h2 (getM h2))) ?_
      refine Y1 ?_
      refine Zht rfl rfl qR qZ (setL (f := u8b) (l := sizedTo b n i)) ?_
      refine V1 ?_
      rw [sizedTo_set h2 h1]
      refine V5 ?_
      exact Zgl (i + 1) qO (by omega) qI ⟨rfl, trivial⟩
    · have hie : i = min n b.length := by omega
      refine Y4 ?_
      refine Zos 11 rfl (h1) ?_
      refine Y5 ?_
      refine Zot 16 rfl (h2) ?_
      refine V7 ?_
      refine rx1 (Zhc rfl (Zg7)) ?_
      refine ⟨_, ⟨b8, rfl, rfl⟩, ?_⟩
      unfold sizedB
      rw [← hie]
      exact qI
  · have hie : i = min n b.length := by omega
    refine Y4 ?_
    refine Zot 11 rfl (h1) ?_
    refine V12 ?_
    refine rx1 (Zhc rfl (Zg7)) ?_
    refine ⟨_, ⟨b8, rfl, rfl⟩, ?_⟩
    unfold sizedB
    rw [← hie]
    exact qI
end Go.Sl
namespace Go.Sl
open Go Go.Proofs
attribute [local irreducible] pt old pur ex all den denOps denS xOps xC cX CX xthen xblk xcut xloop xng retX resX Calls PV Rd Con
attribute [local irreducible] hostA pgA
open SlotS (SL Acc Fit)
open PagerS (PS Over)
theorem rtake_x (n per : Nat) (h1 : 1 ≤ per) (hn : n ≤ 9223372036854775807) : Con Tryz.prog 73 [nvv n, nvv per] [] (fun r M => r = nvv (SlotS.takeN n per) ∧ M = []) := by
  unfold SlotS.takeN
  by_cases h0 : n % per = 0
  · rw [if_pos h0, Nat.add_zero]
    refine fn_y Tryz.func73 Tryz.mixed ?_
    intro w0
    refine Y14 ?_
    refine Zot 12 rfl ((by omega)) ?_
    refine V6 ?_
    refine rx1 (Zg9 rfl (Zg7)) ?_
    exact ⟨_, ⟨rfl, rfl⟩, qI⟩
  · rw [if_neg h0]
    have := take_le h1 hn h0
    refine fn_y Tryz.func73 Tryz.mixed ?_
    intro w0
    refine Y14 ?_
    refine Zos 12 rfl ((by omega)) ?_
    refine V11 ?_
    refine rx1 (Zg9 rfl (Zg7)) ?_
    exact ⟨_, ⟨rfl, rfl⟩, qI⟩
theorem rsPages_x (n size text : Int) (hn : n ≤ 9223372036854775807) (hz : size ≤ 9223372036854775807) (ht : text ≤ 9223372036854775807) : Con Tryz.prog 16 [.int .i64 n, .int .i64 size, .int .i64 text] [] (fun r M => r = .tuple #[.int .i64 (SlotS.pagesS n size text).1, nvv (SlotS.pagesS n size text).2] ∧ M = []) := by
  unfold SlotS.pagesS
  by_cases h1 : n < 0
  · rw [if_pos (.inl h1)]
    refine fn_y Tryz.func16 Tryz.mixed ?_
    intro w0
    refine Y6 ?_
    refine Zhg (Zbn (b := 0) rfl rfl) ?_
    refine Zos 10 rfl (h1) ?_
    refine V10 ?_
    refine rx2 (Zg9 rfl (Zg9 rfl (Zg7))) ?_
    exact ⟨_, ⟨rfl, rfl⟩, qI⟩
  by_cases h2 : size < 1
  · rw [if_pos (.inr h2)]
    refine fn_y Tryz.func16 Tryz.mixed ?_
    intro w0
    refine Y6 ?_
    refine Zhg (Zbn (b := 0) rfl rfl) ?_
    refine Zot 10 rfl (h1) ?_
    refine Y2 ?_
    first|refine Y0 ?_|(refine Zhh rfl ?_; (refine Zhg (Zbn (b := 1) rfl rfl) ?_))
    refine Zos 13 rfl (h2) ?_
    refine V7 ?_
    refine rx2 (Zg9 rfl (Zg9 rfl (Zg7))) ?_
    exact ⟨_, ⟨rfl, rfl⟩, qI⟩
  rw [if_neg (show ¬ (n < 0 ∨ size < 1) by omega)]
  by_cases h3 : text < size
  · rw [if_pos h3]
    refine fn_y Tryz.func16 Tryz.mixed ?_
    intro w0
    refine Y6 ?_
    refine Zhg (Zbn (b := 0) rfl rfl) ?_
    refine Zot 10 rfl (h1) ?_
    refine Y2 ?_
    first|refine Y0 ?_|(refine Zhh rfl ?_; (refine Zhg (Zbn (b := 1) rfl rfl) ?_))
    refine Zot 13 rfl (h2) ?_
    refine Y6 ?_
    refine Zhg (Zbp (a := size) (b := text) rfl rfl) ?_
    refine Zos 17 rfl (h3) ?_
    refine V6 ?_
    refine rx2 (Zg9 rfl (Zg9 rfl (Zg7))) ?_
    exact ⟨_, ⟨rfl, rfl⟩, qI⟩
  rw [if_neg h3]
  obtain ⟨n, rfl⟩ : ∃ k : Nat, n = k := ⟨n.toNat, by omega⟩
  obtain ⟨z, rfl⟩ : ∃ k : Nat, size = k := ⟨size.toNat, by omega⟩
  obtain ⟨t, rfl⟩ : ∃ k : Nat, text = k := ⟨text.toNat, by omega⟩
  simp only [Int.toNat_natCast]
  have hd : 1 ≤ t / z := Nat.div_pos (by omega) (by omega)
  have hpx := rtake_x n (t / z) hd (by omega)
  by_cases h4 : 65536 < SlotS.takeN n (t / z)
  · rw [if_pos h4]
    refine fn_y Tryz.func16 Tryz.mixed ?_
    intro w0
    refine Y6 ?_
    refine Zhg (Zbn (a := (n : Int)) (b := 0) rfl rfl) ?_
    refine Zot 10 rfl (h1) ?_
    refine Y2 ?_
    first|refine Y0 ?_|(refine Zhh rfl ?_; (refine Zhg (Zbn (a := (z : Int)) (b := 1) rfl rfl) ?_))
    refine Zot 13 rfl (h2) ?_
    refine Y6 ?_
    refine Zhg (Zbp (a := (z : Int)) (b := (t : Int)) rfl rfl) ?_
    refine Zot 17 rfl (h3) ?_
    refine Y7 ?_
    refine Zor (c := hpx) (k := ?_)
    rintro _ _ ⟨rfl, rfl⟩
    refine Y6 ?_
    refine Zos 24 rfl (h4) ?_
    refine V6 ?_
    refine rx2 (Zg9 rfl (Zg9 rfl (Zg7))) ?_
    exact ⟨_, ⟨rfl, rfl⟩, qI⟩
  · rw [if_neg h4]
    refine fn_y Tryz.func16 Tryz.mixed ?_
    intro w0
    refine Y6 ?_
    refine Zhg (Zbn (a := (n : Int)) (b := 0) rfl rfl) ?_
    refine Zot 10 rfl (h1) ?_
    refine Y2 ?_
    first|refine Y0 ?_|(refine Zhh rfl ?_; (refine Zhg (Zbn (a := (z : Int)) (b := 1) rfl rfl) ?_))
    refine Zot 13 rfl (h2) ?_
    refine Y6 ?_
    refine Zhg (Zbp (a := (z : Int)) (b := (t : Int)) rfl rfl) ?_
    refine Zot 17 rfl (h3) ?_
    refine Y7 ?_
    refine Zor (c := hpx) (k := ?_)
    rintro _ _ ⟨rfl, rfl⟩
    refine Y6 ?_
    refine Zot 24 rfl (h4) ?_
    refine V7 ?_
    refine rx2 (Zg9 rfl (Zg9 rfl (Zg7))) ?_
    exact ⟨_, ⟨rfl, rfl⟩, qI⟩
end Go.Sl
namespace Go.Sl
open Go Go.Proofs
attribute [local irreducible] pt old pur ex all den denOps denS xOps xC cX CX xthen xblk xcut xloop xng retX resX Calls PV Rd Con
attribute [local irreducible] hostA pgA qsA PagerS.loadP PagerS.saveP withinN
open SlotS (SL Acc Fit QI slv)
open PagerS (PS Over)
def wso (x : SoWorldV) : Array Value := x.cells.toArray
section
variable {x : SoWorldV}
theorem wso_len (hk : x.key_.length = 32) : (wso x).size = 39 := by unfold wso; simp [SoWorldV.cells, hk]
theorem wso_size_ : (wso x)[0]? = some (.int .i64 x.size_) := by unfold wso; simp [SoWorldV.cells]
theorem wso_text_ : (wso x)[1]? = some (.int .i64 x.text_) := by unfold wso; simp [SoWorldV.cells]
theorem wso_window_ : (wso x)[2]? = some (.int .i64 x.window_) := by unfold wso; simp [SoWorldV.cells]
theorem wso_key_ (hk : x.key_.length = 32) : (wso x).extract 3 (3 + 32) = (x.key_.map u8b).toArray := by
  unfold wso
  apply Array.ext'
  simp [SoWorldV.cells, List.extract_eq_take_drop, List.drop_append, List.take_append, List.take_of_length_le, hk]
theorem wso_round_ (hk : x.key_.length = 32) : (wso x)[35]? = some (u64b x.round_) := by unfold wso; simp [SoWorldV.cells, List.getElem?_append, List.getElem?_cons, hk]
theorem wso_rows_ (hk : x.key_.length = 32) : (wso x)[37]? = some x.rows_V := by unfold wso; simp [SoWorldV.cells, List.getElem?_append, List.getElem?_cons, hk]
end
structure SoIn (x : SoWorldV) : Prop where
  key : x.key_.length = 32
  rows : ∃ a c, x.rows_V = .slice a x.rows_.length c
  size : Big x.size_
  text : Big x.text_
  window : Big x.window_
def oSz (x : SoWorldV) : Nat := 1 + withinN (IntKind.i64.wrap (x.size_ - 1)) 100
def oWn (x : SoWorldV) : Nat := 2 + withinN (IntKind.i64.wrap (x.window_ - 2)) 15
def oNn (x : SoWorldV) : Nat := min x.rows_.length 40
def oTx (x : SoWorldV) : Nat := oSz x + withinN x.text_ (401 - oSz x)
def oPg (x : SoWorldV) : Nat := SlotS.takeN (oNn x) (oTx x / oSz x)
structure ONum (x : SoWorldV) : Prop where
  sz : 1 ≤ oSz x ∧ oSz x ≤ 100
  wn : 2 ≤ oWn x ∧ oWn x ≤ 16
  n : oNn x ≤ 40
  tx : oSz x ≤ oTx x ∧ oTx x ≤ 400
  per : 1 ≤ oTx x / oSz x
  pg : oPg x ≤ 41
theorem takeN_le {n per : Nat} : SlotS.takeN n per ≤ n + 1 := by
  unfold SlotS.takeN
  have : n / per ≤ n := Nat.div_le_self _ _
  split <;> omega
theorem onum (x : SoWorldV) : ONum x := by
  have h1 := (within_is (IntKind.i64.wrap (x.size_ - 1)) (n := 100) (by omega)).1
  have h2 := (within_is (IntKind.i64.wrap (x.window_ - 2)) (n := 15) (by omega)).1
  have hs : 1 ≤ oSz x ∧ oSz x ≤ 100 := by unfold oSz; omega
  have h3 := (within_is x.text_ (n := 401 - oSz x) (by omega)).1
  have hn : oNn x ≤ 40 := by unfold oNn; omega
  have ht : oSz x ≤ oTx x ∧ oTx x ≤ 400 := by unfold oTx; omega
  refine ⟨hs, by unfold oWn; omega, hn, ht, Nat.div_pos ht.1 hs.1, ?_⟩
  have := takeN_le (n := oNn x) (per := oTx x / oSz x)
  unfold oPg
  omega
theorem oPages (x : SoWorldV) : SlotS.pagesS (oNn x) (oSz x) (oTx x) = (((oPg x : Nat) : Int), 0) := by
  have h := onum x
  have h1 := h.sz; have h2 := h.tx; have h3 := h.pg
  unfold SlotS.pagesS
  rw [if_neg (by omega), if_neg (by omega)]
  simp only [Int.toNat_natCast]
  have e : SlotS.takeN (oNn x) (oTx x / oSz x) = oPg x := rfl
  rw [e, if_neg (by omega)]
abbrev shV (x : SoWorldV) : Array Value := #[nvv (oSz x), nvv (oTx x), nvv (oWn x), nvv (oNn x), nvv (oPg x)]
theorem shape_x {x : SoWorldV} (hi : SoIn x) : Con Tryz.prog 42 [.agg (wso x)] [] (fun r M => r = .agg (shV x) ∧ M = []) := by
  obtain ⟨ra, rc, hrv⟩ := hi.rows
  have hk := hi.key
  have hlen := wso_len hk
  have hrows := wso_rows_ hk
  rw [hrv] at hrows
  have h := onum x
  have h1 := h.sz; have h2 := h.tx; have h3 := h.pg; have h4 := h.wn; have h5 := h.n
  have x1 := within_x (IntKind.i64.wrap (x.size_ - 1)) 100 (by omega) (by omega)
  have x2 := within_x (IntKind.i64.wrap (x.window_ - 2)) 15 (by omega) (by omega)
  have x3 := within_x x.text_ (401 - oSz x) (by omega) (by omega)
  have w1 := (within_is (IntKind.i64.wrap (x.size_ - 1)) (n := 100) (by omega)).1
  have w2 := (within_is (IntKind.i64.wrap (x.window_ - 2)) (n := 15) (by omega)).1
  have w3 := (within_is x.text_ (n := 401 - oSz x) (by omega)).1
  have e1 : 1 + withinN (IntKind.i64.wrap (x.size_ - 1)) 100 = oSz x := rfl
  have e2 : 2 + withinN (IntKind.i64.wrap (x.window_ - 2)) 15 = oWn x := rfl
  have e3 : oSz x + withinN x.text_ (401 - oSz x) = oTx x := rfl
  have e4 : (min (x.rows_.length : Int) 40) = ((oNn x : Nat) : Int) := by unfold oNn; omega
  have hpg := rsPages_x (oNn x) (oSz x) (oTx x) (by omega) (by omega) (by omega)
  rw [oPages] at hpg
  refine fn_y Tryz.func42 Tryz.mixed ?_
  intro w0
  refine Y1 ?_
  refine Zh5 rfl ?_; intro b1
  refine Zhz (cs := #[.int .i64 0, .int .i64 0, .int .i64 0, .int .i64 0, .int .i64 0]) rfl ?_; intro b2
  refine V1 ?_
  refine Zij ([cl b1 (wso x) 84]) [3, 4, 6, 7, 8, 9, 11, 12, 13, 15] (.q 0 (.q 5 (.q 10 (.r 1 (.q 2 (.r 6 (.r 7 (.r 11 (.r 12 (.r 13 (.e 3 true (.r 4 (.e 8 true (.r 9 (.q 14 (.a 15 (.e 16 false .nil))))))))))))))))) (by kernel_rfl) (by kernel_rfl) (Imp.arr qV) ?_
  refine W3 ?_
  refine Ziv rfl rfl qH (wso_size_) ?_
  refine Zim rfl (Zbe (a := x.size_) (b := 1) rfl rfl) ?_
  refine Ziv rfl rfl qH (wso_window_) ?_
  refine Ziz rfl (Zbe (a := x.window_) (b := 2) rfl rfl) ?_
  refine Ziv rfl rfl qH (hrows) ?_
  refine W2 ?_
  refine Ziq rfl ?_
  refine Zor (c := x1) (k := ?_)
  rintro _ _ ⟨rfl, rfl⟩
  refine Y1 ?_
  refine Zg3 ⟨fun _ => Imp.arr qV, ?_⟩
  refine Ziz rfl (Zma (a := 1) (b := withinN (IntKind.i64.wrap (x.size_ - 1)) 100) rfl rfl) ?_
  refine Ziq rfl ?_
  refine Zor (c := x2) (k := ?_)
  rintro _ _ ⟨rfl, rfl⟩
  refine Y1 ?_
  refine Zg3 ⟨fun _ => Imp.arr qV, ?_⟩
  refine Ziz rfl (Zma (a := 2) (b := withinN (IntKind.i64.wrap (x.window_ - 2)) 15) rfl rfl) ?_
  refine Zim rfl (Zdm (cs := #[.int .i64 _, .int .i64 0, .int .i64 _, .int .i64 _, .int .i64 0]) rfl) ?_
  refine Zir rfl (cs := #[.int .i64 0, .int .i64 0, .int .i64 0, .int .i64 0, .int .i64 0]) rfl ?_; intro b3
  refine Ziq rfl ?_
  first|refine Zhy rfl rfl qR qZ (by first|rfl|exact oneM_u8 _|exact oneL_u8 _|exact acc_one _|exact acc_ones _|assumption|(simp [oneC]; done)) qZ ?_|refine Zhx rfl rfl qR qZ (by first|rfl|exact oneM_u8 _|exact oneL_u8 _|exact acc_one _|exact acc_ones _|assumption|(simp [oneC]; done)) qZ rfl ?_
  refine Zg3 ⟨(fun hh => Bool.noConfusion hh), ?_⟩
  refine Zik ?_
  refine Ct.o ?_
  all_goals
    rw [e1, e2, e4]
    refine Ct.o ?_
    refine Zij ([cl b1 (wso x) 84, cl b3 #[nvv (oSz x), nvv 0, nvv (oWn x), nvv (oNn x), nvv 0] 86]) [3, 5, 6, 7] (.q 0 (.q 2 (.q 4 (.r 1 (.r 3 (.r 5 (.r 6 (.e 7 true (.q 8 (.q 9 (.e 10 false .nil))))))))))) (by kernel_rfl) (by kernel_rfl) (Imp.arr qV) ?_
    refine W4 ?_
    refine Ziv rfl rfl qH (wso_text_) ?_
    refine W1 ?_
    refine Ziz rfl (Zmb (a := 401) (b := oSz x) rfl rfl (by omega) (by omega)) ?_
    refine Ziq rfl ?_
    refine Zor (c := x3) (k := ?_)
    rintro _ _ ⟨rfl, rfl⟩
    refine Y1 ?_
    refine Zg3 ⟨fun _ => Imp.arr qV, ?_⟩
    refine Zim rfl (Zma (a := oSz x) (b := withinN x.text_ (401 - oSz x)) rfl rfl) ?_
    refine W1 ?_
    refine Ziq rfl ?_
    refine Y1 ?_
    refine Zg3 ⟨(fun hh => Bool.noConfusion hh), ?_⟩
    refine Zik ?_
    refine Ct.o ?_
    rw [e3]
    refine Y7 ?_
    refine Zor (c := hpg) (k := ?_)
    rintro _ _ ⟨rfl, rfl⟩
    refine Y9 ?_
    first|refine Zhy rfl rfl qR qZ (by first|rfl|exact oneM_u8 _|exact oneL_u8 _|exact acc_one _|exact acc_ones _|assumption|(simp [oneC]; done)) qZ ?_|refine Zhx rfl rfl qR qZ (by first|rfl|exact oneM_u8 _|exact oneL_u8 _|exact acc_one _|exact acc_ones _|assumption|(simp [oneC]; done)) qZ rfl ?_
    refine V1 ?_
    refine rx1 (Zhe rfl qH qZ (Zg7)) ?_
    exact ⟨_, ⟨rfl, rfl⟩, qI⟩
end Go.Sl
namespace Go.Sl
open Go Go.Proofs
attribute [local irreducible] pt old pur ex all den denOps denS xOps xC cX CX xthen xblk xcut xloop xng retX resX Calls PV Rd Con
end Go.Sl
namespace Go.Sl
open Go Go.Proofs
attribute [local irreducible] pt old pur ex all den denOps denS xOps xC cX CX xthen xblk xcut xloop xng retX resX Calls PV Rd Con
end Go.Sl
namespace Go.Sl
open Go Go.Proofs
attribute [local irreducible] pt old pur ex all den denOps denS xOps xC cX CX xthen xblk xcut xloop xng retX resX Calls PV Rd Con
end Go.Sl
namespace Go.Sl
open Go Go.Proofs
attribute [local irreducible] pt old pur ex all den denOps denS xOps xC cX CX xthen xblk xcut xloop xng retX resX Calls PV Rd Con
attribute [local irreducible] hostA pgA qsA PagerS.loadP PagerS.saveP withinN wso
open SlotS (SL Acc Fit QI slv zb)
open PagerS (PS Over)
abbrev oPs (x : SoWorldV) : PS := psN x.key_ x.round_ (oWn x) (oPg x) (oTx x)
abbrev oHs (x : SoWorldV) (fl : List HostS.Fault) : HostS.HS := HostS.fresh (oPg x : Int) (oTx x + 28) fl
abbrev oSl (x : SoWorldV) : SL := ⟨0, oNn x, oSz x, oTx x / oSz x, []⟩
abbrev oTg (x : SoWorldV) : PS × HostS.HS := (psN (zb 32) x.round_ (oWn x) (oPg x) (oTx x), hsN (oPg x) (oTx x))
theorem oNew (x : SoWorldV) (key : List Byte) : SlotS.newS 0 (oNn x) (oSz x) (psN key x.round_ (oWn x) (oPg x) (oTx x)) = 0 := by
  have h := onum x
  have h1 := h.sz; have h2 := h.tx
  unfold SlotS.newS
  have e1 : (psN key x.round_ (oWn x) (oPg x) (oTx x)).text = oTx x := rfl
  have e2 : (psN key x.round_ (oWn x) (oPg x) (oTx x)).pages = (oPg x : Int) := rfl
  have e3 : SlotS.takeN (oNn x) (oTx x / oSz x) = oPg x := rfl
  rw [e1, e2]
  simp only [Int.toNat_natCast]
  rw [if_neg (by omega), if_neg (by omega), if_neg (by rw [e3]; omega)]
theorem oQi {x : SoWorldV} (hk : x.key_.length = 32) : QI (oSl x) (oTg x) (List.replicate (oNn x) (zb (oSz x))) [] (oPs x) (hsN (oPg x) (oTx x)) (fun _ => List.replicate (oTx x) 0#8) := by
  have h := onum x
  have h1 := h.sz; have h2 := h.tx; have h3 := h.pg; have h4 := h.wn
  exact SlotS.qi_fresh (pages := (oPg x : Int)) (text := oTx x) hk h4 ⟨by omega, by omega⟩ ⟨by omega, by omega⟩ (oNew x x.key_)
theorem begun_x {L : List Asrt} {x : SoWorldV} (hi : SoIn x) {fv : Value} {fl : List HostS.Fault} (hfl : fl.length ≤ 1000000) (hfo : ∀ f ∈ fl, HostS.FOk f) (hf : Rd L 6 fv fl.length (fl.flatMap fcells)) (hkd : fl.all HostS.kindly = true) : Con Tryz.prog 57 [.agg (wso x), fv] L (fun r M => ∃ q pp ph, r = .tuple #[hp ph, hp q, .bool true] ∧ M = slA q pp (oSl x) :: pgA pp ph (oPs x) :: hostA ph (oHs x fl) :: L) := by
  have hk := hi.key
  have hlen := wso_len hk
  have h := onum x
  have h1 := h.sz; have h2 := h.tx; have h3 := h.pg; have h4 := h.wn; have h5 := h.n
  have hsh := shape_x hi
  have hnw := new_ok (L := L) (oPg x : Int) ((oTx x + 28 : Nat) : Int) (by omega) hfo hf ⟨⟨by omega, by omega, by omega, by omega⟩, hkd⟩
  rw [Int.toNat_natCast] at hnw
  have hnw : Con Tryz.prog 19 [nvv (oPg x), nvv (oTx x + 28), fv] L (fun v M => ∃ p, v = .tuple #[hp p, nvv 0] ∧ M = hostA p (oHs x fl) :: L) := hnw
  have hz : newR (oHs x fl) (oWn x : Int) = 0 := by
    unfold newR
    rw [if_neg (by omega), if_neg (show ¬ (oHs x fl).size ≤ 28 by show ¬ oTx x + 28 ≤ 28; omega)]
  have hpn := fun ph => pnew_ok (ph := ph) (h := oHs x fl) hk x.round_ hz
  have hpe : PagerS.freshP x.key_ x.round_ ((oWn x : Int)).toNat (oHs x fl).pages ((oHs x fl).size - 28) = oPs x := by
    show PagerS.freshP x.key_ x.round_ (oWn x) (oPg x : Int) (oTx x + 28 - 28) = _
    rw [Nat.add_sub_cancel]
  rw [hpe] at hpn
  have hok : PagerS.Ok (oPs x) := PagerS.ok_fresh hk h4 ⟨by omega, by omega⟩ ⟨by omega, by omega⟩
  have hsn := fun pp ph => slnew_ok (pp := pp) (ph := ph) hok (first := 0) (n := (oNn x : Int)) (size := (oSz x : Int)) (by omega) (by omega) (by omega) (oNew x x.key_)
  have hs0 : SlotS.freshS 0 (oNn x : Int) (oSz x : Int) (oPs x) = oSl x := rfl
  rw [hs0] at hsn
  generalize hH0 : oHs x fl = H0 at *
  refine fn_y Tryz.func57 Tryz.mixed ?_
  intro w0
  refine Y1 ?_
  refine Zh5 rfl ?_; intro b2
  refine Y6 ?_
  refine Zor (c := hsh) (k := ?_)
  rintro _ _ ⟨rfl, rfl⟩
  refine Y1 ?_
  refine Zhz (cs := #[.int .i64 0, .int .i64 0, .int .i64 0, .int .i64 0, .int .i64 0]) rfl ?_; intro b7
  first|refine Zhy rfl rfl qR qZ (by first|rfl|exact oneM_u8 _|exact oneL_u8 _|exact acc_one _|exact acc_ones _|assumption|(simp [oneC]; done)) qZ ?_|refine Zhx rfl rfl qR qZ (by first|rfl|exact oneM_u8 _|exact oneL_u8 _|exact acc_one _|exact acc_ones _|assumption|(simp [oneC]; done)) qZ rfl ?_
  refine Y8 ?_
  refine Zor (c := hnw) (k := ?_)
  rintro _ _ ⟨ph, rfl, rfl⟩
  refine Y10 ?_
  refine Zot 27 rfl ((fun hh => hh rfl)) ?_
  refine Y3 ?_
  refine Zhn 30 rfl (rfl) ?_
  refine Y5 ?_
  refine Zhg (Zol rfl) ?_
  refine Y1 ?_
  refine Zhq (n := 32) rfl qH qZ (wso_key_ hk) ?_
  refine Y1 ?_
  refine Zhp rfl qH (wso_round_ hk) ?_
  refine Y2 ?_
  refine Zor (c := hpn ph) (k := ?_)
  rintro _ _ ⟨pp, rfl, rfl⟩
  refine Y10 ?_
  refine Zot 45 rfl ((fun hh => hh rfl)) ?_
  refine Y3 ?_
  refine Zhn 48 rfl (rfl) ?_
  refine Y9 ?_
  refine Zor (c := hsn pp ph) (k := ?_)
  rintro _ _ ⟨q, rfl, rfl⟩
  refine Y12 ?_
  refine Zos 62 rfl (rfl) ?_
  refine Y3 ?_
  refine Zhm 65 rfl (rfl) ?_
  refine V5 ?_
  refine rx3 (Zhb rfl (Zhb rfl (Zha rfl (Zg7)))) ?_
  exact ⟨_, ⟨q, pp, ph, rfl, rfl⟩, qI⟩
theorem begunQ_x {L : List Asrt} {x : SoWorldV} (hi : SoIn x) : Con Tryz.prog 57 [.agg (wso x), nilF] L (fun r M => ∃ q pp ph, r = .tuple #[hp ph, hp q, .bool true] ∧ M = qsA q pp ph (oSl x) (oTg x) (List.replicate (oNn x) (zb (oSz x))) [] :: L) :=
  (begun_x (L := L) hi (fv := nilF) (fl := []) (by simp) (by simp) Rd.nil rfl).mono fun r M hh => by
    obtain ⟨q, pp, ph, h1, rfl⟩ := hh
    exact ⟨_, qsA_mk (s0 := oSl x) (log := []) (oQi hi.key), q, pp, ph, h1, rfl⟩
def powN (n : Nat) : Nat := if n = 0 then 0 else 2 ^ n.log2
theorem power_x (n : Nat) (hn : n ≤ 40) : Con Tryz.prog 45 [nvv n] [] (fun r M => r = nvv (powN n) ∧ M = []) := by
  refine fn_y Tryz.func45 Tryz.mixed ?_
  intro w0
  refine V9 ?_
  refine Zgo [(3, 10)] (by kernel_rfl) (fun i : Nat => i ≤ 6 ∧ (i = 0 ∨ 2 ^ (i - 1) ≤ n)) (fun _ => []) (fun i => [(3, nvv (if i = 0 then 0 else 2 ^ (i - 1))), (4, nvv (2 ^ i))]) (fun i => 7 - i) 0 ⟨by omega, .inl rfl⟩ qI ⟨rfl, rfl, trivial⟩ ?_
  rintro i u ⟨hi, hi2⟩
  have hp : 2 ^ i ≤ 2 ^ 6 := Nat.pow_le_pow_right (by omega) hi
  by_cases hB : 2 ^ i ≤ n
  · have hi6 : i < 6 := by
      apply Nat.lt_of_not_le
      intro hh
      obtain rfl : i = 6 := by omega
      omega
    have e : 2 * 2 ^ i = 2 ^ (i + 1) := by rw [Nat.pow_succ, Nat.mul_comm]
    refine Y3 ?_
    refine Zhg (Zmg (a := 2 ^ i) (b := n) rfl rfl) ?_
    refine Zos 7 rfl (hB) ?_
    refine Y8 ?_
    refine Zhg (Zmc (a := 2) (b := 2 ^ i) rfl rfl (by omega)) ?_
    refine V2 ?_
    rw [e]
    exact Zgl (i + 1) qO ⟨by omega, .inr hB⟩ qI ⟨rfl, rfl, trivial⟩
  · have e : (if i = 0 then 0 else 2 ^ (i - 1)) = powN n := by
      unfold powN
      by_cases h0 : i = 0
      · subst h0
        have : n = 0 := by
          have : ¬ 1 ≤ n := hB
          omega
        rw [if_pos rfl, if_pos this]
      · have h2 := hi2.resolve_left h0
        have hpos := NetS.pow_pos2 (i - 1)
        have hn0 : n ≠ 0 := by omega
        rw [if_neg h0, if_neg hn0]
        congr 1
        have e1 : 2 ^ (i - 1) * 2 = 2 ^ i := by rw [← Nat.pow_succ]; congr 1; omega
        exact ((Nat.log2_eq_iff hn0).2 ⟨h2, by rw [show i - 1 + 1 = i by omega]; omega⟩).symm
    rw [e]
    refine Y3 ?_
    refine Zhg (Zmg (a := 2 ^ i) (b := n) rfl rfl) ?_
    refine Zot 7 rfl (hB) ?_
    refine V6 ?_
    refine rx1 (Zg9 rfl (Zg7)) ?_
    exact ⟨_, ⟨rfl, rfl⟩, qI⟩
theorem powN_le (n : Nat) : powN n ≤ n := by
  unfold powN
  split
  · omega
  · rename_i h; exact Nat.log2_self_le h
theorem powN_pad {n : Nat} (hn : n ≤ 256) : padN (powN n) = powN n := by
  unfold powN
  by_cases h : n = 0
  · rw [if_pos h]; rfl
  · rw [if_neg h]
    have : n.log2 < 9 := (Nat.log2_lt h).2 (by omega)
    exact padN_pow ⟨_, this⟩
def gatesN (n : Nat) : List (Nat × Nat) := if n = 0 then [] else NetS.gates n.log2
theorem gatesN_g {n : Nat} (hn : n ≤ 256) (b : Nat) : Gives Tryz.prog 127 [.pointer (some ⟨b, 0, none⟩)] [cl b #[nvv (powN n)] 3] ((gatesN n).map encG) := by
  unfold powN gatesN
  by_cases h : n = 0
  · rw [if_pos h, if_pos h]; exact bitonic0_g
  · rw [if_neg h, if_neg h]
    have : n.log2 < 9 := (Nat.log2_lt h).2 (by omega)
    exact bitonic_g (by omega)
theorem gatesN_ok {n N : Nat} (hN : n ≤ N) : ∀ g ∈ gatesN n, NetS.okG N g := by
  intro g hg
  unfold gatesN at hg
  split at hg
  · cases hg
  · rename_i h
    obtain ⟨h1, h2, h3⟩ := NetS.gates_ok _ g hg
    have := Nat.log2_self_le h
    exact ⟨by omega, by omega, h3⟩
theorem gatesN_len {n : Nat} (hn : n ≤ 256) : (gatesN n).length ≤ 16384 := by
  unfold gatesN
  split
  · show 0 ≤ _; omega
  · rename_i h
    have : n.log2 < 9 := (Nat.log2_lt h).2 (by omega)
    exact NetS.gates_len (by omega)
end Go.Sl
namespace Go.Sl
open Go Go.Proofs
attribute [local irreducible] pt old pur ex all den denOps denS xOps xC cX CX xthen xblk xcut xloop xng retX resX Calls PV Rd Con
attribute [local irreducible] hostA pgA qsA PagerS.loadP PagerS.saveP withinN wso sizedB
open SlotS (SL Acc Fit QI slv zb)
open PagerS (PS Over)
def fillT (bs : List (List Byte)) (sz n i : Nat) : List (List Byte) := (List.range n).map fun k => if k < i then sizedB (bs.getD k []) sz else zb sz
theorem fillT_zero (bs : List (List Byte)) (sz n : Nat) : fillT bs sz n 0 = List.replicate n (zb sz) := by
  apply List.ext_getElem (by simp [fillT])
  intro j h1 h2
  simp [fillT]
theorem fillT_set {bs : List (List Byte)} {sz n i : Nat} (hi : i < n) : (fillT bs sz n i).set i (sizedB (bs.getD i []) sz) = fillT bs sz n (i + 1) := by
  apply List.ext_getElem (by simp [fillT])
  intro j h1 h2
  rw [List.getElem_set]
  simp only [fillT, List.getElem_map, List.getElem_range]
  by_cases e : i = j
  · subst e; rw [if_pos rfl, if_pos (by omega)]
  · rw [if_neg e]
    by_cases e2 : j < i
    · rw [if_pos e2, if_pos (by omega)]
    · rw [if_neg e2, if_neg (by omega)]
def setsL (i : Nat) : List Acc := (List.range i).map fun k : Nat => ((1, (k : Int), 0) : Acc)
theorem setsL_succ (i : Nat) : setsL (i + 1) = setsL i ++ [(1, (i : Int), 0)] := by unfold setsL; rw [List.range_succ, List.map_append]; rfl
theorem setsL_len (i : Nat) : (setsL i).length = i := by unfold setsL; simp
def rowsF (bs : List (List Byte)) (sz n : Nat) : List (List Byte) := fillT bs sz n n
abbrev bsOf (ps : List (Value × List Byte)) : List (List Byte) := ps.map (·.2)
theorem bsOf_at {ps : List (Value × List Byte)} {i : Nat} (h : i < ps.length) : (bsOf ps).getD i [] = ps[i].2 := by
  rw [List.getD_eq_getElem?_getD, List.getElem?_map, List.getElem?_eq_getElem h]; rfl
section
variable {L : List Asrt} {x : SoWorldV} {v : Value} {ps : List (Value × List Byte)}
theorem filled_x (hi : SoIn x) (hr : Rs L v ps) (hl : oNn x ≤ ps.length) : Con Tryz.prog 43 [.agg (wso x), v] L (fun r M => ∃ q pp ph, r = .tuple #[hp ph, hp q, .bool true] ∧ M = qsA q pp ph (oSl x) (oTg x) (rowsF (bsOf ps) (oSz x) (oNn x)) (setsL (oNn x)) :: L) := by
  refine Con.get (fun w0 w F H => hr.sh _ _ _ H) ?_
  rintro ⟨va, vc, rfl, hvc, hvcm⟩
  have hk := hi.key
  have hlen := wso_len hk
  have h := onum x
  have h1 := h.sz; have h2 := h.tx; have h3 := h.pg; have h4 := h.wn; have h5 := h.n
  have hsh := shape_x hi
  have hbg := begunQ_x (L := []) hi
  unfold rowsF
  have es : (oSl x).size = oSz x := rfl
  have en : (oSl x).n = oNn x := rfl
  generalize oSl x = S0 at *
  generalize oTg x = T0 at *
  refine fn_y Tryz.func43 Tryz.mixed ?_
  intro w0
  refine Y1 ?_
  refine Zh5 rfl ?_; intro b2
  refine Y6 ?_
  refine Zor (c := hbg) (k := ?_)
  rintro _ _ ⟨q, pp, ph, rfl, rfl⟩
  refine Y11 ?_
  refine Zhg (Zb0 rfl) ?_
  refine Zhn 19 rfl (rfl) ?_
  refine Y4 ?_
  refine Zor (c := hsh) (k := ?_)
  rintro _ _ ⟨rfl, rfl⟩
  refine Y1 ?_
  refine Zhz (cs := #[.int .i64 0, .int .i64 0, .int .i64 0, .int .i64 0, .int .i64 0]) rfl ?_; intro b10
  first|refine Zhy rfl rfl qR qZ (by first|rfl|exact oneM_u8 _|exact oneL_u8 _|exact acc_one _|exact acc_ones _|assumption|(simp [oneC]; done)) qZ ?_|refine Zhx rfl rfl qR qZ (by first|rfl|exact oneM_u8 _|exact oneL_u8 _|exact acc_one _|exact acc_ones _|assumption|(simp [oneC]; done)) qZ rfl ?_
  refine V4 ?_
  refine Zgo [(4, 6), (11, 11), (22, 38)] (by kernel_rfl) (fun i : Nat => i ≤ oNn x) (fun i => qsA q pp ph S0 T0 (fillT (bsOf ps) (oSz x) (oNn x) i) (setsL i) :: cl b10 (shV x) 86 :: cl b2 (wso x) 84 :: L) (fun i => [(11, nvv i)]) (fun i => oNn x - i) 0 (Nat.zero_le _) (by rw [fillT_zero]; show Imp _ (qsA q pp ph S0 T0 _ [] :: _); exact qI) ⟨rfl, trivial⟩ ?_
  intro i u hi9
  refine V6 ?_
  refine Zgg rfl (fun hB => ?_) (fun hB => ?_)
  · have hib : i < ps.length := by omega
    refine Zgt (fun F w H => (hr.rd.imp qI).someAt (by omega) H) ?_
    rintro ⟨g, o, rfl⟩
    have hbi := hr.el _ (List.getElem_mem hib)
    have hsz := sized_x hbi (oSz x) (by omega)
    have hq2 := fun gb => qset_x (q := q) (pp := pp) (ph := ph) (s0 := S0) (tg := T0) (rows := fillT (bsOf ps) (oSz x) (oNn x) i) (log := setsL i) (by rw [setsL_len]; omega) (m := i) (by omega) (v := sizedB ps[i].2 (oSz x)) (by rw [sizedB_len, es]) (L := [blk gb (sizedB ps[i].2 (oSz x))]) (bs_full (n := oSz x) .here (sizedB_len _ _) (by omega))
    have e1 : (fillT (bsOf ps) (oSz x) (oNn x) i).set i (sizedB ps[i].2 (oSz x)) = fillT (bsOf ps) (oSz x) (oNn x) (i + 1) := by rw [← bsOf_at hib]; exact fillT_set hB
    rw [e1, ← setsL_succ] at hq2
    refine Ct.o ?_
    refine Zij ((cl b10 (shV x) 86 :: L)) [7] (.q 0 (.q 1 (.q 2 (.q 3 (.q 4 (.q 6 (.r 5 (.r 7 (.e 8 false (.e 9 false (.q 10 .nil))))))))))) (by kernel_rfl) (by kernel_rfl) (Imp.arr qV) ?_
    refine W6 ?_
    refine Zfh rfl rfl (((hr.imp qI).rd.at hib (getM (f := Prod.fst) hib))) ?_
    refine W1 ?_
    refine Ziq rfl ?_
    refine Zor (c := hsz) (k := ?_)
    rintro _ _ ⟨gb, rfl, rfl⟩
    refine Y1 ?_
    refine Zg3 ⟨(fun hh => Bool.noConfusion hh), ?_⟩
    refine Ziq rfl ?_
    refine Zor (c := hq2 gb) (k := ?_)
    rintro _ _ ⟨rfl, rfl⟩
    refine Y1 ?_
    refine Zg3 ⟨(fun hh => Bool.noConfusion hh), ?_⟩
    refine W1 ?_
    refine Zov 38 rfl ((fun hh => hh rfl)) ?_
    refine Zik ?_
    refine V6 ?_
    exact Zgl (i + 1) qO (by omega) qI ⟨rfl, trivial⟩
  · obtain rfl : i = oNn x := by omega
    refine V7 ?_
    refine rx3 (Zhb rfl (Zhb rfl (Zha rfl (Zg7)))) ?_
    exact ⟨_, ⟨q, pp, ph, rfl, rfl⟩, qI⟩
end
section
variable {q pp ph : Nat} {s0 : SL} {tg : PS × HostS.HS} {rows : List (List Byte)} {log : List Acc}
end
end Go.Sl
namespace Go.Sl
open Go Go.Proofs
attribute [local irreducible] pt old pur ex all den denOps denS xOps xC cX CX xthen xblk xcut xloop xng retX resX Calls PV Rd Con
attribute [local irreducible] lowB leB
def hdV (live flag : Byte) (index rank : BitVec 32) (grp : List Byte) : Array Value := #[u8b live, u8b flag, u32b index, u32b rank] ++ (grp.map u8b).toArray
def mkR (live flag : Byte) (index rank : BitVec 32) (grp body : List Byte) : List Byte := (([live, flag] ++ leB index 4) ++ leB rank 4) ++ grp ++ body
theorem mkR_len {live flag : Byte} {index rank : BitVec 32} {grp body : List Byte} (hg : grp.length = 16) : (mkR live flag index rank grp body).length = 26 + body.length := by unfold mkR; simp only [List.length_append, leB_len, hg, List.length_cons, List.length_nil]
theorem hdV_len {live flag : Byte} {index rank : BitVec 32} {grp : List Byte} (hg : grp.length = 16) : (hdV live flag index rank grp).size = 20 := by unfold hdV; simp [hg]
section
variable {live flag : Byte} {index rank : BitVec 32} {grp : List Byte}
theorem hdV_0 : (hdV live flag index rank grp)[0]? = some (u8b live) := by unfold hdV; simp
theorem hdV_1 : (hdV live flag index rank grp)[1]? = some (u8b flag) := by unfold hdV; simp
theorem hdV_2 : (hdV live flag index rank grp)[2]? = some (u32b index) := by unfold hdV; simp
theorem hdV_3 : (hdV live flag index rank grp)[3]? = some (u32b rank) := by unfold hdV; simp
theorem hdV_g (hg : grp.length = 16) : (hdV live flag index rank grp).extract 4 (4 + 16 * 1) = (grp.map u8b).toArray := by
  unfold hdV
  apply Array.ext'
  simp [List.extract_eq_take_drop, List.take_of_length_le, hg]
attribute [local irreducible] hdV
theorem head_x (hg : grp.length = 16) : Con Tryz.prog 122 [.agg (hdV live flag index rank grp)] [] (fun r M => ∃ a c, r = .slice a (mkR live flag index rank grp []).length c ∧ M = [ownB a c (mkR live flag index rank grp [])]) := by
  have hlen := hdV_len (live := live) (flag := flag) (index := index) (rank := rank) hg
  have p1 := fun b => put32_x (L := [cl b #[u8b live, u8b flag] 5]) (v := .slice (some ⟨b, 0, none⟩) 2 2) (b := [live, flag]) index (bs_full (n := 2) .here rfl (by omega)) (by show 2 ≤ _; omega)
  have l1 : ([live, flag] ++ leB index 4).length = 6 := by simp [leB_len]
  have p2 := fun a c => put32_x (L := [own 5 1 (.slice a ([live, flag] ++ leB index 4).length c) ([live, flag] ++ leB index 4).length (([live, flag] ++ leB index 4).map u8b)]) (b := [live, flag] ++ leB index 4) rank (Bs.own .here) (by omega)
  have l2 : (([live, flag] ++ leB index 4) ++ leB rank 4).length = 10 := by simp [leB_len]
  have e9 : mkR live flag index rank grp [] = (([live, flag] ++ leB index 4) ++ leB rank 4) ++ grp := by unfold mkR; rw [List.append_nil]
  rw [e9]
  generalize ([live, flag] ++ leB index 4) ++ leB rank 4 = l10 at *
  generalize [live, flag] ++ leB index 4 = l6 at *
  refine fn_y Tryz.func122 Tryz.mixed ?_
  intro w0
  refine Y1 ?_
  refine Zh5 rfl ?_; intro b1
  refine Y4 ?_
  refine Zhp rfl qH (hdV_0) ?_
  refine Y1 ?_
  refine Zhp rfl qH (hdV_1) ?_
  refine Zh7 (cs := #[.int .u8 _, .int .u8 _]) (by omega) (by omega) rfl ?_; intro b8
  refine Y1 ?_
  refine Zhp rfl qH (hdV_2) ?_
  refine Zor (c := p1 b8) (k := ?_)
  rintro _ _ ⟨a1, c1, rfl, rfl⟩
  refine Y6 ?_
  refine Zhp rfl qH (hdV_3) ?_
  refine Zor (c := p2 a1 c1) (k := ?_)
  rintro _ _ ⟨a2, c2, rfl, rfl⟩
  refine Y6 ?_
  refine Zhg (Zmy (h := 16) rfl rfl) ?_
  refine Zia rfl rfl qH (Rd.cl (xs := grp.map u8b) qH (by rw [List.length_map, hg]) (by omega) (by rw [hdV_g hg])) (by first|rfl|exact oneM_u8 _|exact oneL_u8 _|assumption|(simp [oneC]; done)) (by omega) qS ?_; intro a3 c3
  refine V2 ?_
  refine rx1 (Zhc rfl (Zg7)) ?_
  refine ⟨_, ⟨a3, c3, ?_, rfl⟩, ?_⟩
  · rw [List.length_append, hg]
  · unfold ownB
    rw [List.length_append, hg, List.map_append]
    exact qI
theorem make_x {L : List Asrt} {vb : Value} {body : List Byte} (hg : grp.length = 16) (hb : Bs L vb body) (hbl : body.length ≤ 1000000) : Con Tryz.prog 83 [.agg (hdV live flag index rank grp), vb] L (fun r M => ∃ a c, r = .slice a (mkR live flag index rank grp body).length c ∧ M = ownB a c (mkR live flag index rank grp body) :: L) := by
  refine Con.get (fun w0 w F H => hb.sh _ _ _ H) ?_
  rintro ⟨va, vc, rfl, hvc, hvcm⟩
  have hlen := hdV_len (live := live) (flag := flag) (index := index) (rank := rank) hg
  have hh := head_x (live := live) (flag := flag) (index := index) (rank := rank) hg
  have hl := mkR_len (live := live) (flag := flag) (index := index) (rank := rank) (body := []) hg
  have e9 : mkR live flag index rank grp body = mkR live flag index rank grp [] ++ body := by unfold mkR; rw [List.append_nil]
  rw [e9]
  generalize mkR live flag index rank grp [] = l26 at *
  have hl : l26.length = 26 := hl
  refine fn_y Tryz.func83 Tryz.mixed ?_
  intro w0
  refine Y1 ?_
  refine Zh5 rfl ?_; intro b2
  refine Y4 ?_
  refine Zor (c := hh) (k := ?_)
  rintro _ _ ⟨a1, c1, rfl, rfl⟩
  refine Y2 ?_
  refine Zia rfl rfl qH ((hb.rd.imp qI)) (by first|rfl|exact oneM_u8 _|exact oneL_u8 _|assumption|(simp [oneC]; done)) (by omega) qS ?_; intro a3 c3
  refine V2 ?_
  refine rx1 (Zhc rfl (Zg7)) ?_
  refine ⟨_, ⟨a3, c3, by rw [List.length_append], rfl⟩, ?_⟩
  unfold ownB
  rw [List.length_append, List.map_append]
  exact qI
end
end Go.Sl
namespace Go.Sl
open Go Go.Proofs
attribute [local irreducible] pt old pur ex all den denOps denS xOps xC cX CX xthen xblk xcut xloop xng retX resX Calls PV Rd Con
attribute [local irreducible] hostA pgA qsA PagerS.loadP PagerS.saveP withinN wso sizedB
open SlotS (SL Acc Fit QI slv zb)
open PagerS (PS Over)
open NetS (pairG)
theorem hd_fill {pl : Nat → Option (Nat × Nat)} {live : Byte} {index : BitVec 32} {grp : List Byte} (hg : grp.length = 16) (h0 : pl 0 = some (0, 1)) (h2 : pl 2 = some (2, 1)) (h4 : pl 4 = some (4, 16)) :
    Instr.fill pl ([] ++ ([Value.int .u8 0] ++ ([Value.int .u8 0, .int .u32 0, .int .u32 0] ++ List.replicate 16 (Value.int .u8 0)))).toArray [(0, u8b live), (2, u32b index), (4, .agg (grp.map u8b).toArray)] = some (hdV live 0#8 index 0#32 grp) := by
  refine fill_seg (V := [u8b live]) h0 rfl rfl rfl rfl ?_
  show Instr.fill pl ([u8b live, Value.int .u8 0] ++ ([Value.int .u32 0] ++ (Value.int .u32 0 :: List.replicate 16 (Value.int .u8 0)))).toArray _ = _
  refine fill_seg (V := [u32b index]) h2 rfl rfl rfl rfl ?_
  show Instr.fill pl ([u8b live, Value.int .u8 0, u32b index, Value.int .u32 0] ++ (List.replicate 16 (Value.int .u8 0) ++ [])).toArray _ = _
  refine fill_seg (V := grp.map u8b) h4 rfl (by simp) (by simp [Value.cells]) (by simp [hg]) ?_
  rw [fill_end]
  congr 1
  unfold hdV
  apply Array.ext'
  simp
-- works
namespace SoW
def x0 (b : Nat) : SoWorldV := ⟨26, 60, 2, List.replicate 32 0#8, 0#64, .slice none 0 0, [], .slice (some ⟨b, 0, none⟩) 4 4, List.replicate 4 (.slice none 0 0, []), .slice none 0 0, []⟩
def grp (i : Nat) : Byte := [2#8, 1#8, 0#8, 1#8].getD i 0#8
def lv (i : Nat) : Byte := if (grp i).toNat = 0 then 0#8 else 1#8
def rec (i : Nat) : List Byte := mkR (lv i) 0#8 (BitVec.ofInt 32 (i : Int)) 0#32 (grp i :: List.replicate 15 0#8) []
def rowsW (i : Nat) : List (List Byte) := (List.range 4).map fun k => if k < i then rec k else zb 26
def rows2 : List (List Byte) := (gatesN 4).foldl (pairG fun a b => yesM (byGrp a b)) (rowsW 4)
theorem sz0 (b : Nat) : oSz (x0 b) = 26 := by with_unfolding_all rfl
theorem n0 (b : Nat) : oNn (x0 b) = 4 := by with_unfolding_all rfl
theorem was : orW (fun a b => yesM (byGrp a b)) (rowsW 4) 4 ≠ 0#64 := by decide +kernel
theorem is : orW (fun a b => yesM (byGrp a b)) rows2 4 = 0#64 := by decide +kernel
theorem r0 : (rows2.getD 0 []).length = 26 ∧ (rows2.getD 0 [])[2]? = some 1#8 := by decide +kernel
theorem lens : ∀ k : Fin 4, ((rowsW 4).getD k []).length = 26 ∧ (rows2.getD k []).length = 26 := by decide +kernel
theorem glen : (gatesN 4).length = 6 := by decide +kernel
theorem rset : ∀ i : Fin 4, (rowsW i).set i (rec i) = rowsW (i + 1) := by decide +kernel
theorem rlen : ∀ i : Fin 4, (rec i).length = 26 := by decide +kernel
theorem lvN : ∀ i : Fin 4, min (grp i).toNat 1 = (lv i).toNat := by decide
theorem pw : powN 4 = 4 := by decide +kernel
end SoW
attribute [local irreducible] SoW.rowsW SoW.rows2 SoW.rec hdV mkR
namespace SoW
theorem grpAt : ∀ i : Nat, i < 4 → (#[u8b 2#8, u8b 1#8, u8b 0#8, u8b 1#8])[i]? = some (u8b (grp i))
  | 0, _ => rfl
  | 1, _ => rfl
  | 2, _ => rfl
  | 3, _ => rfl
theorem pv_lv {ρ : Env} {x : Operand} {i : Nat} (hi : i < 4) (hx : ev ρ x = .int .i64 (min ((grp i).toNat : Int) 1)) : PV Tryz.prog (.convert 3 5 x) ρ (u8b (lv i)) := by
  have e := lvN ⟨i, hi⟩
  have e2 : (min ((grp i).toNat : Int) 1) = ((lv i).toNat : Int) := by
    have e : min (grp i).toNat 1 = (lv i).toNat := e
    omega
  rw [e2] at hx
  have := Zjs (P := Tryz.prog) (S := 3) (D := 5) hx
  have e3 : BitVec.ofInt 8 ((lv i).toNat : Int) = lv i := by
    apply BitVec.eq_of_toNat_eq
    rw [BitVec.toNat_ofInt]
    have := (lv i).isLt
    omega
  rwa [e3] at this
end SoW
attribute [local irreducible] SoW.lv SoW.grp
open SoW in
theorem soWorks_x : Con Tryz.prog 41 [] [] (fun r M => r = .bool true ∧ M = []) := by
  have hbg := fun b => begunQ_x (L := []) (x := x0 b) ⟨rfl, ⟨_, _, rfl⟩, by show Big 26; omega, by show Big 60; omega, by show Big 2; omega⟩
  have en := fun b => show (oSl (x0 b)).n = 4 from n0 b
  have es := fun b => show (oSl (x0 b)).size = 26 from sz0 b
  have e0 : ∀ b, List.replicate (oNn (x0 b)) (zb (oSz (x0 b))) = rowsW 0 := fun b => by rw [n0, sz0]; with_unfolding_all rfl
  simp only [e0] at hbg
  obtain ⟨r0a, r0b⟩ := r0
  have hlen := lens
  refine fn_y Tryz.func41 Tryz.mixed ?_
  intro w0
  refine Y4 ?_
  refine Zh6 rfl rfl qS qS qS (by omega) ?_; intro b14
  refine Zhg (Zdm (cs := wso (x0 b14)) (by kernel_rfl)) ?_
  refine Zor (c := hbg b14) (k := ?_)
  rintro _ _ ⟨q, pp, ph, rfl, rfl⟩
  refine V9 ?_
  have en := en b14
  have es := es b14
  clear hbg e0
  generalize oSl (x0 b14) = S0 at *
  generalize oTg (x0 b14) = T0 at *
  refine Y2 ?_
  refine Zhg (Zb0 rfl) ?_
  refine Zhn 21 rfl (rfl) ?_
  refine Y3 ?_
  refine Zhn 24 rfl (rfl) ?_
  refine Y4 ?_
  refine Zh7 (cs := #[u8b 2#8, u8b 1#8, u8b 0#8, u8b 1#8]) (by omega) (by omega) (by kernel_rfl) ?_; intro b26
  refine V5 ?_
  refine Zgo [(0, 0), (5, 5), (27, 50)] (by kernel_rfl) (fun i : Nat => i ≤ 4) (fun i => [qsA q pp ph S0 T0 (rowsW i) (setsL i), cl b26 #[u8b 2#8, u8b 1#8, u8b 0#8, u8b 1#8] 5]) (fun i => [(5, nvv i)]) (fun i => 4 - i) 0 (Nat.zero_le _) qI ⟨rfl, trivial⟩ ?_
  intro i u hi
  refine V4 ?_
  refine Zgg rfl (fun hB => ?_) (fun hB => ?_)
  · have hrl : (rec i).length = 26 := rlen ⟨i, hB⟩
    have hmk := make_x (L := []) (live := lv i) (flag := 0#8) (index := BitVec.ofInt 32 (i : Int)) (rank := 0#32) (grp := grp i :: List.replicate 15 0#8) (vb := .slice none 0 0) (body := []) (by simp) Bs.nil (by simp)
    have hre : mkR (lv i) 0#8 (BitVec.ofInt 32 (i : Int)) 0#32 (grp i :: List.replicate 15 0#8) [] = rec i := by with_unfolding_all rfl
    rw [hre] at hmk
    have hst := fun a c => qset_x (q := q) (pp := pp) (ph := ph) (s0 := S0) (tg := T0) (rows := rowsW i) (log := setsL i) (L := [ownB a c (rec i)]) (by rw [setsL_len]; omega) (m := i) (by omega) (v := rec i) (by omega) (Bs.own .here)
    have ers : (rowsW i).set i (rec i) = rowsW (i + 1) := rset ⟨i, hB⟩
    rw [ers, ← setsL_succ] at hst
    rw [hrl] at hmk hst
    refine Ct.o ?_
    refine Zij ([cl b26 #[u8b 2#8, u8b 1#8, u8b 0#8, u8b 1#8] 5]) [14, 15] (.q 0 (.q 1 (.q 2 (.q 3 (.q 4 (.q 9 (.q 10 (.q 11 (.q 12 (.q 13 (.r 5 (.q 6 (.q 7 (.q 8 (.r 14 (.r 15 (.q 16 (.e 17 false (.e 18 false (.q 19 .nil)))))))))))))))))))) (by kernel_rfl) (by kernel_rfl) (Imp.arr qV) ?_
    refine W6 ?_
    refine Zim rfl (Zk6 rfl) ?_
    refine W3 ?_
    refine Ziv rfl rfl qH (grpAt i hB) ?_
    refine Zim rfl (Zjt rfl) ?_
    refine W1 ?_
    refine Zim rfl (pv_lv hB rfl) ?_
    refine Ziv rfl rfl qH (grpAt i hB) ?_
    refine Ziz rfl (Zdn (cs := ((grp i :: List.replicate 15 0#8).map u8b).toArray) rfl) ?_
    refine Zim rfl (Zdm (cs := hdV (lv i) 0#8 (BitVec.ofInt 32 (i : Int)) 0#32 (grp i :: List.replicate 15 0#8)) (hd_fill (by simp) rfl rfl rfl)) ?_
    refine Ziq rfl ?_
    refine Zor (c := hmk) (k := ?_)
    rintro _ _ ⟨ma, mc, rfl, rfl⟩
    refine Y1 ?_
    refine Zg3 ⟨(fun hh => Bool.noConfusion hh), ?_⟩
    refine Ziq rfl ?_
    refine Zor (c := hst ma mc) (k := ?_)
    rintro _ _ ⟨rfl, rfl⟩
    refine Y1 ?_
    refine Zg3 ⟨(fun hh => Bool.noConfusion hh), ?_⟩
    refine W1 ?_
    refine Zov 50 rfl ((fun hh => hh rfl)) ?_
    refine Zik ?_
    refine Ct.o ?_
    all_goals
      refine V6 ?_
      exact Zgl (i + 1) qO (by omega) qI ⟨rfl, trivial⟩
  · obtain rfl : i = 4 := by omega
    have hz : S0.size ≤ 4096 := by omega
    have hrl1 : ∀ k, k < S0.n → ((rowsW 4).getD k []).length = S0.size := fun k hk => by rw [es]; exact (hlen ⟨k, by omega⟩).1
    have hrl2 : ∀ k, k < S0.n → (rows2.getD k []).length = S0.size := fun k hk => by rw [es]; exact (hlen ⟨k, by omega⟩).2
    have hs1 := soSorted_x (q := q) (pp := pp) (ph := ph) (s0 := S0) (tg := T0) (rows := rowsW 4) (log := setsL 4) (n := 4) (by omega) (by omega) (by rw [setsL_len]; omega) hz hrl1 (byGrp_con (L := []))
    rw [decide_eq_false was] at hs1
    have hgs := fun b => gatesN_g (n := 4) (by omega) b
    rw [pw] at hgs
    have hs2 := soSort_x (m := 0) (q := q) (pp := pp) (ph := ph) (s0 := S0) (tg := T0) (rows := rowsW 4) (log := setsL 4 ++ getsL 4) (n := 4) (gs := gatesN 4) (by omega) (by omega) (by decide) hgs (gatesN_ok (by omega)) (by rw [glen, List.length_append, setsL_len, getsL_len]; omega) hz (byGrp_con (L := []))
    have er : (gatesN 4).foldl (pairG fun a b => yesM (byGrp a b)) (rowsW 4) = rows2 := by with_unfolding_all rfl
    rw [er] at hs2
    have hs3 := soSorted_x (q := q) (pp := pp) (ph := ph) (s0 := S0) (tg := T0) (rows := rows2) (log := setsL 4 ++ getsL 4 ++ (gatesN 4).map accG) (n := 4) (by omega) (by omega) (by rw [List.length_append, List.length_append, List.length_map, glen, setsL_len, getsL_len]; omega) hz hrl2 (byGrp_con (L := []))
    rw [decide_eq_true is] at hs3
    have hgt := qget_x (q := q) (pp := pp) (ph := ph) (s0 := S0) (tg := T0) (rows := rows2) (log := setsL 4 ++ getsL 4 ++ (gatesN 4).map accG ++ getsL 4) (by rw [List.length_append, List.length_append, List.length_append, List.length_map, glen, setsL_len, getsL_len]; omega) (m := 0) (by omega)
    have hll : (setsL 4 ++ getsL 4 ++ (gatesN 4).map accG ++ getsL 4 ++ [(0, ((0 : Nat) : Int), 0)]).length = 19 := by rw [List.length_append, List.length_append, List.length_append, List.length_append, List.length_map, glen, setsL_len, getsL_len]; rfl
    have hlg := qlog_x (q := q) (pp := pp) (ph := ph) (s0 := S0) (tg := T0) (rows := rows2) (log := setsL 4 ++ getsL 4 ++ (gatesN 4).map accG ++ getsL 4 ++ [(0, ((0 : Nat) : Int), 0)]) (by rw [hll]; omega)
    rw [hll] at hlg
    generalize setsL 4 ++ getsL 4 ++ (gatesN 4).map accG ++ getsL 4 ++ [(0, ((0 : Nat) : Int), 0)] = l5 at *
    generalize setsL 4 ++ getsL 4 ++ (gatesN 4).map accG ++ getsL 4 = l4 at *
    generalize setsL 4 ++ getsL 4 ++ (gatesN 4).map accG = l3 at *
    generalize setsL 4 ++ getsL 4 = l2 at *
    have hb2 : (rows2.getD 0 []).map u8b = (rows2.getD 0 []).map u8b := rfl
    have h2at : ((rows2.getD 0 []).map u8b)[2]? = some (u8b 1#8) := by rw [List.getElem?_map, r0b]; rfl
    generalize rows2.getD 0 [] = rr at *
    refine Y2 ?_
    refine Zor (c := hs1) (k := ?_)
    rintro _ _ ⟨rfl, rfl⟩
    refine Y9 ?_
    refine Zor (c := hs2) (k := ?_)
    rintro _ _ ⟨rfl, rfl⟩
    refine Y5 ?_
    refine Zor (c := hs3) (k := ?_)
    rintro _ _ ⟨rfl, rfl⟩
    refine Y9 ?_
    refine Zor (c := hgt) (k := ?_)
    rintro _ _ ⟨ga, gc, rfl, rfl⟩
    refine V7 ?_
    refine Zgt (fun F w H => own_some (a := ga) qH (by omega) H) ?_
    rintro ⟨g, rfl⟩
    refine Y2 ?_
    refine Zhg (Zb0 rfl) ?_
    refine Y6 ?_
    refine Zos 75 rfl (rfl) ?_
    refine Y4 ?_
    refine Zos 79 rfl (rfl) ?_
    refine Y4 ?_
    refine Zos 83 rfl (rfl) ?_
    refine Y4 ?_
    refine Zos 87 rfl (rfl) ?_
    refine Y4 ?_
    first|refine Y0 ?_|(refine Zhh rfl ?_; (refine Zhg (Zmj (a := rr.length) (b := 26) rfl rfl) ?_))
    refine Zos 92 rfl (r0a) ?_
    refine Y3 ?_
    first|refine Y0 ?_|(refine Zhh rfl ?_; (first|refine Zhg (Zl4 (n := 2) rfl rfl) ?_|refine Zhg (Zl1 (n := 2) rfl rfl) ?_))
    first|refine Y0 ?_|(refine Zhh rfl ?_; (refine Zff rfl (((Rd.own (n := rr.length) qH).at0 (by omega) h2at)) ?_))
    first|refine Y0 ?_|(refine Zhh rfl ?_; (refine Zhg (Zjk (x := 1#8) (y := 1#8) rfl rfl) ?_))
    refine Zos 98 rfl (rfl) ?_
    refine Y3 ?_
    first|refine Y0 ?_|(refine Zhh rfl ?_; (refine Zor (c := hlg) (k := ?_)); (rintro _ _ ⟨la, lc, rfl, rfl⟩); (refine Zg2 qA ?_))
    refine Y2 ?_
    refine Zos 104 rfl (rfl) ?_
    refine V3 ?_
    refine rx1 (Zha rfl (Zg7)) ?_
    exact ⟨_, ⟨rfl, rfl⟩, qI⟩
end Go.Sl
namespace Go.Sl
open Go
namespace NetS
end NetS
end Go.Sl
namespace Go.Sl
open Go Go.Proofs
attribute [local irreducible] pt old pur ex all den denOps denS xOps xC cX CX xthen xblk xcut xloop xng retX resX Calls PV Rd Con
attribute [local irreducible] hostA pgA qsA withinN wso sizedB
open SlotS (SL Acc Fit QI slv zb)
section
variable {L : List Asrt} {x : SoWorldV}
end
end Go.Sl
namespace Go.Sl
open Go Go.Proofs
attribute [local irreducible] pt old pur ex all den denOps denS xOps xC cX CX xthen xblk xcut xloop xng retX resX Calls PV Rd Con
attribute [local irreducible] hostA pgA qsA withinN wso sizedB NetS.gates
open SlotS (SL Acc Fit QI slv zb)
open PagerS (PS Over)
open NetS (pairG)
section
variable {L : List Asrt} {x : SoWorldV}
end
end Go.Sl
namespace Go.Sl
open Go Go.Proofs Go.ChangeShapes Go.WideShapes Go.ChangeAt Go.RowKit
theorem soIn_of {W : World} {x : SoWorldV} (ok : SoWorldVOk W x) : SoIn x := by
  obtain ⟨a, c, hv, _, _⟩ := ok.rows_.sh
  exact ⟨ok.key_, ⟨a, c, hv⟩, ok.size_, ok.text_, ok.window_⟩
end Go.Sl
namespace Go.Sl
open Go Go.Proofs
attribute [local irreducible] pt old pur ex all den denOps denS xOps xC cX CX xthen xblk xcut xloop xng retX resX Calls PV Rd Con
attribute [local irreducible] hostA pgA PagerS.loadP PagerS.saveP
open SlotS (SL Acc Fit)
open PagerS (PS Over)
structure AOk (x : Acc) : Prop where
  k : -9223372036854775808 ≤ x.1 ∧ x.1 ≤ 9223372036854775807
  i : -9223372036854775808 ≤ x.2.1 ∧ x.2.1 ≤ 9223372036854775807
  j : -9223372036854775808 ≤ x.2.2 ∧ x.2.2 ≤ 9223372036854775807
theorem alits_is (x : Acc) (h : AOk x) : Tryz.prog.keyLits 4 151 (accs x) = some [.int .i64 x.1, .int .i64 x.2.1, .int .i64 x.2.2] := by
  have c3 : Tryz.prog.cellsOf 3 = 1 := by kernel_rfl
  have c63 : Tryz.prog.cellsOf 151 = 3 := by kernel_rfl
  have i1 := lits_int (d := 2) Tryz.underlying3 (wf_i64 h.k)
  have i2 := lits_int (d := 2) Tryz.underlying3 (wf_i64 h.i)
  have i3 := lits_int (d := 2) Tryz.underlying3 (wf_i64 h.j)
  unfold Program.keyLits
  rw [Tryz.underlying151]
  simp only [accs_len, c63, true_and]
  rw [if_pos (by simp)]
  simp only [List.mapM_cons, List.mapM_nil, accs, c3, List.drop_zero, List.cons_append, List.nil_append, List.drop_succ_cons, List.take_succ_cons, List.take_zero]
  simp only [i1, i2, i3]
  simp
theorem aform (x : Acc) : (Value.agg (accs x).toArray).formed Tryz.prog 151 = true := by
  have c63 : Tryz.prog.cellsOf 151 = 3 := by kernel_rfl
  simp [Value.formed, Tryz.underlying151, c63, accs_len]
theorem pv_neq_acc {ρ : Env} {x y : Operand} {T' : Nat} (a : Acc) (h : AOk a) (hx : ev ρ x = .agg (accs a).toArray) (hy : ev ρ y = .agg (accs a).toArray) : PV Tryz.prog (.binOp .neq 151 x y T') ρ (.bool (decide (¬ a = a))) :=
  Zf7 (m := 4) hx hy (by kernel_rfl) (by omega) (by kernel_rfl) (aform a) (aform a) (alits_is a h) (alits_is a h) ⟨fun _ => rfl, fun _ => rfl⟩
theorem heads_tok {r : BitVec 64} {pages : Int} {size : Nat} {l : List HostS.Touch} (h : PagerS.Heads r pages size l) (hp : pages ≤ 65536) (hz : size ≤ 4124) : ∀ t ∈ l, TOk t := by
  intro t ht
  obtain ⟨i, hi, rfl⟩ := List.mem_iff_getElem.1 ht
  obtain ⟨h1, h2, h3, h4⟩ := h i hi
  rcases h4 with ⟨e, hh, _⟩|⟨e, hh⟩
  · exact ⟨by omega, by omega, by omega, by rw [hh]; simp⟩
  · exact ⟨by omega, by omega, by omega, by rw [hh]; simp [leB_len]⟩
theorem hi_tok {s : PS} {h : HostS.HS} (hi : PagerS.HI s h) (hk : PagerS.Ok s) : ∀ t ∈ h.log, TOk t := by
  have := hk.p1; have := hk.t1; have := hi.over.size
  exact heads_tok hi.heads hk.p1 (by omega)
end Go.Sl
namespace Go.Sl
open Go Go.Proofs
attribute [local irreducible] pt old pur ex all den denOps denS xOps xC cX CX xthen xblk xcut xloop xng retX resX Calls PV Rd Con
attribute [local irreducible] hostA pgA qsA withinN wso sizedB NetS.gates ocells accs PagerS.loadP PagerS.saveP SlotS.ghost
open SlotS (SL Acc Fit QI slv zb)
open PagerS (PS Over)
open NetS (pairG)
theorem sameSeen17_x {L : List Asrt} {va vb : Value} {a : List OTouch} (ha : Rd L 15 va a.length (a.flatMap ocells)) (hb : Rd L 15 vb a.length (a.flatMap ocells)) (hal : a.length ≤ 9223372036854775807) :
    Con Tryz.prog 64 [va, vb] L (fun r M => r = .bool true ∧ L = M) := by
  refine Con.get (fun w0 w F H => ha.len H) ?_
  rintro ⟨aa, ac, rfl⟩
  refine Con.get (fun w0 w F H => hb.len H) ?_
  rintro ⟨ba, bc, rfl⟩
  refine fn_y Tryz.func64 Tryz.mixed ?_
  intro w0
  refine Y9 ?_
  refine Zot 10 rfl ((fun hh => hh rfl)) ?_
  refine V5 ?_
  refine Zgo [(4, 5), (11, 25)] (by kernel_rfl) (fun i : Nat => i ≤ a.length) (fun _ => L) (fun i => [(5, nvv i)]) (fun i => a.length - i) 0 (Nat.zero_le _) qI ⟨rfl, trivial⟩ ?_
  intro i u hi
  refine V6 ?_
  refine Zgg rfl (fun hB => ?_) (fun hB => ?_)
  · refine Zgt (fun F w H => ha.someAt (by omega) H) ?_
    rintro ⟨a1, a2, rfl⟩
    refine Zgt (fun F w H => hb.someAt (by omega) H) ?_
    rintro ⟨b1, b2, rfl⟩
    refine Ct.o ?_
    refine Zij (L) [7] (.q 0 (.q 1 (.q 2 (.q 4 (.q 5 (.q 6 (.r 3 (.r 7 (.q 8 .nil))))))))) (by kernel_rfl) (by kernel_rfl) (Imp.arr qV) ?_
    refine W6 ?_
    refine Zfj rfl rfl (ha.agN ocells_len (by omega) hB) ?_
    refine Zfj rfl rfl (hb.agN ocells_len (by omega) hB) ?_
    refine Zim rfl (pv_neq_touch a[i] a[i] rfl rfl) ?_
    refine Zov 25 rfl ((fun h => h rfl)) ?_
    refine Zik ?_
    refine V6 ?_
    exact Zgl (i + 1) qO (by omega) qI ⟨rfl, trivial⟩
  · refine V3 ?_
    refine rx1 (Zha rfl (Zg7)) ?_
    exact ⟨_, ⟨rfl, rfl⟩, qI⟩
theorem sameLog17_x {L : List Asrt} {va vb : Value} {a : List Acc} (hok : ∀ x ∈ a, AOk x) (ha : Rd L 3 va a.length (a.flatMap accs)) (hb : Rd L 3 vb a.length (a.flatMap accs)) (hal : a.length ≤ 9223372036854775807) :
    Con Tryz.prog 63 [va, vb] L (fun r M => r = .bool true ∧ L = M) := by
  refine Con.get (fun w0 w F H => ha.len H) ?_
  rintro ⟨aa, ac, rfl⟩
  refine Con.get (fun w0 w F H => hb.len H) ?_
  rintro ⟨ba, bc, rfl⟩
  refine fn_y Tryz.func63 Tryz.mixed ?_
  intro w0
  refine Y9 ?_
  refine Zot 10 rfl ((fun hh => hh rfl)) ?_
  refine V5 ?_
  refine Zgo [(4, 5), (11, 25)] (by kernel_rfl) (fun i : Nat => i ≤ a.length) (fun _ => L) (fun i => [(5, nvv i)]) (fun i => a.length - i) 0 (Nat.zero_le _) qI ⟨rfl, trivial⟩ ?_
  intro i u hi
  refine V6 ?_
  refine Zgg rfl (fun hB => ?_) (fun hB => ?_)
  · refine Zgt (fun F w H => ha.someAt (by omega) H) ?_
    rintro ⟨a1, a2, rfl⟩
    refine Zgt (fun F w H => hb.someAt (by omega) H) ?_
    rintro ⟨b1, b2, rfl⟩
    have hoi := hok _ (List.getElem_mem hB)
    refine Ct.o ?_
    refine Zij (L) [7] (.q 0 (.q 1 (.q 2 (.q 4 (.q 5 (.q 6 (.r 3 (.r 7 (.q 8 .nil))))))))) (by kernel_rfl) (by kernel_rfl) (Imp.arr qV) ?_
    refine W6 ?_
    refine Zfj rfl rfl (ha.agN accs_len (by omega) hB) ?_
    refine Zfj rfl rfl (hb.agN accs_len (by omega) hB) ?_
    refine Zim rfl (pv_neq_acc a[i] hoi rfl rfl) ?_
    refine Zov 25 rfl ((fun h => h rfl)) ?_
    refine Zik ?_
    refine V6 ?_
    exact Zgl (i + 1) qO (by omega) qI ⟨rfl, trivial⟩
  · refine V3 ?_
    refine rx1 (Zha rfl (Zg7)) ?_
    exact ⟨_, ⟨rfl, rfl⟩, qI⟩
theorem aokL (n : Nat) {gs : List (Nat × Nat)} (hn : n ≤ 1000) (hg : ∀ g ∈ gs, NetS.okG n g) : ∀ a ∈ setsL n ++ gs.map accG ++ getsL n ++ gs.map accG, AOk a := by
  have c1 : ∀ g ∈ gs, AOk (accG g) := fun g hh => by
    obtain ⟨h1, h2, _⟩ := hg g hh
    exact ⟨by show _ ≤ (2 : Int) ∧ (2 : Int) ≤ _; omega, by show _ ≤ (g.1 : Int) ∧ (g.1 : Int) ≤ _; omega, by show _ ≤ (g.2 : Int) ∧ (g.2 : Int) ≤ _; omega⟩
  intro a ha
  simp only [List.mem_append] at ha
  rcases ha with ((ha|ha)|ha)|ha
  · unfold setsL at ha
    obtain ⟨k, hk, rfl⟩ := List.mem_map.1 ha
    have := List.mem_range.1 hk
    exact ⟨by dsimp only; omega, by dsimp only; omega, by dsimp only; omega⟩
  · obtain ⟨g, hg, rfl⟩ := List.mem_map.1 ha; exact c1 g hg
  · unfold getsL at ha
    obtain ⟨k, hk, rfl⟩ := List.mem_map.1 ha
    have := List.mem_range.1 hk
    exact ⟨by dsimp only; omega, by dsimp only; omega, by dsimp only; omega⟩
  · obtain ⟨g, hg, rfl⟩ := List.mem_map.1 ha; exact c1 g hg
section
variable {L : List Asrt} {x : SoWorldV}
end
end Go.Sl
namespace Go.Sl
open Go Go.Proofs
attribute [local irreducible] pt old pur ex all den denOps denS xOps xC cX CX xthen xblk xcut xloop xng retX resX Calls PV Rd Con
attribute [local irreducible] hostA pgA qsA brA sgA withinN wso sizedB NetS.gates ocells accs PagerS.loadP PagerS.saveP SlotS.ghost fcells
open SlotS (SL Acc Fit QI slv zb ghost Cut brk)
open PagerS (PS Over)
open NetS (pairG)
theorem rd_pre {α : Type} {E sz : Nat} {cells : α → List Value} {l m : List α} (hsz : ∀ x ∈ l, (cells x).length = sz) (hp : l <+: m) {a : Option Addr} {c : Nat} {M M' : List Asrt} (hm : Has M (own E sz (.slice a m.length c) m.length (m.flatMap cells)) M') : Rd M sz (.slice a l.length c) l.length (l.flatMap cells) := by
  have h := own_takeN (E := E) (sz := sz) (n := m.length) (m := l.length) (c := c) (a := a) (xs := m.flatMap cells) (M := M') hp.length_le
  obtain ⟨r, rfl⟩ := hp
  have e : ((l ++ r).flatMap cells).take (l.length * sz) = l.flatMap cells := by
    rw [List.flatMap_append]
    refine List.take_left' ?_
    rw [List.length_flatMap, List.map_congr_left (fun x hx => hsz x hx), List.map_const', List.sum_replicate_nat]
  rw [e] at h
  have h2 : Rd (own E sz (.slice a l.length c) l.length (l.flatMap cells) :: M') sz (.slice a l.length c) l.length (l.flatMap cells) := Rd.own .here
  exact h2.imp ((Imp.has hm).trans h)
theorem own_capN {E sz n c : Nat} {a : Option Addr} {xs : List Value} {M M' : List Asrt} (hm : Has M (own E sz (.slice a n c) n xs) M') {w0 w : World} {G : Asrt} (H : St w0 w (G :: M)) : n ≤ c ∧ c ≤ 9223372036854775807 := by
  obtain ⟨a', c', hv, h1, h2⟩ := own_shape (H.pick (.there hm))
  simp only [Value.slice.injEq] at hv
  obtain ⟨_, _, rfl⟩ := hv
  exact ⟨h1, h2⟩
theorem setsL_pre {i n : Nat} (h : i ≤ n) : setsL i <+: setsL n := by
  obtain ⟨d, rfl⟩ : ∃ d, n = i + d := ⟨n - i, by omega⟩
  unfold setsL
  rw [List.range_add, List.map_append]
  exact List.prefix_append _ _
section
variable {q pp ph : Nat} {s0 : SL} {tg : PS × HostS.HS} {rows : List (List Byte)} {log : List Acc}
theorem qops_x : Con Tryz.prog 66 [hp ph] [qsA q pp ph s0 tg rows log] (fun r M => r = nvv (ghost s0 tg log).2.ops ∧ M = [qsA q pp ph s0 tg rows log]) :=
  Con.qsA (L := []) fun p h b k => by
    refine (((ops_x (p := ph) (s := h)).frame (L := [slA q pp (slv s0 log), pgA pp ph p])).pre (N := [hostA ph h, slA q pp (slv s0 log), pgA pp ph p]) (Imp.arr qV)).mono ?_
    rintro r M ⟨M', ⟨h1, h2⟩, h3⟩
    subst h2 h3
    exact ⟨_, (Imp.arr (N := [slA q pp (slv s0 log), pgA pp ph p, hostA ph h]) qV).trans (qsA_mk (L := []) k), by rw [h1, show h.ops = (ghost s0 tg log).2.ops from k.two.hr.ops], rfl⟩
theorem qseen_x (hl : log.length ≤ 2000000) : Con Tryz.prog 24 [hp ph] [qsA q pp ph s0 tg rows log] (fun r M => ∃ a c, r = .slice a (ghost s0 tg log).2.log.length c ∧ M = [ownLog a c (ghost s0 tg log).2.log, qsA q pp ph s0 tg rows log]) :=
  Con.qsA (L := []) fun p h b k => by
    have hop := k.ops
    refine (((log_x (p := ph) (s := h) (by omega)).frame (L := [slA q pp (slv s0 log), pgA pp ph p])).pre (N := [hostA ph h, slA q pp (slv s0 log), pgA pp ph p]) (Imp.arr qV)).mono ?_
    rintro r M ⟨M', ⟨a, c, h1, h2⟩, h3⟩
    subst h2 h3
    rw [← show h.log = (ghost s0 tg log).2.log from k.two.hr.log]
    exact ⟨_, (Imp.arr (N := slA q pp (slv s0 log) :: pgA pp ph p :: hostA ph h :: [ownLog a c h.log]) qV).trans ((qsA_mk (L := [ownLog a c h.log]) k).trans Imp.swap), a, c, h1, rfl⟩
end
section
variable {L : List Asrt} {x : SoWorldV}
theorem begunF_x (hi : SoIn x) {fv : Value} {f : HostS.Fault} {F : Nat} (hfo : HostS.FOk f) (hkd : HostS.kindly f = true) (hf : Rd L 6 fv 1 (fcells f)) : Con Tryz.prog 57 [.agg (wso x), fv] L (fun r M => ∃ q pp ph, r = .tuple #[hp ph, hp q, .bool true] ∧ M = brA q pp ph (oSl x) (oTg x) f F (List.replicate (oNn x) (zb (oSz x))) [] :: L) :=
  (begun_x (L := L) hi (fv := fv) (fl := [f]) (by simp) (by simpa using hfo) (by simpa using hf) (by simpa using hkd)).mono fun r M hh => by
    obtain ⟨q, pp, ph, h1, rfl⟩ := hh
    exact ⟨_, brA_mk (s0 := oSl x) (log := []) (f := f) (F := F) (oQi hi.key) (Nat.zero_le _), q, pp, ph, h1, rfl⟩
theorem soTbreaks_x (hi : SoIn x) (hr : Rs L x.rows_V x.rows_) (at_ : Int) (after : Bool) : Con Tryz.prog 12 [.agg (wso x), .int .i64 at_, .bool after] L (fun r M => r = .bool true ∧ L = M) := by
  obtain ⟨ra, rc, hrv⟩ := hi.rows
  have hk := hi.key
  have hlen := wso_len hk
  have hrows := wso_rows_ hk
  have h := onum x
  have h1 := h.sz; have h5 := h.n
  have hnl : oNn x ≤ x.rows_.length := by unfold oNn; omega
  have hsh := shape_x hi
  have hpl := powN_le (oNn x)
  have hpw := power_x (oNn x) h.n
  have es : (oSl x).size = oSz x := rfl
  have en : (oSl x).n = oNn x := rfl
  have hgl := gatesN_len (n := oNn x) (by omega)
  have hgo := gatesN_ok (n := oNn x) (N := oNn x) (Nat.le_refl _)
  have hfl := filled_x (L := L) hi hr hnl
  rw [hrv] at hrows hr hfl
  have hso := fun q pp ph rows => soSort_x (L := []) (m := 0) (q := q) (pp := pp) (ph := ph) (s0 := oSl x) (tg := oTg x) (rows := rows) (log := setsL (oNn x)) (n := powN (oNn x)) (gs := gatesN (oNn x)) (by omega) (by rw [en]; omega) (powN_pad (by omega)) (gatesN_g (by omega)) (by rw [en]; exact hgo) (by rw [setsL_len]; omega) (by rw [es]; omega) byGrp_con
  have hso2 := fun q pp ph f F (hc : Cut f F) rows => brSort_x (L := []) (m := 0) (q := q) (pp := pp) (ph := ph) (s0 := oSl x) (tg := oTg x) (f := f) (F := F) (rows := rows) (log := setsL (oNn x)) (n := powN (oNn x)) (gs := gatesN (oNn x)) hc (by omega) (by rw [en]; omega) (powN_pad (by omega)) (gatesN_g (by omega)) (by rw [en]; exact hgo) (by rw [setsL_len]; omega) (by rw [es]; omega) byGrp_con
  have hao : ∀ a ∈ setsL (oNn x) ++ (gatesN (oNn x)).map accG, AOk a := fun a ha => aokL (oNn x) (gs := gatesN (oNn x)) (by omega) hgo a (List.mem_append_left _ (List.mem_append_left _ ha))
  have hlf : (setsL (oNn x) ++ (gatesN (oNn x)).map accG).length ≤ 2000000 := by rw [List.length_append, List.length_map, setsL_len]; omega
  have hlg := SlotS.grow_ghost (oSl x) (oTg x) (setsL (oNn x)) ((gatesN (oNn x)).map accG)
  have hgr := hlg.ops
  have hgs : ∀ i, i ≤ oNn x → (ghost (oSl x) (oTg x) (setsL i)).2.ops ≤ (ghost (oSl x) (oTg x) (setsL (oNn x))).2.ops := fun i hi => (SlotS.ghost_pre _ _ (setsL_pre hi)).ops
  have hbg := fun (gb : Nat) (f : HostS.Fault) (F : Nat) (hc : Cut f F) (hfo : HostS.FOk f) => begunF_x (L := [cl gb (fcells f).toArray 119]) (F := F) hi (fv := .slice (some ⟨gb, 0, none⟩) 1 1) hfo (by unfold HostS.kindly; rcases hc.kind with e|e <;> rw [e] <;> rfl) (Rd.cl .here (by unfold fcells; rfl) (by unfold fcells; simp) (by unfold fcells; simp))
  generalize hfull : setsL (oNn x) ++ (gatesN (oNn x)).map accG = full at *
  clear hgl hgo
  generalize oSl x = S0 at *
  generalize oTg x = T0 at *
  refine fn_y Tryz.func12 Tryz.mixed ?_
  intro w0
  refine Y1 ?_
  refine Zh5 rfl ?_; intro b3
  refine Y3 ?_
  refine Zor (c := soWorks_x) (k := ?_)
  rintro _ _ ⟨rfl, rfl⟩
  refine Y1 ?_
  refine Zhg (Zb0 rfl) ?_
  refine Zhn 28 rfl (rfl) ?_
  refine Y4 ?_
  refine Zor (c := hsh) (k := ?_)
  rintro _ _ ⟨rfl, rfl⟩
  refine Y1 ?_
  refine Zhz (cs := #[.int .i64 0, .int .i64 0, .int .i64 0, .int .i64 0, .int .i64 0]) rfl ?_; intro b7
  first|refine Zhy rfl rfl qR qZ (by first|rfl|exact oneM_u8 _|exact oneL_u8 _|exact acc_one _|exact acc_ones _|assumption|(simp [oneC]; done)) qZ ?_|refine Zhx rfl rfl qR qZ (by first|rfl|exact oneM_u8 _|exact oneL_u8 _|exact acc_one _|exact acc_ones _|assumption|(simp [oneC]; done)) qZ rfl ?_
  refine Y4 ?_
  refine Zhp rfl qH (hrows) ?_
  refine Zor (c := hfl) (k := ?_)
  rintro _ _ ⟨q, pp, ph, rfl, rfl⟩
  refine V9 ?_
  generalize hR1 : rowsF (bsOf x.rows_) (oSz x) (oNn x) = R1 at *
  refine Y2 ?_
  refine Zhg (Zb0 rfl) ?_
  refine Zhn 40 rfl (rfl) ?_
  refine Y4 ?_
  refine Zor (c := qops_x (q := q) (pp := pp) (ph := ph) (s0 := S0) (tg := T0) (rows := R1) (log := setsL (oNn x))) (k := ?_)
  rintro _ _ ⟨rfl, rfl⟩
  refine Y6 ?_
  refine Zor (c := hpw) (k := ?_)
  rintro _ _ ⟨rfl, rfl⟩
  refine Y6 ?_
  refine Zor (c := hso q pp ph R1) (k := ?_)
  rintro _ _ ⟨rfl, rfl⟩
  refine V3 ?_
  generalize (gatesN (oNn x)).foldl (pairG fun a b => yesM (byGrp a b)) R1 = Q1 at *
  refine Zgt (fun F w H => qs_get (q := q) (pp := pp) (ph := ph) (s0 := S0) (tg := T0) (rows := Q1) (log := full) qH H) ?_
  rintro ⟨p1, h1', b1', k1⟩
  have ho1 : h1'.ops = (ghost S0 T0 full).2.ops := k1.two.hr.ops
  have hob := k1.ops
  have hlo1 : h1'.log = (ghost S0 T0 full).2.log := k1.two.hr.log
  have htk := hi_tok k1.two.i k1.quiet.sound.ok
  rw [hlo1] at htk
  have hB : (ghost S0 T0 full).2.ops ≤ 12000000 := by omega
  clear ho1 hob hlo1 k1 b1' h1' p1
  have hqo := qops_x (q := q) (pp := pp) (ph := ph) (s0 := S0) (tg := T0) (rows := Q1) (log := full)
  have hqs := qseen_x (q := q) (pp := pp) (ph := ph) (s0 := S0) (tg := T0) (rows := Q1) (log := full) hlf
  have hql := qlog_x (q := q) (pp := pp) (ph := ph) (s0 := S0) (tg := T0) (rows := Q1) (log := full) hlf
  generalize hoB : (ghost S0 T0 full).2.ops = B at *
  generalize hoA : (ghost S0 T0 (setsL (oNn x))).2.ops = A at *
  have hwi := within_x at_ (B - A + 1) (by omega) (by omega)
  have hwl := (within_is at_ (n := B - A + 1) (by omega)).1
  generalize withinN at_ (B - A + 1) = w at *
  refine Y2 ?_
  refine Zor (c := hqo) (k := ?_)
  rintro _ _ ⟨rfl, rfl⟩
  refine Y2 ?_
  refine Zhg (Zmb (a := B) (b := A) rfl rfl (by omega) (by omega)) ?_
  refine Y6 ?_
  refine Zor (c := hwi) (k := ?_)
  rintro _ _ ⟨rfl, rfl⟩
  refine Y6 ?_
  refine Zhg (Zma (a := A) (b := w) rfl rfl (by omega)) ?_
  refine Zhg (Zdm (cs := #[.int .i64 _, .int .i64 3, .int .i64 0, .int .i64 0, u8b 0#8, .int .i64 0]) rfl) ?_
  refine Zhz (cs := #[.int .i64 0, .int .i64 0, .int .i64 0, .int .i64 0, u8b 0#8, .int .i64 0]) rfl ?_; intro b16
  first|refine Zhy rfl rfl qR qZ (by first|rfl|exact oneM_u8 _|exact oneL_u8 _|exact acc_one _|exact acc_ones _|assumption|(simp [oneC]; done)) qZ ?_|refine Zhx rfl rfl qR qZ (by first|rfl|exact oneM_u8 _|exact oneL_u8 _|exact acc_one _|exact acc_ones _|assumption|(simp [oneC]; done)) qZ rfl ?_
  refine V1 ?_
  cases after
  case' true =>
    refine V8 ?_
    have hcut : Cut ⟨((A + w : Nat) : Int), 4, 0, 0, 0#8, 0⟩ (A + w) := ⟨rfl, .inr rfl⟩
    have hb := fun gb => hbg gb _ _ hcut ⟨by show _ ≤ (0 : Int); decide, by show (0 : Int) ≤ _; decide⟩
    have ec : (fcells ⟨((A + w : Nat) : Int), 4, 0, 0, 0#8, 0⟩).toArray = #[nvv (A + w), .int .i64 4, .int .i64 0, .int .i64 0, u8b 0#8, .int .i64 0] := by with_unfolding_all rfl
    simp only [ec] at hb
    generalize (⟨((A + w : Nat) : Int), 4, 0, 0, 0#8, 0⟩ : HostS.Fault) = f at *
  case' false =>
    refine V4 ?_
    have hcut : Cut ⟨((A + w : Nat) : Int), 3, 0, 0, 0#8, 0⟩ (A + w) := ⟨rfl, .inl rfl⟩
    have hb := fun gb => hbg gb _ _ hcut ⟨by show _ ≤ (0 : Int); decide, by show (0 : Int) ≤ _; decide⟩
    have ec : (fcells ⟨((A + w : Nat) : Int), 3, 0, 0, 0#8, 0⟩).toArray = #[nvv (A + w), .int .i64 3, .int .i64 0, .int .i64 0, u8b 0#8, .int .i64 0] := by with_unfolding_all rfl
    simp only [ec] at hb
    generalize (⟨((A + w : Nat) : Int), 3, 0, 0, 0#8, 0⟩ : HostS.Fault) = f at *
  all_goals
    refine Y3 ?_
    refine Zh7 (by omega) (by omega) rfl ?_; intro b66
    refine Zor (c := hb b66) (k := ?_)
    rintro _ _ ⟨q', pp', ph', rfl, rfl⟩
    refine Y11 ?_
    refine Zhg (Zb0 rfl) ?_
    refine Zhn 72 rfl (rfl) ?_
    refine Y3 ?_
    refine Zot 75 rfl ((fun hh => hh rfl)) ?_
    refine V6 ?_
    refine Zgo [(6, 6), (20, 20), (77, 94)] (by kernel_rfl) (fun i : Nat => i ≤ oNn x) (fun i => brA q' pp' ph' S0 T0 f (A + w) (fillT (bsOf x.rows_) (oSz x) (oNn x) i) (setsL i) :: qsA q pp ph S0 T0 Q1 full :: cl b7 (shV x) 86 :: cl b3 (wso x) 84 :: L) (fun i => [(20, nvv i)]) (fun i => oNn x - i) 0 (Nat.zero_le _) (by rw [fillT_zero]; show Imp _ (brA _ _ _ _ _ _ _ _ [] :: _); exact qI) ⟨rfl, trivial⟩ ?_
    intro i u hi9
    refine V6 ?_
    refine Zgg rfl (fun hB1 => ?_) (fun hB1 => ?_)
    · have hib : i < x.rows_.length := by omega
      refine Zgt (fun F w H => (hr.rd.imp qI).someAt (by omega) H) ?_
      rintro ⟨g, o, rfl⟩
      have hbi := hr.el _ (List.getElem_mem hib)
      have hsz := sized_x hbi (oSz x) (by omega)
      have hle := hgs (i + 1) (by omega)
      have hq2 := fun gb => brset_x (q := q') (pp := pp') (ph := ph') (s0 := S0) (tg := T0) (rows := fillT (bsOf x.rows_) (oSz x) (oNn x) i) (log := setsL i) hcut (by rw [setsL_len]; omega) (m := i) (by omega) (v := sizedB x.rows_[i].2 (oSz x)) (by rw [sizedB_len, es]) (L := [blk gb (sizedB x.rows_[i].2 (oSz x))]) (bs_full (n := oSz x) .here (sizedB_len _ _) (by omega)) (by rw [← setsL_succ]; omega)
      have e1 : (fillT (bsOf x.rows_) (oSz x) (oNn x) i).set i (sizedB x.rows_[i].2 (oSz x)) = fillT (bsOf x.rows_) (oSz x) (oNn x) (i + 1) := by rw [← bsOf_at hib]; exact fillT_set hB1
      rw [e1, ← setsL_succ] at hq2
      refine Ct.o ?_
      refine Zij ((cl b7 (shV x) 86 :: cl b3 (wso x) 84 :: L)) [8] (.q 0 (.q 1 (.q 2 (.q 4 (.q 7 (.r 3 (.q 5 (.r 6 (.r 8 (.e 9 false (.e 10 false (.q 11 .nil)))))))))))) (by kernel_rfl) (by kernel_rfl) (Imp.arr qV) ?_
      refine W5 ?_
      refine Ziv rfl rfl qH (hrows) ?_
      refine W1 ?_
      refine Zfh rfl rfl (((hr.imp qI).rd.at hib (getM (f := Prod.fst) hib))) ?_
      refine W1 ?_
      refine Ziq rfl ?_
      refine Zor (c := hsz) (k := ?_)
      rintro _ _ ⟨gb, rfl, rfl⟩
      refine Y1 ?_
      refine Zg3 ⟨(fun hh => Bool.noConfusion hh), ?_⟩
      refine Ziq rfl ?_
      refine Zor (c := hq2 gb) (k := ?_)
      rintro _ _ ⟨rfl, rfl⟩
      refine Y1 ?_
      refine Zg3 ⟨(fun hh => Bool.noConfusion hh), ?_⟩
      refine W1 ?_
      refine Zov 94 rfl ((fun hh => hh rfl)) ?_
      refine Zik ?_
      refine V6 ?_
      exact Zgl (i + 1) qO (by omega) qI ⟨rfl, trivial⟩
    · obtain rfl : i = oNn x := by omega
      have hs2 := hso2 q' pp' ph' f _ hcut (fillT (bsOf x.rows_) (oSz x) (oNn x) (oNn x))
      refine Y3 ?_
      refine Zor (c := hs2) (k := ?_)
      rintro _ _ ⟨e, l, hpre, hcase, rfl, rfl⟩
      refine V6 ?_
      clear hs2 hso2 hso hbg hb hfl
      have hpl2 := (SlotS.ghost_pre S0 T0 hpre)
      have hpo := hpl2.ops
      have hple := hpre.length_le
      rw [hoB] at hpo
      rcases hcase with ⟨rfl, hlf, hF⟩|⟨rfl, hF⟩
      case' inl =>
        have hlf2 := congrArg List.length hlf
        have hw2 : w = B - A := by
          rw [hlf, hoB] at hF
          omega
        refine Y3 ?_
        refine Zhg (Zmj (a := w) (b := B - A) rfl rfl) ?_
        refine Zos 100 rfl (hw2) ?_
        refine V5 ?_
        refine Zgp (Imp.has (A := sgA q' pp' ph' (slv S0 l) (fun g => g.log <+: (ghost S0 T0 l).2.log ∧ ((0 : Nat) = 0 → g.log = (ghost S0 T0 l).2.log) ∧ g.ops ≤ 3000000000000)) qH) ?_
      case' inr =>
        have hw2 : ¬ w = B - A := by omega
        refine Y3 ?_
        refine Zhg (Zmj (a := w) (b := B - A) rfl rfl) ?_
        refine Zot 100 rfl (hw2) ?_
        refine V2 ?_
        refine Zgp (Imp.has (A := sgA q' pp' ph' (slv S0 l) (fun g => g.log <+: (ghost S0 T0 l).2.log ∧ ((110 : Nat) = 0 → g.log = (ghost S0 T0 l).2.log) ∧ g.ops ≤ 3000000000000)) qH) ?_
      all_goals
        refine x_sgA ?_
        rintro p2 g ⟨g1, g2, g3⟩
        have hp := g1.trans hpl2.log
        have hpgl := hp.length_le
        have hsl : (slv S0 l).log = l := rfl
        have hsx2 := slog_x (q := q') (pp := pp') (s := slv S0 l) (by rw [hsl]; omega)
        rw [hsl] at hsx2
        have hlx2 := log_x (p := ph') (s := g) (by omega)
        obtain ⟨ol, hol2⟩ := sub_of (fun t ht => htk t (hp.subset ht))
        have hoc2 : g.log.flatMap tcells = ol.flatMap ocells := by rw [hol2, List.flatMap_map]; with_unfolding_all rfl
        have holl : g.log.length = ol.length := by rw [hol2, List.length_map]
        refine Y2 ?_
        refine Zor (c := hql) (k := ?_)
        rintro _ _ ⟨a1, c1, rfl, rfl⟩
        refine Y2 ?_
        refine Zor (c := hsx2) (k := ?_)
        rintro _ _ ⟨a2, c2, rfl, rfl⟩
        refine Y6 ?_
        refine Zor (c := hqs) (k := ?_)
        rintro _ _ ⟨a3, c3, rfl, rfl⟩
        refine Y2 ?_
        refine Zor (c := hlx2) (k := ?_)
        rintro _ _ ⟨a4, c4, rfl, rfl⟩
        refine V4 ?_
        refine Zgt (fun F w H => own_capN (a := a1) (c := c1) (n := full.length) (xs := full.flatMap accs) qH H) ?_
        rintro ⟨hc1, hc2⟩
        refine Zgt (fun F w H => own_capN (a := a3) (c := c3) (n := (ghost S0 T0 full).2.log.length) (xs := (ghost S0 T0 full).2.log.flatMap tcells) qH H) ?_
        rintro ⟨hc3, hc4⟩
        have hg1 := sameLog17_x (L := [ownAcc a1 c1 full, ownAcc a2 c2 l]) (va := .slice a1 l.length c1) (vb := .slice a2 l.length c2) (a := l) (fun a ha => hao a (hpre.subset ha)) (rd_pre (fun x _ => accs_len x) hpre .here) (Rd.own (.there .here)) (by omega)
        have hg3 := sameSeen17_x (L := [ownLog a3 c3 (ghost S0 T0 full).2.log, ownLog a4 c4 g.log]) (va := .slice a3 g.log.length c3) (vb := .slice a4 g.log.length c4) (a := ol) (by rw [← holl, ← hoc2]; exact rd_pre (fun x hx => tcells_len x (htk x (hp.subset hx)).h12) hp .here) (by rw [← holl, ← hoc2]; exact Rd.own (.there .here)) (by omega)
      case' inl =>
        refine Y3 ?_
        refine Zhg (Zmk (a := 0) (b := 0) rfl rfl) ?_
        refine Zot 111 rfl ((fun hh => hh rfl)) ?_
        refine Y5 ?_
        first|refine Y0 ?_|(refine Zhh rfl ?_; (refine Zhg (Zmh (a := l.length) (b := full.length) rfl rfl) ?_))
        refine Zot 117 rfl ((by omega)) ?_
        refine Y6 ?_
        first|refine Y0 ?_|(refine Zhh rfl ?_; (refine Zhg (Zmh (a := g.log.length) (b := (ghost S0 T0 full).2.log.length) rfl rfl) ?_))
        refine Zot 124 rfl ((by omega)) ?_
        refine Y5 ?_
        first|refine Y0 ?_|(refine Zhh rfl ?_; (refine Zhg (Zm8 (h := l.length) rfl rfl (by omega)) ?_))
        refine Y1 ?_
        first|refine Y0 ?_|(refine Zhh rfl ?_; (refine Zor (c := hg1) (k := ?_)); (rintro _ _ ⟨rfl, rfl⟩); (refine Zg2 qA ?_))
        first|refine Y0 ?_|(refine Zhh rfl ?_; (refine Zhg (Zb0 rfl) ?_))
        refine Zhn 133 rfl (rfl) ?_
        refine Y5 ?_
        first|refine Y0 ?_|(refine Zhh rfl ?_; (refine Zhg (Zm8 (h := g.log.length) rfl rfl (by omega)) ?_))
        refine Y1 ?_
        first|refine Y0 ?_|(refine Zhh rfl ?_; (refine Zor (c := hg3) (k := ?_)); (rintro _ _ ⟨rfl, rfl⟩); (refine Zg2 qA ?_))
        first|refine Y0 ?_|(refine Zhh rfl ?_; (refine Zhg (Zb0 rfl) ?_))
        refine Zhn 142 rfl (rfl) ?_
        refine Y5 ?_
        refine Zhg (Zmj (a := 0) (b := 110) rfl rfl) ?_
        refine Zot 145 rfl ((by decide)) ?_
        refine Y5 ?_
        first|refine Y0 ?_|(refine Zhh rfl ?_; (refine Zhg (Zmj (a := l.length) (b := full.length) rfl rfl) ?_))
        refine Zos 151 rfl (hlf2) ?_
        refine Y5 ?_
        first|refine Y0 ?_|(refine Zhh rfl ?_; (refine Zhg (Zmj (a := g.log.length) (b := (ghost S0 T0 full).2.log.length) rfl rfl) ?_))
        refine Zos 157 rfl ((by rw [g2 rfl, hlf])) ?_
        refine V4 ?_
      case' inr =>
        refine Y3 ?_
        refine Zhg (Zmk (a := 110) (b := 110) rfl rfl) ?_
        refine Zot 111 rfl ((fun hh => hh rfl)) ?_
        refine Y5 ?_
        first|refine Y0 ?_|(refine Zhh rfl ?_; (refine Zhg (Zmh (a := l.length) (b := full.length) rfl rfl) ?_))
        refine Zot 117 rfl ((by omega)) ?_
        refine Y6 ?_
        first|refine Y0 ?_|(refine Zhh rfl ?_; (refine Zhg (Zmh (a := g.log.length) (b := (ghost S0 T0 full).2.log.length) rfl rfl) ?_))
        refine Zot 124 rfl ((by omega)) ?_
        refine Y5 ?_
        first|refine Y0 ?_|(refine Zhh rfl ?_; (refine Zhg (Zm8 (h := l.length) rfl rfl (by omega)) ?_))
        refine Y1 ?_
        first|refine Y0 ?_|(refine Zhh rfl ?_; (refine Zor (c := hg1) (k := ?_)); (rintro _ _ ⟨rfl, rfl⟩); (refine Zg2 qA ?_))
        first|refine Y0 ?_|(refine Zhh rfl ?_; (refine Zhg (Zb0 rfl) ?_))
        refine Zhn 133 rfl (rfl) ?_
        refine Y5 ?_
        first|refine Y0 ?_|(refine Zhh rfl ?_; (refine Zhg (Zm8 (h := g.log.length) rfl rfl (by omega)) ?_))
        refine Y1 ?_
        first|refine Y0 ?_|(refine Zhh rfl ?_; (refine Zor (c := hg3) (k := ?_)); (rintro _ _ ⟨rfl, rfl⟩); (refine Zg2 qA ?_))
        first|refine Y0 ?_|(refine Zhh rfl ?_; (refine Zhg (Zb0 rfl) ?_))
        refine Zhn 142 rfl (rfl) ?_
        refine Y5 ?_
        refine Zhg (Zmj (a := 110) (b := 110) rfl rfl) ?_
        refine Zos 145 rfl (rfl) ?_
        refine V16 ?_
      all_goals
        refine rx1 (Zha rfl (Zg7)) ?_
        exact ⟨_, ⟨rfl, rfl⟩, qI⟩
end
theorem soTbreaks_w (W : World) (x : SoWorldV) (ok : SoWorldVOk W x) (n : Int) (wf : (Lit.int .i64 n).wf = true) (b : Bool) : Con Tryz.prog 12 [.agg x.cells.toArray, .int .i64 n, .bool b] [old W] (fun r M => r = .bool true ∧ [old W] = M) := by
  have := soTbreaks_x (soIn_of ok) (ok.rows_.rs (M := [old W]) .here) n b
  with_unfolding_all unfold wso at this
  exact this
end Go.Sl
