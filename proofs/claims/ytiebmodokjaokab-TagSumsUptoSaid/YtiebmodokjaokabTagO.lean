/- trystlaw06: TagOrderless. -/
import Derived.Test.YtiebmodokjaokabTagI
import Derived.Test.YtiebmodokjaokabEngX
set_option maxHeartbeats 4000000
set_option maxRecDepth 10000
set_option linter.unusedVariables false
set_option linter.unusedSimpArgs false
namespace Go.Sl
open Go Go.Proofs
attribute [local irreducible] cl pt own old pur ex all den denOps denS xOps xC cX CX xthen xblk xcut xloop retX resX Calls PV Rd Con
theorem within_x (i n : Int) (hn : 0 < n) (hn2 : n ≤ 140737488355328) (hi : -9223372036854775808 ≤ i ∧ i ≤ 9223372036854775807) : Con Try.prog 20 [.int .i64 i, .int .i64 n] [] (fun v M => v = .int .i64 (i % n) ∧ M = []) := by
  have h1 := Int.emod_nonneg i (show n ≠ 0 by omega)
  have h2 := Int.emod_lt_of_pos i hn
  have ht : i.tmod n = i % n ∨ (i.tmod n < 0 ∧ i.tmod n = i % n - n) := by
    rw [Int.tmod_eq_emod]
    split
    · left; omega
    · right
      have : (n.natAbs : Int) = n := by omega
      omega
  refine fn_x Try.func20 rfl rfl rfl Try.mixed (by kernel_rfl) ?_
  intro w0
  repeat (first|refine zA ?_|refine zB ?_|refine zC ?_|refine zD ?_|refine zE ?_|refine zF ?_|refine zG ?_|refine zH ?_|refine zI ?_|refine zJ ?_|refine zK ?_|refine zL ?_|refine zM rfl ?_|refine zN ?_|refine zO ?_|refine zP ?_|refine zQ ?_)
  refine x_reg ?_
  first | refine x_pv (pv_assign_int rfl) ?_ | refine x_pv (pv_assign rfl) ?_
  refine x_nil ?_
  repeat (first|refine zA ?_|refine zB ?_|refine zC ?_|refine zD ?_|refine zE ?_|refine zF ?_|refine zG ?_|refine zH ?_|refine zI ?_|refine zJ ?_|refine zK ?_|refine zL ?_|refine zM rfl ?_|refine zN ?_|refine zO ?_|refine zP ?_|refine zQ ?_)
  refine x_reg ?_
  first | refine x_pv (pv_move_int rfl) ?_ | refine x_pv (pv_move rfl) ?_
  first | refine x_pv (pv_move_int rfl) ?_ | refine x_pv (pv_move rfl) ?_
  refine x_pv (pv_rem rfl rfl (by omega)) ?_
  first | refine x_pv (pv_assign_int rfl) ?_ | refine x_pv (pv_assign rfl) ?_
  refine x_nil ?_
  repeat (first|refine zA ?_|refine zB ?_|refine zC ?_|refine zD ?_|refine zE ?_|refine zF ?_|refine zG ?_|refine zH ?_|refine zI ?_|refine zJ ?_|refine zK ?_|refine zL ?_|refine zM rfl ?_|refine zN ?_|refine zO ?_|refine zP ?_|refine zQ ?_)
  refine x_reg ?_
  first | refine x_pv (pv_move_int rfl) ?_ | refine x_pv (pv_move rfl) ?_
  first | refine x_pv (pv_lssn (b := 0) rfl rfl) ?_ | refine x_pv (pv_lss rfl rfl) ?_
  refine x_nil ?_
  repeat (first|refine zA ?_|refine zB ?_|refine zC ?_|refine zD ?_|refine zE ?_|refine zF ?_|refine zG ?_|refine zH ?_|refine zI ?_|refine zJ ?_|refine zK ?_|refine zL ?_|refine zM rfl ?_|refine zN ?_|refine zO ?_|refine zP ?_|refine zQ ?_)
  refine x_cond_p rfl (fun hB => ?_) (fun hB => ?_)
  · repeat (first|refine zA ?_|refine zB ?_|refine zC ?_|refine zD ?_|refine zE ?_|refine zF ?_|refine zG ?_|refine zH ?_|refine zI ?_|refine zJ ?_|refine zK ?_|refine zL ?_|refine zM rfl ?_|refine zN ?_|refine zO ?_|refine zP ?_|refine zQ ?_)
    refine x_reg ?_
    first | refine x_pv (pv_move_int rfl) ?_ | refine x_pv (pv_move rfl) ?_
    first | refine x_pv (pv_move_int rfl) ?_ | refine x_pv (pv_move rfl) ?_
    refine x_pv (pv_add_i rfl rfl (by omega)) ?_
    first | refine x_pv (pv_assign_int rfl) ?_ | refine x_pv (pv_assign rfl) ?_
    refine x_nil ?_
    repeat (first|refine zA ?_|refine zB ?_|refine zC ?_|refine zD ?_|refine zE ?_|refine zF ?_|refine zG ?_|refine zH ?_|refine zI ?_|refine zJ ?_|refine zK ?_|refine zL ?_|refine zM rfl ?_|refine zN ?_|refine zO ?_|refine zP ?_|refine zQ ?_)
    refine x_reg ?_
    first | refine x_pv (pv_move_int rfl) ?_ | refine x_pv (pv_move rfl) ?_
    first | refine x_pv (pv_assign_int rfl) ?_ | refine x_pv (pv_assign rfl) ?_
    refine x_nil ?_
    repeat (first|refine zA ?_|refine zB ?_|refine zC ?_|refine zD ?_|refine zE ?_|refine zF ?_|refine zG ?_|refine zH ?_|refine zI ?_|refine zJ ?_|refine zK ?_|refine zL ?_|refine zM rfl ?_|refine zN ?_|refine zO ?_|refine zP ?_|refine zQ ?_)
    rw [show i.tmod n + n = i % n by omega]
    refine rx1 (rx_int rfl (rx_nil)) ?_
    exact ⟨_, ⟨rfl, rfl⟩, by exact Imp.arr (by repeat (first | exact Arr.nil | exact Arr.stop | refine Arr.cons (by repeat constructor) ?_ | refine Arr.skip ?_))⟩
  · repeat (first|refine zA ?_|refine zB ?_|refine zC ?_|refine zD ?_|refine zE ?_|refine zF ?_|refine zG ?_|refine zH ?_|refine zI ?_|refine zJ ?_|refine zK ?_|refine zL ?_|refine zM rfl ?_|refine zN ?_|refine zO ?_|refine zP ?_|refine zQ ?_)
    refine x_reg ?_
    first | refine x_pv (pv_move_int rfl) ?_ | refine x_pv (pv_move rfl) ?_
    first | refine x_pv (pv_assign_int rfl) ?_ | refine x_pv (pv_assign rfl) ?_
    refine x_nil ?_
    repeat (first|refine zA ?_|refine zB ?_|refine zC ?_|refine zD ?_|refine zE ?_|refine zF ?_|refine zG ?_|refine zH ?_|refine zI ?_|refine zJ ?_|refine zK ?_|refine zL ?_|refine zM rfl ?_|refine zN ?_|refine zO ?_|refine zP ?_|refine zQ ?_)
    rw [show i.tmod n = i % n by omega]
    refine rx1 (rx_int rfl (rx_nil)) ?_
    exact ⟨_, ⟨rfl, rfl⟩, by exact Imp.arr (by repeat (first | exact Arr.nil | exact Arr.stop | refine Arr.cons (by repeat constructor) ?_ | refine Arr.skip ?_))⟩
theorem within_n (i : Int) (n : Nat) (hn : 0 < n) (hn2 : n ≤ 140737488355328) (hi : -9223372036854775808 ≤ i ∧ i ≤ 9223372036854775807) : Con Try.prog 20 [.int .i64 i, .int .i64 n] [] (fun v M => v = .int .i64 (((i % (n : Int)).toNat : Nat) : Int) ∧ M = []) := by
  have h := within_x i n (by omega) (by omega) hi
  rwa [show i % (n : Int) = (((i % (n : Int)).toNat : Nat) : Int) by have := Int.emod_nonneg i (show (n : Int) ≠ 0 by omega); omega] at h
/-! the order of whole chunks -/
def sumN (f : Nat → Nat) : Nat → Nat
  | 0 => 0
  | n + 1 => sumN f n + f n
theorem sumN_same {f g : Nat → Nat} : ∀ n, (∀ i, i < n → f i = g i) → sumN f n = sumN g n
  | 0, _ => rfl
  | n + 1, h => by simp only [sumN, sumN_same n (fun i hi => h i (by omega)), h n (by omega)]
theorem sumN_one {f g : Nat → Nat} (p : Nat) : ∀ n, p < n → (∀ i, i < n → i ≠ p → f i = g i) → sumN f n + g p = sumN g n + f p
  | 0, hp, _ => by omega
  | n + 1, hp, h => by
    simp only [sumN]
    by_cases e : p = n
    · subst e
      rw [sumN_same p (fun i hi => h i (by omega) (by omega))]; omega
    · have := sumN_one p n (by omega) (fun i hi hne => h i (by omega) hne)
      rw [h n (by omega) (fun e2 => e e2.symm)]; omega
theorem sumN_swap {f g : Nat → Nat} {n p q : Nat} (hp : p < n) (hq : q < n) (h1 : g p = f q) (h2 : g q = f p) (h : ∀ i, i < n → i ≠ p → i ≠ q → g i = f i) : sumN g n = sumN f n := by
  by_cases e : p = q
  · subst e
    exact sumN_same n (fun i hi => by
      by_cases e2 : i = p
      · subst e2; exact h1
      · exact h i hi e2 e2)
  · let m : Nat → Nat := fun i => if i = p then g p else f i
    have a := sumN_one (f := f) (g := m) p n hp (fun i _ hne => by simp only [m]; rw [if_neg hne])
    have b := sumN_one (f := m) (g := g) q n hq (fun i hi hne => by
      simp only [m]
      by_cases e2 : i = p
      · subst e2; rw [if_pos rfl]
      · rw [if_neg e2]; exact (h i hi e2 hne).symm)
    have mp : m p = g p := by show (if p = p then g p else f p) = g p; rw [if_pos rfl]
    have mq : m q = f q := by simp only [m]; rw [if_neg (fun h => e h.symm)]
    omega
def chunk (a : List Byte) (c : Nat) : List Byte := (a.drop (16 * c)).take 16
/-- Sixteen bytes more, where r is 1. -/
theorem steps16 {R : Nat} : ∀ (k : Nat) (b : List Byte) (s : Nat × List Byte), s.2.length = k → s.2.length + b.length = 16 → b ≠ [] → b.foldl (stepN R) s = (((s.1 + leN (s.2 ++ b) + 340282366920938463463374607431768211456) * R) % 1361129467683753853853498429727072845819, [])
  | k, [], s, _, _, hb => absurd rfl hb
  | k, [x], s, hk, hl, _ => by
    simp only [List.length_cons, List.length_nil] at hl
    show stepN R s x = _
    unfold stepN
    rw [if_pos (by omega)]
  | k, x :: y :: b, s, hk, hl, _ => by
    simp only [List.length_cons] at hl
    show (y :: b).foldl (stepN R) (stepN R s x) = _
    have e : stepN R s x = (s.1, s.2 ++ [x]) := by unfold stepN; rw [if_neg (by omega)]
    rw [e, steps16 (k + 1) (y :: b) (s.1, s.2 ++ [x]) (by simp; omega) (by simp; omega) (by simp)]
    simp
theorem poly_one (a : List Byte) : ∀ n, 16 * n ≤ a.length → (a.take (16 * n)).foldl (stepN 1) (0, []) = ((sumN (fun c => leN (chunk a c) + 340282366920938463463374607431768211456) n) % 1361129467683753853853498429727072845819, [])
  | 0, _ => by simp only [Nat.mul_zero, List.take_zero, List.foldl_nil, sumN, Nat.zero_mod]
  | n + 1, h => by
    have ih := poly_one a n (by omega)
    have e : a.take (16 * (n + 1)) = a.take (16 * n) ++ chunk a n := by
      rw [show 16 * (n + 1) = 16 * n + 16 by omega, List.take_add]; rfl
    have hc : (chunk a n).length = 16 := by unfold chunk; rw [List.length_take, List.length_drop]; omega
    rw [e, List.foldl_append, ih, steps16 0 (chunk a n) _ rfl (by rw [hc]; rfl) (fun h => by rw [h] at hc; cases hc)]
    simp only [List.nil_append, Nat.mul_one, sumN, Prod.mk.injEq, and_true]
    rw [Nat.add_assoc, Nat.mod_add_mod]
theorem poly_order (key a b : List Byte) (hr : rN key = 1) (n : Nat) (ha : a.length = 16 * n) (hb : b.length = 16 * n) (p q : Nat) (hp : p < n) (hq : q < n) (h1 : chunk b p = chunk a q) (h2 : chunk b q = chunk a p) (h : ∀ c, c < n → c ≠ p → c ≠ q → chunk b c = chunk a c) : polyN key a = polyN key b := by
  unfold polyN
  have ea := poly_one a n (by omega)
  have eb := poly_one b n (by omega)
  rw [List.take_of_length_le (by omega)] at ea eb
  rw [hr, ea, eb]
  rw [sumN_swap (g := fun c => leN (chunk b c) + 340282366920938463463374607431768211456) (f := fun c => leN (chunk a c) + 340282366920938463463374607431768211456) hp hq (by simp only [h1]) (by simp only [h2]) (fun i hi e1 e2 => by simp only [h i hi e1 e2])]
theorem code_order (key a b : List Byte) (hk : key.length = 32) (h : polyN key a = polyN key b) : code key a = code key b := by
  apply leN_inj (by rw [code_len, code_len])
  rw [code_val _ _ hk, code_val _ _ hk, h]
def swF (a : List Byte) (x y j k : Nat) : Byte := if x ≤ k ∧ k < x + j then a.getD (y + (k - x)) 0#8 else if y ≤ k ∧ k < y + j then a.getD (x + (k - y)) 0#8 else a.getD k 0#8
def swL (a : List Byte) (x y j : Nat) : List Byte := (List.range a.length).map (swF a x y j)
theorem swL_len (a : List Byte) (x y j : Nat) : (swL a x y j).length = a.length := by simp [swL]
theorem swL_zero (a : List Byte) (x y : Nat) : swL a x y 0 = a := by
  apply List.ext_getElem (by simp [swL])
  intro k h1 h2
  simp only [swL, List.getElem_map, List.getElem_range, swF]
  rw [if_neg (by omega), if_neg (by omega), List.getD_eq_getElem?_getD, List.getElem?_eq_getElem h2]; rfl
theorem swL_step (a : List Byte) (x y j : Nat) (hj : j < 16) (hd : x = y ∨ x + 16 ≤ y ∨ y + 16 ≤ x) : ((swL a x y j).set (x + j) (a.getD (y + j) 0#8)).set (y + j) (a.getD (x + j) 0#8) = swL a x y (j + 1) := by
  apply List.ext_getElem (by simp [swL])
  intro k h1 h2
  simp only [swL, List.getElem_set, List.getElem_map, List.getElem_range, swF]
  by_cases e1 : y + j = k
  · rw [if_pos e1]
    subst e1
    rcases hd with rfl | hd
    · rw [if_pos (by omega)]; congr 1; omega
    · rw [if_neg (by omega), if_pos (by omega)]; congr 1; omega
  · rw [if_neg e1]
    by_cases e2 : x + j = k
    · rw [if_pos e2]
      subst e2
      rw [if_pos (by omega)]; congr 1; omega
    · rw [if_neg e2]
      by_cases c1 : x ≤ k ∧ k < x + j
      · have c1' : x ≤ k ∧ k < x + (j + 1) := by omega
        rw [if_pos c1, if_pos c1']
      · have c1' : ¬ (x ≤ k ∧ k < x + (j + 1)) := by omega
        rw [if_neg c1, if_neg c1']
        by_cases c2 : y ≤ k ∧ k < y + j
        · have c2' : y ≤ k ∧ k < y + (j + 1) := by omega
          rw [if_pos c2, if_pos c2']
        · have c2' : ¬ (y ≤ k ∧ k < y + (j + 1)) := by omega
          rw [if_neg c2, if_neg c2']
theorem chunk_get (a : List Byte) (c n : Nat) (ha : a.length = 16 * n) (hc : c < n) : (chunk a c).length = 16 ∧ ∀ t (h : t < 16), (chunk a c)[t]? = a[16 * c + t]? := by
  constructor
  · unfold chunk; rw [List.length_take, List.length_drop]; omega
  · intro t h
    unfold chunk
    rw [List.getElem?_take_of_lt h, List.getElem?_drop]
theorem chunk_eq {a b : List Byte} {c d n : Nat} (ha : a.length = 16 * n) (hb : b.length = 16 * n) (hc : c < n) (hd : d < n) (h : ∀ t, t < 16 → a[16 * c + t]? = b[16 * d + t]?) : chunk a c = chunk b d := by
  obtain ⟨l1, g1⟩ := chunk_get a c n ha hc
  obtain ⟨l2, g2⟩ := chunk_get b d n hb hd
  apply List.ext_getElem?
  intro t
  by_cases ht : t < 16
  · rw [g1 t ht, g2 t ht, h t ht]
  · rw [List.getElem?_eq_none (by omega), List.getElem?_eq_none (by omega)]
theorem swL_get (a : List Byte) (x y j k : Nat) (hk : k < a.length) : (swL a x y j)[k]? = some (swF a x y j k) := by
  simp [swL, hk]
theorem getD_q (a : List Byte) (k : Nat) (hk : k < a.length) : some (a.getD k 0#8) = a[k]? := by
  rw [List.getD_eq_getElem?_getD, List.getElem?_eq_getElem hk]; rfl
theorem orderless_law (key a : List Byte) (hk : key.length = 32) (hr : rN key = 1) (n p q : Nat) (ha : a.length = 16 * n) (hp : p < n) (hq : q < n) : code key a = code key (swL a (16 * p) (16 * q) 16) := by
  have hl : (swL a (16 * p) (16 * q) 16).length = 16 * n := by rw [swL_len, ha]
  refine code_order key _ _ hk (poly_order key a _ hr n ha hl p q hp hq ?_ ?_ ?_)
  · refine chunk_eq hl ha hp hq fun t ht => ?_
    rw [swL_get _ _ _ _ _ (by omega)]
    unfold swF
    rw [if_pos (by omega), getD_q _ _ (by omega)]
    congr 1; omega
  · refine chunk_eq hl ha hq hp fun t ht => ?_
    rw [swL_get _ _ _ _ _ (by omega)]
    unfold swF
    by_cases e : p = q
    · subst e
      rw [if_pos (by omega), getD_q _ _ (by omega)]
      congr 1; omega
    · rw [if_neg (by omega), if_pos (by omega), getD_q _ _ (by omega)]
      congr 1; omega
  · intro c hc h1 h2
    refine chunk_eq hl ha hc hc fun t ht => ?_
    rw [swL_get _ _ _ _ _ (by omega)]
    unfold swF
    rw [if_neg (by omega), if_neg (by omega), getD_q _ _ (by omega)]
/-- What a Chunks is when it comes in. -/
structure ChunksV where
  S : List Byte
  m : Value
  i : Int
  k : Int
def ChunksV.cells (x : ChunksV) : List Value := x.S.map u8b ++ [x.m, .int .i64 x.i, .int .i64 x.k]
structure ChunksOk (W : World) (x : ChunksV) : Prop where
  S : x.S.length = 16
  m : ∃ l, InB W x.m l
  i : -9223372036854775808 ≤ x.i ∧ x.i ≤ 9223372036854775807
  k : -9223372036854775808 ≤ x.k ∧ x.k ≤ 9223372036854775807
def keyO (S : List Byte) : List Byte := 1#8 :: List.replicate 15 0#8 ++ S
theorem keyO_r (S : List Byte) : rN (keyO S) = 1 := by
  have e1 : (keyO S).take 8 = [1#8, 0#8, 0#8, 0#8, 0#8, 0#8, 0#8, 0#8] := rfl
  have e2 : ((keyO S).drop 8).take 8 = [0#8, 0#8, 0#8, 0#8, 0#8, 0#8, 0#8, 0#8] := rfl
  show (wordB ((keyO S).take 8) &&& 1152921487695413247#64).toNat + 18446744073709551616 * (wordB (((keyO S).drop 8).take 8) &&& 1152921487695413244#64).toNat = 1
  rw [e1, e2]
  decide
def keyI (S : List Byte) (i : Nat) : List Byte := 1#8 :: List.replicate 15 0#8 ++ (S.take i ++ List.replicate (16 - i) 0#8)
theorem keyI_len (S : List Byte) (hS : S.length = 16) (i : Nat) (hi : i ≤ 16) : (keyI S i).length = 32 := by simp [keyI]; omega
theorem keyI_set (S : List Byte) (hS : S.length = 16) (i : Nat) (hi : i < 16) : (keyI S i).set (16 + i) S[i] = keyI S (i + 1) := by
  unfold keyI
  rw [List.set_append_right _ _ (by simp), show 16 + i - (1#8 :: List.replicate 15 0#8).length = i by simp, List.set_append_right _ _ (by simp; omega), show i - (S.take i).length = 0 by simp; omega, List.take_succ_eq_append_getElem (show i < S.length by omega), show 16 - i = (16 - (i + 1)) + 1 by omega, List.replicate_succ, List.append_assoc]
  rfl
theorem cO_size (x : ChunksV) (h : x.S.length = 16) : x.cells.toArray.size = 19 := by simp [ChunksV.cells, h]
theorem cO_S (x : ChunksV) (h : x.S.length = 16) (i : Nat) (hi : i < 16) : x.cells.toArray[i]? = some (u8b (x.S[i]'(by omega))) := by
  simp [ChunksV.cells, List.getElem?_append, h, hi]
theorem cO_m (x : ChunksV) (h : x.S.length = 16) : x.cells.toArray[16]? = some x.m := by simp [ChunksV.cells, h]
theorem cO_i (x : ChunksV) (h : x.S.length = 16) : x.cells.toArray[17]? = some (.int .i64 x.i) := by simp [ChunksV.cells, h]
theorem cO_k (x : ChunksV) (h : x.S.length = 16) : x.cells.toArray[18]? = some (.int .i64 x.k) := by simp [ChunksV.cells, h]
theorem orderless_x (W : World) (x : ChunksV) (ok : ChunksOk W x) : Con Try.prog 10 [.agg x.cells.toArray] [old W] (fun r M => r = .bool true ∧ [old W] = M) := by
  have hS := ok.S
  obtain ⟨m, hin⟩ := ok.m
  obtain ⟨va, vc, hv, hvl, hvc⟩ := hin.sh
  have hml := hin.len
  have hsz := cO_size x hS
  have hi := ok.i; have hk := ok.k
  have hm16 : x.cells.toArray[16]? = some (.slice va m.length vc) := by rw [cO_m x hS, hv]
  rw [hv] at hin
  refine fn_x Try.func10 rfl rfl rfl Try.mixed (by kernel_rfl) ?_
  intro w0
  repeat (first|refine zA ?_|refine zB ?_|refine zC ?_|refine zD ?_|refine zE ?_|refine zF ?_|refine zG ?_|refine zH ?_|refine zI ?_|refine zJ ?_|refine zK ?_|refine zL ?_|refine zM rfl ?_|refine zN ?_|refine zO ?_|refine zP ?_|refine zQ ?_)
  refine x_reg ?_
  refine x_box_a rfl ?_; intro b1
  first | refine x_pv (pv_assign_bool rfl) ?_ | refine x_pv (pv_assign rfl) ?_
  refine x_nil ?_
  repeat (first|refine zA ?_|refine zB ?_|refine zC ?_|refine zD ?_|refine zE ?_|refine zF ?_|refine zG ?_|refine zH ?_|refine zI ?_|refine zJ ?_|refine zK ?_|refine zL ?_|refine zM rfl ?_|refine zN ?_|refine zO ?_|refine zP ?_|refine zQ ?_)
  refine x_reg ?_
  refine x_call rfl (by kernel_rfl) (works_x) rfl (by repeat (first | exact Take.nil | exact Take.all | (apply Take.cons; (next => repeat constructor; done)) | apply Take.skip)) ?_
  rintro _ _ ⟨rfl, rfl⟩
  refine xo_app (by repeat (first | exact App.nil | apply App.cons | (apply App.flip; first | exact App.nil | apply App.cons) | exact App.any)) ?_
  first | refine x_pv (pv_not_p rfl) ?_ | refine x_pv (pv_not rfl) ?_
  refine x_isF 12 rfl (rfl) ?_
  refine x_nil ?_
  repeat (first|refine zA ?_|refine zB ?_|refine zC ?_|refine zD ?_|refine zE ?_|refine zF ?_|refine zG ?_|refine zH ?_|refine zI ?_|refine zJ ?_|refine zK ?_|refine zL ?_|refine zM rfl ?_|refine zN ?_|refine zO ?_|refine zP ?_|refine zQ ?_)
  refine x_cond_f rfl ?_
  repeat (first|refine zA ?_|refine zB ?_|refine zC ?_|refine zD ?_|refine zE ?_|refine zF ?_|refine zG ?_|refine zH ?_|refine zI ?_|refine zJ ?_|refine zK ?_|refine zL ?_|refine zM rfl ?_|refine zN ?_|refine zO ?_|refine zP ?_|refine zQ ?_)
  refine x_reg ?_
  refine x_alloc (cs := ((List.replicate 32 0#8).map u8b).toArray) rfl ?_; intro b3
  refine x_nil ?_
  repeat (first|refine zA ?_|refine zB ?_|refine zC ?_|refine zD ?_|refine zE ?_|refine zF ?_|refine zG ?_|refine zH ?_|refine zI ?_|refine zJ ?_|refine zK ?_|refine zL ?_|refine zM rfl ?_|refine zN ?_|refine zO ?_|refine zP ?_|refine zQ ?_)
  refine x_reg ?_
  first | refine x_pv (pv_ixa1z (n := 0) rfl rfl (by first | omega | exact Nat.le_of_ble_eq_true rfl | (simp; done) | (simp; omega))) ?_ | refine x_pv (pv_ixa1 (n := 0) rfl rfl (by first | omega | exact Nat.le_of_ble_eq_true rfl | (simp; done) | (simp; omega))) ?_
  refine x_store (v := u8b 1#8) rfl rfl rfl (by repeat constructor) (by first | rfl | omega | (rw [szL]; omega) | exact Nat.le_of_ble_eq_true rfl | (simp; done) | (simp; omega)) (c' := ((keyI x.S 0).map u8b).toArray) rfl ?_
  refine x_nil ?_
  repeat (first|refine zA ?_|refine zB ?_|refine zC ?_|refine zD ?_|refine zE ?_|refine zF ?_|refine zG ?_|refine zH ?_|refine zI ?_|refine zJ ?_|refine zK ?_|refine zL ?_|refine zM rfl ?_|refine zN ?_|refine zO ?_|refine zP ?_|refine zQ ?_)
  refine x_reg ?_
  first | refine x_pv (pv_assign_int rfl) ?_ | refine x_pv (pv_assign rfl) ?_
  refine x_nil ?_
  repeat (first|refine zA ?_|refine zB ?_|refine zC ?_|refine zD ?_|refine zE ?_|refine zF ?_|refine zG ?_|refine zH ?_|refine zI ?_|refine zJ ?_|refine zK ?_|refine zL ?_|refine zM rfl ?_|refine zN ?_|refine zO ?_|refine zP ?_|refine zQ ?_)
  refine x_loop [(4, 4), (14, 24)] (by kernel_rfl) (fun i : Nat => i ≤ 16) (fun i => [cl b3 ((keyI x.S i).map u8b).toArray 24, cl b1 x.cells.toArray 61, old W])
    (fun i => [(4, .int .i64 (i : Int))]) (fun i => 16 - i) 0 (by omega) (by exact Imp.arr (by repeat (first | exact Arr.nil | exact Arr.stop | refine Arr.cons (by repeat constructor) ?_ | refine Arr.skip ?_))) ⟨rfl, trivial⟩ ?_
  intro i u hi16
  have hkl := keyI_len x.S hS i hi16
  repeat (first|refine zA ?_|refine zB ?_|refine zC ?_|refine zD ?_|refine zE ?_|refine zF ?_|refine zG ?_|refine zH ?_|refine zI ?_|refine zJ ?_|refine zK ?_|refine zL ?_|refine zM rfl ?_|refine zN ?_|refine zO ?_|refine zP ?_|refine zQ ?_)
  refine x_reg ?_
  first | refine x_pv (pv_move_int rfl) ?_ | refine x_pv (pv_move rfl) ?_
  first | refine x_pv (pv_lssn (b := 16) rfl rfl) ?_ | refine x_pv (pv_lss rfl rfl) ?_
  refine x_nil ?_
  repeat (first|refine zA ?_|refine zB ?_|refine zC ?_|refine zD ?_|refine zE ?_|refine zF ?_|refine zG ?_|refine zH ?_|refine zI ?_|refine zJ ?_|refine zK ?_|refine zL ?_|refine zM rfl ?_|refine zN ?_|refine zO ?_|refine zP ?_|refine zQ ?_)
  refine x_cond_p rfl (fun hB => ?_) (fun hB => ?_)
  · repeat (first|refine zA ?_|refine zB ?_|refine zC ?_|refine zD ?_|refine zE ?_|refine zF ?_|refine zG ?_|refine zH ?_|refine zI ?_|refine zJ ?_|refine zK ?_|refine zL ?_|refine zM rfl ?_|refine zN ?_|refine zO ?_|refine zP ?_|refine zQ ?_)
    refine x_reg ?_
    first | refine x_pv (pv_move_int rfl) ?_ | refine x_pv (pv_move rfl) ?_
    first | refine x_pv (pv_addn (a := 16) rfl rfl (by first | omega | exact Nat.le_of_ble_eq_true rfl | (simp; done) | (simp; omega) | decide)) ?_ | refine x_pv (pv_add_i rfl rfl (by first | omega | exact Nat.le_of_ble_eq_true rfl | (simp; done) | (simp; omega) | decide)) ?_
    first | refine x_pv (pv_move_int rfl) ?_ | refine x_pv (pv_move rfl) ?_
    first | refine x_pv (pv_fieldAddrz rfl (by omega)) ?_ | refine x_pv (pv_fieldAddr rfl (by omega)) ?_
    first | refine x_pv (pv_ixa1z rfl rfl (by first | omega | exact Nat.le_of_ble_eq_true rfl | (simp; done) | (simp; omega))) ?_ | refine x_pv (pv_ixa1 rfl rfl (by first | omega | exact Nat.le_of_ble_eq_true rfl | (simp; done) | (simp; omega))) ?_
    refine x_load rfl (by repeat constructor) (cO_S x hS i hB) ?_
    first | refine x_pv (pv_ixa1z rfl rfl (by first | omega | exact Nat.le_of_ble_eq_true rfl | (simp; done) | (simp; omega))) ?_ | refine x_pv (pv_ixa1 rfl rfl (by first | omega | exact Nat.le_of_ble_eq_true rfl | (simp; done) | (simp; omega))) ?_
    refine x_store_i rfl rfl (by repeat constructor) (by first | rfl | omega | (rw [szL]; omega) | exact Nat.le_of_ble_eq_true rfl | (simp; done) | (simp; omega)) (setL (f := u8b) (l := keyI x.S i)) ?_
    refine x_nil ?_
    repeat (first|refine zA ?_|refine zB ?_|refine zC ?_|refine zD ?_|refine zE ?_|refine zF ?_|refine zG ?_|refine zH ?_|refine zI ?_|refine zJ ?_|refine zK ?_|refine zL ?_|refine zM rfl ?_|refine zN ?_|refine zO ?_|refine zP ?_|refine zQ ?_)
    rw [keyI_set x.S hS i hB]
    repeat (first|refine zA ?_|refine zB ?_|refine zC ?_|refine zD ?_|refine zE ?_|refine zF ?_|refine zG ?_|refine zH ?_|refine zI ?_|refine zJ ?_|refine zK ?_|refine zL ?_|refine zM rfl ?_|refine zN ?_|refine zO ?_|refine zP ?_|refine zQ ?_)
    refine x_reg ?_
    first | refine x_pv (pv_move_int rfl) ?_ | refine x_pv (pv_move rfl) ?_
    first | refine x_pv (pv_addn (b := 1) rfl rfl (by first | omega | exact Nat.le_of_ble_eq_true rfl | (simp; done) | (simp; omega) | decide)) ?_ | refine x_pv (pv_add_i rfl rfl (by first | omega | exact Nat.le_of_ble_eq_true rfl | (simp; done) | (simp; omega) | decide)) ?_
    first | refine x_pv (pv_assign_int rfl) ?_ | refine x_pv (pv_assign rfl) ?_
    refine x_nil ?_
    repeat (first|refine zA ?_|refine zB ?_|refine zC ?_|refine zD ?_|refine zE ?_|refine zF ?_|refine zG ?_|refine zH ?_|refine zI ?_|refine zJ ?_|refine zK ?_|refine zL ?_|refine zM rfl ?_|refine zN ?_|refine zO ?_|refine zP ?_|refine zQ ?_)
    exact x_loop_n (i + 1) (by first | omega | (dsimp only; omega) | (simp only []; omega)) (by first | omega | (dsimp only; omega) | (simp only []; omega)) (by exact Imp.arr (by repeat (first | exact Arr.nil | exact Arr.stop | refine Arr.cons (by repeat constructor) ?_ | refine Arr.skip ?_))) ⟨rfl, trivial⟩
  · have h16 : i = 16 := by omega
    subst h16
    have hko : keyI x.S 16 = keyO x.S := by unfold keyI keyO; rw [List.take_of_length_le (by omega)]; simp
    rw [hko] at hkl ⊢
    repeat (first|refine zA ?_|refine zB ?_|refine zC ?_|refine zD ?_|refine zE ?_|refine zF ?_|refine zG ?_|refine zH ?_|refine zI ?_|refine zJ ?_|refine zK ?_|refine zL ?_|refine zM rfl ?_|refine zN ?_|refine zO ?_|refine zP ?_|refine zQ ?_)
    refine x_reg ?_
    first | refine x_pv (pv_fieldAddrz rfl (by omega)) ?_ | refine x_pv (pv_fieldAddr rfl (by omega)) ?_
    refine x_load rfl (by repeat constructor) (hm16) ?_
    first | refine x_pv (pv_len rfl) ?_ | refine x_pv (pv_len_arr) ?_ | refine x_pv (pv_len_str rfl) ?_
    first | refine x_pv (pv_quon (b := 16) rfl rfl (by first | omega | exact Nat.le_of_ble_eq_true rfl | (simp; done) | (simp; omega) | decide) (by first | omega | exact Nat.le_of_ble_eq_true rfl | (simp; done) | (simp; omega) | decide)) ?_ | refine x_pv (pv_quo_i rfl rfl (by first | omega | exact Nat.le_of_ble_eq_true rfl | (simp; done) | (simp; omega) | decide)) ?_
    first | refine x_pv (pv_assign_int rfl) ?_ | refine x_pv (pv_assign rfl) ?_
    refine x_nil ?_
    repeat (first|refine zA ?_|refine zB ?_|refine zC ?_|refine zD ?_|refine zE ?_|refine zF ?_|refine zG ?_|refine zH ?_|refine zI ?_|refine zJ ?_|refine zK ?_|refine zL ?_|refine zM rfl ?_|refine zN ?_|refine zO ?_|refine zP ?_|refine zQ ?_)
    obtain ⟨n, hn⟩ : ∃ n, n = m.length / 16 := ⟨_, rfl⟩
    obtain ⟨A, hA⟩ : ∃ A, A = m.take (16 * n) := ⟨_, rfl⟩
    have hAl : A.length = 16 * n := by rw [hA, List.length_take]; omega
    rw [← hn]
    have hbsA : Bs [old W] (.slice va A.length vc) A := by
      rw [hAl, hA]; exact (hin.bs .here).takeA (by omega)
    repeat (first|refine zA ?_|refine zB ?_|refine zC ?_|refine zD ?_|refine zE ?_|refine zF ?_|refine zG ?_|refine zH ?_|refine zI ?_|refine zJ ?_|refine zK ?_|refine zL ?_|refine zM rfl ?_|refine zN ?_|refine zO ?_|refine zP ?_|refine zQ ?_)
    refine x_reg ?_
    first | refine x_pv (pv_fieldAddrz rfl (by omega)) ?_ | refine x_pv (pv_fieldAddr rfl (by omega)) ?_
    refine x_load rfl (by repeat constructor) (hm16) ?_
    first | refine x_pv (pv_move_int rfl) ?_ | refine x_pv (pv_move rfl) ?_
    first | refine x_pv (pv_muln (a := 16) rfl rfl (by first | omega | exact Nat.le_of_ble_eq_true rfl | (simp; done) | (simp; omega) | decide)) ?_ | refine x_pv (pv_mul_i rfl rfl (by first | omega | exact Nat.le_of_ble_eq_true rfl | (simp; done) | (simp; omega) | decide)) ?_
    refine x_pv (pv_sls0a (h := A.length) rfl (by show some _ = some _; rw [hAl]) (by omega)) ?_
    refine x_call rfl (by kernel_rfl) (copyBytes_x (L := [old W]) hbsA (by omega)) rfl (by repeat (first | exact Take.nil | exact Take.all | (apply Take.cons; (next => repeat constructor; done)) | apply Take.skip)) ?_
    rintro _ _ ⟨a1, c1, rfl, rfl⟩
    refine xo_app (by repeat (first | exact App.nil | apply App.cons | (apply App.flip; first | exact App.nil | apply App.cons) | exact App.any)) ?_
    first | refine x_pv (pv_assign_slice rfl) ?_ | refine x_pv (pv_assign rfl) ?_
    refine x_nil ?_
    repeat (first|refine zA ?_|refine zB ?_|refine zC ?_|refine zD ?_|refine zE ?_|refine zF ?_|refine zG ?_|refine zH ?_|refine zI ?_|refine zJ ?_|refine zK ?_|refine zL ?_|refine zM rfl ?_|refine zN ?_|refine zO ?_|refine zP ?_|refine zQ ?_)
    refine x_reg ?_
    first | refine x_pv (pv_move_slice rfl) ?_ | refine x_pv (pv_move rfl) ?_
    refine x_call rfl (by kernel_rfl) (copyBytes_x (L := [own 5 1 (.slice a1 A.length c1) A.length (A.map u8b)]) (Bs.own .here) (by omega)) rfl (by repeat (first | exact Take.nil | exact Take.all | (apply Take.cons; (next => repeat constructor; done)) | apply Take.skip)) ?_
    rintro _ _ ⟨a2, c2, rfl, rfl⟩
    refine xo_app (by repeat (first | exact App.nil | apply App.cons | (apply App.flip; first | exact App.nil | apply App.cons) | exact App.any)) ?_
    first | refine x_pv (pv_assign_slice rfl) ?_ | refine x_pv (pv_assign rfl) ?_
    refine x_nil ?_
    repeat (first|refine zA ?_|refine zB ?_|refine zC ?_|refine zD ?_|refine zE ?_|refine zF ?_|refine zG ?_|refine zH ?_|refine zI ?_|refine zJ ?_|refine zK ?_|refine zL ?_|refine zM rfl ?_|refine zN ?_|refine zO ?_|refine zP ?_|refine zQ ?_)
    refine x_reg ?_
    first | refine x_pv (pv_move_int rfl) ?_ | refine x_pv (pv_move rfl) ?_
    first | refine x_pv (pv_gtrn (b := 0) rfl rfl) ?_ | refine x_pv (pv_gtr rfl rfl) ?_
    refine x_nil ?_
    repeat (first|refine zA ?_|refine zB ?_|refine zC ?_|refine zD ?_|refine zE ?_|refine zF ?_|refine zG ?_|refine zH ?_|refine zI ?_|refine zJ ?_|refine zK ?_|refine zL ?_|refine zM rfl ?_|refine zN ?_|refine zO ?_|refine zP ?_|refine zQ ?_)
    refine x_cutt [(8, 10), (39, 74)] (by kernel_rfl) (fun bl : List Byte => bl.length = A.length ∧ code (keyO x.S) A = code (keyO x.S) bl) (fun bl => [own 5 1 (.slice a1 A.length c1) A.length (A.map u8b), own 5 1 (.slice a2 A.length c2) A.length (bl.map u8b), cl b3 ((keyO x.S).map u8b).toArray 24, cl b1 x.cells.toArray 61, old W]) (fun _ => []) ?_ ?_
    · refine x_cond_p rfl (fun hN => ?_) (fun hN => ?_)
      · refine x_get (fun F w H => own_some (a := a1) (by repeat constructor) (by omega) H) ?_
        rintro ⟨g1, rfl⟩
        refine x_get (fun F w H => own_some (a := a2) (by repeat constructor) (by omega) H) ?_
        rintro ⟨g2, rfl⟩
        obtain ⟨p, hp⟩ : ∃ p, p = (x.i % (n : Int)).toNat := ⟨_, rfl⟩
        obtain ⟨q, hq⟩ : ∃ q, q = (x.k % (n : Int)).toNat := ⟨_, rfl⟩
        have hpn : p < n := by have := Int.emod_nonneg x.i (show (n : Int) ≠ 0 by omega); have := Int.emod_lt_of_pos x.i (show (0 : Int) < n by omega); omega
        have hqn : q < n := by have := Int.emod_nonneg x.k (show (n : Int) ≠ 0 by omega); have := Int.emod_lt_of_pos x.k (show (0 : Int) < n by omega); omega
        repeat (first|refine zA ?_|refine zB ?_|refine zC ?_|refine zD ?_|refine zE ?_|refine zF ?_|refine zG ?_|refine zH ?_|refine zI ?_|refine zJ ?_|refine zK ?_|refine zL ?_|refine zM rfl ?_|refine zN ?_|refine zO ?_|refine zP ?_|refine zQ ?_)
        refine x_reg ?_
        first | refine x_pv (pv_fieldAddrz rfl (by omega)) ?_ | refine x_pv (pv_fieldAddr rfl (by omega)) ?_
        refine x_load rfl (by repeat constructor) (cO_i x hS) ?_
        first | refine x_pv (pv_move_int rfl) ?_ | refine x_pv (pv_move rfl) ?_
        refine x_call rfl (by kernel_rfl) (within_n x.i n (by omega) (by omega) hi) rfl (by repeat (first | exact Take.nil | exact Take.all | (apply Take.cons; (next => repeat constructor; done)) | apply Take.skip)) ?_
        rintro _ _ ⟨rfl, rfl⟩
        refine xo_app (by repeat (first | exact App.nil | apply App.cons | (apply App.flip; first | exact App.nil | apply App.cons) | exact App.any)) ?_
        first | refine x_pv (pv_muln (a := 16) rfl rfl (by first | omega | exact Nat.le_of_ble_eq_true rfl | (simp; done) | (simp; omega) | decide)) ?_ | refine x_pv (pv_mul_i rfl rfl (by first | omega | exact Nat.le_of_ble_eq_true rfl | (simp; done) | (simp; omega) | decide)) ?_
        first | refine x_pv (pv_assign_int rfl) ?_ | refine x_pv (pv_assign rfl) ?_
        refine x_nil ?_
        repeat (first|refine zA ?_|refine zB ?_|refine zC ?_|refine zD ?_|refine zE ?_|refine zF ?_|refine zG ?_|refine zH ?_|refine zI ?_|refine zJ ?_|refine zK ?_|refine zL ?_|refine zM rfl ?_|refine zN ?_|refine zO ?_|refine zP ?_|refine zQ ?_)
        rw [← hp]
        repeat (first|refine zA ?_|refine zB ?_|refine zC ?_|refine zD ?_|refine zE ?_|refine zF ?_|refine zG ?_|refine zH ?_|refine zI ?_|refine zJ ?_|refine zK ?_|refine zL ?_|refine zM rfl ?_|refine zN ?_|refine zO ?_|refine zP ?_|refine zQ ?_)
        refine x_reg ?_
        first | refine x_pv (pv_fieldAddrz rfl (by omega)) ?_ | refine x_pv (pv_fieldAddr rfl (by omega)) ?_
        refine x_load rfl (by repeat constructor) (cO_k x hS) ?_
        first | refine x_pv (pv_move_int rfl) ?_ | refine x_pv (pv_move rfl) ?_
        refine x_call rfl (by kernel_rfl) (within_n x.k n (by omega) (by omega) hk) rfl (by repeat (first | exact Take.nil | exact Take.all | (apply Take.cons; (next => repeat constructor; done)) | apply Take.skip)) ?_
        rintro _ _ ⟨rfl, rfl⟩
        refine xo_app (by repeat (first | exact App.nil | apply App.cons | (apply App.flip; first | exact App.nil | apply App.cons) | exact App.any)) ?_
        first | refine x_pv (pv_muln (a := 16) rfl rfl (by first | omega | exact Nat.le_of_ble_eq_true rfl | (simp; done) | (simp; omega) | decide)) ?_ | refine x_pv (pv_mul_i rfl rfl (by first | omega | exact Nat.le_of_ble_eq_true rfl | (simp; done) | (simp; omega) | decide)) ?_
        first | refine x_pv (pv_assign_int rfl) ?_ | refine x_pv (pv_assign rfl) ?_
        refine x_nil ?_
        repeat (first|refine zA ?_|refine zB ?_|refine zC ?_|refine zD ?_|refine zE ?_|refine zF ?_|refine zG ?_|refine zH ?_|refine zI ?_|refine zJ ?_|refine zK ?_|refine zL ?_|refine zM rfl ?_|refine zN ?_|refine zO ?_|refine zP ?_|refine zQ ?_)
        rw [← hq]
        repeat (first|refine zA ?_|refine zB ?_|refine zC ?_|refine zD ?_|refine zE ?_|refine zF ?_|refine zG ?_|refine zH ?_|refine zI ?_|refine zJ ?_|refine zK ?_|refine zL ?_|refine zM rfl ?_|refine zN ?_|refine zO ?_|refine zP ?_|refine zQ ?_)
        refine x_reg ?_
        first | refine x_pv (pv_assign_int rfl) ?_ | refine x_pv (pv_assign rfl) ?_
        refine x_nil ?_
        repeat (first|refine zA ?_|refine zB ?_|refine zC ?_|refine zD ?_|refine zE ?_|refine zF ?_|refine zG ?_|refine zH ?_|refine zI ?_|refine zJ ?_|refine zK ?_|refine zL ?_|refine zM rfl ?_|refine zN ?_|refine zO ?_|refine zP ?_|refine zQ ?_)
        refine x_loop [(10, 10), (49, 74)] (by kernel_rfl) (fun j : Nat => j ≤ 16) (fun j => [own 5 1 (.slice (some ⟨g1, 0, none⟩) A.length c1) A.length (A.map u8b), own 5 1 (.slice (some ⟨g2, 0, none⟩) A.length c2) A.length ((swL A (16 * p) (16 * q) j).map u8b), cl b3 ((keyO x.S).map u8b).toArray 24, cl b1 x.cells.toArray 61, old W])
          (fun j => [(10, .int .i64 (j : Int))]) (fun j => 16 - j) 0 (by omega) (by rw [swL_zero]; exact Imp.arr (by repeat (first | exact Arr.nil | exact Arr.stop | refine Arr.cons (by repeat constructor) ?_ | refine Arr.skip ?_))) ⟨rfl, trivial⟩ ?_
        intro j u2 hj
        have hsl := swL_len A (16 * p) (16 * q) j
        repeat (first|refine zA ?_|refine zB ?_|refine zC ?_|refine zD ?_|refine zE ?_|refine zF ?_|refine zG ?_|refine zH ?_|refine zI ?_|refine zJ ?_|refine zK ?_|refine zL ?_|refine zM rfl ?_|refine zN ?_|refine zO ?_|refine zP ?_|refine zQ ?_)
        refine x_reg ?_
        first | refine x_pv (pv_move_int rfl) ?_ | refine x_pv (pv_move rfl) ?_
        first | refine x_pv (pv_lssn (b := 16) rfl rfl) ?_ | refine x_pv (pv_lss rfl rfl) ?_
        refine x_nil ?_
        repeat (first|refine zA ?_|refine zB ?_|refine zC ?_|refine zD ?_|refine zE ?_|refine zF ?_|refine zG ?_|refine zH ?_|refine zI ?_|refine zJ ?_|refine zK ?_|refine zL ?_|refine zM rfl ?_|refine zN ?_|refine zO ?_|refine zP ?_|refine zQ ?_)
        refine x_cond_p rfl (fun hJ => ?_) (fun hJ => ?_)
        · have hxj : 16 * p + j < A.length := by omega
          have hyj : 16 * q + j < A.length := by omega
          have gx : (A.map u8b)[16 * p + j]? = some (u8b (A.getD (16 * p + j) 0#8)) := by rw [getM hxj, List.getD_eq_getElem?_getD, List.getElem?_eq_getElem hxj]; rfl
          have gy : (A.map u8b)[16 * q + j]? = some (u8b (A.getD (16 * q + j) 0#8)) := by rw [getM hyj, List.getD_eq_getElem?_getD, List.getElem?_eq_getElem hyj]; rfl
          repeat (first|refine zA ?_|refine zB ?_|refine zC ?_|refine zD ?_|refine zE ?_|refine zF ?_|refine zG ?_|refine zH ?_|refine zI ?_|refine zJ ?_|refine zK ?_|refine zL ?_|refine zM rfl ?_|refine zN ?_|refine zO ?_|refine zP ?_|refine zQ ?_)
          refine x_reg ?_
          first | refine x_pv (pv_move_slice rfl) ?_ | refine x_pv (pv_move rfl) ?_
          first | refine x_pv (pv_move_int rfl) ?_ | refine x_pv (pv_move rfl) ?_
          first | refine x_pv (pv_move_int rfl) ?_ | refine x_pv (pv_move rfl) ?_
          first | refine x_pv (pv_addn rfl rfl (by first | omega | exact Nat.le_of_ble_eq_true rfl | (simp; done) | (simp; omega) | decide)) ?_ | refine x_pv (pv_add_i rfl rfl (by first | omega | exact Nat.le_of_ble_eq_true rfl | (simp; done) | (simp; omega) | decide)) ?_
          first | refine x_pv (pv_move_slice rfl) ?_ | refine x_pv (pv_move rfl) ?_
          first | refine x_pv (pv_move_int rfl) ?_ | refine x_pv (pv_move rfl) ?_
          first | refine x_pv (pv_move_int rfl) ?_ | refine x_pv (pv_move rfl) ?_
          first | refine x_pv (pv_addn rfl rfl (by first | omega | exact Nat.le_of_ble_eq_true rfl | (simp; done) | (simp; omega) | decide)) ?_ | refine x_pv (pv_add_i rfl rfl (by first | omega | exact Nat.le_of_ble_eq_true rfl | (simp; done) | (simp; omega) | decide)) ?_
          first | refine x_pv (pv_ixs1z rfl rfl (by first | omega | exact Nat.le_of_ble_eq_true rfl | (simp; done) | (simp; omega))) ?_ | refine x_pv (pv_ixs1 rfl rfl (by first | omega | exact Nat.le_of_ble_eq_true rfl | (simp; done) | (simp; omega))) ?_
          refine x_load_slz (j := 16 * q + j) rfl (Rd.own (by repeat constructor)) hyj gy ?_
          first | refine x_pv (pv_ixs1z rfl rfl (by first | omega | exact Nat.le_of_ble_eq_true rfl | (simp; done) | (simp; omega))) ?_ | refine x_pv (pv_ixs1 rfl rfl (by first | omega | exact Nat.le_of_ble_eq_true rfl | (simp; done) | (simp; omega))) ?_
          refine x_store_own1 (u := u8b (A.getD (16 * q + j) 0#8)) (i := 16 * p + j) (xs := (swL A (16 * p) (16 * q) j).map u8b) (ys := ((swL A (16 * p) (16 * q) j).set (16 * p + j) (A.getD (16 * q + j) 0#8)).map u8b) rfl rfl rfl (by repeat constructor) hxj (by rw [List.map_set]) ?_
          refine x_nil ?_
          repeat (first|refine zA ?_|refine zB ?_|refine zC ?_|refine zD ?_|refine zE ?_|refine zF ?_|refine zG ?_|refine zH ?_|refine zI ?_|refine zJ ?_|refine zK ?_|refine zL ?_|refine zM rfl ?_|refine zN ?_|refine zO ?_|refine zP ?_|refine zQ ?_)
          refine x_reg ?_
          first | refine x_pv (pv_move_slice rfl) ?_ | refine x_pv (pv_move rfl) ?_
          first | refine x_pv (pv_move_int rfl) ?_ | refine x_pv (pv_move rfl) ?_
          first | refine x_pv (pv_move_int rfl) ?_ | refine x_pv (pv_move rfl) ?_
          first | refine x_pv (pv_addn rfl rfl (by first | omega | exact Nat.le_of_ble_eq_true rfl | (simp; done) | (simp; omega) | decide)) ?_ | refine x_pv (pv_add_i rfl rfl (by first | omega | exact Nat.le_of_ble_eq_true rfl | (simp; done) | (simp; omega) | decide)) ?_
          first | refine x_pv (pv_move_slice rfl) ?_ | refine x_pv (pv_move rfl) ?_
          first | refine x_pv (pv_move_int rfl) ?_ | refine x_pv (pv_move rfl) ?_
          first | refine x_pv (pv_move_int rfl) ?_ | refine x_pv (pv_move rfl) ?_
          first | refine x_pv (pv_addn rfl rfl (by first | omega | exact Nat.le_of_ble_eq_true rfl | (simp; done) | (simp; omega) | decide)) ?_ | refine x_pv (pv_add_i rfl rfl (by first | omega | exact Nat.le_of_ble_eq_true rfl | (simp; done) | (simp; omega) | decide)) ?_
          first | refine x_pv (pv_ixs1z rfl rfl (by first | omega | exact Nat.le_of_ble_eq_true rfl | (simp; done) | (simp; omega))) ?_ | refine x_pv (pv_ixs1 rfl rfl (by first | omega | exact Nat.le_of_ble_eq_true rfl | (simp; done) | (simp; omega))) ?_
          refine x_load_slz (j := 16 * p + j) rfl (Rd.own (by repeat constructor)) hxj gx ?_
          first | refine x_pv (pv_ixs1z rfl rfl (by first | omega | exact Nat.le_of_ble_eq_true rfl | (simp; done) | (simp; omega))) ?_ | refine x_pv (pv_ixs1 rfl rfl (by first | omega | exact Nat.le_of_ble_eq_true rfl | (simp; done) | (simp; omega))) ?_
          refine x_store_own1 (u := u8b (A.getD (16 * p + j) 0#8)) (i := 16 * q + j) (xs := ((swL A (16 * p) (16 * q) j).set (16 * p + j) (A.getD (16 * q + j) 0#8)).map u8b) (ys := (swL A (16 * p) (16 * q) (j + 1)).map u8b) rfl rfl rfl (by repeat constructor) hyj (by rw [← swL_step A _ _ j hJ (by omega), List.map_set (l := (swL A (16 * p) (16 * q) j).set (16 * p + j) (A.getD (16 * q + j) 0#8))]) ?_
          refine x_nil ?_
          repeat (first|refine zA ?_|refine zB ?_|refine zC ?_|refine zD ?_|refine zE ?_|refine zF ?_|refine zG ?_|refine zH ?_|refine zI ?_|refine zJ ?_|refine zK ?_|refine zL ?_|refine zM rfl ?_|refine zN ?_|refine zO ?_|refine zP ?_|refine zQ ?_)
          refine x_reg ?_
          first | refine x_pv (pv_move_int rfl) ?_ | refine x_pv (pv_move rfl) ?_
          first | refine x_pv (pv_addn (b := 1) rfl rfl (by first | omega | exact Nat.le_of_ble_eq_true rfl | (simp; done) | (simp; omega) | decide)) ?_ | refine x_pv (pv_add_i rfl rfl (by first | omega | exact Nat.le_of_ble_eq_true rfl | (simp; done) | (simp; omega) | decide)) ?_
          first | refine x_pv (pv_assign_int rfl) ?_ | refine x_pv (pv_assign rfl) ?_
          refine x_nil ?_
          repeat (first|refine zA ?_|refine zB ?_|refine zC ?_|refine zD ?_|refine zE ?_|refine zF ?_|refine zG ?_|refine zH ?_|refine zI ?_|refine zJ ?_|refine zK ?_|refine zL ?_|refine zM rfl ?_|refine zN ?_|refine zO ?_|refine zP ?_|refine zQ ?_)
          exact x_loop_n (j + 1) (by first | omega | (dsimp only; omega) | (simp only []; omega)) (by first | omega | (dsimp only; omega) | (simp only []; omega)) (by exact Imp.arr (by repeat (first | exact Arr.nil | exact Arr.stop | refine Arr.cons (by repeat constructor) ?_ | refine Arr.skip ?_))) ⟨rfl, trivial⟩
        · have hj16 : j = 16 := by omega
          subst hj16
          repeat (first|refine zA ?_|refine zB ?_|refine zC ?_|refine zD ?_|refine zE ?_|refine zF ?_|refine zG ?_|refine zH ?_|refine zI ?_|refine zJ ?_|refine zK ?_|refine zL ?_|refine zM rfl ?_|refine zN ?_|refine zO ?_|refine zP ?_|refine zQ ?_)
          exact x_cut_n (swL A (16 * p) (16 * q) 16) ⟨hsl, orderless_law _ A hkl (keyO_r x.S) n p q hAl hpn hqn⟩ (by exact Imp.arr (by repeat (first | exact Arr.nil | exact Arr.stop | refine Arr.cons (by repeat constructor) ?_ | refine Arr.skip ?_))) trivial
      · repeat (first|refine zA ?_|refine zB ?_|refine zC ?_|refine zD ?_|refine zE ?_|refine zF ?_|refine zG ?_|refine zH ?_|refine zI ?_|refine zJ ?_|refine zK ?_|refine zL ?_|refine zM rfl ?_|refine zN ?_|refine zO ?_|refine zP ?_|refine zQ ?_)
        exact x_cut_n A ⟨rfl, rfl⟩ (by exact Imp.arr (by repeat (first | exact Arr.nil | exact Arr.stop | refine Arr.cons (by repeat constructor) ?_ | refine Arr.skip ?_))) trivial
    · rintro bl u2 ⟨hbl, hcode⟩
      try dsimp only
      rw [← hbl]
      repeat (first|refine zA ?_|refine zB ?_|refine zC ?_|refine zD ?_|refine zE ?_|refine zF ?_|refine zG ?_|refine zH ?_|refine zI ?_|refine zJ ?_|refine zK ?_|refine zL ?_|refine zM rfl ?_|refine zN ?_|refine zO ?_|refine zP ?_|refine zQ ?_)
      refine x_draw ([cl b3 ((keyO x.S).map u8b).toArray 24]) [0, 1, 2, 3, 4, 5, 6] (.r 0 (.r 1 (.r 4 (.r 5 (.alt (.e 2 true (.alt (.e 3 true (.e 6 true (.e 7 false (.q 8 (.q 9 .nil))))) (.e 6 true (.e 3 true (.e 7 false (.q 8 (.q 9 .nil))))))) (.e 6 true (.e 2 true (.e 3 true (.e 7 false (.q 8 (.q 9 .nil))))))))))) (by kernel_rfl) (by kernel_rfl) (Imp.arr (by repeat (first | exact Arr.nil | exact Arr.stop | refine Arr.cons (by repeat constructor) ?_ | refine Arr.skip ?_))) ?_
      first | refine cx_load_all rfl rfl (by repeat constructor) (by first | rfl | omega | (rw [szL]; omega) | exact Nat.le_of_ble_eq_true rfl | (simp; done) | (simp; omega)) ?_ | refine cx_load_agg rfl rfl (by repeat constructor) (by first | rfl | omega | (rw [szL]; omega) | exact Nat.le_of_ble_eq_true rfl | (simp; done) | (simp; omega)) rfl ?_
      first | refine cx_p rfl (pv_move_slice rfl) ?_ | refine cx_p rfl (pv_move rfl) ?_
      first | refine cx_load_all rfl rfl (by repeat constructor) (by first | rfl | omega | (rw [szL]; omega) | exact Nat.le_of_ble_eq_true rfl | (simp; done) | (simp; omega)) ?_ | refine cx_load_agg rfl rfl (by repeat constructor) (by first | rfl | omega | (rw [szL]; omega) | exact Nat.le_of_ble_eq_true rfl | (simp; done) | (simp; omega)) rfl ?_
      first | refine cx_p rfl (pv_move_slice rfl) ?_ | refine cx_p rfl (pv_move rfl) ?_
      refine cx_alt ?altA1 ?altB1
      case' altA1 =>
        refine cx_e rfl ?_
        refine x_buildSlice (cs := #[.slice _ _ _]) (by omega) (by omega) rfl ?_; intro b77
        refine x_nil ⟨fun _ => Imp.arr (by repeat (first | exact Arr.nil | exact Arr.stop | refine Arr.cons (by repeat constructor) ?_ | refine Arr.skip ?_)), ?_⟩
        refine cx_alt ?altA2 ?altB2
        case' altA2 =>
          refine cx_e rfl ?_
          refine x_call rfl (by kernel_rfl) (tsum1_c (L := [cl b77 #[.slice a1 bl.length c1] 31, own 5 1 (.slice a1 bl.length c1) bl.length (A.map u8b)]) (keyO x.S) hkl (by repeat constructor) (by rw [hbl]; exact Bs.own (by repeat constructor))) rfl (by repeat (first | exact Take.nil | exact Take.all | (apply Take.cons; (next => repeat constructor; done)) | apply Take.skip)) ?_
          rintro _ _ ⟨rfl, rfl⟩
          refine xo_app (by repeat (first | exact App.nil | apply App.cons | (apply App.flip; first | exact App.nil | apply App.cons) | exact App.any)) ?_
          refine x_nil ⟨fun _ => Imp.arr (by repeat (first | exact Arr.nil | exact Arr.stop | refine Arr.cons (by repeat constructor) ?_ | refine Arr.skip ?_)), ?_⟩
          refine cx_e rfl ?_
          refine x_buildSlice (cs := #[.slice _ _ _]) (by omega) (by omega) rfl ?_; intro b81
          refine x_nil ⟨fun _ => Imp.arr (by repeat (first | exact Arr.nil | exact Arr.stop | refine Arr.cons (by repeat constructor) ?_ | refine Arr.skip ?_)), ?_⟩
          refine cx_e rfl ?_
          refine x_call rfl (by kernel_rfl) (tsum1_c (L := [cl b81 #[.slice a2 bl.length c2] 31, own 5 1 (.slice a2 bl.length c2) bl.length (bl.map u8b)]) (keyO x.S) hkl (by repeat constructor) (Bs.own (by repeat constructor))) rfl (by repeat (first | exact Take.nil | exact Take.all | (apply Take.cons; (next => repeat constructor; done)) | apply Take.skip)) ?_
          rintro _ _ ⟨rfl, rfl⟩
          refine xo_app (by repeat (first | exact App.nil | apply App.cons | (apply App.flip; first | exact App.nil | apply App.cons) | exact App.any)) ?_
          refine x_nil ⟨(fun hh => Bool.noConfusion hh), ?_⟩
          refine cx_q rfl (pv_eql_ba (n := 16) (code_len _ _) (code_len _ _) rfl rfl) ?_
          refine cx_isT 83 rfl (decide_eq_true hcode) ?_
          first | refine cx_q rfl (pv_assign_bool rfl) ?_ | refine cx_q rfl (pv_assign rfl) ?_
          refine cx_nil ?_
        case' altB2 =>
          refine cx_e rfl ?_
          refine x_buildSlice (cs := #[.slice _ _ _]) (by omega) (by omega) rfl ?_; intro b81
          refine x_nil ⟨fun _ => Imp.arr (by repeat (first | exact Arr.nil | exact Arr.stop | refine Arr.cons (by repeat constructor) ?_ | refine Arr.skip ?_)), ?_⟩
          refine cx_e rfl ?_
          refine x_call rfl (by kernel_rfl) (tsum1_c (L := [cl b77 #[.slice a1 bl.length c1] 31, own 5 1 (.slice a1 bl.length c1) bl.length (A.map u8b)]) (keyO x.S) hkl (by repeat constructor) (by rw [hbl]; exact Bs.own (by repeat constructor))) rfl (by repeat (first | exact Take.nil | exact Take.all | (apply Take.cons; (next => repeat constructor; done)) | apply Take.skip)) ?_
          rintro _ _ ⟨rfl, rfl⟩
          refine xo_app (by repeat (first | exact App.nil | apply App.cons | (apply App.flip; first | exact App.nil | apply App.cons) | exact App.any)) ?_
          refine x_nil ⟨fun _ => Imp.arr (by repeat (first | exact Arr.nil | exact Arr.stop | refine Arr.cons (by repeat constructor) ?_ | refine Arr.skip ?_)), ?_⟩
          refine cx_e rfl ?_
          refine x_call rfl (by kernel_rfl) (tsum1_c (L := [cl b81 #[.slice a2 bl.length c2] 31, own 5 1 (.slice a2 bl.length c2) bl.length (bl.map u8b)]) (keyO x.S) hkl (by repeat constructor) (Bs.own (by repeat constructor))) rfl (by repeat (first | exact Take.nil | exact Take.all | (apply Take.cons; (next => repeat constructor; done)) | apply Take.skip)) ?_
          rintro _ _ ⟨rfl, rfl⟩
          refine xo_app (by repeat (first | exact App.nil | apply App.cons | (apply App.flip; first | exact App.nil | apply App.cons) | exact App.any)) ?_
          refine x_nil ⟨(fun hh => Bool.noConfusion hh), ?_⟩
          refine cx_q rfl (pv_eql_ba (n := 16) (code_len _ _) (code_len _ _) rfl rfl) ?_
          refine cx_isT 83 rfl (decide_eq_true hcode) ?_
          first | refine cx_q rfl (pv_assign_bool rfl) ?_ | refine cx_q rfl (pv_assign rfl) ?_
          refine cx_nil ?_
      case' altB1 =>
        refine cx_e rfl ?_
        refine x_buildSlice (cs := #[.slice _ _ _]) (by omega) (by omega) rfl ?_; intro b81
        refine x_nil ⟨fun _ => Imp.arr (by repeat (first | exact Arr.nil | exact Arr.stop | refine Arr.cons (by repeat constructor) ?_ | refine Arr.skip ?_)), ?_⟩
        refine cx_e rfl ?_
        refine x_buildSlice (cs := #[.slice _ _ _]) (by omega) (by omega) rfl ?_; intro b77
        refine x_nil ⟨fun _ => Imp.arr (by repeat (first | exact Arr.nil | exact Arr.stop | refine Arr.cons (by repeat constructor) ?_ | refine Arr.skip ?_)), ?_⟩
        refine cx_e rfl ?_
        refine x_call rfl (by kernel_rfl) (tsum1_c (L := [cl b77 #[.slice a1 bl.length c1] 31, own 5 1 (.slice a1 bl.length c1) bl.length (A.map u8b)]) (keyO x.S) hkl (by repeat constructor) (by rw [hbl]; exact Bs.own (by repeat constructor))) rfl (by repeat (first | exact Take.nil | exact Take.all | (apply Take.cons; (next => repeat constructor; done)) | apply Take.skip)) ?_
        rintro _ _ ⟨rfl, rfl⟩
        refine xo_app (by repeat (first | exact App.nil | apply App.cons | (apply App.flip; first | exact App.nil | apply App.cons) | exact App.any)) ?_
        refine x_nil ⟨fun _ => Imp.arr (by repeat (first | exact Arr.nil | exact Arr.stop | refine Arr.cons (by repeat constructor) ?_ | refine Arr.skip ?_)), ?_⟩
        refine cx_e rfl ?_
        refine x_call rfl (by kernel_rfl) (tsum1_c (L := [cl b81 #[.slice a2 bl.length c2] 31, own 5 1 (.slice a2 bl.length c2) bl.length (bl.map u8b)]) (keyO x.S) hkl (by repeat constructor) (Bs.own (by repeat constructor))) rfl (by repeat (first | exact Take.nil | exact Take.all | (apply Take.cons; (next => repeat constructor; done)) | apply Take.skip)) ?_
        rintro _ _ ⟨rfl, rfl⟩
        refine xo_app (by repeat (first | exact App.nil | apply App.cons | (apply App.flip; first | exact App.nil | apply App.cons) | exact App.any)) ?_
        refine x_nil ⟨(fun hh => Bool.noConfusion hh), ?_⟩
        refine cx_q rfl (pv_eql_ba (n := 16) (code_len _ _) (code_len _ _) rfl rfl) ?_
        refine cx_isT 83 rfl (decide_eq_true hcode) ?_
        first | refine cx_q rfl (pv_assign_bool rfl) ?_ | refine cx_q rfl (pv_assign rfl) ?_
        refine cx_nil ?_
      all_goals (repeat (first|refine zA ?_|refine zB ?_|refine zC ?_|refine zD ?_|refine zE ?_|refine zF ?_|refine zG ?_|refine zH ?_|refine zI ?_|refine zJ ?_|refine zK ?_|refine zL ?_|refine zM rfl ?_|refine zN ?_|refine zO ?_|refine zP ?_|refine zQ ?_))
      all_goals
        refine rx1 (rx_bool rfl (rx_nil)) ?_
        exact ⟨_, ⟨rfl, rfl⟩, by exact Imp.arr (by repeat (first | exact Arr.nil | exact Arr.stop | refine Arr.cons (by repeat constructor) ?_ | refine Arr.skip ?_))⟩
section
open Go.ChangeShapes Go.WideShapes Go.ChangeAt Go.RowKit
variable {H : Type} {enc : TypeId × Value → H} {w : World} {base : Nat} {spare : Nat → Bool} {held : Bool}
theorem int_wf {n : Int} (h : (Lit.int .i64 n).wf = true) : -9223372036854775808 ≤ n ∧ n ≤ 9223372036854775807 := by
  simp only [Lit.wf, Bool.and_eq_true, decide_eq_true_eq] at h
  have hlo : IntKind.i64.min = -9223372036854775808 := by decide
  have hhi : IntKind.i64.max = 9223372036854775807 := by decide
  omega
theorem open_chunks {n : Nat} {cs : List Value} {y : DataW H × List MemPlace} (h : DataW.trod enc Try.prog w base spare held n 61 cs = some y) (hs : Small Try.prog 61 y.1) : ∃ x : ChunksV, cs = x.cells ∧ ChunksOk w x := by
  obtain ⟨xs, m, _, hx, hl, hn, hf⟩ := DataW.trod_struct Try.underlying61 h
  have cC : Try.prog.cellsOf 61 = 19 := by kernel_rfl
  have cS : Try.prog.cellsOf 27 = 16 := by kernel_rfl
  have cM : Try.prog.cellsOf 31 = 1 := by kernel_rfl
  have cI : Try.prog.cellsOf 3 = 1 := by kernel_rfl
  rw [cC] at hl
  have hn : xs.length = 4 := hn
  have g : ∀ i (hi : i < xs.length), xs[i]? = some xs[i] := fun i hi => List.getElem?_eq_getElem hi
  have e0 : DataW.trod enc Try.prog w base spare held m 27 ((cs.drop 0).take (Try.prog.cellsOf 27)) = some (xs[0]'(by omega)) := (hf 0 _ rfl).trans (g 0 (by omega))
  have e1 : DataW.trod enc Try.prog w base spare held m 31 ((cs.drop 16).take (Try.prog.cellsOf 31)) = some (xs[1]'(by omega)) := (hf 1 _ rfl).trans (g 1 (by omega))
  have e2 : DataW.trod enc Try.prog w base spare held m 3 ((cs.drop 17).take (Try.prog.cellsOf 3)) = some (xs[2]'(by omega)) := (hf 2 _ rfl).trans (g 2 (by omega))
  have e3 : DataW.trod enc Try.prog w base spare held m 3 ((cs.drop 18).take (Try.prog.cellsOf 3)) = some (xs[3]'(by omega)) := (hf 3 _ rfl).trans (g 3 (by omega))
  rw [cS] at e0; rw [cM] at e1; rw [cI] at e2 e3
  rw [hx] at hs
  have hs1 := Small.part (j := 1) Try.underlying61 hs rfl (by rw [List.getElem?_map, g 1 (by omega)]; rfl)
  obtain ⟨S, hS, hSl⟩ := open_ba e0
  obtain ⟨v, l, hv, hin⟩ := open_bs Try.underlying31 Try.underlying5 (by kernel_rfl) (by kernel_rfl) e1 hs1
  obtain ⟨i, hi, _, wi⟩ := DataW.trod_int Try.underlying3 e2
  obtain ⟨k, hk, _, wk⟩ := DataW.trod_int Try.underlying3 e3
  refine ⟨⟨S, v, i, k⟩, ?_, hSl, ⟨l, hin⟩, int_wf wi, int_wf wk⟩
  have d1 : cs.drop 16 = (cs.drop 16).take 1 ++ cs.drop 17 := by
    have := (List.take_append_drop 1 (cs.drop 16)).symm
    rwa [List.drop_drop] at this
  have d2 : cs.drop 17 = (cs.drop 17).take 1 ++ cs.drop 18 := by
    have := (List.take_append_drop 1 (cs.drop 17)).symm
    rwa [List.drop_drop] at this
  have d3 : cs.drop 18 = (cs.drop 18).take 1 := by rw [List.take_of_length_le (by simp; omega)]
  have d0 : cs = (cs.drop 0).take 16 ++ cs.drop 16 := (List.take_append_drop 16 cs).symm
  rw [d0, d1, d2, d3, hS, hv, hi, hk]
  rfl
end
end Go.Sl
