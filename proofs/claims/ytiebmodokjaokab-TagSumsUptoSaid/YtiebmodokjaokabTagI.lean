/- trystlaw06: TagNought, walked. -/
import Derived.Test.YtiebmodokjaokabTagH
set_option maxHeartbeats 4000000
set_option maxRecDepth 10000
set_option linter.unusedVariables false
set_option linter.unusedSimpArgs false
namespace Go.Sl
open Go Go.Proofs
attribute [local irreducible] cl pt own old pur ex all den denOps denS xOps xC cX CX xthen xblk xcut xloop retX resX Calls PV Rd Con
def free (i : Nat) : Byte := if i % 4 = 3 then 240#8 else if i % 4 = 0 ∧ 0 < i then 3#8 else 0#8
def mkB (key : List Byte) (i j : Nat) : Byte := if j < i then key.getD j 0#8 &&& free j else key.getD j 0#8
def mk (key : List Byte) (i : Nat) : List Byte := (List.range 32).map (mkB key i)
theorem mk_len (key : List Byte) (i : Nat) : (mk key i).length = 32 := by simp [mk]
theorem mk_zero (key : List Byte) (hk : key.length = 32) : mk key 0 = key := by
  apply List.ext_getElem (by simp [mk]; omega)
  intro j h1 h2
  simp only [mk, List.getElem_map, List.getElem_range, mkB]
  rw [if_neg (by omega), List.getD_eq_getElem?_getD, List.getElem?_eq_getElem h2]; rfl
theorem mk_get (key : List Byte) (i : Nat) (hi : i < 32) : (mk key i)[i]'(by simp [mk]; omega) = key.getD i 0#8 := by
  simp only [mk, List.getElem_map, List.getElem_range, mkB]
  rw [if_neg (by omega)]
theorem mk_set (key : List Byte) (i : Nat) : (mk key i).set i (key.getD i 0#8 &&& free i) = mk key (i + 1) := by
  apply List.ext_getElem (by simp [mk])
  intro j h1 h2
  simp only [mk, List.getElem_set, List.getElem_map, List.getElem_range, mkB]
  by_cases e : i = j
  · subst e; rw [if_pos rfl, if_pos (by omega)]
  · rw [if_neg e]
    by_cases h : j < i
    · rw [if_pos h, if_pos (by omega)]
    · rw [if_neg h, if_neg (by omega)]
theorem and240 (a : Byte) : (a &&& 240#8).toNat = 16 * (a.toNat / 16) ∧ a.toNat / 16 < 16 := by
  have h : ∀ n : Fin 256, (BitVec.ofFin n &&& 240#8).toNat = 16 * (n.val / 16) := by decide +kernel
  have := a.isLt
  exact ⟨h a.toFin, by omega⟩
theorem and3b (a : Byte) : (a &&& 3#8).toNat = a.toNat % 4 := by
  rw [BitVec.toNat_and]; exact Nat.and_two_pow_sub_one_eq_mod a.toNat 2
theorem and0b (a : Byte) : (a &&& 0#8) = 0#8 := by simp
theorem mask0 : ∀ (a : Fin 16) (c : Fin 4) (d : Fin 16), (16 * a.val * 16777216 + c.val * 4294967296 + 16 * d.val * 72057594037927936) &&& 1152921487695413247 = 0 := by decide +kernel
theorem mask1 : ∀ (b : Fin 4) (a : Fin 16) (c : Fin 4) (d : Fin 16), (b.val + 16 * a.val * 16777216 + c.val * 4294967296 + 16 * d.val * 72057594037927936) &&& 1152921487695413244 = 0 := by decide +kernel
theorem mk_r (key : List Byte) : rN (mk key 16) = 0 := by
  have e1 : (mk key 16).take 8 = [key.getD 0 0#8 &&& 0#8, key.getD 1 0#8 &&& 0#8, key.getD 2 0#8 &&& 0#8, key.getD 3 0#8 &&& 240#8, key.getD 4 0#8 &&& 3#8, key.getD 5 0#8 &&& 0#8, key.getD 6 0#8 &&& 0#8, key.getD 7 0#8 &&& 240#8] := rfl
  have e2 : ((mk key 16).drop 8).take 8 = [key.getD 8 0#8 &&& 3#8, key.getD 9 0#8 &&& 0#8, key.getD 10 0#8 &&& 0#8, key.getD 11 0#8 &&& 240#8, key.getD 12 0#8 &&& 3#8, key.getD 13 0#8 &&& 0#8, key.getD 14 0#8 &&& 0#8, key.getD 15 0#8 &&& 240#8] := rfl
  have w1 : (wordB ((mk key 16).take 8) &&& 1152921487695413247#64).toNat = 0 := by
    rw [BitVec.toNat_and, wordB_val _ (by rw [List.length_take]; omega), e1]
    have a := and240 (key.getD 3 0#8); have d := and240 (key.getD 7 0#8)
    simp only [and0b, leN, a.1, d.1, and3b]
    have := mask0 ⟨_, a.2⟩ ⟨(key.getD 4 0#8).toNat % 4, by omega⟩ ⟨_, d.2⟩
    simp only [] at this
    refine Eq.trans (congrArg (fun x => x &&& 1152921487695413247) ?_) this
    simp only [BitVec.toNat_ofNat]
    omega
  have w2 : (wordB (((mk key 16).drop 8).take 8) &&& 1152921487695413244#64).toNat = 0 := by
    rw [BitVec.toNat_and, wordB_val _ (by rw [List.length_take]; omega), e2]
    have a := and240 (key.getD 11 0#8); have d := and240 (key.getD 15 0#8)
    simp only [and0b, leN, a.1, d.1, and3b]
    have := mask1 ⟨(key.getD 8 0#8).toNat % 4, by omega⟩ ⟨_, a.2⟩ ⟨(key.getD 12 0#8).toNat % 4, by omega⟩ ⟨_, d.2⟩
    simp only [] at this
    refine Eq.trans (congrArg (fun x => x &&& 1152921487695413244) ?_) this
    simp only [BitVec.toNat_ofNat]
    omega
  show (wordB ((mk key 16).take 8) &&& 1152921487695413247#64).toNat + 18446744073709551616 * (wordB (((mk key 16).drop 8).take 8) &&& 1152921487695413244#64).toNat = 0
  rw [w1, w2]
theorem poly_nought (key m : List Byte) (h : rN key = 0) : polyN key m = 0 := by
  unfold polyN
  rw [h]
  have key2 : ∀ (m : List Byte) (s : Nat × List Byte), s.1 = 0 → (m.foldl (stepN 0) s).1 = 0 := by
    intro m
    induction m with
    | nil => exact fun _ h => h
    | cons x m ih =>
      intro s hs
      refine ih _ ?_
      unfold stepN
      split
      · show (_ * 0) % _ = 0
        rw [Nat.mul_zero, Nat.zero_mod]
      · exact hs
  have h2 := key2 m (0, []) rfl
  unfold finN
  split
  · exact h2
  · rw [Nat.mul_zero, Nat.zero_mod]
theorem nought_law (key m : List Byte) : code (mk key 16) m = (mk key 16).drop 16 := by
  have hl := mk_len key 16
  have hd : ((mk key 16).drop 16).length = 16 := by simp; omega
  apply leN_inj (by rw [code_len, hd])
  rw [code_val _ m hl, poly_nought _ m (mk_r key)]
  have := leN_lt ((mk key 16).drop 16)
  rw [hd, show (256 : Nat) ^ 16 = 340282366920938463463374607431768211456 by decide] at this
  unfold sN
  omega
theorem nought_x (W : World) (key : List Byte) (hk : key.length = 32) (v : Value) (m : List Byte) (hin : InB W v m) : Con Try.prog 9 [.agg (key.map u8b).toArray, v] [old W] (fun r M => r = .bool true ∧ [old W] = M) := by
  obtain ⟨va, vc, rfl, hvl, hvc⟩ := hin.sh
  have hml := hin.len
  refine fn_x Try.func9 rfl rfl rfl Try.mixed (by kernel_rfl) ?_
  intro w0
  repeat (first|refine zA ?_|refine zB ?_|refine zC ?_|refine zD ?_|refine zE ?_|refine zF ?_|refine zG ?_|refine zH ?_|refine zI ?_|refine zJ ?_|refine zK ?_|refine zL ?_|refine zM rfl ?_|refine zN ?_|refine zO ?_|refine zP ?_|refine zQ ?_)
  refine x_reg ?_
  refine x_box_a rfl ?_; intro b2
  first | refine x_pv (pv_assign_bool rfl) ?_ | refine x_pv (pv_assign rfl) ?_
  refine x_nil ?_
  repeat (first|refine zA ?_|refine zB ?_|refine zC ?_|refine zD ?_|refine zE ?_|refine zF ?_|refine zG ?_|refine zH ?_|refine zI ?_|refine zJ ?_|refine zK ?_|refine zL ?_|refine zM rfl ?_|refine zN ?_|refine zO ?_|refine zP ?_|refine zQ ?_)
  refine x_reg ?_
  first | refine x_pv (pv_assign_int rfl) ?_ | refine x_pv (pv_assign rfl) ?_
  refine x_nil ?_
  repeat (first|refine zA ?_|refine zB ?_|refine zC ?_|refine zD ?_|refine zE ?_|refine zF ?_|refine zG ?_|refine zH ?_|refine zI ?_|refine zJ ?_|refine zK ?_|refine zL ?_|refine zM rfl ?_|refine zN ?_|refine zO ?_|refine zP ?_|refine zQ ?_)
  refine x_loop [(5, 27)] (by kernel_rfl) (fun i : Nat => i ≤ 16) (fun i => [cl b2 ((mk key i).map u8b).toArray 24, old W])
    (fun i => [(5, .int .i64 (i : Int))]) (fun i => 16 - i) 0 (by omega) (by rw [mk_zero key hk]; exact Imp.arr (by repeat (first | exact Arr.nil | exact Arr.stop | refine Arr.cons (by repeat constructor) ?_ | refine Arr.skip ?_))) ⟨rfl, trivial⟩ ?_
  intro i u hi
  have hol := mk_len key i
  repeat (first|refine zA ?_|refine zB ?_|refine zC ?_|refine zD ?_|refine zE ?_|refine zF ?_|refine zG ?_|refine zH ?_|refine zI ?_|refine zJ ?_|refine zK ?_|refine zL ?_|refine zM rfl ?_|refine zN ?_|refine zO ?_|refine zP ?_|refine zQ ?_)
  refine x_reg ?_
  first | refine x_pv (pv_move_int rfl) ?_ | refine x_pv (pv_move rfl) ?_
  first | refine x_pv (pv_lssn (b := 16) rfl rfl) ?_ | refine x_pv (pv_lss rfl rfl) ?_
  refine x_nil ?_
  repeat (first|refine zA ?_|refine zB ?_|refine zC ?_|refine zD ?_|refine zE ?_|refine zF ?_|refine zG ?_|refine zH ?_|refine zI ?_|refine zJ ?_|refine zK ?_|refine zL ?_|refine zM rfl ?_|refine zN ?_|refine zO ?_|refine zP ?_|refine zQ ?_)
  refine x_cond_p rfl (fun hB => ?_) (fun hB => ?_)
  · repeat (first|refine zA ?_|refine zB ?_|refine zC ?_|refine zD ?_|refine zE ?_|refine zF ?_|refine zG ?_|refine zH ?_|refine zI ?_|refine zJ ?_|refine zK ?_|refine zL ?_|refine zM rfl ?_|refine zN ?_|refine zO ?_|refine zP ?_|refine zQ ?_)
    refine x_reg ?_
    first | refine x_pv (pv_assign_int rfl) ?_ | refine x_pv (pv_assign rfl) ?_
    refine x_nil ?_
    repeat (first|refine zA ?_|refine zB ?_|refine zC ?_|refine zD ?_|refine zE ?_|refine zF ?_|refine zG ?_|refine zH ?_|refine zI ?_|refine zJ ?_|refine zK ?_|refine zL ?_|refine zM rfl ?_|refine zN ?_|refine zO ?_|refine zP ?_|refine zQ ?_)
    refine x_reg ?_
    first | refine x_pv (pv_move_int rfl) ?_ | refine x_pv (pv_move rfl) ?_
    first | refine x_pv (pv_remn (b := 4) rfl rfl (by first | omega | exact Nat.le_of_ble_eq_true rfl | (simp; done) | (simp; omega) | decide)) ?_ | refine x_pv (pv_rem_i rfl rfl (by first | omega | exact Nat.le_of_ble_eq_true rfl | (simp; done) | (simp; omega) | decide)) ?_
    first | refine x_pv (pv_eqln (b := 3) rfl rfl) ?_ | refine x_pv (pv_eql rfl rfl) ?_
    refine x_nil ?_
    repeat (first|refine zA ?_|refine zB ?_|refine zC ?_|refine zD ?_|refine zE ?_|refine zF ?_|refine zG ?_|refine zH ?_|refine zI ?_|refine zJ ?_|refine zK ?_|refine zL ?_|refine zM rfl ?_|refine zN ?_|refine zO ?_|refine zP ?_|refine zQ ?_)
    refine x_cutt [(6, 6), (14, 20)] (by kernel_rfl) (fun _ : Unit => True) (fun _ => [cl b2 ((mk key i).map u8b).toArray 24, old W]) (fun _ => [(6, u8b (free i))]) ?_ ?_
    · refine x_cond_p rfl (fun h3 => ?_) (fun h3 => ?_)
      · repeat (first|refine zA ?_|refine zB ?_|refine zC ?_|refine zD ?_|refine zE ?_|refine zF ?_|refine zG ?_|refine zH ?_|refine zI ?_|refine zJ ?_|refine zK ?_|refine zL ?_|refine zM rfl ?_|refine zN ?_|refine zO ?_|refine zP ?_|refine zQ ?_)
        refine x_reg ?_
        first | refine x_pv (pv_assign_int rfl) ?_ | refine x_pv (pv_assign rfl) ?_
        refine x_nil ?_
        repeat (first|refine zA ?_|refine zB ?_|refine zC ?_|refine zD ?_|refine zE ?_|refine zF ?_|refine zG ?_|refine zH ?_|refine zI ?_|refine zJ ?_|refine zK ?_|refine zL ?_|refine zM rfl ?_|refine zN ?_|refine zO ?_|refine zP ?_|refine zQ ?_)
        exact x_cut_n () trivial (by exact Imp.arr (by repeat (first | exact Arr.nil | exact Arr.stop | refine Arr.cons (by repeat constructor) ?_ | refine Arr.skip ?_))) ⟨(by rw [show free i = 240#8 by unfold free; rw [if_pos h3]]; rfl), trivial⟩
      · by_cases h0 : i % 4 = 0
        · by_cases hp : 0 < i
          · repeat (first|refine zA ?_|refine zB ?_|refine zC ?_|refine zD ?_|refine zE ?_|refine zF ?_|refine zG ?_|refine zH ?_|refine zI ?_|refine zJ ?_|refine zK ?_|refine zL ?_|refine zM rfl ?_|refine zN ?_|refine zO ?_|refine zP ?_|refine zQ ?_)
            refine x_reg ?_
            first | refine x_pv (pv_move_int rfl) ?_ | refine x_pv (pv_move rfl) ?_
            first | refine x_pv (pv_remn (b := 4) rfl rfl (by first | omega | exact Nat.le_of_ble_eq_true rfl | (simp; done) | (simp; omega) | decide)) ?_ | refine x_pv (pv_rem_i rfl rfl (by first | omega | exact Nat.le_of_ble_eq_true rfl | (simp; done) | (simp; omega) | decide)) ?_
            first | refine x_pv (pv_eqln (b := 0) rfl rfl) ?_ | refine x_pv (pv_eql rfl rfl) ?_
            refine x_isT 16 rfl (decide_eq_true h0) ?_
            first | refine x_pv (pv_move_bool rfl) ?_ | refine x_pv (pv_move rfl) ?_
            first | refine x_gn rfl ?_ | refine x_gu rfl ?_ | (refine x_gy rfl ?_; (first | refine x_pv (pv_move_int rfl) ?_ | refine x_pv (pv_move rfl) ?_))
            first | refine x_gn rfl ?_ | refine x_gu rfl ?_ | (refine x_gy rfl ?_; (first | refine x_pv (pv_gtrn (b := 0) rfl rfl) ?_ | refine x_pv (pv_gtr rfl rfl) ?_))
            refine x_isT 19 rfl (decide_eq_true hp) ?_
            first | refine x_pv (pv_pick_tb rfl rfl) ?_ | refine x_pv (pv_pick_fb rfl rfl) ?_ | refine x_pv (pv_pick_t rfl rfl) ?_ | refine x_pv (pv_pick_f rfl rfl) ?_ | refine x_pv (pv_pick_and rfl rfl) ?_ | refine x_pv (pv_pick_or rfl rfl) ?_
            refine x_nil ?_
            repeat (first|refine zA ?_|refine zB ?_|refine zC ?_|refine zD ?_|refine zE ?_|refine zF ?_|refine zG ?_|refine zH ?_|refine zI ?_|refine zJ ?_|refine zK ?_|refine zL ?_|refine zM rfl ?_|refine zN ?_|refine zO ?_|refine zP ?_|refine zQ ?_)
            refine x_cond_t rfl ?_
            repeat (first|refine zA ?_|refine zB ?_|refine zC ?_|refine zD ?_|refine zE ?_|refine zF ?_|refine zG ?_|refine zH ?_|refine zI ?_|refine zJ ?_|refine zK ?_|refine zL ?_|refine zM rfl ?_|refine zN ?_|refine zO ?_|refine zP ?_|refine zQ ?_)
            refine x_reg ?_
            first | refine x_pv (pv_assign_int rfl) ?_ | refine x_pv (pv_assign rfl) ?_
            refine x_nil ?_
            repeat (first|refine zA ?_|refine zB ?_|refine zC ?_|refine zD ?_|refine zE ?_|refine zF ?_|refine zG ?_|refine zH ?_|refine zI ?_|refine zJ ?_|refine zK ?_|refine zL ?_|refine zM rfl ?_|refine zN ?_|refine zO ?_|refine zP ?_|refine zQ ?_)
            exact x_cut_n () trivial (by exact Imp.arr (by repeat (first | exact Arr.nil | exact Arr.stop | refine Arr.cons (by repeat constructor) ?_ | refine Arr.skip ?_))) ⟨(by rw [show free i = 3#8 by unfold free; rw [if_neg h3, if_pos ⟨h0, hp⟩]]; rfl), trivial⟩
          · repeat (first|refine zA ?_|refine zB ?_|refine zC ?_|refine zD ?_|refine zE ?_|refine zF ?_|refine zG ?_|refine zH ?_|refine zI ?_|refine zJ ?_|refine zK ?_|refine zL ?_|refine zM rfl ?_|refine zN ?_|refine zO ?_|refine zP ?_|refine zQ ?_)
            refine x_reg ?_
            first | refine x_pv (pv_move_int rfl) ?_ | refine x_pv (pv_move rfl) ?_
            first | refine x_pv (pv_remn (b := 4) rfl rfl (by first | omega | exact Nat.le_of_ble_eq_true rfl | (simp; done) | (simp; omega) | decide)) ?_ | refine x_pv (pv_rem_i rfl rfl (by first | omega | exact Nat.le_of_ble_eq_true rfl | (simp; done) | (simp; omega) | decide)) ?_
            first | refine x_pv (pv_eqln (b := 0) rfl rfl) ?_ | refine x_pv (pv_eql rfl rfl) ?_
            refine x_isT 16 rfl (decide_eq_true h0) ?_
            first | refine x_pv (pv_move_bool rfl) ?_ | refine x_pv (pv_move rfl) ?_
            first | refine x_gn rfl ?_ | refine x_gu rfl ?_ | (refine x_gy rfl ?_; (first | refine x_pv (pv_move_int rfl) ?_ | refine x_pv (pv_move rfl) ?_))
            first | refine x_gn rfl ?_ | refine x_gu rfl ?_ | (refine x_gy rfl ?_; (first | refine x_pv (pv_gtrn (b := 0) rfl rfl) ?_ | refine x_pv (pv_gtr rfl rfl) ?_))
            refine x_isF 19 rfl (decide_eq_false hp) ?_
            first | refine x_pv (pv_pick_tb rfl rfl) ?_ | refine x_pv (pv_pick_fb rfl rfl) ?_ | refine x_pv (pv_pick_t rfl rfl) ?_ | refine x_pv (pv_pick_f rfl rfl) ?_ | refine x_pv (pv_pick_and rfl rfl) ?_ | refine x_pv (pv_pick_or rfl rfl) ?_
            refine x_nil ?_
            repeat (first|refine zA ?_|refine zB ?_|refine zC ?_|refine zD ?_|refine zE ?_|refine zF ?_|refine zG ?_|refine zH ?_|refine zI ?_|refine zJ ?_|refine zK ?_|refine zL ?_|refine zM rfl ?_|refine zN ?_|refine zO ?_|refine zP ?_|refine zQ ?_)
            refine x_cond_f rfl ?_
            repeat (first|refine zA ?_|refine zB ?_|refine zC ?_|refine zD ?_|refine zE ?_|refine zF ?_|refine zG ?_|refine zH ?_|refine zI ?_|refine zJ ?_|refine zK ?_|refine zL ?_|refine zM rfl ?_|refine zN ?_|refine zO ?_|refine zP ?_|refine zQ ?_)
            exact x_cut_n () trivial (by exact Imp.arr (by repeat (first | exact Arr.nil | exact Arr.stop | refine Arr.cons (by repeat constructor) ?_ | refine Arr.skip ?_))) ⟨(by rw [show free i = 0#8 by unfold free; rw [if_neg h3, if_neg (fun h => hp h.2)]]; rfl), trivial⟩
        · repeat (first|refine zA ?_|refine zB ?_|refine zC ?_|refine zD ?_|refine zE ?_|refine zF ?_|refine zG ?_|refine zH ?_|refine zI ?_|refine zJ ?_|refine zK ?_|refine zL ?_|refine zM rfl ?_|refine zN ?_|refine zO ?_|refine zP ?_|refine zQ ?_)
          refine x_reg ?_
          first | refine x_pv (pv_move_int rfl) ?_ | refine x_pv (pv_move rfl) ?_
          first | refine x_pv (pv_remn (b := 4) rfl rfl (by first | omega | exact Nat.le_of_ble_eq_true rfl | (simp; done) | (simp; omega) | decide)) ?_ | refine x_pv (pv_rem_i rfl rfl (by first | omega | exact Nat.le_of_ble_eq_true rfl | (simp; done) | (simp; omega) | decide)) ?_
          first | refine x_pv (pv_eqln (b := 0) rfl rfl) ?_ | refine x_pv (pv_eql rfl rfl) ?_
          refine x_isF 16 rfl (decide_eq_false h0) ?_
          first | refine x_pv (pv_move_bool rfl) ?_ | refine x_pv (pv_move rfl) ?_
          first | refine x_gn rfl ?_ | refine x_gu rfl ?_ | (refine x_gy rfl ?_; (first | refine x_pv (pv_move_int rfl) ?_ | refine x_pv (pv_move rfl) ?_))
          first | refine x_gn rfl ?_ | refine x_gu rfl ?_ | (refine x_gy rfl ?_; (first | refine x_pv (pv_gtrn (b := 0) rfl rfl) ?_ | refine x_pv (pv_gtr rfl rfl) ?_))
          first | refine x_pv (pv_pick_tb rfl rfl) ?_ | refine x_pv (pv_pick_fb rfl rfl) ?_ | refine x_pv (pv_pick_t rfl rfl) ?_ | refine x_pv (pv_pick_f rfl rfl) ?_ | refine x_pv (pv_pick_and rfl rfl) ?_ | refine x_pv (pv_pick_or rfl rfl) ?_
          refine x_nil ?_
          repeat (first|refine zA ?_|refine zB ?_|refine zC ?_|refine zD ?_|refine zE ?_|refine zF ?_|refine zG ?_|refine zH ?_|refine zI ?_|refine zJ ?_|refine zK ?_|refine zL ?_|refine zM rfl ?_|refine zN ?_|refine zO ?_|refine zP ?_|refine zQ ?_)
          refine x_cond_f rfl ?_
          repeat (first|refine zA ?_|refine zB ?_|refine zC ?_|refine zD ?_|refine zE ?_|refine zF ?_|refine zG ?_|refine zH ?_|refine zI ?_|refine zJ ?_|refine zK ?_|refine zL ?_|refine zM rfl ?_|refine zN ?_|refine zO ?_|refine zP ?_|refine zQ ?_)
          exact x_cut_n () trivial (by exact Imp.arr (by repeat (first | exact Arr.nil | exact Arr.stop | refine Arr.cons (by repeat constructor) ?_ | refine Arr.skip ?_))) ⟨(by rw [show free i = 0#8 by unfold free; rw [if_neg h3, if_neg (fun h => h0 h.1)]]; rfl), trivial⟩
    intro _ u2 _
    repeat (first|refine zA ?_|refine zB ?_|refine zC ?_|refine zD ?_|refine zE ?_|refine zF ?_|refine zG ?_|refine zH ?_|refine zI ?_|refine zJ ?_|refine zK ?_|refine zL ?_|refine zM rfl ?_|refine zN ?_|refine zO ?_|refine zP ?_|refine zQ ?_)
    refine x_reg ?_
    first | refine x_pv (pv_move_int rfl) ?_ | refine x_pv (pv_move rfl) ?_
    first | refine x_pv (pv_move_int rfl) ?_ | refine x_pv (pv_move rfl) ?_
    first | refine x_pv (pv_ixa1z rfl rfl (by first | omega | exact Nat.le_of_ble_eq_true rfl | (simp; done) | (simp; omega))) ?_ | refine x_pv (pv_ixa1 rfl rfl (by first | omega | exact Nat.le_of_ble_eq_true rfl | (simp; done) | (simp; omega))) ?_
    refine x_load rfl (by repeat constructor) ((getL (f := u8b) (l := mk key i) (by omega)).trans (by rw [mk_get key i (by omega)])) ?_
    first | refine x_pv (pv_move_int rfl) ?_ | refine x_pv (pv_move rfl) ?_
    refine x_pv (pv_and_u8 rfl rfl) ?_
    first | refine x_pv (pv_ixa1z rfl rfl (by first | omega | exact Nat.le_of_ble_eq_true rfl | (simp; done) | (simp; omega))) ?_ | refine x_pv (pv_ixa1 rfl rfl (by first | omega | exact Nat.le_of_ble_eq_true rfl | (simp; done) | (simp; omega))) ?_
    refine x_store_i rfl rfl (by repeat constructor) (by first | rfl | omega | (rw [szL]; omega) | exact Nat.le_of_ble_eq_true rfl | (simp; done) | (simp; omega)) (setL (f := u8b) (l := mk key i)) ?_
    refine x_nil ?_
    repeat (first|refine zA ?_|refine zB ?_|refine zC ?_|refine zD ?_|refine zE ?_|refine zF ?_|refine zG ?_|refine zH ?_|refine zI ?_|refine zJ ?_|refine zK ?_|refine zL ?_|refine zM rfl ?_|refine zN ?_|refine zO ?_|refine zP ?_|refine zQ ?_)
    rw [mk_set]
    repeat (first|refine zA ?_|refine zB ?_|refine zC ?_|refine zD ?_|refine zE ?_|refine zF ?_|refine zG ?_|refine zH ?_|refine zI ?_|refine zJ ?_|refine zK ?_|refine zL ?_|refine zM rfl ?_|refine zN ?_|refine zO ?_|refine zP ?_|refine zQ ?_)
    refine x_reg ?_
    first | refine x_pv (pv_move_int rfl) ?_ | refine x_pv (pv_move rfl) ?_
    first | refine x_pv (pv_addn (b := 1) rfl rfl (by first | omega | exact Nat.le_of_ble_eq_true rfl | (simp; done) | (simp; omega) | decide)) ?_ | refine x_pv (pv_add_i rfl rfl (by first | omega | exact Nat.le_of_ble_eq_true rfl | (simp; done) | (simp; omega) | decide)) ?_
    first | refine x_pv (pv_assign_int rfl) ?_ | refine x_pv (pv_assign rfl) ?_
    refine x_nil ?_
    repeat (first|refine zA ?_|refine zB ?_|refine zC ?_|refine zD ?_|refine zE ?_|refine zF ?_|refine zG ?_|refine zH ?_|refine zI ?_|refine zJ ?_|refine zK ?_|refine zL ?_|refine zM rfl ?_|refine zN ?_|refine zO ?_|refine zP ?_|refine zQ ?_)
    exact x_loop_n (i + 1) (by first | omega | (dsimp only; omega) | (simp only []; omega)) (by first | omega | (dsimp only; omega) | (simp only []; omega)) (by exact Imp.arr (by repeat (first | exact Arr.nil | exact Arr.stop | refine Arr.cons (by repeat constructor) ?_ | refine Arr.skip ?_))) ⟨rfl, trivial⟩
  · have hi16 : i = 16 := by omega
    subst hi16
    have hd : ((mk key 16).drop 16).length = 16 := by simp; omega
    repeat (first|refine zA ?_|refine zB ?_|refine zC ?_|refine zD ?_|refine zE ?_|refine zF ?_|refine zG ?_|refine zH ?_|refine zI ?_|refine zJ ?_|refine zK ?_|refine zL ?_|refine zM rfl ?_|refine zN ?_|refine zO ?_|refine zP ?_|refine zQ ?_)
    refine x_draw ([cl b2 ((mk key 16).map u8b).toArray 24]) [0, 1, 2, 3, 4, 5] (.r 0 (.r 1 (.r 5 (.e 2 true (.e 3 true (.e 4 true (.e 6 false (.q 7 (.q 8 (.e 9 false (.q 10 (.q 11 .nil)))))))))))) (by kernel_rfl) (by kernel_rfl) (Imp.arr (by repeat (first | exact Arr.nil | exact Arr.stop | refine Arr.cons (by repeat constructor) ?_ | refine Arr.skip ?_))) ?_
    first | refine cx_load_all rfl rfl (by repeat constructor) (by first | rfl | omega | (rw [szL]; omega) | exact Nat.le_of_ble_eq_true rfl | (simp; done) | (simp; omega)) ?_ | refine cx_load_agg rfl rfl (by repeat constructor) (by first | rfl | omega | (rw [szL]; omega) | exact Nat.le_of_ble_eq_true rfl | (simp; done) | (simp; omega)) rfl ?_
    first | refine cx_p rfl (pv_move_slice rfl) ?_ | refine cx_p rfl (pv_move rfl) ?_
    first | refine cx_load_all rfl rfl (by repeat constructor) (by first | rfl | omega | (rw [szL]; omega) | exact Nat.le_of_ble_eq_true rfl | (simp; done) | (simp; omega)) ?_ | refine cx_load_agg rfl rfl (by repeat constructor) (by first | rfl | omega | (rw [szL]; omega) | exact Nat.le_of_ble_eq_true rfl | (simp; done) | (simp; omega)) rfl ?_
    refine cx_e rfl ?_
    refine x_call rfl (by kernel_rfl) (copyBytes_x (L := [old W]) (hin.bs .here) (by omega)) rfl (by repeat (first | exact Take.nil | exact Take.all | (apply Take.cons; (next => repeat constructor; done)) | apply Take.skip)) ?_
    rintro _ _ ⟨a1, c1, rfl, rfl⟩
    refine xo_app (by repeat (first | exact App.nil | apply App.cons | (apply App.flip; first | exact App.nil | apply App.cons) | exact App.any)) ?_
    refine x_nil ⟨fun _ => Imp.arr (by repeat (first | exact Arr.nil | exact Arr.stop | refine Arr.cons (by repeat constructor) ?_ | refine Arr.skip ?_)), ?_⟩
    refine cx_e rfl ?_
    refine x_buildSlice (cs := #[.slice _ _ _]) (by omega) (by omega) rfl ?_; intro b31
    refine x_nil ⟨fun _ => Imp.arr (by repeat (first | exact Arr.nil | exact Arr.stop | refine Arr.cons (by repeat constructor) ?_ | refine Arr.skip ?_)), ?_⟩
    refine cx_e rfl ?_
    refine x_call rfl (by kernel_rfl) (tsum1_c (L := [cl b31 #[.slice a1 m.length c1] 31, own 5 1 (.slice a1 m.length c1) m.length (m.map u8b)]) (mk key 16) hol (by repeat constructor) (Bs.own (by repeat constructor))) rfl (by repeat (first | exact Take.nil | exact Take.all | (apply Take.cons; (next => repeat constructor; done)) | apply Take.skip)) ?_
    rintro _ _ ⟨rfl, rfl⟩
    refine xo_app (by repeat (first | exact App.nil | apply App.cons | (apply App.flip; first | exact App.nil | apply App.cons) | exact App.any)) ?_
    refine x_nil ⟨fun _ => Imp.arr (by repeat (first | exact Arr.nil | exact Arr.stop | refine Arr.cons (by repeat constructor) ?_ | refine Arr.skip ?_)), ?_⟩
    refine cx_e rfl ?_
    refine x_call rfl (by kernel_rfl) (second_x (mk key 16) hol) rfl (by repeat (first | exact Take.nil | exact Take.all | (apply Take.cons; (next => repeat constructor; done)) | apply Take.skip)) ?_
    rintro _ _ ⟨rfl, rfl⟩
    refine xo_app (by repeat (first | exact App.nil | apply App.cons | (apply App.flip; first | exact App.nil | apply App.cons) | exact App.any)) ?_
    refine x_nil ⟨(fun hh => Bool.noConfusion hh), ?_⟩
    refine cx_q rfl (pv_eql_ba (n := 16) (code_len _ _) hd rfl rfl) ?_
    refine cx_isT 35 rfl (decide_eq_true (nought_law key m)) ?_
    first | refine cx_q rfl (pv_move_bool rfl) ?_ | refine cx_q rfl (pv_move rfl) ?_
    refine cx_e rfl ?_
    first | refine x_gn rfl ?_ | refine x_gu rfl ?_ | (refine x_gy rfl ?_; (refine x_call rfl (by kernel_rfl) (works_x) rfl (by repeat (first | exact Take.nil | exact Take.all | (apply Take.cons; (next => repeat constructor; done)) | apply Take.skip)) ?_); (rintro _ _ ⟨rfl, rfl⟩); (refine xo_app (by repeat (first | exact App.nil | apply App.cons | (apply App.flip; first | exact App.nil | apply App.cons) | exact App.any)) ?_))
    refine x_nil ⟨(fun hh => Bool.noConfusion hh), ?_⟩
    first | refine cx_q rfl (pv_pick_tb rfl rfl) ?_ | refine cx_q rfl (pv_pick_fb rfl rfl) ?_ | refine cx_q rfl (pv_pick_t rfl rfl) ?_ | refine cx_q rfl (pv_pick_f rfl rfl) ?_ | refine cx_q rfl (pv_pick_and rfl rfl) ?_ | refine cx_q rfl (pv_pick_or rfl rfl) ?_
    first | refine cx_q rfl (pv_assign_bool rfl) ?_ | refine cx_q rfl (pv_assign rfl) ?_
    refine cx_nil ?_
    repeat (first|refine zA ?_|refine zB ?_|refine zC ?_|refine zD ?_|refine zE ?_|refine zF ?_|refine zG ?_|refine zH ?_|refine zI ?_|refine zJ ?_|refine zK ?_|refine zL ?_|refine zM rfl ?_|refine zN ?_|refine zO ?_|refine zP ?_|refine zQ ?_)
    refine rx1 (rx_bool rfl (rx_nil)) ?_
    exact ⟨_, ⟨rfl, rfl⟩, by exact Imp.arr (by repeat (first | exact Arr.nil | exact Arr.stop | refine Arr.cons (by repeat constructor) ?_ | refine Arr.skip ?_))⟩
end Go.Sl
