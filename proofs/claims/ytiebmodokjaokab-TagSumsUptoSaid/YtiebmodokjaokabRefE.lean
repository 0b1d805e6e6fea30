/- the statements' small helpers: lists of lists with marked room behind them. -/
import Derived.Test.YtiebmodokjaokabRefD
set_option maxHeartbeats 4000000
set_option maxRecDepth 10000
set_option linter.unusedVariables false
set_option linter.unusedSimpArgs false
namespace Go.Sl
open Go Go.Proofs
attribute [local irreducible] cl pt own old pur ex all den denOps denS xOps xC cX CX xthen xblk xcut xloop retX resX Calls PV Rd Con
abbrev nilS : Value := .slice none 0 0
def rowB (rows : List (List Byte)) (j : Nat) : List Byte := if j < rows.length then spareL (rows.getD j []) else [BitVec.ofInt 8 (j : Int), 119#8]
def rowV (rows : List (List Byte)) (x : Nat × Nat) : Value := if x.2 < rows.length then .slice (some ⟨x.1, 0, none⟩) (rows.getD x.2 []).length ((rows.getD x.2 []).length + 80) else .slice (some ⟨x.1, 0, none⟩) 2 2
abbrev blkA (rows : List (List Byte)) (x : Nat × Nat) : Asrt := cl x.1 ((rowB rows x.2).map u8b).toArray 5
/-- What SpareRows makes: the outer block g, and the blocks gs. -/
def sparesA (rows : List (List Byte)) (g : Nat) (gs : List Nat) : List Asrt := [cl g ((gs.zipIdx).map (rowV rows)).toArray 31, star (blkA rows) gs.zipIdx]
theorem zip_snoc (gs : List Nat) (g : Nat) : (gs ++ [g]).zipIdx = gs.zipIdx ++ [(g, gs.length)] := by
  rw [List.zipIdx_append]; simp
theorem slots_set (vs : List Value) (n : Nat) (v : Value) : ((vs ++ List.replicate (n + 1) nilS).toArray).setIfInBounds vs.length v = ((vs ++ [v]) ++ List.replicate n nilS).toArray := by
  apply Array.ext'
  simp [List.replicate_succ, List.set_append_right]
theorem spareRows_x {L : List Asrt} {v : Value} {ps : List (Value × List Byte)} (h : Rs L v ps) (hl : ps.length ≤ 2097152) (hel : ∀ x ∈ ps, x.2.length ≤ 140737488355328) :
    Con Try.prog 12 [v] L (fun r M => ∃ g gs, gs.length = ps.length + 3 ∧ r = .slice (some ⟨g, 0, none⟩) ps.length (ps.length + 3) ∧ M = sparesA (ps.map (·.2)) g gs ++ L) := by
  refine Con.get (fun w0 w F H => h.sh _ _ _ H) ?_
  rintro ⟨aa, ac, rfl, hac, hacm⟩
  obtain ⟨rows, hrows⟩ : ∃ rows : List (List Byte), rows = ps.map (·.2) := ⟨_, rfl⟩
  have hrl : rows.length = ps.length := by rw [hrows]; simp
  rw [← hrows]
  refine fn_x Try.func12 rfl rfl rfl Try.mixed (by kernel_rfl) ?_
  intro w0
  repeat (first|refine zA ?_|refine zB ?_|refine zC ?_|refine zD ?_|refine zE ?_|refine zF ?_|refine zG ?_|refine zH ?_|refine zI ?_|refine zJ ?_|refine zK ?_|refine zL ?_|refine zM rfl ?_|refine zN ?_|refine zO ?_|refine zP ?_|refine zQ ?_)
  refine x_reg ?_
  first | refine x_pv (pv_assign_slice rfl) ?_ | refine x_pv (pv_assign rfl) ?_
  refine x_nil ?_
  repeat (first|refine zA ?_|refine zB ?_|refine zC ?_|refine zD ?_|refine zE ?_|refine zF ?_|refine zG ?_|refine zH ?_|refine zI ?_|refine zJ ?_|refine zK ?_|refine zL ?_|refine zM rfl ?_|refine zN ?_|refine zO ?_|refine zP ?_|refine zQ ?_)
  refine x_reg ?_
  first | refine x_pv (pv_move_slice rfl) ?_ | refine x_pv (pv_move rfl) ?_
  first | refine x_pv (pv_len rfl) ?_ | refine x_pv (pv_len_arr) ?_ | refine x_pv (pv_len_str rfl) ?_
  first | refine x_pv (pv_addn (b := 3) rfl rfl (by first | omega | exact Nat.le_of_ble_eq_true rfl | (simp; done) | (simp; omega) | decide)) ?_ | refine x_pv (pv_add_i rfl rfl (by first | omega | exact Nat.le_of_ble_eq_true rfl | (simp; done) | (simp; omega) | decide)) ?_
  refine x_mk1 (f := fun x : Value => x) (a := nilS) rfl rfl rfl (by first | omega | exact Nat.le_of_ble_eq_true rfl | (simp; done) | (simp; omega) | decide) (by first | omega | exact Nat.le_of_ble_eq_true rfl | (simp; done) | (simp; omega) | decide) (by first | omega | exact Nat.le_of_ble_eq_true rfl | (simp; done) | (simp; omega) | decide) ?_; intro b8
  first | refine x_pv (pv_assign_slice rfl) ?_ | refine x_pv (pv_assign rfl) ?_
  refine x_nil ?_
  repeat (first|refine zA ?_|refine zB ?_|refine zC ?_|refine zD ?_|refine zE ?_|refine zF ?_|refine zG ?_|refine zH ?_|refine zI ?_|refine zJ ?_|refine zK ?_|refine zL ?_|refine zM rfl ?_|refine zN ?_|refine zO ?_|refine zP ?_|refine zQ ?_)
  refine x_reg ?_
  first | refine x_pv (pv_assign_int rfl) ?_ | refine x_pv (pv_assign rfl) ?_
  refine x_nil ?_
  repeat (first|refine zA ?_|refine zB ?_|refine zC ?_|refine zD ?_|refine zE ?_|refine zF ?_|refine zG ?_|refine zH ?_|refine zI ?_|refine zJ ?_|refine zK ?_|refine zL ?_|refine zM rfl ?_|refine zN ?_|refine zO ?_|refine zP ?_|refine zQ ?_)
  refine x_loop [(4, 4), (9, 32)] (by kernel_rfl) (fun s : Nat × List Nat => s.1 ≤ ps.length + 3 ∧ s.2.length = s.1)
    (fun s => cl b8 ((s.2.zipIdx).map (rowV rows) ++ List.replicate (ps.length + 3 - s.1) nilS).toArray 31 :: star (blkA rows) s.2.zipIdx :: L)
    (fun s => [(4, .int .i64 (s.1 : Int))]) (fun s => ps.length + 3 - s.1) (0, []) ⟨by omega, rfl⟩ ?_ ⟨rfl, trivial⟩ ?_
  · refine Imp.trans (Imp.arr (N := cl b8 ((List.replicate (ps.length + 3) nilS).map fun x => x).toArray 31 :: L) (by repeat (first | exact Arr.nil | exact Arr.stop | refine Arr.cons (by repeat constructor) ?_ | refine Arr.skip ?_))) ?_
    rw [List.map_id']
    exact Imp.cons star_nil
  rintro ⟨i, gs⟩ u ⟨hi, hgl⟩
  dsimp only at hi hgl ⊢
  have hvl : ((gs.zipIdx).map (rowV rows)).length = i := by simp [hgl]
  repeat (first|refine zA ?_|refine zB ?_|refine zC ?_|refine zD ?_|refine zE ?_|refine zF ?_|refine zG ?_|refine zH ?_|refine zI ?_|refine zJ ?_|refine zK ?_|refine zL ?_|refine zM rfl ?_|refine zN ?_|refine zO ?_|refine zP ?_|refine zQ ?_)
  refine x_reg ?_
  first | refine x_pv (pv_move_int rfl) ?_ | refine x_pv (pv_move rfl) ?_
  first | refine x_pv (pv_move_slice rfl) ?_ | refine x_pv (pv_move rfl) ?_
  first | refine x_pv (pv_len rfl) ?_ | refine x_pv (pv_len_arr) ?_ | refine x_pv (pv_len_str rfl) ?_
  first | refine x_pv (pv_lssn rfl rfl) ?_ | refine x_pv (pv_lss rfl rfl) ?_
  refine x_nil ?_
  repeat (first|refine zA ?_|refine zB ?_|refine zC ?_|refine zD ?_|refine zE ?_|refine zF ?_|refine zG ?_|refine zH ?_|refine zI ?_|refine zJ ?_|refine zK ?_|refine zL ?_|refine zM rfl ?_|refine zN ?_|refine zO ?_|refine zP ?_|refine zQ ?_)
  refine x_cond_p rfl (fun hB => ?_) (fun hB => ?_)
  · have hrep : ps.length + 3 - i = (ps.length + 3 - (i + 1)) + 1 := by omega
    rw [hrep]
    have hset : ∀ u : Value, ((((gs.zipIdx).map (rowV rows)) ++ List.replicate ((ps.length + 3 - (i + 1)) + 1) nilS).toArray).setIfInBounds i u = ((((gs.zipIdx).map (rowV rows)) ++ [u]) ++ List.replicate (ps.length + 3 - (i + 1)) nilS).toArray := fun u => by
      have := slots_set ((gs.zipIdx).map (rowV rows)) (ps.length + 3 - (i + 1)) u
      rwa [hvl] at this
    have hsz : ((((gs.zipIdx).map (rowV rows)) ++ List.replicate ((ps.length + 3 - (i + 1)) + 1) nilS).toArray).size = ps.length + 3 := by
      rw [List.size_toArray, List.length_append, hvl, List.length_replicate]; omega
    repeat (first|refine zA ?_|refine zB ?_|refine zC ?_|refine zD ?_|refine zE ?_|refine zF ?_|refine zG ?_|refine zH ?_|refine zI ?_|refine zJ ?_|refine zK ?_|refine zL ?_|refine zM rfl ?_|refine zN ?_|refine zO ?_|refine zP ?_|refine zQ ?_)
    refine x_reg ?_
    first | refine x_pv (pv_move_int rfl) ?_ | refine x_pv (pv_move rfl) ?_
    first | refine x_pv (pv_move_slice rfl) ?_ | refine x_pv (pv_move rfl) ?_
    first | refine x_pv (pv_len rfl) ?_ | refine x_pv (pv_len_arr) ?_ | refine x_pv (pv_len_str rfl) ?_
    first | refine x_pv (pv_lssn rfl rfl) ?_ | refine x_pv (pv_lss rfl rfl) ?_
    refine x_nil ?_
    repeat (first|refine zA ?_|refine zB ?_|refine zC ?_|refine zD ?_|refine zE ?_|refine zF ?_|refine zG ?_|refine zH ?_|refine zI ?_|refine zJ ?_|refine zK ?_|refine zL ?_|refine zM rfl ?_|refine zN ?_|refine zO ?_|refine zP ?_|refine zQ ?_)
    refine x_cond_p rfl (fun hC => ?_) (fun hC => ?_)
    · have hbs := h.el _ (List.getElem_mem hC)
      have hln := hel _ (List.getElem_mem hC)
      refine x_get (fun F w H => (h.rd.imp (by exact Imp.arr (by repeat (first | exact Arr.nil | exact Arr.stop | refine Arr.cons (by repeat constructor) ?_ | refine Arr.skip ?_)))).someAt (by omega) H) ?_
      rintro ⟨a1, a2, rfl⟩
      refine x_get (fun F w H => (hbs.imp (by exact Imp.arr (by repeat (first | exact Arr.nil | exact Arr.stop | refine Arr.cons (by repeat constructor) ?_ | refine Arr.skip ?_)))).sh _ _ _ H) ?_
      rintro ⟨ea, ec, hev, hecl, hecm⟩
      have hgd : rows.getD i [] = ps[i].2 := by rw [hrows]; simp [hC]
      generalize hrow : ps[i].2 = row at hbs hev hecl hln hgd
      have hgi : (ps.map (·.1))[i]? = some (.slice ea row.length ec) := by simp [hC, hev]
      rw [hev] at hbs
      repeat (first|refine zA ?_|refine zB ?_|refine zC ?_|refine zD ?_|refine zE ?_|refine zF ?_|refine zG ?_|refine zH ?_|refine zI ?_|refine zJ ?_|refine zK ?_|refine zL ?_|refine zM rfl ?_|refine zN ?_|refine zO ?_|refine zP ?_|refine zQ ?_)
      refine x_reg ?_
      first | refine x_pv (pv_move_slice rfl) ?_ | refine x_pv (pv_move rfl) ?_
      first | refine x_pv (pv_move_int rfl) ?_ | refine x_pv (pv_move rfl) ?_
      first | refine x_pv (pv_move_slice rfl) ?_ | refine x_pv (pv_move rfl) ?_
      first | refine x_pv (pv_move_int rfl) ?_ | refine x_pv (pv_move rfl) ?_
      first | refine x_pv (pv_ixs1z rfl rfl (by first | omega | exact Nat.le_of_ble_eq_true rfl | (simp; done) | (simp; omega))) ?_ | refine x_pv (pv_ixs1 rfl rfl (by first | omega | exact Nat.le_of_ble_eq_true rfl | (simp; done) | (simp; omega))) ?_
      refine x_load_sl (j := i) rfl (h.rd.imp (by exact Imp.arr (by repeat (first | exact Arr.nil | exact Arr.stop | refine Arr.cons (by repeat constructor) ?_ | refine Arr.skip ?_)))) hC hgi ?_
      refine x_call rfl (by kernel_rfl) (spare_x (L := L) hbs hln) rfl (by repeat (first | exact Take.nil | exact Take.all | (apply Take.cons; (next => (repeat constructor); done)) | apply Take.skip)) ?_
      rintro _ _ ⟨g, rfl, rfl⟩
      refine xo_app (by repeat (first | exact App.nil | apply App.cons | (apply App.flip; first | exact App.nil | apply App.cons) | exact App.any)) ?_
      first | refine x_pv (pv_ixs1z rfl rfl (by first | omega | exact Nat.le_of_ble_eq_true rfl | (simp; done) | (simp; omega))) ?_ | refine x_pv (pv_ixs1 rfl rfl (by first | omega | exact Nat.le_of_ble_eq_true rfl | (simp; done) | (simp; omega))) ?_
      refine x_store_s rfl rfl (by repeat constructor) (by first | rfl | omega | (rw [szL]; omega) | exact Nat.le_of_ble_eq_true rfl | (simp; done) | (simp; omega)) (hset _) ?_
      refine x_nil ?_
      repeat (first|refine zA ?_|refine zB ?_|refine zC ?_|refine zD ?_|refine zE ?_|refine zF ?_|refine zG ?_|refine zH ?_|refine zI ?_|refine zJ ?_|refine zK ?_|refine zL ?_|refine zM rfl ?_|refine zN ?_|refine zO ?_|refine zP ?_|refine zQ ?_)
      refine x_reg ?_
      first | refine x_pv (pv_move_int rfl) ?_ | refine x_pv (pv_move rfl) ?_
      first | refine x_pv (pv_addn (b := 1) rfl rfl (by first | omega | exact Nat.le_of_ble_eq_true rfl | (simp; done) | (simp; omega) | decide)) ?_ | refine x_pv (pv_add_i rfl rfl (by first | omega | exact Nat.le_of_ble_eq_true rfl | (simp; done) | (simp; omega) | decide)) ?_
      first | refine x_pv (pv_assign_int rfl) ?_ | refine x_pv (pv_assign rfl) ?_
      refine x_nil ?_
      repeat (first|refine zA ?_|refine zB ?_|refine zC ?_|refine zD ?_|refine zE ?_|refine zF ?_|refine zG ?_|refine zH ?_|refine zI ?_|refine zJ ?_|refine zK ?_|refine zL ?_|refine zM rfl ?_|refine zN ?_|refine zO ?_|refine zP ?_|refine zQ ?_)
      have e1 : rowV rows (g, i) = .slice (some ⟨g, 0, none⟩) row.length (row.length + 80) := by unfold rowV; rw [if_pos (by omega), hgd]
      have e2 : rowB rows i = spareL row := by unfold rowB; rw [if_pos (by omega), hgd]
      refine x_loop_n (i + 1, gs ++ [g]) (by first | omega | (dsimp only; omega) | (simp only []; omega)) ⟨by dsimp only; omega, by simp [hgl]⟩ ?_ ⟨rfl, trivial⟩
      dsimp only
      rw [zip_snoc, hgl, List.map_append, List.map_cons, List.map_nil, e1]
      refine Imp.trans (Imp.arr (N := cl b8 ((((gs.zipIdx).map (rowV rows)) ++ [Value.slice (some ⟨g, 0, none⟩) row.length (row.length + 80)]) ++ List.replicate (ps.length + 3 - (i + 1)) nilS).toArray 31 :: cl g ((spareL row).map u8b).toArray 5 :: star (blkA rows) gs.zipIdx :: L) (by repeat (first | exact Arr.nil | exact Arr.stop | refine Arr.cons (by repeat constructor) ?_ | refine Arr.skip ?_))) (Imp.cons ?_)
      have := star_snoc (A := blkA rows) (x := (g, i)) (l := gs.zipIdx) (M := L)
      rwa [show blkA rows (g, i) = cl g ((spareL row).map u8b).toArray 5 by show cl g ((rowB rows i).map u8b).toArray _ = _; rw [e2]] at this
    · repeat (first|refine zA ?_|refine zB ?_|refine zC ?_|refine zD ?_|refine zE ?_|refine zF ?_|refine zG ?_|refine zH ?_|refine zI ?_|refine zJ ?_|refine zK ?_|refine zL ?_|refine zM rfl ?_|refine zN ?_|refine zO ?_|refine zP ?_|refine zQ ?_)
      refine x_reg ?_
      first | refine x_pv (pv_move_slice rfl) ?_ | refine x_pv (pv_move rfl) ?_
      first | refine x_pv (pv_move_int rfl) ?_ | refine x_pv (pv_move rfl) ?_
      first | refine x_pv (pv_move_int rfl) ?_ | refine x_pv (pv_move rfl) ?_
      refine x_pv (pv_conv_i_u8 rfl) ?_
      refine x_buildSlice (cs := #[.int .u8 _, u8b 119#8]) (by omega) (by omega) rfl ?_; intro b31
      first | refine x_pv (pv_ixs1z rfl rfl (by first | omega | exact Nat.le_of_ble_eq_true rfl | (simp; done) | (simp; omega))) ?_ | refine x_pv (pv_ixs1 rfl rfl (by first | omega | exact Nat.le_of_ble_eq_true rfl | (simp; done) | (simp; omega))) ?_
      refine x_store_s rfl rfl (by repeat constructor) (by first | rfl | omega | (rw [szL]; omega) | exact Nat.le_of_ble_eq_true rfl | (simp; done) | (simp; omega)) (hset _) ?_
      refine x_nil ?_
      repeat (first|refine zA ?_|refine zB ?_|refine zC ?_|refine zD ?_|refine zE ?_|refine zF ?_|refine zG ?_|refine zH ?_|refine zI ?_|refine zJ ?_|refine zK ?_|refine zL ?_|refine zM rfl ?_|refine zN ?_|refine zO ?_|refine zP ?_|refine zQ ?_)
      refine x_reg ?_
      first | refine x_pv (pv_move_int rfl) ?_ | refine x_pv (pv_move rfl) ?_
      first | refine x_pv (pv_addn (b := 1) rfl rfl (by first | omega | exact Nat.le_of_ble_eq_true rfl | (simp; done) | (simp; omega) | decide)) ?_ | refine x_pv (pv_add_i rfl rfl (by first | omega | exact Nat.le_of_ble_eq_true rfl | (simp; done) | (simp; omega) | decide)) ?_
      first | refine x_pv (pv_assign_int rfl) ?_ | refine x_pv (pv_assign rfl) ?_
      refine x_nil ?_
      repeat (first|refine zA ?_|refine zB ?_|refine zC ?_|refine zD ?_|refine zE ?_|refine zF ?_|refine zG ?_|refine zH ?_|refine zI ?_|refine zJ ?_|refine zK ?_|refine zL ?_|refine zM rfl ?_|refine zN ?_|refine zO ?_|refine zP ?_|refine zQ ?_)
      have e1 : rowV rows (b31, i) = .slice (some ⟨b31, 0, none⟩) 2 2 := by unfold rowV; rw [if_neg (by omega)]
      have e2 : rowB rows i = [BitVec.ofInt 8 (i : Int), 119#8] := by unfold rowB; rw [if_neg (by omega)]
      refine x_loop_n (i + 1, gs ++ [b31]) (by first | omega | (dsimp only; omega) | (simp only []; omega)) ⟨by dsimp only; omega, by simp [hgl]⟩ ?_ ⟨rfl, trivial⟩
      dsimp only
      rw [zip_snoc, hgl, List.map_append, List.map_cons, List.map_nil, e1]
      refine Imp.trans (Imp.arr (N := cl b8 ((((gs.zipIdx).map (rowV rows)) ++ [Value.slice (some ⟨b31, 0, none⟩) 2 2]) ++ List.replicate (ps.length + 3 - (i + 1)) nilS).toArray 31 :: cl b31 (([BitVec.ofInt 8 (i : Int), 119#8]).map u8b).toArray 5 :: star (blkA rows) gs.zipIdx :: L) (by repeat (first | exact Arr.nil | exact Arr.stop | refine Arr.cons (by repeat constructor) ?_ | refine Arr.skip ?_))) (Imp.cons ?_)
      have := star_snoc (A := blkA rows) (x := (b31, i)) (l := gs.zipIdx) (M := L)
      rwa [show blkA rows (b31, i) = cl b31 (([BitVec.ofInt 8 (i : Int), 119#8]).map u8b).toArray 5 by show cl b31 ((rowB rows i).map u8b).toArray _ = _; rw [e2]] at this
  · have hie : i = ps.length + 3 := by omega
    subst hie
    rw [Nat.sub_self, List.replicate_zero, List.append_nil]
    repeat (first|refine zA ?_|refine zB ?_|refine zC ?_|refine zD ?_|refine zE ?_|refine zF ?_|refine zG ?_|refine zH ?_|refine zI ?_|refine zJ ?_|refine zK ?_|refine zL ?_|refine zM rfl ?_|refine zN ?_|refine zO ?_|refine zP ?_|refine zQ ?_)
    refine x_reg ?_
    first | refine x_pv (pv_move_slice rfl) ?_ | refine x_pv (pv_move rfl) ?_
    first | refine x_pv (pv_move_slice rfl) ?_ | refine x_pv (pv_move rfl) ?_
    first | refine x_pv (pv_len rfl) ?_ | refine x_pv (pv_len_arr) ?_ | refine x_pv (pv_len_str rfl) ?_
    refine x_pv (pv_sls0 rfl rfl (by first | omega | exact Nat.le_of_ble_eq_true rfl | (simp; done) | (simp; omega) | decide)) ?_
    first | refine x_pv (pv_assign_slice rfl) ?_ | refine x_pv (pv_assign rfl) ?_
    refine x_nil ?_
    repeat (first|refine zA ?_|refine zB ?_|refine zC ?_|refine zD ?_|refine zE ?_|refine zF ?_|refine zG ?_|refine zH ?_|refine zI ?_|refine zJ ?_|refine zK ?_|refine zL ?_|refine zM rfl ?_|refine zN ?_|refine zO ?_|refine zP ?_|refine zQ ?_)
    refine rx1 (rx_slice rfl (rx_nil)) ?_
    exact ⟨_, ⟨b8, gs, hgl, rfl, rfl⟩, by unfold sparesA; exact Imp.arr (by repeat (first | exact Arr.nil | exact Arr.stop | refine Arr.cons (by repeat constructor) ?_ | refine Arr.skip ?_))⟩
theorem keptRows_x {L : List Asrt} {g : Nat} {gs : List Nat} {vw : Value} {ps : List (Value × List Byte)} (rows : List (List Byte)) (hrows : ps.map (·.2) = rows) (hgl : gs.length = ps.length + 3) (hw : Rs L vw ps) (hl : ps.length ≤ 2097152) (hel : ∀ x ∈ ps, x.2.length ≤ 140737488355328)
    (hg : Rd L 1 (.slice (some ⟨g, 0, none⟩) (ps.length + 3) (ps.length + 3)) (ps.length + 3) ((gs.zipIdx).map (rowV rows))) (hb : ∀ x ∈ gs.zipIdx, ∃ R, Imp L (blkA rows x :: R)) :
    Con Try.prog 16 [.slice (some ⟨g, 0, none⟩) ps.length (ps.length + 3), vw] L (fun r M => r = .bool true ∧ L = M) := by
  refine Con.get (fun w0 w F H => hw.sh _ _ _ H) ?_
  rintro ⟨ba, bc, rfl, hbc, hbcm⟩
  have hrl : rows.length = ps.length := by rw [← hrows]; simp
  have hmem : ∀ j (h : j < gs.length), (gs[j], j) ∈ gs.zipIdx := fun j h => by
    rw [List.mem_iff_getElem]
    exact ⟨j, by simpa using h, by simp⟩
  have hgv : ∀ j (h : j < gs.length), ((gs.zipIdx).map (rowV rows))[j]? = some (rowV rows (gs[j], j)) := fun j h => by simp [h]
  have hg1 : Rd L 1 (.slice (some ⟨g, 0, none⟩) ps.length (ps.length + 3)) ps.length (((gs.zipIdx).map (rowV rows)).take ps.length) := by
    unfold Rd at hg ⊢
    intro w0 F w H
    obtain ⟨h1, h2⟩ := hg w0 F w H
    refine ⟨by simp; omega, ?_⟩
    rcases h2 with ⟨a, k, _, h0⟩ | ⟨b', o', k, cc, E, fr, hv, hb', hle, hx⟩
    · omega
    · simp only [Value.slice.injEq, Option.some.injEq, Addr.mk.injEq] at hv
      obtain ⟨⟨rfl, rfl, _⟩, _, rfl⟩ := hv
      refine .inr ⟨g, 0, _, cc, E, fr, rfl, hb', by omega, ?_⟩
      rw [← hx]
      simp only [Array.toList_extract, List.extract_eq_take_drop, List.take_take]
      congr 1; omega
  refine fn_x Try.func16 rfl rfl rfl Try.mixed (by kernel_rfl) ?_
  intro w0
  repeat (first|refine zA ?_|refine zB ?_|refine zC ?_|refine zD ?_|refine zE ?_|refine zF ?_|refine zG ?_|refine zH ?_|refine zI ?_|refine zJ ?_|refine zK ?_|refine zL ?_|refine zM rfl ?_|refine zN ?_|refine zO ?_|refine zP ?_|refine zQ ?_)
  refine x_reg ?_
  first | refine x_pv (pv_assign_bool rfl) ?_ | refine x_pv (pv_assign rfl) ?_
  refine x_nil ?_
  repeat (first|refine zA ?_|refine zB ?_|refine zC ?_|refine zD ?_|refine zE ?_|refine zF ?_|refine zG ?_|refine zH ?_|refine zI ?_|refine zJ ?_|refine zK ?_|refine zL ?_|refine zM rfl ?_|refine zN ?_|refine zO ?_|refine zP ?_|refine zQ ?_)
  refine x_reg ?_
  first | refine x_pv (pv_move_slice rfl) ?_ | refine x_pv (pv_move rfl) ?_
  first | refine x_pv (pv_len rfl) ?_ | refine x_pv (pv_len_arr) ?_ | refine x_pv (pv_len_str rfl) ?_
  first | refine x_pv (pv_move_slice rfl) ?_ | refine x_pv (pv_move rfl) ?_
  first | refine x_pv (pv_len rfl) ?_ | refine x_pv (pv_len_arr) ?_ | refine x_pv (pv_len_str rfl) ?_
  first | refine x_pv (pv_neqn rfl rfl) ?_ | refine x_pv (pv_neq rfl rfl) ?_
  refine x_nil ?_
  repeat (first|refine zA ?_|refine zB ?_|refine zC ?_|refine zD ?_|refine zE ?_|refine zF ?_|refine zG ?_|refine zH ?_|refine zI ?_|refine zJ ?_|refine zK ?_|refine zL ?_|refine zM rfl ?_|refine zN ?_|refine zO ?_|refine zP ?_|refine zQ ?_)
  refine x_cond_f (by show Value.bool _ = _; simp) ?_
  repeat (first|refine zA ?_|refine zB ?_|refine zC ?_|refine zD ?_|refine zE ?_|refine zF ?_|refine zG ?_|refine zH ?_|refine zI ?_|refine zJ ?_|refine zK ?_|refine zL ?_|refine zM rfl ?_|refine zN ?_|refine zO ?_|refine zP ?_|refine zQ ?_)
  refine x_reg ?_
  first | refine x_pv (pv_assign_int rfl) ?_ | refine x_pv (pv_assign rfl) ?_
  refine x_nil ?_
  repeat (first|refine zA ?_|refine zB ?_|refine zC ?_|refine zD ?_|refine zE ?_|refine zF ?_|refine zG ?_|refine zH ?_|refine zI ?_|refine zJ ?_|refine zK ?_|refine zL ?_|refine zM rfl ?_|refine zN ?_|refine zO ?_|refine zP ?_|refine zQ ?_)
  refine x_loop [(4, 5), (13, 28)] (by kernel_rfl) (fun i : Nat => i ≤ ps.length) (fun _ => L) (fun i => [(5, .int .i64 (i : Int))]) (fun i => ps.length - i) 0 (by omega) (Imp.refl _) ⟨rfl, trivial⟩ ?_
  intro i u hi
  repeat (first|refine zA ?_|refine zB ?_|refine zC ?_|refine zD ?_|refine zE ?_|refine zF ?_|refine zG ?_|refine zH ?_|refine zI ?_|refine zJ ?_|refine zK ?_|refine zL ?_|refine zM rfl ?_|refine zN ?_|refine zO ?_|refine zP ?_|refine zQ ?_)
  refine x_reg ?_
  first | refine x_pv (pv_move_int rfl) ?_ | refine x_pv (pv_move rfl) ?_
  first | refine x_pv (pv_move_slice rfl) ?_ | refine x_pv (pv_move rfl) ?_
  first | refine x_pv (pv_len rfl) ?_ | refine x_pv (pv_len_arr) ?_ | refine x_pv (pv_len_str rfl) ?_
  first | refine x_pv (pv_lssn rfl rfl) ?_ | refine x_pv (pv_lss rfl rfl) ?_
  refine x_nil ?_
  repeat (first|refine zA ?_|refine zB ?_|refine zC ?_|refine zD ?_|refine zE ?_|refine zF ?_|refine zG ?_|refine zH ?_|refine zI ?_|refine zJ ?_|refine zK ?_|refine zL ?_|refine zM rfl ?_|refine zN ?_|refine zO ?_|refine zP ?_|refine zQ ?_)
  refine x_cond_p rfl (fun hB => ?_) (fun hB => ?_)
  · have hbs := hw.el _ (List.getElem_mem hB)
    have hln := hel _ (List.getElem_mem hB)
    refine x_get (fun F w H => hw.rd.someAt (by omega) H) ?_
    rintro ⟨a1, a2, rfl⟩
    refine x_get (fun F w H => hbs.sh _ _ _ H) ?_
    rintro ⟨ea, ec, hev, hecl, hecm⟩
    have hgd : rows.getD i [] = ps[i].2 := by rw [← hrows]; simp [hB]
    generalize hrow : ps[i].2 = row at hbs hev hecl hln hgd
    have hgi : (ps.map (·.1))[i]? = some (.slice ea row.length ec) := by simp [hB, hev]
    rw [hev] at hbs
    obtain ⟨R, hR⟩ := hb _ (hmem i (by omega))
    have e1 : rowV rows (gs[i], i) = .slice (some ⟨gs[i], 0, none⟩) row.length (row.length + 80) := by unfold rowV; rw [if_pos (by omega), hgd]
    have e2 : rowB rows i = spareL row := by unfold rowB; rw [if_pos (by omega), hgd]
    have e3 : blkA rows (gs[i], i) = cl gs[i] ((spareL row).map u8b).toArray 5 := by show cl gs[i] ((rowB rows i).map u8b).toArray _ = _; rw [e2]
    rw [e3] at hR
    have hv1 : (((gs.zipIdx).map (rowV rows)).take ps.length)[i]? = some (.slice (some ⟨gs[i], 0, none⟩) row.length (row.length + 80)) := by
      rw [List.getElem?_take_of_lt hB, hgv i (by omega), e1]
    repeat (first|refine zA ?_|refine zB ?_|refine zC ?_|refine zD ?_|refine zE ?_|refine zF ?_|refine zG ?_|refine zH ?_|refine zI ?_|refine zJ ?_|refine zK ?_|refine zL ?_|refine zM rfl ?_|refine zN ?_|refine zO ?_|refine zP ?_|refine zQ ?_)
    refine x_draw (_) [0, 1, 2, 3, 4, 5, 6, 7] (.r 0 (.r 1 (.r 2 (.r 3 (.r 4 (.r 5 (.r 6 (.r 7 (.e 8 false (.q 9 .nil)))))))))) (by kernel_rfl) (by kernel_rfl) (Imp.refl _) ?_
    first | refine cx_p rfl (pv_move_slice rfl) ?_ | refine cx_p rfl (pv_move rfl) ?_
    first | refine cx_p rfl (pv_move_int rfl) ?_ | refine cx_p rfl (pv_move rfl) ?_
    first | refine cx_p rfl (pv_ixs1z rfl rfl (by first | omega | exact Nat.le_of_ble_eq_true rfl | (simp; done) | (simp; omega))) ?_ | refine cx_p rfl (pv_ixs1 rfl rfl (by first | omega | exact Nat.le_of_ble_eq_true rfl | (simp; done) | (simp; omega))) ?_
    refine cx_load_sl (b := g) (o := 0) (j := i) rfl (by rw [Nat.zero_add]; rfl) hg1 hB hv1 ?_
    first | refine cx_p rfl (pv_move_slice rfl) ?_ | refine cx_p rfl (pv_move rfl) ?_
    first | refine cx_p rfl (pv_move_int rfl) ?_ | refine cx_p rfl (pv_move rfl) ?_
    first | refine cx_p rfl (pv_ixs1z rfl rfl (by first | omega | exact Nat.le_of_ble_eq_true rfl | (simp; done) | (simp; omega))) ?_ | refine cx_p rfl (pv_ixs1 rfl rfl (by first | omega | exact Nat.le_of_ble_eq_true rfl | (simp; done) | (simp; omega))) ?_
    refine cx_load_sl (j := i) rfl rfl hw.rd hB hgi ?_
    refine cx_e rfl ?_
    refine x_call rfl (by kernel_rfl) (kept_r (L := L) ((rd_spare .here).imp hR) ((bs_spare .here hln).imp hR) hbs hln) rfl (by repeat (first | exact Take.nil | exact Take.all | (apply Take.cons; (next => (repeat constructor); done)) | apply Take.skip)) ?_
    rintro _ _ ⟨rfl, rfl⟩
    refine xo_app (by repeat (first | exact App.nil | apply App.cons | (apply App.flip; first | exact App.nil | apply App.cons) | exact App.any)) ?_
    refine x_nil ⟨(fun hh => Bool.noConfusion hh), ?_⟩
    first | refine cx_q rfl (pv_not_p rfl) ?_ | refine cx_q rfl (pv_not rfl) ?_
    refine cx_isF 28 rfl (by simp) ?_
    refine cx_nil ?_
    repeat (first|refine zA ?_|refine zB ?_|refine zC ?_|refine zD ?_|refine zE ?_|refine zF ?_|refine zG ?_|refine zH ?_|refine zI ?_|refine zJ ?_|refine zK ?_|refine zL ?_|refine zM rfl ?_|refine zN ?_|refine zO ?_|refine zP ?_|refine zQ ?_)
    refine x_cond_f rfl ?_
    repeat (first|refine zA ?_|refine zB ?_|refine zC ?_|refine zD ?_|refine zE ?_|refine zF ?_|refine zG ?_|refine zH ?_|refine zI ?_|refine zJ ?_|refine zK ?_|refine zL ?_|refine zM rfl ?_|refine zN ?_|refine zO ?_|refine zP ?_|refine zQ ?_)
    refine x_reg ?_
    first | refine x_pv (pv_move_int rfl) ?_ | refine x_pv (pv_move rfl) ?_
    first | refine x_pv (pv_addn (b := 1) rfl rfl (by first | omega | exact Nat.le_of_ble_eq_true rfl | (simp; done) | (simp; omega) | decide)) ?_ | refine x_pv (pv_add_i rfl rfl (by first | omega | exact Nat.le_of_ble_eq_true rfl | (simp; done) | (simp; omega) | decide)) ?_
    first | refine x_pv (pv_assign_int rfl) ?_ | refine x_pv (pv_assign rfl) ?_
    refine x_nil ?_
    repeat (first|refine zA ?_|refine zB ?_|refine zC ?_|refine zD ?_|refine zE ?_|refine zF ?_|refine zG ?_|refine zH ?_|refine zI ?_|refine zJ ?_|refine zK ?_|refine zL ?_|refine zM rfl ?_|refine zN ?_|refine zO ?_|refine zP ?_|refine zQ ?_)
    exact x_loop_n (i + 1) (by first | omega | (dsimp only; omega) | (simp only []; omega)) (by first | omega | (dsimp only; omega) | (simp only []; omega)) (by exact Imp.arr (by repeat (first | exact Arr.nil | exact Arr.stop | refine Arr.cons (by repeat constructor) ?_ | refine Arr.skip ?_))) ⟨rfl, trivial⟩
  · repeat (first|refine zA ?_|refine zB ?_|refine zC ?_|refine zD ?_|refine zE ?_|refine zF ?_|refine zG ?_|refine zH ?_|refine zI ?_|refine zJ ?_|refine zK ?_|refine zL ?_|refine zM rfl ?_|refine zN ?_|refine zO ?_|refine zP ?_|refine zQ ?_)
    refine x_reg ?_
    first | refine x_pv (pv_move_slice rfl) ?_ | refine x_pv (pv_move rfl) ?_
    first | refine x_pv (pv_move_slice rfl) ?_ | refine x_pv (pv_move rfl) ?_
    first | refine x_pv (pv_len rfl) ?_ | refine x_pv (pv_len_arr) ?_ | refine x_pv (pv_len_str rfl) ?_
    first | refine x_pv (pv_addn (b := 3) rfl rfl (by first | omega | exact Nat.le_of_ble_eq_true rfl | (simp; done) | (simp; omega) | decide)) ?_ | refine x_pv (pv_add_i rfl rfl (by first | omega | exact Nat.le_of_ble_eq_true rfl | (simp; done) | (simp; omega) | decide)) ?_
    refine x_pv (pv_sls0 (h := ps.length + 3) rfl rfl (by omega)) ?_
    first | refine x_pv (pv_assign_slice rfl) ?_ | refine x_pv (pv_assign rfl) ?_
    refine x_nil ?_
    repeat (first|refine zA ?_|refine zB ?_|refine zC ?_|refine zD ?_|refine zE ?_|refine zF ?_|refine zG ?_|refine zH ?_|refine zI ?_|refine zJ ?_|refine zK ?_|refine zL ?_|refine zM rfl ?_|refine zN ?_|refine zO ?_|refine zP ?_|refine zQ ?_)
    refine x_reg ?_
    first | refine x_pv (pv_move_slice rfl) ?_ | refine x_pv (pv_move rfl) ?_
    first | refine x_pv (pv_len rfl) ?_ | refine x_pv (pv_len_arr) ?_ | refine x_pv (pv_len_str rfl) ?_
    first | refine x_pv (pv_assign_int rfl) ?_ | refine x_pv (pv_assign rfl) ?_
    refine x_nil ?_
    repeat (first|refine zA ?_|refine zB ?_|refine zC ?_|refine zD ?_|refine zE ?_|refine zF ?_|refine zG ?_|refine zH ?_|refine zI ?_|refine zJ ?_|refine zK ?_|refine zL ?_|refine zM rfl ?_|refine zN ?_|refine zO ?_|refine zP ?_|refine zQ ?_)
    refine x_loop [(4, 4), (7, 7), (36, 67)] (by kernel_rfl) (fun i : Nat => ps.length ≤ i ∧ i ≤ ps.length + 3) (fun _ => L) (fun i => [(7, .int .i64 (i : Int))]) (fun i => ps.length + 3 - i) ps.length (by omega) (Imp.refl _) ⟨rfl, trivial⟩ ?_
    rintro j u2 ⟨hj0, hj⟩
    repeat (first|refine zA ?_|refine zB ?_|refine zC ?_|refine zD ?_|refine zE ?_|refine zF ?_|refine zG ?_|refine zH ?_|refine zI ?_|refine zJ ?_|refine zK ?_|refine zL ?_|refine zM rfl ?_|refine zN ?_|refine zO ?_|refine zP ?_|refine zQ ?_)
    refine x_reg ?_
    first | refine x_pv (pv_move_int rfl) ?_ | refine x_pv (pv_move rfl) ?_
    first | refine x_pv (pv_move_slice rfl) ?_ | refine x_pv (pv_move rfl) ?_
    first | refine x_pv (pv_len rfl) ?_ | refine x_pv (pv_len_arr) ?_ | refine x_pv (pv_len_str rfl) ?_
    first | refine x_pv (pv_lssn rfl rfl) ?_ | refine x_pv (pv_lss rfl rfl) ?_
    refine x_nil ?_
    repeat (first|refine zA ?_|refine zB ?_|refine zC ?_|refine zD ?_|refine zE ?_|refine zF ?_|refine zG ?_|refine zH ?_|refine zI ?_|refine zJ ?_|refine zK ?_|refine zL ?_|refine zM rfl ?_|refine zN ?_|refine zO ?_|refine zP ?_|refine zQ ?_)
    refine x_cond_p rfl (fun hC => ?_) (fun hC => ?_)
    · obtain ⟨R, hR⟩ := hb _ (hmem j (by omega))
      have e1 : rowV rows (gs[j], j) = .slice (some ⟨gs[j], 0, none⟩) 2 2 := by unfold rowV; rw [if_neg (by omega)]
      have e2 : rowB rows j = [BitVec.ofInt 8 (j : Int), 119#8] := by unfold rowB; rw [if_neg (by omega)]
      have e3 : blkA rows (gs[j], j) = cl gs[j] (([BitVec.ofInt 8 (j : Int), 119#8]).map u8b).toArray 5 := by show cl gs[j] ((rowB rows j).map u8b).toArray _ = _; rw [e2]
      rw [e3] at hR
      have hv1 : ((gs.zipIdx).map (rowV rows))[j]? = some (.slice (some ⟨gs[j], 0, none⟩) 2 2) := by rw [hgv j (by omega), e1]
      have hm2 : Rd L 1 (.slice (some ⟨gs[j], 0, none⟩) 2 2) 2 [u8b (BitVec.ofInt 8 (j : Int)), u8b 119#8] := (Rd.cl (o := 0) (xs := [u8b (BitVec.ofInt 8 (j : Int)), u8b 119#8]) (c := ([u8b (BitVec.ofInt 8 (j : Int)), u8b 119#8]).toArray) (E := 5) .here rfl (by first | rfl | omega | (rw [szL]; omega) | exact Nat.le_of_ble_eq_true rfl | (simp; done) | (simp; omega)) rfl).imp hR
      repeat (first|refine zA ?_|refine zB ?_|refine zC ?_|refine zD ?_|refine zE ?_|refine zF ?_|refine zG ?_|refine zH ?_|refine zI ?_|refine zJ ?_|refine zK ?_|refine zL ?_|refine zM rfl ?_|refine zN ?_|refine zO ?_|refine zP ?_|refine zQ ?_)
      refine x_reg ?_
      first | refine x_pv (pv_move_slice rfl) ?_ | refine x_pv (pv_move rfl) ?_
      first | refine x_pv (pv_move_int rfl) ?_ | refine x_pv (pv_move rfl) ?_
      first | refine x_pv (pv_ixs1z rfl rfl (by first | omega | exact Nat.le_of_ble_eq_true rfl | (simp; done) | (simp; omega))) ?_ | refine x_pv (pv_ixs1 rfl rfl (by first | omega | exact Nat.le_of_ble_eq_true rfl | (simp; done) | (simp; omega))) ?_
      refine x_load_slz (j := j) rfl hg hC hv1 ?_
      first | refine x_pv (pv_len rfl) ?_ | refine x_pv (pv_len_arr) ?_ | refine x_pv (pv_len_str rfl) ?_
      first | refine x_pv (pv_neqn (b := 2) rfl rfl) ?_ | refine x_pv (pv_neq rfl rfl) ?_
      refine x_isF 47 rfl (decide_eq_false (fun h => h rfl)) ?_
      first | refine x_pv (pv_move_bool rfl) ?_ | refine x_pv (pv_move rfl) ?_
      first | refine x_gn rfl ?_ | refine x_gu rfl ?_ | (refine x_gy rfl ?_; (first | refine x_pv (pv_move_slice rfl) ?_ | refine x_pv (pv_move rfl) ?_))
      first | refine x_gn rfl ?_ | refine x_gu rfl ?_ | (refine x_gy rfl ?_; (first | refine x_pv (pv_move_int rfl) ?_ | refine x_pv (pv_move rfl) ?_))
      first | refine x_gn rfl ?_ | refine x_gu rfl ?_ | (refine x_gy rfl ?_; (first | refine x_pv (pv_ixs1z rfl rfl (by first | omega | exact Nat.le_of_ble_eq_true rfl | (simp; done) | (simp; omega))) ?_ | refine x_pv (pv_ixs1 rfl rfl (by first | omega | exact Nat.le_of_ble_eq_true rfl | (simp; done) | (simp; omega))) ?_))
      refine x_gy rfl ?_; refine x_load_slz (j := j) rfl hg hC hv1 ?_
      first | refine x_gn rfl ?_ | refine x_gu rfl ?_ | (refine x_gy rfl ?_; (first | refine x_pv (pv_ixs1z (n := 0) rfl rfl (by first | omega | exact Nat.le_of_ble_eq_true rfl | (simp; done) | (simp; omega))) ?_ | refine x_pv (pv_ixs1 (n := 0) rfl rfl (by first | omega | exact Nat.le_of_ble_eq_true rfl | (simp; done) | (simp; omega))) ?_))
      refine x_gy rfl ?_; refine x_load_slz (j := 0) rfl hm2 (by omega) rfl ?_
      first | refine x_gn rfl ?_ | refine x_gu rfl ?_ | (refine x_gy rfl ?_; (first | refine x_pv (pv_move_int rfl) ?_ | refine x_pv (pv_move rfl) ?_))
      first | refine x_gn rfl ?_ | refine x_gu rfl ?_ | (refine x_gy rfl ?_; (refine x_pv (pv_conv_i_u8 rfl) ?_))
      first | refine x_gn rfl ?_ | refine x_gu rfl ?_ | (refine x_gy rfl ?_; (refine x_pv (pv_neq_u8 rfl rfl) ?_))
      refine x_isF 57 rfl (decide_eq_false (fun h => h rfl)) ?_
      first | refine x_pv (pv_pick_tb rfl rfl) ?_ | refine x_pv (pv_pick_fb rfl rfl) ?_ | refine x_pv (pv_pick_t rfl rfl) ?_ | refine x_pv (pv_pick_f rfl rfl) ?_ | refine x_pv (pv_pick_and rfl rfl) ?_ | refine x_pv (pv_pick_or rfl rfl) ?_
      first | refine x_pv (pv_move_bool rfl) ?_ | refine x_pv (pv_move rfl) ?_
      first | refine x_gn rfl ?_ | refine x_gu rfl ?_ | (refine x_gy rfl ?_; (first | refine x_pv (pv_move_slice rfl) ?_ | refine x_pv (pv_move rfl) ?_))
      first | refine x_gn rfl ?_ | refine x_gu rfl ?_ | (refine x_gy rfl ?_; (first | refine x_pv (pv_move_int rfl) ?_ | refine x_pv (pv_move rfl) ?_))
      first | refine x_gn rfl ?_ | refine x_gu rfl ?_ | (refine x_gy rfl ?_; (first | refine x_pv (pv_ixs1z rfl rfl (by first | omega | exact Nat.le_of_ble_eq_true rfl | (simp; done) | (simp; omega))) ?_ | refine x_pv (pv_ixs1 rfl rfl (by first | omega | exact Nat.le_of_ble_eq_true rfl | (simp; done) | (simp; omega))) ?_))
      refine x_gy rfl ?_; refine x_load_slz (j := j) rfl hg hC hv1 ?_
      first | refine x_gn rfl ?_ | refine x_gu rfl ?_ | (refine x_gy rfl ?_; (first | refine x_pv (pv_ixs1z (n := 1) rfl rfl (by first | omega | exact Nat.le_of_ble_eq_true rfl | (simp; done) | (simp; omega))) ?_ | refine x_pv (pv_ixs1 (n := 1) rfl rfl (by first | omega | exact Nat.le_of_ble_eq_true rfl | (simp; done) | (simp; omega))) ?_))
      refine x_gy rfl ?_; refine x_load_slz (j := 1) rfl hm2 (by omega) rfl ?_
      first | refine x_gn rfl ?_ | refine x_gu rfl ?_ | (refine x_gy rfl ?_; (refine x_pv (pv_neq_u8 (y := 119#8) rfl rfl) ?_))
      refine x_isF 66 rfl (decide_eq_false (fun h => h rfl)) ?_
      first | refine x_pv (pv_pick_tb rfl rfl) ?_ | refine x_pv (pv_pick_fb rfl rfl) ?_ | refine x_pv (pv_pick_t rfl rfl) ?_ | refine x_pv (pv_pick_f rfl rfl) ?_ | refine x_pv (pv_pick_and rfl rfl) ?_ | refine x_pv (pv_pick_or rfl rfl) ?_
      refine x_nil ?_
      repeat (first|refine zA ?_|refine zB ?_|refine zC ?_|refine zD ?_|refine zE ?_|refine zF ?_|refine zG ?_|refine zH ?_|refine zI ?_|refine zJ ?_|refine zK ?_|refine zL ?_|refine zM rfl ?_|refine zN ?_|refine zO ?_|refine zP ?_|refine zQ ?_)
      refine x_cond_f rfl ?_
      repeat (first|refine zA ?_|refine zB ?_|refine zC ?_|refine zD ?_|refine zE ?_|refine zF ?_|refine zG ?_|refine zH ?_|refine zI ?_|refine zJ ?_|refine zK ?_|refine zL ?_|refine zM rfl ?_|refine zN ?_|refine zO ?_|refine zP ?_|refine zQ ?_)
      refine x_reg ?_
      first | refine x_pv (pv_move_int rfl) ?_ | refine x_pv (pv_move rfl) ?_
      first | refine x_pv (pv_addn (b := 1) rfl rfl (by first | omega | exact Nat.le_of_ble_eq_true rfl | (simp; done) | (simp; omega) | decide)) ?_ | refine x_pv (pv_add_i rfl rfl (by first | omega | exact Nat.le_of_ble_eq_true rfl | (simp; done) | (simp; omega) | decide)) ?_
      first | refine x_pv (pv_assign_int rfl) ?_ | refine x_pv (pv_assign rfl) ?_
      refine x_nil ?_
      repeat (first|refine zA ?_|refine zB ?_|refine zC ?_|refine zD ?_|refine zE ?_|refine zF ?_|refine zG ?_|refine zH ?_|refine zI ?_|refine zJ ?_|refine zK ?_|refine zL ?_|refine zM rfl ?_|refine zN ?_|refine zO ?_|refine zP ?_|refine zQ ?_)
      exact x_loop_n (j + 1) (by first | omega | (dsimp only; omega) | (simp only []; omega)) ⟨by omega, by omega⟩ (by exact Imp.arr (by repeat (first | exact Arr.nil | exact Arr.stop | refine Arr.cons (by repeat constructor) ?_ | refine Arr.skip ?_))) ⟨rfl, trivial⟩
    · repeat (first|refine zA ?_|refine zB ?_|refine zC ?_|refine zD ?_|refine zE ?_|refine zF ?_|refine zG ?_|refine zH ?_|refine zI ?_|refine zJ ?_|refine zK ?_|refine zL ?_|refine zM rfl ?_|refine zN ?_|refine zO ?_|refine zP ?_|refine zQ ?_)
      refine x_reg ?_
      first | refine x_pv (pv_assign_bool rfl) ?_ | refine x_pv (pv_assign rfl) ?_
      refine x_nil ?_
      repeat (first|refine zA ?_|refine zB ?_|refine zC ?_|refine zD ?_|refine zE ?_|refine zF ?_|refine zG ?_|refine zH ?_|refine zI ?_|refine zJ ?_|refine zK ?_|refine zL ?_|refine zM rfl ?_|refine zN ?_|refine zO ?_|refine zP ?_|refine zQ ?_)
      refine rx1 (rx_bool rfl (rx_nil)) ?_
      exact ⟨_, ⟨rfl, rfl⟩, by exact Imp.arr (by repeat (first | exact Arr.nil | exact Arr.stop | refine Arr.cons (by repeat constructor) ?_ | refine Arr.skip ?_))⟩
end Go.Sl
