/- trystlaw06: TagSums, walked. -/
import Derived.Test.YtiebmodokjaokabTagU
set_option maxHeartbeats 4000000
set_option maxRecDepth 10000
set_option linter.unusedVariables false
set_option linter.unusedSimpArgs false
namespace Go.Sl
open Go Go.Proofs
attribute [local irreducible] cl pt own old pur ex all den denOps denS xOps xC cX CX xthen xblk xcut xloop retX resX Calls PV Rd Con
attribute [local irreducible] pc writeS takeW full put1 setU setH code sumS spareL spQ
abbrev blkB (x : Nat × List Byte) : Asrt := cl x.1 (x.2.map u8b).toArray 5
def bl0 (rows : List (List Byte)) (gs : List Nat) : List (Nat × List Byte) := gs.zipIdx.map fun x => (x.1, rowB rows x.2)
abbrev shp (x : Nat × List Byte) : Nat × Nat := (x.1, x.2.length)
def blQ (n : Nat) (bl : List (Nat × List Byte)) : List (Value × List Byte) := (bl.take n).map fun x => (.slice (some ⟨x.1, 0, none⟩) (x.2.length - 80) x.2.length, x.2.take (x.2.length - 80))
theorem star_bl0 {rows : List (List Byte)} {gs : List Nat} {M : List Asrt} : Imp (star (blkA rows) gs.zipIdx :: M) (star blkB (bl0 rows gs) :: M) := by
  have e : star blkB (bl0 rows gs) = star (blkA rows) gs.zipIdx := by unfold star bl0; rw [List.map_map]; rfl
  rw [e]; exact Imp.refl _
structure BlOk (rows : List (List Byte)) (gs : List Nat) (bl : List (Nat × List Byte)) : Prop where
  h : bl.map shp = (bl0 rows gs).map shp
theorem BlOk.len {rows : List (List Byte)} {gs : List Nat} {bl : List (Nat × List Byte)} (h : BlOk rows gs bl) : bl.length = gs.length := by
  have := congrArg List.length h.h; simpa [bl0] using this
theorem BlOk.at {rows : List (List Byte)} {gs : List Nat} {bl : List (Nat × List Byte)} (h : BlOk rows gs bl) (i : Nat) (hi : i < rows.length) (hg : i < gs.length) (hb : i < bl.length) : bl[i].1 = gs[i] ∧ bl[i].2.length = rows[i].length + 80 := by
  have e : (bl.map shp)[i]? = ((bl0 rows gs).map shp)[i]? := by rw [h.h]
  have hz : i < gs.zipIdx.length := by simpa using hg
  rw [List.getElem?_map, List.getElem?_eq_getElem hb, bl0, List.getElem?_map, List.getElem?_map, List.getElem?_eq_getElem hz] at e
  simp only [Option.map_some, Option.some.injEq, shp, Prod.mk.injEq, List.getElem_zipIdx, Nat.zero_add] at e
  refine ⟨e.1, ?_⟩
  rw [e.2, rowB, if_pos hi, spareL_len, List.getD_eq_getElem?_getD, List.getElem?_eq_getElem hi]; rfl
theorem BlOk.set {rows : List (List Byte)} {gs : List Nat} {bl : List (Nat × List Byte)} (h : BlOk rows gs bl) (i : Nat) (hb : i < bl.length) (y : Nat × List Byte) (hy : shp y = shp bl[i]) : BlOk rows gs (bl.set i y) := by
  refine ⟨?_⟩
  rw [List.map_set, hy, ← h.h]
  have : shp bl[i] = (bl.map shp)[i]'(by simpa using hb) := by simp
  rw [this, List.set_getElem_self]
theorem blQ_len {n : Nat} {bl : List (Nat × List Byte)} (h : n ≤ bl.length) : (blQ n bl).length = n := by simp [blQ]; omega
theorem BlOk.vals {rows : List (List Byte)} {gs : List Nat} {bl : List (Nat × List Byte)} (h : BlOk rows gs bl) (hg : gs.length = rows.length + 3) : (blQ rows.length bl).map (·.1) = ((gs.zipIdx).map (rowV rows)).take rows.length := by
  have hbl := h.len
  apply List.ext_getElem (by rw [List.length_map, blQ_len (by omega)]; simp; omega)
  intro i h1 h2
  have hi : i < rows.length := by rw [List.length_map, blQ_len (by omega)] at h1; exact h1
  have ha := h.at i hi (by omega) (by omega)
  simp only [blQ, List.getElem_map, List.getElem_take, List.getElem_zipIdx, Nat.zero_add]
  rw [ha.1, ha.2, rowV, if_pos hi, List.getD_eq_getElem?_getD, List.getElem?_eq_getElem hi]
  simp
theorem BlOk.lens {rows : List (List Byte)} {gs : List Nat} {bl : List (Nat × List Byte)} (h : BlOk rows gs bl) (hg : gs.length = rows.length + 3) : (joinB (blQ rows.length bl)).length = rows.flatten.length := by
  have hbl := h.len
  unfold joinB
  rw [List.length_flatten, List.length_flatten, List.map_map]
  congr 1
  apply List.ext_getElem (by rw [List.length_map, blQ_len (by omega)]; simp)
  intro i h1 h2
  have hi : i < rows.length := by simpa using h2
  have ha := h.at i hi (by omega) (by omega)
  simp only [blQ, List.getElem_map, List.getElem_take, Function.comp, List.length_take]
  rw [ha.2]; omega
theorem BlOk.rs {M M1 M2 : List Asrt} {g : Nat} {rows : List (List Byte)} {gs : List Nat} {bl : List (Nat × List Byte)} (h : BlOk rows gs bl) (hg : gs.length = rows.length + 3) (hm : Has M (cl g (((gs.zipIdx).map (rowV rows))).toArray 31) M1) (hs : Has M (star blkB bl) M2)
    (hel : ∀ r ∈ rows, r.length ≤ 140737488355328) (hl : rows.length ≤ 2097152) : Rs M (.slice (some ⟨g, 0, none⟩) rows.length (rows.length + 3)) (blQ rows.length bl) := by
  have hbl := h.len
  have hq : (blQ rows.length bl).length = rows.length := blQ_len (by omega)
  have hzl : (gs.zipIdx).length = rows.length + 3 := by simp [hg]
  have hh := Rs.cl (M := M) (o := 0) (c := rows.length + 3) (ps := blQ rows.length bl) hm (by simp [hq, hzl]) (by
      simp only [Array.toList_extract, List.extract_eq_take_drop, Nat.zero_add, Nat.sub_zero, List.drop_zero]
      rw [hq, h.vals hg]) (by omega) (by omega) ?_
  · rwa [hq] at hh
  · intro x hx
    obtain ⟨i, hi, rfl⟩ := List.getElem_of_mem hx
    have hi2 : i < rows.length := by rwa [hq] at hi
    have ha := h.at i hi2 (by omega) (by omega)
    have hr := hel _ (List.getElem_mem hi2)
    obtain ⟨R, hR⟩ := star_has (A := blkB) (List.getElem_mem (show i < bl.length by omega)) hs
    simp only [blQ, List.getElem_map, List.getElem_take]
    have hbs := Bs.cl (M := blkB bl[i] :: R) (o := 0) (c := bl[i].2.length) (l := bl[i].2.take (bl[i].2.length - 80)) .here (by simp) (by
      simp only [Array.toList_extract, List.extract_eq_take_drop, Nat.zero_add, Nat.sub_zero, List.drop_zero]
      rw [List.map_take]; congr 1; simp) (by simp) (by omega)
    have e : (bl[i].2.take (bl[i].2.length - 80)).length = bl[i].2.length - 80 := by simp
    rw [e] at hbs
    exact hbs.imp hR
theorem sums_x (W : World) (key : List Byte) (hk : key.length = 32) (v : Value) (ps : List (Value × List Byte)) (hin : InR W v ps) (hjb : (joinB ps).length + ps.length ≤ 2097152) :
    Con Try.prog 4 [.agg (key.map u8b).toArray, v] [old W] (fun r M => r = .bool true ∧ [old W] = M) := by
  obtain ⟨va, vc, rfl, hvl, hvc⟩ := hin.sh
  have hpl1 : ps.length ≤ 2097152 := by omega
  obtain ⟨J, hJ⟩ : ∃ J, J = joinB ps := ⟨_, rfl⟩
  have hcl := code_len key J
  have hcl0 := code_len key (joinB ps)
  have hel2 : ∀ x ∈ ps, x.2.length ≤ 140737488355328 := fun x hx => by have := (hin.el x hx).len; omega
  obtain ⟨rows, hrows⟩ : ∃ rows, ps.map (·.2) = rows := ⟨_, rfl⟩
  have hrl : rows.length = ps.length := by rw [← hrows]; simp
  have hrel : ∀ r ∈ rows, r.length ≤ 140737488355328 := fun r hr => by
    rw [← hrows] at hr; obtain ⟨x, hx, rfl⟩ := List.mem_map.1 hr; exact hel2 x hx
  have hfl : rows.flatten.length ≤ 2097152 := by rw [← hrows, ← join_rows]; omega
  refine fn_x Try.func4 rfl rfl rfl Try.mixed (by kernel_rfl) ?_
  intro w0
  repeat (first|refine zA ?_|refine zB ?_|refine zC ?_|refine zD ?_|refine zE ?_|refine zF ?_|refine zG ?_|refine zH ?_|refine zI ?_|refine zJ ?_|refine zK ?_|refine zL ?_|refine zM rfl ?_|refine zN ?_|refine zO ?_|refine zP ?_|refine zQ ?_)
  refine x_reg ?_
  refine x_box_a rfl ?_; intro b2
  first | refine x_pv (pv_assign_bool rfl) ?_ | refine x_pv (pv_assign rfl) ?_
  refine x_nil ?_
  repeat (first|refine zA ?_|refine zB ?_|refine zC ?_|refine zD ?_|refine zE ?_|refine zF ?_|refine zG ?_|refine zH ?_|refine zI ?_|refine zJ ?_|refine zK ?_|refine zL ?_|refine zM rfl ?_|refine zN ?_|refine zO ?_|refine zP ?_|refine zQ ?_)
  refine x_reg ?_
  first | refine x_pv (pv_move_slice rfl) ?_ | refine x_pv (pv_move rfl) ?_
  refine x_call rfl (by kernel_rfl) (spareRows_y (L := [old W]) rows hrows (hin.rs .here) hpl1 hel2) rfl (by repeat (first | exact Take.nil | exact Take.all | (apply Take.cons; (next => (repeat constructor); done)) | apply Take.skip)) ?_
  rintro _ _ ⟨g, gs, hgl, rfl, rfl⟩
  refine xo_app (by repeat (first | exact App.nil | apply App.cons | (apply App.flip; first | exact App.nil | apply App.cons) | exact App.any)) ?_
  first | refine x_pv (pv_assign_slice rfl) ?_ | refine x_pv (pv_assign rfl) ?_
  refine x_nil ?_
  repeat (first|refine zA ?_|refine zB ?_|refine zC ?_|refine zD ?_|refine zE ?_|refine zF ?_|refine zG ?_|refine zH ?_|refine zI ?_|refine zJ ?_|refine zK ?_|refine zL ?_|refine zM rfl ?_|refine zN ?_|refine zO ?_|refine zP ?_|refine zQ ?_)
  have hqj : joinB (spQ rows gs) = J := by rw [spQ_join hgl, hJ, join_rows, hrows]
  have hql := spQ_len hgl
  have hclq := code_len key (joinB (spQ rows gs))
  have hzl : (((gs.zipIdx).map (rowV rows))).length = rows.length + 3 := by simp [hgl]
  repeat (first|refine zA ?_|refine zB ?_|refine zC ?_|refine zD ?_|refine zE ?_|refine zF ?_|refine zG ?_|refine zH ?_|refine zI ?_|refine zJ ?_|refine zK ?_|refine zL ?_|refine zM rfl ?_|refine zN ?_|refine zO ?_|refine zP ?_|refine zQ ?_)
  refine x_reg ?_
  first | refine x_load_all rfl (by repeat constructor) (by first | rfl | omega | (rw [szL]; omega) | exact Nat.le_of_ble_eq_true rfl | (simp; done) | (simp; omega)) ?_ | refine x_load_agg rfl (by repeat constructor) (by first | rfl | omega | (rw [szL]; omega) | exact Nat.le_of_ble_eq_true rfl | (simp; done) | (simp; omega)) rfl ?_
  first | refine x_pv (pv_move_slice rfl) ?_ | refine x_pv (pv_move rfl) ?_
  refine x_call rfl (by kernel_rfl) (tsum_c (L := [cl g ((gs.zipIdx).map (rowV rows)).toArray 31, star (blkA rows) gs.zipIdx]) key hk (rs_spares (by repeat constructor) (by repeat constructor) hgl hrel (by omega)) (by omega)) rfl (by repeat (first | exact Take.nil | exact Take.all | (apply Take.cons; (next => (repeat constructor); done)) | apply Take.skip)) ?_
  rintro _ _ ⟨rfl, rfl⟩
  refine xo_app (by repeat (first | exact App.nil | apply App.cons | (apply App.flip; first | exact App.nil | apply App.cons) | exact App.any)) ?_
  refine x_alloc (cs := ((List.replicate 16 0#8).map u8b).toArray) rfl ?_; intro b6
  first | refine x_store_all rfl rfl (by repeat constructor) (by first | rfl | omega | (rw [szL]; omega) | exact Nat.le_of_ble_eq_true rfl | (simp; done) | (simp; omega)) (by first | rfl | exact oneM_u8 _ | exact oneL_u8 _ | (simp [oneC]; done)) (by first | rfl | omega | (rw [szL]; omega) | exact Nat.le_of_ble_eq_true rfl | (simp; done) | (simp; omega)) ?_ | refine x_store_agg rfl rfl (by repeat constructor) (by first | rfl | omega | (rw [szL]; omega) | exact Nat.le_of_ble_eq_true rfl | (simp; done) | (simp; omega)) (by first | rfl | exact oneM_u8 _ | exact oneL_u8 _ | (simp [oneC]; done)) (by first | rfl | omega | (rw [szL]; omega) | exact Nat.le_of_ble_eq_true rfl | (simp; done) | (simp; omega)) rfl ?_
  refine x_nil ?_
  repeat (first|refine zA ?_|refine zB ?_|refine zC ?_|refine zD ?_|refine zE ?_|refine zF ?_|refine zG ?_|refine zH ?_|refine zI ?_|refine zJ ?_|refine zK ?_|refine zL ?_|refine zM rfl ?_|refine zN ?_|refine zO ?_|refine zP ?_|refine zQ ?_)
  rw [hqj]
  repeat (first|refine zA ?_|refine zB ?_|refine zC ?_|refine zD ?_|refine zE ?_|refine zF ?_|refine zG ?_|refine zH ?_|refine zI ?_|refine zJ ?_|refine zK ?_|refine zL ?_|refine zM rfl ?_|refine zN ?_|refine zO ?_|refine zP ?_|refine zQ ?_)
  refine x_draw ([cl b6 ((code key J).map u8b).toArray 28, cl b2 (key.map u8b).toArray 24]) [0, 1, 2, 3, 4] (.r 0 (.r 1 (.r 2 (.e 3 true (.e 4 true (.q 5 (.q 6 (.q 7 (.q 8 (.e 9 false (.q 10 (.q 11 .nil)))))))))))) (by kernel_rfl) (by kernel_rfl) (Imp.arr (by repeat (first | exact Arr.nil | exact Arr.stop | refine Arr.cons (by repeat constructor) ?_ | refine Arr.skip ?_))) ?_
  first | refine cx_load_all rfl rfl (by repeat constructor) (by first | rfl | omega | (rw [szL]; omega) | exact Nat.le_of_ble_eq_true rfl | (simp; done) | (simp; omega)) ?_ | refine cx_load_agg rfl rfl (by repeat constructor) (by first | rfl | omega | (rw [szL]; omega) | exact Nat.le_of_ble_eq_true rfl | (simp; done) | (simp; omega)) rfl ?_
  first | refine cx_load_all rfl rfl (by repeat constructor) (by first | rfl | omega | (rw [szL]; omega) | exact Nat.le_of_ble_eq_true rfl | (simp; done) | (simp; omega)) ?_ | refine cx_load_agg rfl rfl (by repeat constructor) (by first | rfl | omega | (rw [szL]; omega) | exact Nat.le_of_ble_eq_true rfl | (simp; done) | (simp; omega)) rfl ?_
  first | refine cx_p rfl (pv_move_slice rfl) ?_ | refine cx_p rfl (pv_move rfl) ?_
  refine cx_e rfl ?_
  refine x_call rfl (by kernel_rfl) (join_x (L := [old W]) (hin.rs .here) (by omega)) rfl (by repeat (first | exact Take.nil | exact Take.all | (apply Take.cons; (next => (repeat constructor); done)) | apply Take.skip)) ?_
  rintro _ _ ⟨ja, jc, rfl, rfl⟩
  refine xo_app (by repeat (first | exact App.nil | apply App.cons | (apply App.flip; first | exact App.nil | apply App.cons) | exact App.any)) ?_
  refine x_nil ⟨fun _ => Imp.arr (by repeat (first | exact Arr.nil | exact Arr.stop | refine Arr.cons (by repeat constructor) ?_ | refine Arr.skip ?_)), ?_⟩
  refine cx_e rfl ?_
  refine x_call rfl (by kernel_rfl) (rsum_x (L := [own 5 1 (.slice ja (joinB ps).length jc) (joinB ps).length ((joinB ps).map u8b)]) key hk (Bs.own .here) (by omega)) rfl (by repeat (first | exact Take.nil | exact Take.all | (apply Take.cons; (next => (repeat constructor); done)) | apply Take.skip)) ?_
  rintro _ _ ⟨rfl, rfl⟩
  refine xo_app (by repeat (first | exact App.nil | apply App.cons | (apply App.flip; first | exact App.nil | apply App.cons) | exact App.any)) ?_
  refine x_nil ⟨fun _ => Imp.arr (by repeat (first | exact Arr.nil | exact Arr.stop | refine Arr.cons (by repeat constructor) ?_ | refine Arr.skip ?_)), ?_⟩
  refine cx_q rfl (pv_neq_ba (n := 16) (a := code key J) (b := code key (joinB ps)) hcl hcl0 rfl rfl) ?_
  refine cx_isF 20 rfl (decide_eq_false ((by rw [← hJ]; simp))) ?_
  first | refine cx_q rfl (pv_move_bool rfl) ?_ | refine cx_q rfl (pv_move rfl) ?_
  first | refine cx_qn rfl rfl ?_ | refine cx_qu rfl rfl ?_ | refine cx_qy rfl rfl (pv_move_slice rfl) ?_ | refine cx_qy rfl rfl (pv_move rfl) ?_
  first | refine cx_qn rfl rfl ?_ | refine cx_qu rfl rfl ?_ | refine cx_qy rfl rfl (pv_move_slice rfl) ?_ | refine cx_qy rfl rfl (pv_move rfl) ?_
  refine cx_e rfl ?_
  first | refine x_gn rfl ?_ | refine x_gu rfl ?_ | (refine x_gy rfl ?_; (refine x_call rfl (by kernel_rfl) (kept_spares (L := [cl g ((gs.zipIdx).map (rowV rows)).toArray 31, star (blkA rows) gs.zipIdx, old W]) rows hrows hgl (hin.rs (by repeat constructor)) hpl1 hel2 (by repeat constructor) (by repeat constructor)) rfl (by repeat (first | exact Take.nil | exact Take.all | (apply Take.cons; (next => (repeat constructor); done)) | apply Take.skip)) ?_); (rintro _ _ ⟨rfl, rfl⟩); (refine xo_app (by repeat (first | exact App.nil | apply App.cons | (apply App.flip; first | exact App.nil | apply App.cons) | exact App.any)) ?_))
  refine x_nil ⟨(fun hh => Bool.noConfusion hh), ?_⟩
  first | refine cx_qn rfl rfl ?_ | refine cx_qu rfl rfl ?_ | refine cx_qy rfl rfl (pv_not_p rfl) ?_ | refine cx_qy rfl rfl (pv_not rfl) ?_
  refine cx_isF 25 rfl (rfl) ?_
  first | refine cx_q rfl (pv_pick_tb rfl rfl) ?_ | refine cx_q rfl (pv_pick_fb rfl rfl) ?_ | refine cx_q rfl (pv_pick_t rfl rfl) ?_ | refine cx_q rfl (pv_pick_f rfl rfl) ?_ | refine cx_q rfl (pv_pick_and rfl rfl) ?_ | refine cx_q rfl (pv_pick_or rfl rfl) ?_
  refine cx_nil ?_
  repeat (first|refine zA ?_|refine zB ?_|refine zC ?_|refine zD ?_|refine zE ?_|refine zF ?_|refine zG ?_|refine zH ?_|refine zI ?_|refine zJ ?_|refine zK ?_|refine zL ?_|refine zM rfl ?_|refine zN ?_|refine zO ?_|refine zP ?_|refine zQ ?_)
  refine x_cond_f rfl ?_
  repeat (first|refine zA ?_|refine zB ?_|refine zC ?_|refine zD ?_|refine zE ?_|refine zF ?_|refine zG ?_|refine zH ?_|refine zI ?_|refine zJ ?_|refine zK ?_|refine zL ?_|refine zM rfl ?_|refine zN ?_|refine zO ?_|refine zP ?_|refine zQ ?_)
  refine x_reg ?_
  first | refine x_pv (pv_assign_int rfl) ?_ | refine x_pv (pv_assign rfl) ?_
  refine x_nil ?_
  repeat (first|refine zA ?_|refine zB ?_|refine zC ?_|refine zD ?_|refine zE ?_|refine zF ?_|refine zG ?_|refine zH ?_|refine zI ?_|refine zJ ?_|refine zK ?_|refine zL ?_|refine zM rfl ?_|refine zN ?_|refine zO ?_|refine zP ?_|refine zQ ?_)
  refine x_loop [(7, 8), (27, 60)] (by kernel_rfl) (fun s : Nat × List (Nat × List Byte) => s.1 ≤ rows.length ∧ BlOk rows gs s.2) (fun s => [star blkB s.2, cl g (((gs.zipIdx).map (rowV rows))).toArray 31, cl b2 (key.map u8b).toArray 24, old W])
    (fun s => [(7, nv s.1)]) (fun s => rows.length - s.1) (0, bl0 rows gs) ⟨by omega, ⟨rfl⟩⟩ ((Imp.arr (N := star (blkA rows) gs.zipIdx :: [cl g (((gs.zipIdx).map (rowV rows))).toArray 31, cl b2 (key.map u8b).toArray 24, old W]) (by repeat (first | exact Arr.nil | exact Arr.stop | refine Arr.cons (by repeat constructor) ?_ | refine Arr.skip ?_))).trans star_bl0) ⟨rfl, trivial⟩ ?_
  rintro ⟨i, bl⟩ u ⟨hi, hbl⟩
  dsimp only at hi hbl ⊢
  have hbln := hbl.len
  repeat (first|refine zA ?_|refine zB ?_|refine zC ?_|refine zD ?_|refine zE ?_|refine zF ?_|refine zG ?_|refine zH ?_|refine zI ?_|refine zJ ?_|refine zK ?_|refine zL ?_|refine zM rfl ?_|refine zN ?_|refine zO ?_|refine zP ?_|refine zQ ?_)
  refine x_reg ?_
  first | refine x_pv (pv_move_int rfl) ?_ | refine x_pv (pv_move rfl) ?_
  first | refine x_pv (pv_move_slice rfl) ?_ | refine x_pv (pv_move rfl) ?_
  first | refine x_pv (pv_len rfl) ?_ | refine x_pv (pv_len_arr) ?_ | refine x_pv (pv_len_str rfl) ?_
  first | refine x_pv (pv_lssn rfl rfl) ?_ | refine x_pv (pv_lss rfl rfl) ?_
  refine x_nil ?_
  repeat (first|refine zA ?_|refine zB ?_|refine zC ?_|refine zD ?_|refine zE ?_|refine zF ?_|refine zG ?_|refine zH ?_|refine zI ?_|refine zJ ?_|refine zK ?_|refine zL ?_|refine zM rfl ?_|refine zN ?_|refine zO ?_|refine zP ?_|refine zQ ?_)
  refine x_cond_p rfl (fun hA => ?_) (fun hA => ?_)
  · have hat := hbl.at i hA (by omega) (by omega)
    have hib : i < bl.length := by omega
    generalize hgi : gs[i] = gi at hat
    have hVi : (((gs.zipIdx).map (rowV rows))).toArray[i]? = some (.slice (some ⟨gi, 0, none⟩) rows[i].length (rows[i].length + 80)) := by
      rw [List.getElem?_toArray, List.getElem?_eq_getElem (by rw [hzl]; omega), List.getElem_map, List.getElem_zipIdx, Nat.zero_add, rowV, if_pos hA, List.getD_eq_getElem?_getD, List.getElem?_eq_getElem hA, hgi]; rfl
    have hri := hrel _ (List.getElem_mem hA)
    generalize hrow : rows[i] = row at hat hVi hri
    refine x_ent (star_at (A := blkB) hib) ?_
    rw [show blkB bl[i] = cl gi (bl[i].2.map u8b).toArray 5 by show cl bl[i].1 _ _ = _; rw [hat.1]]
    repeat (first|refine zA ?_|refine zB ?_|refine zC ?_|refine zD ?_|refine zE ?_|refine zF ?_|refine zG ?_|refine zH ?_|refine zI ?_|refine zJ ?_|refine zK ?_|refine zL ?_|refine zM rfl ?_|refine zN ?_|refine zO ?_|refine zP ?_|refine zQ ?_)
    refine x_reg ?_
    first | refine x_pv (pv_assign_int rfl) ?_ | refine x_pv (pv_assign rfl) ?_
    refine x_nil ?_
    repeat (first|refine zA ?_|refine zB ?_|refine zC ?_|refine zD ?_|refine zE ?_|refine zF ?_|refine zG ?_|refine zH ?_|refine zI ?_|refine zJ ?_|refine zK ?_|refine zL ?_|refine zM rfl ?_|refine zN ?_|refine zO ?_|refine zP ?_|refine zQ ?_)
    refine x_loop [(8, 8), (33, 60)] (by kernel_rfl) (fun t : Nat × List Byte => t.1 ≤ row.length ∧ t.2.length = row.length + 80) (fun t => [cl gi (t.2.map u8b).toArray 5, star blkB (bl.eraseIdx i), cl g (((gs.zipIdx).map (rowV rows))).toArray 31, cl b2 (key.map u8b).toArray 24, old W])
      (fun t => [(8, nv t.1)]) (fun t => row.length - t.1) (0, bl[i].2) ⟨by omega, hat.2⟩ (by exact Imp.arr (by repeat (first | exact Arr.nil | exact Arr.stop | refine Arr.cons (by repeat constructor) ?_ | refine Arr.skip ?_))) ⟨rfl, trivial⟩ ?_
    rintro ⟨k, c⟩ u2 ⟨hk2, hc⟩
    dsimp only at hk2 hc ⊢
    repeat (first|refine zA ?_|refine zB ?_|refine zC ?_|refine zD ?_|refine zE ?_|refine zF ?_|refine zG ?_|refine zH ?_|refine zI ?_|refine zJ ?_|refine zK ?_|refine zL ?_|refine zM rfl ?_|refine zN ?_|refine zO ?_|refine zP ?_|refine zQ ?_)
    refine x_reg ?_
    first | refine x_pv (pv_move_int rfl) ?_ | refine x_pv (pv_move rfl) ?_
    first | refine x_pv (pv_move_slice rfl) ?_ | refine x_pv (pv_move rfl) ?_
    first | refine x_pv (pv_move_int rfl) ?_ | refine x_pv (pv_move rfl) ?_
    first | refine x_pv (pv_ixs1z rfl rfl (by first | omega | exact Nat.le_of_ble_eq_true rfl | (simp; done) | (simp; omega))) ?_ | refine x_pv (pv_ixs1 rfl rfl (by first | omega | exact Nat.le_of_ble_eq_true rfl | (simp; done) | (simp; omega))) ?_
    refine x_load rfl (by repeat constructor) (hVi) ?_
    first | refine x_pv (pv_len rfl) ?_ | refine x_pv (pv_len_arr) ?_ | refine x_pv (pv_len_str rfl) ?_
    first | refine x_pv (pv_lssn rfl rfl) ?_ | refine x_pv (pv_lss rfl rfl) ?_
    refine x_nil ?_
    repeat (first|refine zA ?_|refine zB ?_|refine zC ?_|refine zD ?_|refine zE ?_|refine zF ?_|refine zG ?_|refine zH ?_|refine zI ?_|refine zJ ?_|refine zK ?_|refine zL ?_|refine zM rfl ?_|refine zN ?_|refine zO ?_|refine zP ?_|refine zQ ?_)
    refine x_cond_p rfl (fun hB => ?_) (fun hB => ?_)
    · have hkc : k < c.length := by omega
      repeat (first|refine zA ?_|refine zB ?_|refine zC ?_|refine zD ?_|refine zE ?_|refine zF ?_|refine zG ?_|refine zH ?_|refine zI ?_|refine zJ ?_|refine zK ?_|refine zL ?_|refine zM rfl ?_|refine zN ?_|refine zO ?_|refine zP ?_|refine zQ ?_)
      refine x_draw (_) [0, 1, 2, 3, 4, 5, 6, 7, 8, 9, 10, 11, 12, 13, 14, 15, 16, 17] (.r 0 (.r 1 (.r 2 (.r 3 (.r 4 (.r 5 (.r 6 (.r 7 (.r 8 (.r 9 (.r 10 (.r 11 (.r 12 (.r 13 (.r 14 (.r 15 (.r 16 (.r 17 (.q 18 (.e 19 false .nil)))))))))))))))))))) (by kernel_rfl) (by kernel_rfl) (Imp.refl _) ?_
      first | refine cx_p rfl (pv_move_slice rfl) ?_ | refine cx_p rfl (pv_move rfl) ?_
      first | refine cx_p rfl (pv_move_int rfl) ?_ | refine cx_p rfl (pv_move rfl) ?_
      first | refine cx_p rfl (pv_ixs1z rfl rfl (by first | omega | exact Nat.le_of_ble_eq_true rfl | (simp; done) | (simp; omega))) ?_ | refine cx_p rfl (pv_ixs1 rfl rfl (by first | omega | exact Nat.le_of_ble_eq_true rfl | (simp; done) | (simp; omega))) ?_
      refine cx_load rfl rfl (by repeat constructor) (hVi) ?_
      first | refine cx_p rfl (pv_move_int rfl) ?_ | refine cx_p rfl (pv_move rfl) ?_
      first | refine cx_p rfl (pv_move_slice rfl) ?_ | refine cx_p rfl (pv_move rfl) ?_
      first | refine cx_p rfl (pv_move_int rfl) ?_ | refine cx_p rfl (pv_move rfl) ?_
      first | refine cx_p rfl (pv_ixs1z rfl rfl (by first | omega | exact Nat.le_of_ble_eq_true rfl | (simp; done) | (simp; omega))) ?_ | refine cx_p rfl (pv_ixs1 rfl rfl (by first | omega | exact Nat.le_of_ble_eq_true rfl | (simp; done) | (simp; omega))) ?_
      refine cx_load rfl rfl (by repeat constructor) (hVi) ?_
      first | refine cx_p rfl (pv_move_int rfl) ?_ | refine cx_p rfl (pv_move rfl) ?_
      first | refine cx_p rfl (pv_ixs1z rfl rfl (by first | omega | exact Nat.le_of_ble_eq_true rfl | (simp; done) | (simp; omega))) ?_ | refine cx_p rfl (pv_ixs1 rfl rfl (by first | omega | exact Nat.le_of_ble_eq_true rfl | (simp; done) | (simp; omega))) ?_
      refine cx_load rfl rfl (by repeat constructor) (getL (f := u8b) (l := c) hkc) ?_
      first | refine cx_p rfl (pv_move_int rfl) ?_ | refine cx_p rfl (pv_move rfl) ?_
      first | refine cx_p rfl (pv_addn (a := 1) rfl rfl (by first | omega | exact Nat.le_of_ble_eq_true rfl | (simp; done) | (simp; omega) | decide)) ?_ | refine cx_p rfl (pv_add_i rfl rfl (by first | omega | exact Nat.le_of_ble_eq_true rfl | (simp; done) | (simp; omega) | decide)) ?_
      first | refine cx_p rfl (pv_move_int rfl) ?_ | refine cx_p rfl (pv_move rfl) ?_
      first | refine cx_p rfl (pv_addn rfl rfl (by first | omega | exact Nat.le_of_ble_eq_true rfl | (simp; done) | (simp; omega) | decide)) ?_ | refine cx_p rfl (pv_add_i rfl rfl (by first | omega | exact Nat.le_of_ble_eq_true rfl | (simp; done) | (simp; omega) | decide)) ?_
      refine cx_p rfl (pv_conv_i_u8 rfl) ?_
      refine cx_p rfl (pv_xor_u8 rfl rfl) ?_
      first | refine cx_q rfl (pv_ixs1z rfl rfl (by first | omega | exact Nat.le_of_ble_eq_true rfl | (simp; done) | (simp; omega))) ?_ | refine cx_q rfl (pv_ixs1 rfl rfl (by first | omega | exact Nat.le_of_ble_eq_true rfl | (simp; done) | (simp; omega))) ?_
      refine cx_e rfl ?_
      refine x_store_i rfl rfl (by repeat constructor) (by first | rfl | omega | (rw [szL]; omega) | exact Nat.le_of_ble_eq_true rfl | (simp; done) | (simp; omega)) (setL (f := u8b) (l := c)) ?_
      refine x_nil ⟨(fun hh => Bool.noConfusion hh), ?_⟩
      refine cx_nil ?_
      repeat (first|refine zA ?_|refine zB ?_|refine zC ?_|refine zD ?_|refine zE ?_|refine zF ?_|refine zG ?_|refine zH ?_|refine zI ?_|refine zJ ?_|refine zK ?_|refine zL ?_|refine zM rfl ?_|refine zN ?_|refine zO ?_|refine zP ?_|refine zQ ?_)
      refine x_reg ?_
      first | refine x_pv (pv_move_int rfl) ?_ | refine x_pv (pv_move rfl) ?_
      first | refine x_pv (pv_addn (b := 1) rfl rfl (by first | omega | exact Nat.le_of_ble_eq_true rfl | (simp; done) | (simp; omega) | decide)) ?_ | refine x_pv (pv_add_i rfl rfl (by first | omega | exact Nat.le_of_ble_eq_true rfl | (simp; done) | (simp; omega) | decide)) ?_
      first | refine x_pv (pv_assign_int rfl) ?_ | refine x_pv (pv_assign rfl) ?_
      refine x_nil ?_
      repeat (first|refine zA ?_|refine zB ?_|refine zC ?_|refine zD ?_|refine zE ?_|refine zF ?_|refine zG ?_|refine zH ?_|refine zI ?_|refine zJ ?_|refine zK ?_|refine zL ?_|refine zM rfl ?_|refine zN ?_|refine zO ?_|refine zP ?_|refine zQ ?_)
      exact x_loop_n (k + 1, c.set k (c[k] ^^^ BitVec.ofInt 8 ((1 + i + k : Nat) : Int))) (by first | omega | (dsimp only; omega) | (simp only []; omega)) ⟨by dsimp only; omega, by simp [hc]⟩ (by exact Imp.arr (by repeat (first | exact Arr.nil | exact Arr.stop | refine Arr.cons (by repeat constructor) ?_ | refine Arr.skip ?_))) ⟨rfl, trivial⟩
    · repeat (first|refine zA ?_|refine zB ?_|refine zC ?_|refine zD ?_|refine zE ?_|refine zF ?_|refine zG ?_|refine zH ?_|refine zI ?_|refine zJ ?_|refine zK ?_|refine zL ?_|refine zM rfl ?_|refine zN ?_|refine zO ?_|refine zP ?_|refine zQ ?_)
      refine x_reg ?_
      first | refine x_pv (pv_move_int rfl) ?_ | refine x_pv (pv_move rfl) ?_
      first | refine x_pv (pv_addn (b := 1) rfl rfl (by first | omega | exact Nat.le_of_ble_eq_true rfl | (simp; done) | (simp; omega) | decide)) ?_ | refine x_pv (pv_add_i rfl rfl (by first | omega | exact Nat.le_of_ble_eq_true rfl | (simp; done) | (simp; omega) | decide)) ?_
      first | refine x_pv (pv_assign_int rfl) ?_ | refine x_pv (pv_assign rfl) ?_
      refine x_nil ?_
      repeat (first|refine zA ?_|refine zB ?_|refine zC ?_|refine zD ?_|refine zE ?_|refine zF ?_|refine zG ?_|refine zH ?_|refine zI ?_|refine zJ ?_|refine zK ?_|refine zL ?_|refine zM rfl ?_|refine zN ?_|refine zO ?_|refine zP ?_|refine zQ ?_)
      refine x_loop_n (i + 1, bl.set i (gi, c)) (by first | omega | (dsimp only; omega) | (simp only []; omega)) ⟨by dsimp only; omega, hbl.set i hib (gi, c) (by show (gi, c.length) = (bl[i].1, bl[i].2.length); rw [hat.1, hat.2, hc])⟩ ?_ ⟨rfl, trivial⟩
      exact (Imp.arr (N := blkB (gi, c) :: star blkB (bl.eraseIdx i) :: [cl g (((gs.zipIdx).map (rowV rows))).toArray 31, cl b2 (key.map u8b).toArray 24, old W]) (by repeat (first | exact Arr.nil | exact Arr.stop | refine Arr.cons (by repeat constructor) ?_ | refine Arr.skip ?_))).trans (star_back hib (gi, c))
  · have hrs := hbl.rs (M := [star blkB bl, cl g (((gs.zipIdx).map (rowV rows))).toArray 31]) hgl (by repeat constructor) (by repeat constructor) hrel (by omega)
    have hrs2 := hbl.rs (M := [star blkB bl, cl g (((gs.zipIdx).map (rowV rows))).toArray 31]) hgl (by repeat constructor) (by repeat constructor) hrel (by omega)
    have hqn : (blQ rows.length bl).length = rows.length := blQ_len (by omega)
    have hlens := hbl.lens hgl
    generalize blQ rows.length bl = Q at hrs hqn hlens
    have hQl : ∀ x ∈ Q, x.2.length ≤ 140737488355328 := fun x hx => by
      obtain ⟨k, hk2, rfl⟩ := List.getElem_of_mem hx
      have h1 := joinB_succ Q k hk2
      have h2 := joinB_le Q (k + 1)
      rw [h1, List.length_append] at h2
      omega
    repeat (first|refine zA ?_|refine zB ?_|refine zC ?_|refine zD ?_|refine zE ?_|refine zF ?_|refine zG ?_|refine zH ?_|refine zI ?_|refine zJ ?_|refine zK ?_|refine zL ?_|refine zM rfl ?_|refine zN ?_|refine zO ?_|refine zP ?_|refine zQ ?_)
    refine x_reg ?_
    first | refine x_pv (pv_move_slice rfl) ?_ | refine x_pv (pv_move rfl) ?_
    refine x_call rfl (by kernel_rfl) (copyRows_x (L := [star blkB bl, cl g (((gs.zipIdx).map (rowV rows))).toArray 31]) hrs (by omega) hQl) rfl (by repeat (first | exact Take.nil | exact Take.all | (apply Take.cons; (next => (repeat constructor); done)) | apply Take.skip)) ?_
    rintro _ _ ⟨qs, ra, rc, hqs, rfl, rfl⟩
    refine xo_app (by repeat (first | exact App.nil | apply App.cons | (apply App.flip; first | exact App.nil | apply App.cons) | exact App.any)) ?_
    first | refine x_pv (pv_assign_slice rfl) ?_ | refine x_pv (pv_assign rfl) ?_
    refine x_nil ?_
    repeat (first|refine zA ?_|refine zB ?_|refine zC ?_|refine zD ?_|refine zE ?_|refine zF ?_|refine zG ?_|refine zH ?_|refine zI ?_|refine zJ ?_|refine zK ?_|refine zL ?_|refine zM rfl ?_|refine zN ?_|refine zO ?_|refine zP ?_|refine zQ ?_)
    have hqj2 : joinB qs = joinB Q := by unfold joinB; rw [hqs]
    have hqsl : qs.length = rows.length := by have := congrArg List.length hqs; simp at this; omega
    have hcl2 := code_len key (joinB qs)
    have hcl3 := code_len key (joinB Q)
    repeat (first|refine zA ?_|refine zB ?_|refine zC ?_|refine zD ?_|refine zE ?_|refine zF ?_|refine zG ?_|refine zH ?_|refine zI ?_|refine zJ ?_|refine zK ?_|refine zL ?_|refine zM rfl ?_|refine zN ?_|refine zO ?_|refine zP ?_|refine zQ ?_)
    refine x_draw ([cl b2 (key.map u8b).toArray 24]) [0, 1, 2, 3, 4, 5] (.r 0 (.r 1 (.r 3 (.r 4 (.e 2 true (.e 5 true (.e 6 false (.q 7 (.q 8 (.e 9 false (.q 10 (.q 11 .nil)))))))))))) (by kernel_rfl) (by kernel_rfl) (Imp.arr (by repeat (first | exact Arr.nil | exact Arr.stop | refine Arr.cons (by repeat constructor) ?_ | refine Arr.skip ?_))) ?_
    first | refine cx_load_all rfl rfl (by repeat constructor) (by first | rfl | omega | (rw [szL]; omega) | exact Nat.le_of_ble_eq_true rfl | (simp; done) | (simp; omega)) ?_ | refine cx_load_agg rfl rfl (by repeat constructor) (by first | rfl | omega | (rw [szL]; omega) | exact Nat.le_of_ble_eq_true rfl | (simp; done) | (simp; omega)) rfl ?_
    first | refine cx_p rfl (pv_move_slice rfl) ?_ | refine cx_p rfl (pv_move rfl) ?_
    first | refine cx_load_all rfl rfl (by repeat constructor) (by first | rfl | omega | (rw [szL]; omega) | exact Nat.le_of_ble_eq_true rfl | (simp; done) | (simp; omega)) ?_ | refine cx_load_agg rfl rfl (by repeat constructor) (by first | rfl | omega | (rw [szL]; omega) | exact Nat.le_of_ble_eq_true rfl | (simp; done) | (simp; omega)) rfl ?_
    first | refine cx_p rfl (pv_move_slice rfl) ?_ | refine cx_p rfl (pv_move rfl) ?_
    refine cx_e rfl ?_
    refine x_call rfl (by kernel_rfl) (tsum_c (L := [star blkB bl, cl g (((gs.zipIdx).map (rowV rows))).toArray 31]) key hk hrs (by omega)) rfl (by repeat (first | exact Take.nil | exact Take.all | (apply Take.cons; (next => (repeat constructor); done)) | apply Take.skip)) ?_
    rintro _ _ ⟨rfl, rfl⟩
    refine xo_app (by repeat (first | exact App.nil | apply App.cons | (apply App.flip; first | exact App.nil | apply App.cons) | exact App.any)) ?_
    refine x_nil ⟨fun _ => Imp.arr (by repeat (first | exact Arr.nil | exact Arr.stop | refine Arr.cons (by repeat constructor) ?_ | refine Arr.skip ?_)), ?_⟩
    refine cx_e rfl ?_
    refine x_call rfl (by kernel_rfl) (join_x (L := [own 31 1 (.slice ra qs.length rc) qs.length (qs.map (·.1)), star rowA qs]) (rs_rows (by repeat constructor) (by repeat constructor)) (by rw [hqj2]; omega)) rfl (by repeat (first | exact Take.nil | exact Take.all | (apply Take.cons; (next => (repeat constructor); done)) | apply Take.skip)) ?_
    rintro _ _ ⟨ja2, jc2, rfl, rfl⟩
    refine xo_app (by repeat (first | exact App.nil | apply App.cons | (apply App.flip; first | exact App.nil | apply App.cons) | exact App.any)) ?_
    refine x_nil ⟨fun _ => Imp.arr (by repeat (first | exact Arr.nil | exact Arr.stop | refine Arr.cons (by repeat constructor) ?_ | refine Arr.skip ?_)), ?_⟩
    refine cx_e rfl ?_
    refine x_call rfl (by kernel_rfl) (rsum_x (L := [own 5 1 (.slice ja2 (joinB qs).length jc2) (joinB qs).length ((joinB qs).map u8b)]) key hk (Bs.own .here) (by rw [hqj2]; omega)) rfl (by repeat (first | exact Take.nil | exact Take.all | (apply Take.cons; (next => (repeat constructor); done)) | apply Take.skip)) ?_
    rintro _ _ ⟨rfl, rfl⟩
    refine xo_app (by repeat (first | exact App.nil | apply App.cons | (apply App.flip; first | exact App.nil | apply App.cons) | exact App.any)) ?_
    refine x_nil ⟨(fun hh => Bool.noConfusion hh), ?_⟩
    refine cx_q rfl (pv_eql_ba (n := 16) (a := code key (joinB Q)) (b := code key (joinB qs)) hcl3 hcl2 rfl rfl) ?_
    refine cx_isT 70 rfl (decide_eq_true ((by rw [hqj2]))) ?_
    first | refine cx_q rfl (pv_move_bool rfl) ?_ | refine cx_q rfl (pv_move rfl) ?_
    refine cx_e rfl ?_
    first | refine x_gn rfl ?_ | refine x_gu rfl ?_ | (refine x_gy rfl ?_; (refine x_call rfl (by kernel_rfl) (works_x) rfl (by repeat (first | exact Take.nil | exact Take.all | (apply Take.cons; (next => (repeat constructor); done)) | apply Take.skip)) ?_); (rintro _ _ ⟨rfl, rfl⟩); (refine xo_app (by repeat (first | exact App.nil | apply App.cons | (apply App.flip; first | exact App.nil | apply App.cons) | exact App.any)) ?_))
    refine x_nil ⟨(fun hh => Bool.noConfusion hh), ?_⟩
    first | refine cx_q rfl (pv_pick_tb rfl rfl) ?_ | refine cx_q rfl (pv_pick_fb rfl rfl) ?_ | refine cx_q rfl (pv_pick_t rfl rfl) ?_ | refine cx_q rfl (pv_pick_f rfl rfl) ?_ | refine cx_q rfl (pv_pick_and rfl rfl) ?_ | refine cx_q rfl (pv_pick_or rfl rfl) ?_
    first | refine cx_q rfl (pv_assign_bool rfl) ?_ | refine cx_q rfl (pv_assign rfl) ?_
    refine cx_nil ?_
    repeat (first|refine zA ?_|refine zB ?_|refine zC ?_|refine zD ?_|refine zE ?_|refine zF ?_|refine zG ?_|refine zH ?_|refine zI ?_|refine zJ ?_|refine zK ?_|refine zL ?_|refine zM rfl ?_|refine zN ?_|refine zO ?_|refine zP ?_|refine zQ ?_)
    refine rx1 (rx_bool rfl (rx_nil)) ?_
    exact ⟨_, ⟨rfl, rfl⟩, by exact Imp.arr (by repeat (first | exact Arr.nil | exact Arr.stop | refine Arr.cons (by repeat constructor) ?_ | refine Arr.skip ?_))⟩
end Go.Sl
