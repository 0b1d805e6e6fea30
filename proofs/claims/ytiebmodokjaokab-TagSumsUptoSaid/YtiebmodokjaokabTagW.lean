/- trystlaw06: what the document fixes (works). -/
import Derived.Test.YtiebmodokjaokabTagD
import Derived.Test.YtiebmodokjaokabRefB
set_option maxHeartbeats 4000000
set_option maxRecDepth 10000
set_option linter.unusedVariables false
set_option linter.unusedSimpArgs false
namespace Go.Sl
open Go Go.Proofs
attribute [local irreducible] cl pt own old pur ex all den denOps denS xOps xC cX CX xthen xblk xcut xloop retX resX Calls PV Rd Con
attribute [local irreducible] pc writeS takeW full put1 setU setH
def key2 : List Byte := 2#8 :: List.replicate 31 0#8
def m255 : List Byte := List.replicate 16 255#8
def tag3 : List Byte := 3#8 :: List.replicate 15 0#8
def tag2 : List Byte := 2#8 :: List.replicate 15 0#8
theorem code_w1 : code key2 m255 = tag3 := by decide +kernel
theorem code_w2 : sumS (newS key2) = List.replicate 16 0#8 := by decide +kernel
theorem works_x : Con Try.prog 11 [] [] (fun v M => v = .bool true ∧ M = []) := by
  refine fn_x Try.func11 rfl rfl rfl Try.mixed (by kernel_rfl) ?_
  intro w0
  repeat (first|refine zA ?_|refine zB ?_|refine zC ?_|refine zD ?_|refine zE ?_|refine zF ?_|refine zG ?_|refine zH ?_|refine zI ?_|refine zJ ?_|refine zK ?_|refine zL ?_|refine zM rfl ?_|refine zN ?_|refine zO ?_|refine zP ?_|refine zQ ?_)
  refine x_reg ?_
  first | refine x_pv (pv_assign_bool rfl) ?_ | refine x_pv (pv_assign rfl) ?_
  refine x_nil ?_
  repeat (first|refine zA ?_|refine zB ?_|refine zC ?_|refine zD ?_|refine zE ?_|refine zF ?_|refine zG ?_|refine zH ?_|refine zI ?_|refine zJ ?_|refine zK ?_|refine zL ?_|refine zM rfl ?_|refine zN ?_|refine zO ?_|refine zP ?_|refine zQ ?_)
  refine x_reg ?_
  refine x_pv (pv_build_arr (cs := #[u8b 2#8, u8b 0#8, u8b 0#8, u8b 0#8, u8b 0#8, u8b 0#8, u8b 0#8, u8b 0#8, u8b 0#8, u8b 0#8, u8b 0#8, u8b 0#8, u8b 0#8, u8b 0#8, u8b 0#8, u8b 0#8, u8b 0#8, u8b 0#8, u8b 0#8, u8b 0#8, u8b 0#8, u8b 0#8, u8b 0#8, u8b 0#8, u8b 0#8, u8b 0#8, u8b 0#8, u8b 0#8, u8b 0#8, u8b 0#8, u8b 0#8, u8b 0#8]) (by kernel_rfl)) ?_
  refine x_alloc (cs := ((List.replicate 32 0#8).map u8b).toArray) rfl ?_; intro b1
  first | refine x_store_all rfl rfl (by repeat constructor) (by first | rfl | omega | (rw [szL]; omega) | exact Nat.le_of_ble_eq_true rfl | (simp; done) | (simp; omega)) (by first | rfl | exact oneM_u8 _ | exact oneL_u8 _ | exact pc_one _ | (simp [oneC]; done)) (by first | rfl | omega | (rw [szL]; omega) | exact Nat.le_of_ble_eq_true rfl | (simp; done) | (simp; omega)) ?_ | refine x_store_agg rfl rfl (by repeat constructor) (by first | rfl | omega | (rw [szL]; omega) | exact Nat.le_of_ble_eq_true rfl | (simp; done) | (simp; omega)) (by first | rfl | exact oneM_u8 _ | exact oneL_u8 _ | exact pc_one _ | (simp [oneC]; done)) (by first | rfl | omega | (rw [szL]; omega) | exact Nat.le_of_ble_eq_true rfl | (simp; done) | (simp; omega)) rfl ?_
  refine x_nil ?_
  repeat (first|refine zA ?_|refine zB ?_|refine zC ?_|refine zD ?_|refine zE ?_|refine zF ?_|refine zG ?_|refine zH ?_|refine zI ?_|refine zJ ?_|refine zK ?_|refine zL ?_|refine zM rfl ?_|refine zN ?_|refine zO ?_|refine zP ?_|refine zQ ?_)
  refine x_reg ?_
  refine x_buildSlice (cs := #[u8b 255#8, u8b 255#8, u8b 255#8, u8b 255#8, u8b 255#8, u8b 255#8, u8b 255#8, u8b 255#8, u8b 255#8, u8b 255#8, u8b 255#8, u8b 255#8, u8b 255#8, u8b 255#8, u8b 255#8, u8b 255#8]) (by omega) (by omega) (by kernel_rfl) ?_; intro b5
  first | refine x_pv (pv_assign_slice rfl) ?_ | refine x_pv (pv_assign rfl) ?_
  refine x_nil ?_
  repeat (first|refine zA ?_|refine zB ?_|refine zC ?_|refine zD ?_|refine zE ?_|refine zF ?_|refine zG ?_|refine zH ?_|refine zI ?_|refine zJ ?_|refine zK ?_|refine zL ?_|refine zM rfl ?_|refine zN ?_|refine zO ?_|refine zP ?_|refine zQ ?_)
  refine x_reg ?_
  first | refine x_load_all rfl (by repeat constructor) (by first | rfl | omega | (rw [szL]; omega) | exact Nat.le_of_ble_eq_true rfl | (simp; done) | (simp; omega)) ?_ | refine x_load_agg rfl (by repeat constructor) (by first | rfl | omega | (rw [szL]; omega) | exact Nat.le_of_ble_eq_true rfl | (simp; done) | (simp; omega)) rfl ?_
  refine x_call rfl (by kernel_rfl) (new_c key2 rfl) rfl (by repeat (first | exact Take.nil | exact Take.all | (apply Take.cons; (next => repeat constructor; done)) | apply Take.skip)) ?_
  rintro _ _ ⟨p, rfl, rfl⟩
  refine xo_app (by repeat (first | exact App.nil | apply App.cons | (apply App.flip; first | exact App.nil | apply App.cons) | exact App.any)) ?_
  first | refine x_pv (pv_assign_ptr rfl) ?_ | refine x_pv (pv_assign rfl) ?_
  refine x_nil ?_
  repeat (first|refine zA ?_|refine zB ?_|refine zC ?_|refine zD ?_|refine zE ?_|refine zF ?_|refine zG ?_|refine zH ?_|refine zI ?_|refine zJ ?_|refine zK ?_|refine zL ?_|refine zM rfl ?_|refine zN ?_|refine zO ?_|refine zP ?_|refine zQ ?_)
  have hm : ∀ {M M' : List Asrt}, Has M (cl b5 (m255.map u8b).toArray 5) M' → Bs M (.slice (some ⟨b5, 0, none⟩) 16 16) m255 := fun h => Bs.cl (l := m255) h (by decide) rfl (by decide) (by decide)
  have hm1 : ∀ {M M' : List Asrt}, Has M (cl b5 (m255.map u8b).toArray 5) M' → Bs M (.slice (some ⟨b5, 0, none⟩) 9 16) (m255.take 9) := fun h => Bs.cl (l := m255.take 9) h (by decide) rfl (by decide) (by decide)
  have hm2 : ∀ {M M' : List Asrt}, Has M (cl b5 (m255.map u8b).toArray 5) M' → Bs M (.slice (some ⟨b5, 9, none⟩) 7 7) (m255.drop 9) := fun h => Bs.cl (o := 9) (l := m255.drop 9) h (by decide) rfl (by decide) (by decide)
  refine x_ent (N := [cl p (pc (newS key2)) 74, cl b5 (m255.map u8b).toArray 5, cl b1 (key2.map u8b).toArray 24]) (by exact Imp.arr (by repeat (first | exact Arr.nil | exact Arr.stop | refine Arr.cons (by repeat constructor) ?_ | refine Arr.skip ?_))) ?_
  repeat (first|refine zA ?_|refine zB ?_|refine zC ?_|refine zD ?_|refine zE ?_|refine zF ?_|refine zG ?_|refine zH ?_|refine zI ?_|refine zJ ?_|refine zK ?_|refine zL ?_|refine zM rfl ?_|refine zN ?_|refine zO ?_|refine zP ?_|refine zQ ?_)
  refine x_draw ([cl b1 (key2.map u8b).toArray 24]) [0, 1, 2, 3, 4, 7, 8, 9, 10, 11, 12, 13, 14, 17, 18, 19, 20] (.r 0 (.r 1 (.r 4 (.e 2 true (.e 3 true (.q 5 (.q 6 (.r 7 (.r 8 (.r 9 (.r 10 (.r 11 (.r 12 (.e 13 true (.e 14 true (.q 15 (.q 16 (.r 17 (.r 18 (.r 19 (.e 20 true (.e 21 false (.q 22 (.q 23 (.q 24 (.q 25 (.q 26 (.q 27 (.q 28 (.q 29 (.q 31 (.e 30 false (.q 32 (.q 33 (.q 34 .nil))))))))))))))))))))))))))))))))))) (by kernel_rfl) (by kernel_rfl) (Imp.arr (by repeat (first | exact Arr.nil | exact Arr.stop | refine Arr.cons (by repeat constructor) ?_ | refine Arr.skip ?_))) ?_
  first | refine cx_load_all rfl rfl (by repeat constructor) (by first | rfl | omega | (rw [szL]; omega) | exact Nat.le_of_ble_eq_true rfl | (simp; done) | (simp; omega)) ?_ | refine cx_load_agg rfl rfl (by repeat constructor) (by first | rfl | omega | (rw [szL]; omega) | exact Nat.le_of_ble_eq_true rfl | (simp; done) | (simp; omega)) rfl ?_
  first | refine cx_p rfl (pv_move_slice rfl) ?_ | refine cx_p rfl (pv_move rfl) ?_
  refine cx_p rfl (pv_build_arr (cs := #[u8b 3#8, u8b 0#8, u8b 0#8, u8b 0#8, u8b 0#8, u8b 0#8, u8b 0#8, u8b 0#8, u8b 0#8, u8b 0#8, u8b 0#8, u8b 0#8, u8b 0#8, u8b 0#8, u8b 0#8, u8b 0#8]) (by kernel_rfl)) ?_
  refine cx_e rfl ?_
  refine x_buildSlice (cs := #[.slice _ _ _]) (by omega) (by omega) rfl ?_; intro b10
  refine x_nil ⟨fun _ => Imp.arr (by repeat (first | exact Arr.nil | exact Arr.stop | refine Arr.cons (by repeat constructor) ?_ | refine Arr.skip ?_)), ?_⟩
  refine cx_e rfl ?_
  refine x_call rfl (by kernel_rfl) (tsum_c (L := [cl b10 #[.slice (some ⟨b5, 0, none⟩) 16 16] 31, cl b5 (m255.map u8b).toArray 5]) key2 rfl (ps := [(.slice (some ⟨b5, 0, none⟩) 16 16, m255)]) (Rs.cl (o := 0) (by repeat constructor) (by simp) rfl (by simp) (by simp) (by intro x hx; simp only [List.mem_cons, List.not_mem_nil, or_false] at hx; subst hx; exact hm (by repeat constructor))) (by simp)) rfl (by repeat (first | exact Take.nil | exact Take.all | (apply Take.cons; (next => repeat constructor; done)) | apply Take.skip)) ?_
  rintro _ _ ⟨rfl, rfl⟩
  refine xo_app (by repeat (first | exact App.nil | apply App.cons | (apply App.flip; first | exact App.nil | apply App.cons) | exact App.any)) ?_
  refine x_nil ⟨fun _ => Imp.arr (by repeat (first | exact Arr.nil | exact Arr.stop | refine Arr.cons (by repeat constructor) ?_ | refine Arr.skip ?_)), ?_⟩
  refine cx_q rfl (pv_eql_ba (n := 16) (a := code key2 m255) (b := tag3) (code_len _ _) rfl rfl rfl) ?_
  refine cx_isT 13 rfl (decide_eq_true code_w1) ?_
  first | refine cx_q rfl (pv_move_bool rfl) ?_ | refine cx_q rfl (pv_move rfl) ?_
  first | refine cx_pn rfl rfl ?_ | refine cx_pu rfl rfl ?_ | refine cx_load_ally rfl rfl rfl (by repeat constructor) (by first | rfl | omega | (rw [szL]; omega) | exact Nat.le_of_ble_eq_true rfl | (simp; done) | (simp; omega)) ?_ | refine cx_load_aggy rfl rfl rfl (by repeat constructor) (by first | rfl | omega | (rw [szL]; omega) | exact Nat.le_of_ble_eq_true rfl | (simp; done) | (simp; omega)) rfl ?_
  first | refine cx_pn rfl rfl ?_ | refine cx_pu rfl rfl ?_ | refine cx_py rfl rfl (pv_build_arr (cs := #[u8b 3#8, u8b 0#8, u8b 0#8, u8b 0#8, u8b 0#8, u8b 0#8, u8b 0#8, u8b 0#8, u8b 0#8, u8b 0#8, u8b 0#8, u8b 0#8, u8b 0#8, u8b 0#8, u8b 0#8, u8b 0#8]) (by kernel_rfl)) ?_
  first | refine cx_pn rfl rfl ?_ | refine cx_pu rfl rfl ?_ | refine cx_py rfl rfl (pv_move_slice rfl) ?_ | refine cx_py rfl rfl (pv_move rfl) ?_
  first | refine cx_pn rfl rfl ?_ | refine cx_pu rfl rfl ?_ | refine cx_py rfl rfl (pv_sls0 (h := 9) rfl rfl (by first | omega | exact Nat.le_of_ble_eq_true rfl | (simp; done) | (simp; omega) | decide)) ?_
  first | refine cx_pn rfl rfl ?_ | refine cx_pu rfl rfl ?_ | refine cx_py rfl rfl (pv_move_slice rfl) ?_ | refine cx_py rfl rfl (pv_move rfl) ?_
  first | refine cx_pn rfl rfl ?_ | refine cx_pu rfl rfl ?_ | refine cx_py rfl rfl (pv_sls1 (l := 9) rfl rfl rfl (by first | omega | exact Nat.le_of_ble_eq_true rfl | (simp; done) | (simp; omega) | decide) (by first | omega | exact Nat.le_of_ble_eq_true rfl | (simp; done) | (simp; omega) | decide) (by first | omega | exact Nat.le_of_ble_eq_true rfl | (simp; done) | (simp; omega) | decide)) ?_
  refine cx_e rfl ?_
  first | refine x_gn rfl ?_ | refine x_gu rfl ?_ | (refine x_gy rfl ?_; (refine x_buildSlice (cs := #[.slice _ _ _, .slice _ _ _]) (by omega) (by omega) rfl ?_; intro b21))
  refine x_nil ⟨fun _ => Imp.arr (by repeat (first | exact Arr.nil | exact Arr.stop | refine Arr.cons (by repeat constructor) ?_ | refine Arr.skip ?_)), ?_⟩
  refine cx_e rfl ?_
  first | refine x_gn rfl ?_ | refine x_gu rfl ?_ | (refine x_gy rfl ?_; (refine x_call rfl (by kernel_rfl) (check_c (L := [cl b21 #[.slice (some ⟨b5, 0, none⟩) 9 16, .slice (some ⟨b5, 9, none⟩) 7 7] 31, cl b5 (m255.map u8b).toArray 5]) key2 rfl tag3 rfl (ps := [(.slice (some ⟨b5, 0, none⟩) 9 16, m255.take 9), (.slice (some ⟨b5, 9, none⟩) 7 7, m255.drop 9)]) (Rs.cl (o := 0) (by repeat constructor) (by simp) rfl (by simp) (by simp) (by intro x hx; simp only [List.mem_cons, List.not_mem_nil, or_false] at hx; rcases hx with rfl | rfl; exact hm1 (by repeat constructor); exact hm2 (by repeat constructor))) (by simp)) rfl (by repeat (first | exact Take.nil | exact Take.all | (apply Take.cons; (next => repeat constructor; done)) | apply Take.skip)) ?_); (rintro _ _ ⟨rfl, rfl⟩); (refine xo_app (by repeat (first | exact App.nil | apply App.cons | (apply App.flip; first | exact App.nil | apply App.cons) | exact App.any)) ?_))
  refine x_nil ⟨fun _ => Imp.arr (by repeat (first | exact Arr.nil | exact Arr.stop | refine Arr.cons (by repeat constructor) ?_ | refine Arr.skip ?_)), ?_⟩
  refine cx_isT 22 rfl (decide_eq_true code_w1) ?_
  first | refine cx_q rfl (pv_pick_tb rfl rfl) ?_ | refine cx_q rfl (pv_pick_fb rfl rfl) ?_ | refine cx_q rfl (pv_pick_t rfl rfl) ?_ | refine cx_q rfl (pv_pick_f rfl rfl) ?_ | refine cx_q rfl (pv_pick_and rfl rfl) ?_ | refine cx_q rfl (pv_pick_or rfl rfl) ?_
  first | refine cx_q rfl (pv_move_bool rfl) ?_ | refine cx_q rfl (pv_move rfl) ?_
  first | refine cx_pn rfl rfl ?_ | refine cx_pu rfl rfl ?_ | refine cx_load_ally rfl rfl rfl (by repeat constructor) (by first | rfl | omega | (rw [szL]; omega) | exact Nat.le_of_ble_eq_true rfl | (simp; done) | (simp; omega)) ?_ | refine cx_load_aggy rfl rfl rfl (by repeat constructor) (by first | rfl | omega | (rw [szL]; omega) | exact Nat.le_of_ble_eq_true rfl | (simp; done) | (simp; omega)) rfl ?_
  first | refine cx_pn rfl rfl ?_ | refine cx_pu rfl rfl ?_ | refine cx_py rfl rfl (pv_build_arr (cs := #[u8b 2#8, u8b 0#8, u8b 0#8, u8b 0#8, u8b 0#8, u8b 0#8, u8b 0#8, u8b 0#8, u8b 0#8, u8b 0#8, u8b 0#8, u8b 0#8, u8b 0#8, u8b 0#8, u8b 0#8, u8b 0#8]) (by kernel_rfl)) ?_
  first | refine cx_pn rfl rfl ?_ | refine cx_pu rfl rfl ?_ | refine cx_py rfl rfl (pv_move_slice rfl) ?_ | refine cx_py rfl rfl (pv_move rfl) ?_
  refine cx_e rfl ?_
  first | refine x_gn rfl ?_ | refine x_gu rfl ?_ | (refine x_gy rfl ?_; (refine x_buildSlice (cs := #[.slice _ _ _]) (by omega) (by omega) rfl ?_; intro b28))
  refine x_nil ⟨fun _ => Imp.arr (by repeat (first | exact Arr.nil | exact Arr.stop | refine Arr.cons (by repeat constructor) ?_ | refine Arr.skip ?_)), ?_⟩
  refine cx_e rfl ?_
  first | refine x_gn rfl ?_ | refine x_gu rfl ?_ | (refine x_gy rfl ?_; (refine x_call rfl (by kernel_rfl) (check_c (L := [cl b28 #[.slice (some ⟨b5, 0, none⟩) 16 16] 31, cl b5 (m255.map u8b).toArray 5]) key2 rfl tag2 rfl (ps := [(.slice (some ⟨b5, 0, none⟩) 16 16, m255)]) (Rs.cl (o := 0) (by repeat constructor) (by simp) rfl (by simp) (by simp) (by intro x hx; simp only [List.mem_cons, List.not_mem_nil, or_false] at hx; subst hx; exact hm (by repeat constructor))) (by simp)) rfl (by repeat (first | exact Take.nil | exact Take.all | (apply Take.cons; (next => repeat constructor; done)) | apply Take.skip)) ?_); (rintro _ _ ⟨rfl, rfl⟩); (refine xo_app (by repeat (first | exact App.nil | apply App.cons | (apply App.flip; first | exact App.nil | apply App.cons) | exact App.any)) ?_))
  refine x_nil ⟨(fun hh => Bool.noConfusion hh), ?_⟩
  refine cx_isF 29 rfl (decide_eq_false (by show ¬ code key2 m255 = tag2; rw [code_w1]; decide)) ?_
  first | refine cx_qn rfl rfl ?_ | refine cx_qu rfl rfl ?_ | refine cx_qy rfl rfl (pv_not_p rfl) ?_ | refine cx_qy rfl rfl (pv_not rfl) ?_
  first | refine cx_q rfl (pv_pick_tb rfl rfl) ?_ | refine cx_q rfl (pv_pick_fb rfl rfl) ?_ | refine cx_q rfl (pv_pick_t rfl rfl) ?_ | refine cx_q rfl (pv_pick_f rfl rfl) ?_ | refine cx_q rfl (pv_pick_and rfl rfl) ?_ | refine cx_q rfl (pv_pick_or rfl rfl) ?_
  first | refine cx_q rfl (pv_move_bool rfl) ?_ | refine cx_q rfl (pv_move rfl) ?_
  first | refine cx_qn rfl rfl ?_ | refine cx_qu rfl rfl ?_ | refine cx_qy rfl rfl (pv_move_ptr rfl) ?_ | refine cx_qy rfl rfl (pv_move rfl) ?_
  first | refine cx_qn rfl rfl ?_ | refine cx_qu rfl rfl ?_ | refine cx_qy rfl rfl (pv_neq_ptr_nil rfl rfl) ?_
  first | refine cx_q rfl (pv_pick_tb rfl rfl) ?_ | refine cx_q rfl (pv_pick_fb rfl rfl) ?_ | refine cx_q rfl (pv_pick_t rfl rfl) ?_ | refine cx_q rfl (pv_pick_f rfl rfl) ?_ | refine cx_q rfl (pv_pick_and rfl rfl) ?_ | refine cx_q rfl (pv_pick_or rfl rfl) ?_
  first | refine cx_q rfl (pv_move_bool rfl) ?_ | refine cx_q rfl (pv_move rfl) ?_
  first | refine cx_qn rfl rfl ?_ | refine cx_qu rfl rfl ?_ | refine cx_qy rfl rfl (pv_move_ptr rfl) ?_ | refine cx_qy rfl rfl (pv_move rfl) ?_
  first | refine cx_qn rfl rfl ?_ | refine cx_qu rfl rfl ?_ | refine cx_qy rfl rfl (pv_build_arr (cs := #[u8b 0#8, u8b 0#8, u8b 0#8, u8b 0#8, u8b 0#8, u8b 0#8, u8b 0#8, u8b 0#8, u8b 0#8, u8b 0#8, u8b 0#8, u8b 0#8, u8b 0#8, u8b 0#8, u8b 0#8, u8b 0#8]) (by kernel_rfl)) ?_
  refine cx_e rfl ?_
  first | refine x_gn rfl ?_ | refine x_gu rfl ?_ | (refine x_gy rfl ?_; (refine x_call rfl (by kernel_rfl) (sum_c (newS key2) (newS_ok key2)) rfl (by repeat (first | exact Take.nil | exact Take.all | (apply Take.cons; (next => repeat constructor; done)) | apply Take.skip)) ?_); (rintro _ _ ⟨rfl, rfl⟩); (refine xo_app (by repeat (first | exact App.nil | apply App.cons | (apply App.flip; first | exact App.nil | apply App.cons) | exact App.any)) ?_))
  refine x_nil ⟨(fun hh => Bool.noConfusion hh), ?_⟩
  first | refine cx_qn rfl rfl ?_ | refine cx_qu rfl rfl ?_ | refine cx_qy rfl rfl (pv_eql_ba (n := 16) (a := sumS (newS key2)) (b := List.replicate 16 0#8) (bytesOf_len _) rfl rfl rfl) ?_
  refine cx_isT 40 rfl (decide_eq_true code_w2) ?_
  first | refine cx_q rfl (pv_pick_tb rfl rfl) ?_ | refine cx_q rfl (pv_pick_fb rfl rfl) ?_ | refine cx_q rfl (pv_pick_t rfl rfl) ?_ | refine cx_q rfl (pv_pick_f rfl rfl) ?_ | refine cx_q rfl (pv_pick_and rfl rfl) ?_ | refine cx_q rfl (pv_pick_or rfl rfl) ?_
  first | refine cx_q rfl (pv_assign_bool rfl) ?_ | refine cx_q rfl (pv_assign rfl) ?_
  refine cx_nil ?_
  repeat (first|refine zA ?_|refine zB ?_|refine zC ?_|refine zD ?_|refine zE ?_|refine zF ?_|refine zG ?_|refine zH ?_|refine zI ?_|refine zJ ?_|refine zK ?_|refine zL ?_|refine zM rfl ?_|refine zN ?_|refine zO ?_|refine zP ?_|refine zQ ?_)
  refine rx1 (rx_bool rfl (rx_nil)) ?_
  exact ⟨_, ⟨rfl, rfl⟩, by exact Imp.arr (by repeat (first | exact Arr.nil | exact Arr.stop | refine Arr.cons (by repeat constructor) ?_ | refine Arr.skip ?_))⟩
theorem names_x : Con Try.prog 3 [] [] (fun v M => v = .bool true ∧ M = []) := by
  refine fn_x Try.func3 rfl rfl rfl Try.mixed (by kernel_rfl) ?_
  intro w0
  repeat (first|refine zA ?_|refine zB ?_|refine zC ?_|refine zD ?_|refine zE ?_|refine zF ?_|refine zG ?_|refine zH ?_|refine zI ?_|refine zJ ?_|refine zK ?_|refine zL ?_|refine zM rfl ?_|refine zN ?_|refine zO ?_|refine zP ?_|refine zQ ?_)
  refine x_reg ?_
  first | refine x_pv (pv_assign_bool rfl) ?_ | refine x_pv (pv_assign rfl) ?_
  refine x_nil ?_
  repeat (first|refine zA ?_|refine zB ?_|refine zC ?_|refine zD ?_|refine zE ?_|refine zF ?_|refine zG ?_|refine zH ?_|refine zI ?_|refine zJ ?_|refine zK ?_|refine zL ?_|refine zM rfl ?_|refine zN ?_|refine zO ?_|refine zP ?_|refine zQ ?_)
  refine x_reg ?_
  first | refine x_pv (pv_move_bool rfl) ?_ | refine x_pv (pv_move rfl) ?_
  first | refine x_gn rfl ?_ | refine x_gu rfl ?_ | (refine x_gy rfl ?_; (refine x_call rfl (by kernel_rfl) (works_x) rfl (by repeat (first | exact Take.nil | exact Take.all | (apply Take.cons; (next => repeat constructor; done)) | apply Take.skip)) ?_); (rintro _ _ ⟨rfl, rfl⟩); (refine xo_app (by repeat (first | exact App.nil | apply App.cons | (apply App.flip; first | exact App.nil | apply App.cons) | exact App.any)) ?_))
  first | refine x_pv (pv_pick_tb rfl rfl) ?_ | refine x_pv (pv_pick_fb rfl rfl) ?_ | refine x_pv (pv_pick_t rfl rfl) ?_ | refine x_pv (pv_pick_f rfl rfl) ?_ | refine x_pv (pv_pick_and rfl rfl) ?_ | refine x_pv (pv_pick_or rfl rfl) ?_
  first | refine x_pv (pv_assign_bool rfl) ?_ | refine x_pv (pv_assign rfl) ?_
  refine x_nil ?_
  repeat (first|refine zA ?_|refine zB ?_|refine zC ?_|refine zD ?_|refine zE ?_|refine zF ?_|refine zG ?_|refine zH ?_|refine zI ?_|refine zJ ?_|refine zK ?_|refine zL ?_|refine zM rfl ?_|refine zN ?_|refine zO ?_|refine zP ?_|refine zQ ?_)
  refine rx1 (rx_bool rfl (rx_nil)) ?_
  exact ⟨_, ⟨rfl, rfl⟩, by exact Imp.arr (by repeat (first | exact Arr.nil | exact Arr.stop | refine Arr.cons (by repeat constructor) ?_ | refine Arr.skip ?_))⟩
end Go.Sl
