/- Parts of the proof, joined: TagX, EngJ, TagY. -/
import Derived.Test.YtiebmodokjaokabLawTagPlaysM0
import Derived.Test.YtiebmodokjaokabLawTagPlaysM1
import Derived.Test.YtiebmodokjaokabLawTagPlaysM2
import Derived.Test.YtiebmodokjaokabLawTagPlaysM3
import Derived.Test.YtiebmodokjaokabLawTagPlaysM4
import Derived.LaidEql
/- trystlaw06: a step of TagPlays, walked. -/
set_option maxHeartbeats 4000000
set_option maxRecDepth 10000
set_option linter.unusedVariables false
set_option linter.unusedSimpArgs false
namespace Go.Sl
open Go Go.Proofs
attribute [local irreducible] cl pt own old pur ex all den denOps denS xOps xC cX CX xthen xblk xcut xloop retX resX Calls PV Rd Con
attribute [local irreducible] pc writeS takeW full put1 setU setH code sumS spareL
theorem run_eqIn_ifc {P : Program} (w : World) (d : Nat) {ti tn : TypeId} {ms : Array (String × TypeId)} {i : TypeInfo} {k : IntKind} (a b : Int)
    (hi : P.underlying ti = some (.interface ms)) (hn : P.underlying tn = some (.int k)) (hinfo : P.info? tn = some i) (hcomp : i.comparable = true) :
    (Op.equalIn (d + 2) ti (.iface tn (.int k a)) (.iface tn (.int k b))).run P w = .ok (a == b) w := by
  simp [Op.equalIn, run_underlying hi, run_underlying hn, typeInfo, hinfo, hcomp]
theorem pv_eql_ifc_i {P : Program} {ρ : Env} {T T' tn : Nat} {x y : Operand} {ms : Array (String × TypeId)} {i : TypeInfo} {k : IntKind} {a b : Int} (h : P.underlying T = some (.interface ms)) (hn : P.underlying tn = some (.int k)) (hinfo : P.info? tn = some i) (hcomp : i.comparable = true)
    (hx : ev ρ x = .iface tn (.int k a)) (hy : ev ρ y = .iface tn (.int k b)) : PV P (.binOp .eql T x y T') ρ (.bool (a == b)) :=
  pv_bin_any hx hy (fun w => by unfold eqGuard; rfl) fun w => by
    have hr : (Op.equal T (.iface tn (.int k a)) (.iface tn (.int k b))).run P w = .ok (a == b) w := by
      unfold Op.equal Op.maxDepth; exact run_eqIn_ifc w 9998 a b h hn hinfo hcomp
    have he : binOp .eql T (.iface tn (.int k a)) (.iface tn (.int k b)) = (Op.equal T (.iface tn (.int k a)) (.iface tn (.int k b)) >>= fun b => pure (Value.bool b)) := rfl
    rw [he, run_bind P _ _ w w _ hr]; rfl
structure PairS where
  q : Nat
  key : List Byte
  all : List Byte
  a : Option Addr
  c : Nat
  pl : Bool
  nn : Bool
def pcl (P : Option Addr) (key : List Byte) (S : Value) (nn : Bool) : Array Value := ([Value.pointer P] ++ (key.map u8b ++ [S, .bool nn])).toArray
theorem pcl_size {P : Option Addr} {key : List Byte} {S : Value} {nn : Bool} (h : key.length = 32) : (pcl P key S nn).size = 35 := by simp [pcl, h]
theorem pcl_P {P : Option Addr} {key : List Byte} {S : Value} {nn : Bool} : (pcl P key S nn)[0]? = some (.pointer P) := rfl
theorem pcl_S {P : Option Addr} {key : List Byte} {S : Value} {nn : Bool} (h : key.length = 32) : (pcl P key S nn)[33]? = some S := by simp [pcl, List.getElem?_append, List.getElem?_cons, h]
theorem pcl_nn {P : Option Addr} {key : List Byte} {S : Value} {nn : Bool} (h : key.length = 32) : (pcl P key S nn)[34]? = some (.bool nn) := by simp [pcl, List.getElem?_append, List.getElem?_cons, h]
theorem pcl_key {P : Option Addr} {key : List Byte} {S : Value} {nn : Bool} (h : key.length = 32) : (pcl P key S nn).extract 1 33 = (key.map u8b).toArray := by
  apply Array.ext'
  simp only [pcl, Array.toList_extract, List.extract_eq_take_drop]
  simp [h]
theorem pcl_setP {P P' : Option Addr} {key : List Byte} {S : Value} {nn : Bool} : (pcl P key S nn).setIfInBounds 0 (.pointer P') = pcl P' key S nn := by apply Array.ext'; simp [pcl]
theorem pcl_setS {P : Option Addr} {key : List Byte} {S S' : Value} {nn : Bool} (h : key.length = 32) : (pcl P key S nn).setIfInBounds 33 S' = pcl P key S' nn := by apply Array.ext'; simp [pcl, List.set_append, List.set_cons_succ, h]
theorem pcl_setN {P : Option Addr} {key : List Byte} {S : Value} {nn nn' : Bool} (h : key.length = 32) : (pcl P key S nn).setIfInBounds 34 (.bool nn') = pcl P key S nn' := by apply Array.ext'; simp [pcl, List.set_append, List.set_cons_succ, h]
theorem pcl_setK {P : Option Addr} {key key' : List Byte} {S : Value} {nn : Bool} (h : key.length = 32) (h' : key'.length = 32) : wr (pcl P key S nn) 1 (key'.map u8b) = pcl P key' S nn := by
  apply Array.ext'
  rw [wr_toList _ _ _ (by rw [pcl_size h]; simp [h'])]
  simp [pcl, h, h']
theorem ocl_0 (o : OpV) : (o.cells.toArray)[0]? = some (.int .i64 o.kind_) := rfl
theorem ocl_1 (o : OpV) : (o.cells.toArray)[1]? = some (.int .i64 o.which_) := rfl
theorem ocl_2 (o : OpV) : (o.cells.toArray)[2]? = some o.b_V := rfl
theorem ocl_len (o : OpV) (h : o.key_.length = 32) : o.cells.length = 35 := by simp [OpV.cells, h]
theorem ocl_3 (o : OpV) (h : o.key_.length = 32) : (o.cells.toArray).extract 3 35 = (o.key_.map u8b).toArray := by
  apply Array.ext'
  simp only [OpV.cells, Array.toList_extract, List.extract_eq_take_drop]
  exact List.take_of_length_le (by simp [h])
def PairS.ptr (x : PairS) : Option Addr := if x.pl then some ⟨x.q, 0, none⟩ else none
def pq (x : PairS) : Asrt := if x.pl then cl x.q (pc (writeS (newS x.key) x.all)) 74 else pur True
/-- A pair: its struct, what it holds, its poly. -/
def pA (p : Nat) (x : PairS) : List Asrt := [cl p (pcl x.ptr x.key (.slice x.a x.all.length x.c) x.nn) 42, own 5 1 (.slice x.a x.all.length x.c) x.all.length (x.all.map u8b), pq x]
structure PairOk (x : PairS) : Prop where
  key : x.key.length = 32
  some : x.pl = true → x.nn = false
  none : x.pl = false → x.nn = true ∧ x.all = [] ∧ x.a = .none ∧ x.c = 0
attribute [local irreducible] pcl OpV.cells
theorem step_some {L : List Asrt} {p q : Nat} {key all : List Byte} {a : Option Addr} {c : Nat} (hk : key.length = 32) (o : OpV) (ho : o.key_.length = 32) (hb : Bs L o.b_V o.b_) (hbl : o.b_.length ≤ 140737488351232) (hal : (all ++ o.b_).length ≤ 140737488351232) (oc : Array Value) (hoc : oc = o.cells.toArray) :
    Con Try.prog 19 [.pointer (some ⟨p, 0, none⟩), .agg oc] (cl p (pcl (some ⟨q, 0, none⟩) key (.slice a all.length c) false) 42 :: own 5 1 (.slice a all.length c) all.length (all.map u8b) :: cl q (pc (writeS (newS key) all)) 74 :: L)
      (fun r M => r = .bool true ∧ ∃ x, PairOk x ∧ x.all.length ≤ all.length + o.b_.length ∧ pA p x ++ L = M) := by
  subst hoc
  have hsz := pcl_size (P := some ⟨q, 0, none⟩) (S := .slice a all.length c) (nn := false) hk
  have hok : PolyOk (writeS (newS key) all) := writeS_ok (newS_ok key)
  have hocl := ocl_len o ho
  refine Con.get (fun w0 w F H => (hb.imp (Imp.arr (by repeat (first | exact Arr.nil | exact Arr.stop | refine Arr.cons (by repeat constructor) ?_ | refine Arr.skip ?_)))).sh _ _ _ H) ?_
  rintro ⟨oa, oca, hov, hoc1, hoc2⟩
  rw [hov] at hb
  refine fn_x Try.func19 rfl rfl rfl Try.mixed (by kernel_rfl) ?_
  intro w0
  repeat (first|refine zA ?_|refine zB ?_|refine zC ?_|refine zD ?_|refine zE ?_|refine zF ?_|refine zG ?_|refine zH ?_|refine zI ?_|refine zJ ?_|refine zK ?_|refine zL ?_|refine zM rfl ?_|refine zN ?_|refine zO ?_|refine zP ?_|refine zQ ?_)
  refine x_reg ?_
  refine x_box_a rfl ?_; intro b3
  first | refine x_pv (pv_assign_bool rfl) ?_ | refine x_pv (pv_assign rfl) ?_
  refine x_nil ?_
  repeat (first|refine zA ?_|refine zB ?_|refine zC ?_|refine zD ?_|refine zE ?_|refine zF ?_|refine zG ?_|refine zH ?_|refine zI ?_|refine zJ ?_|refine zK ?_|refine zL ?_|refine zM rfl ?_|refine zN ?_|refine zO ?_|refine zP ?_|refine zQ ?_)
  refine x_reg ?_
  first | refine x_pv (pv_fieldAddrz rfl (by omega)) ?_ | refine x_pv (pv_fieldAddr rfl (by omega)) ?_
  refine x_load rfl (by repeat constructor) (ocl_0 o) ?_
  refine x_nil ?_
  repeat (first|refine zA ?_|refine zB ?_|refine zC ?_|refine zD ?_|refine zE ?_|refine zF ?_|refine zG ?_|refine zH ?_|refine zI ?_|refine zJ ?_|refine zK ?_|refine zL ?_|refine zM rfl ?_|refine zN ?_|refine zO ?_|refine zP ?_|refine zQ ?_)
  refine x_reg ?_
  first | refine x_pv (pv_eqln (b := 1) rfl rfl) ?_ | refine x_pv (pv_eql rfl rfl) ?_
  first | refine x_pv (pv_assign_bool rfl) ?_ | refine x_pv (pv_assign rfl) ?_
  refine x_nil ?_
  repeat (first|refine zA ?_|refine zB ?_|refine zC ?_|refine zD ?_|refine zE ?_|refine zF ?_|refine zG ?_|refine zH ?_|refine zI ?_|refine zJ ?_|refine zK ?_|refine zL ?_|refine zM rfl ?_|refine zN ?_|refine zO ?_|refine zP ?_|refine zQ ?_)
  refine x_cond_p rfl (fun h1 => ?_) (fun h1 => ?_)
  · repeat (first|refine zA ?_|refine zB ?_|refine zC ?_|refine zD ?_|refine zE ?_|refine zF ?_|refine zG ?_|refine zH ?_|refine zI ?_|refine zJ ?_|refine zK ?_|refine zL ?_|refine zM rfl ?_|refine zN ?_|refine zO ?_|refine zP ?_|refine zQ ?_)
    refine x_reg ?_
    first | refine x_pv (pv_fieldAddrz rfl (by omega)) ?_ | refine x_pv (pv_fieldAddr rfl (by omega)) ?_
    refine x_load rfl (by repeat constructor) ((ocl_2 o).trans (by rw [hov])) ?_
    refine x_call rfl (by kernel_rfl) (spare_x (L := L) hb (by omega)) rfl (by repeat (first | exact Take.nil | exact Take.all | (apply Take.cons; (next => (repeat constructor); done)) | apply Take.skip)) ?_
    rintro _ _ ⟨g, rfl, rfl⟩
    refine xo_app (by repeat (first | exact App.nil | apply App.cons | (apply App.flip; first | exact App.nil | apply App.cons) | exact App.any)) ?_
    first | refine x_pv (pv_assign_slice rfl) ?_ | refine x_pv (pv_assign rfl) ?_
    refine x_nil ?_
    repeat (first|refine zA ?_|refine zB ?_|refine zC ?_|refine zD ?_|refine zE ?_|refine zF ?_|refine zG ?_|refine zH ?_|refine zI ?_|refine zJ ?_|refine zK ?_|refine zL ?_|refine zM rfl ?_|refine zN ?_|refine zO ?_|refine zP ?_|refine zQ ?_)
    have hsp := spareL_len o.b_
    repeat (first|refine zA ?_|refine zB ?_|refine zC ?_|refine zD ?_|refine zE ?_|refine zF ?_|refine zG ?_|refine zH ?_|refine zI ?_|refine zJ ?_|refine zK ?_|refine zL ?_|refine zM rfl ?_|refine zN ?_|refine zO ?_|refine zP ?_|refine zQ ?_)
    refine x_reg ?_
    first | refine x_pv (pv_move_ptr rfl) ?_ | refine x_pv (pv_move rfl) ?_
    refine x_pv (pv_nil_ptr rfl) ?_
    first | refine x_pv (pv_fieldAddrz rfl (by omega)) ?_ | refine x_pv (pv_fieldAddr rfl (by omega)) ?_
    refine x_load rfl (by repeat constructor) (pcl_P) ?_
    first | refine x_pv (pv_move_slice rfl) ?_ | refine x_pv (pv_move rfl) ?_
    refine x_call rfl (by kernel_rfl) (write_b (L := [cl g ((spareL o.b_).map u8b).toArray 5]) _ hok (bs_spare .here (by omega))) rfl (by repeat (first | exact Take.nil | exact Take.all | (apply Take.cons; (next => (repeat constructor); done)) | apply Take.skip)) ?_
    rintro _ _ ⟨rfl, rfl⟩
    refine xo_app (by repeat (first | exact App.nil | apply App.cons | (apply App.flip; first | exact App.nil | apply App.cons) | exact App.any)) ?_
    first | refine x_pv (pv_move_tup rfl) ?_ | refine x_pv (pv_move rfl) ?_
    refine x_pv (pv_extract rfl rfl) ?_
    refine x_pv (pv_extract rfl rfl) ?_
    first | refine x_pv (pv_assign_int rfl) ?_ | refine x_pv (pv_assign rfl) ?_
    first | refine x_pv (pv_assign_ifc rfl) ?_ | refine x_pv (pv_assign rfl) ?_
    refine x_nil ?_
    repeat (first|refine zA ?_|refine zB ?_|refine zC ?_|refine zD ?_|refine zE ?_|refine zF ?_|refine zG ?_|refine zH ?_|refine zI ?_|refine zJ ?_|refine zK ?_|refine zL ?_|refine zM rfl ?_|refine zN ?_|refine zO ?_|refine zP ?_|refine zQ ?_)
    rw [← writeS_append]
    repeat (first|refine zA ?_|refine zB ?_|refine zC ?_|refine zD ?_|refine zE ?_|refine zF ?_|refine zG ?_|refine zH ?_|refine zI ?_|refine zJ ?_|refine zK ?_|refine zL ?_|refine zM rfl ?_|refine zN ?_|refine zO ?_|refine zP ?_|refine zQ ?_)
    refine x_reg ?_
    first | refine x_pv (pv_move_ptr rfl) ?_ | refine x_pv (pv_move rfl) ?_
    refine x_pv (pv_nil_ptr rfl) ?_
    first | refine x_pv (pv_fieldAddrz rfl (by omega)) ?_ | refine x_pv (pv_fieldAddr rfl (by omega)) ?_
    refine x_load rfl (by repeat constructor) (pcl_nn hk) ?_
    refine x_nil ?_
    repeat (first|refine zA ?_|refine zB ?_|refine zC ?_|refine zD ?_|refine zE ?_|refine zF ?_|refine zG ?_|refine zH ?_|refine zI ?_|refine zJ ?_|refine zK ?_|refine zL ?_|refine zM rfl ?_|refine zN ?_|refine zO ?_|refine zP ?_|refine zQ ?_)
    refine x_cond_f rfl ?_
    repeat (first|refine zA ?_|refine zB ?_|refine zC ?_|refine zD ?_|refine zE ?_|refine zF ?_|refine zG ?_|refine zH ?_|refine zI ?_|refine zJ ?_|refine zK ?_|refine zL ?_|refine zM rfl ?_|refine zN ?_|refine zO ?_|refine zP ?_|refine zQ ?_)
    refine x_reg ?_
    first | refine x_pv (pv_move_int rfl) ?_ | refine x_pv (pv_move rfl) ?_
    first | refine x_pv (pv_fieldAddrz rfl (by omega)) ?_ | refine x_pv (pv_fieldAddr rfl (by omega)) ?_
    refine x_load rfl (by repeat constructor) ((ocl_2 o).trans (by rw [hov])) ?_
    first | refine x_pv (pv_len rfl) ?_ | refine x_pv (pv_len_arr) ?_ | refine x_pv (pv_len_str rfl) ?_
    first | refine x_pv (pv_neqn rfl rfl) ?_ | refine x_pv (pv_neq rfl rfl) ?_
    refine x_isF 47 rfl (decide_eq_false ((fun h => h rfl))) ?_
    first | refine x_pv (pv_move_bool rfl) ?_ | refine x_pv (pv_move rfl) ?_
    first | refine x_gn rfl ?_ | refine x_gu rfl ?_ | (refine x_gy rfl ?_; (first | refine x_pv (pv_move_ifc rfl) ?_ | refine x_pv (pv_move rfl) ?_))
    first | refine x_gn rfl ?_ | refine x_gu rfl ?_ | (refine x_gy rfl ?_; (refine x_pv (pv_neq_ifc_nil Try.underlying50 rfl) ?_))
    first | refine x_pv (pv_pick_tb rfl rfl) ?_ | refine x_pv (pv_pick_fb rfl rfl) ?_ | refine x_pv (pv_pick_t rfl rfl) ?_ | refine x_pv (pv_pick_f rfl rfl) ?_ | refine x_pv (pv_pick_and rfl rfl) ?_ | refine x_pv (pv_pick_or rfl rfl) ?_
    first | refine x_pv (pv_move_bool rfl) ?_ | refine x_pv (pv_move rfl) ?_
    first | refine x_gn rfl ?_ | refine x_gu rfl ?_ | (refine x_gy rfl ?_; (first | refine x_pv (pv_move_slice rfl) ?_ | refine x_pv (pv_move rfl) ?_))
    first | refine x_gn rfl ?_ | refine x_gu rfl ?_ | (refine x_gy rfl ?_; (first | refine x_pv (pv_fieldAddrz rfl (by omega)) ?_ | refine x_pv (pv_fieldAddr rfl (by omega)) ?_))
    first | refine x_gn rfl ?_ | refine x_gu rfl ?_ | (refine x_gy rfl ?_; (refine x_load rfl (by repeat constructor) ((ocl_2 o).trans (by rw [hov])) ?_))
    first | refine x_gn rfl ?_ | refine x_gu rfl ?_ | (refine x_gy rfl ?_; (refine x_call rfl (by kernel_rfl) (kept_x (L := cl g ((spareL o.b_).map u8b).toArray 5 :: L) .here (hb.imp Imp.tail) (by omega)) rfl (by repeat (first | exact Take.nil | exact Take.all | (apply Take.cons; (next => (repeat constructor); done)) | apply Take.skip)) ?_); (rintro _ _ ⟨rfl, rfl⟩); (refine xo_app (by repeat (first | exact App.nil | apply App.cons | (apply App.flip; first | exact App.nil | apply App.cons) | exact App.any)) ?_))
    first | refine x_gn rfl ?_ | refine x_gu rfl ?_ | (refine x_gy rfl ?_; (first | refine x_pv (pv_not_p rfl) ?_ | refine x_pv (pv_not rfl) ?_))
    refine x_isF 57 rfl (rfl) ?_
    first | refine x_pv (pv_pick_tb rfl rfl) ?_ | refine x_pv (pv_pick_fb rfl rfl) ?_ | refine x_pv (pv_pick_t rfl rfl) ?_ | refine x_pv (pv_pick_f rfl rfl) ?_ | refine x_pv (pv_pick_and rfl rfl) ?_ | refine x_pv (pv_pick_or rfl rfl) ?_
    refine x_nil ?_
    repeat (first|refine zA ?_|refine zB ?_|refine zC ?_|refine zD ?_|refine zE ?_|refine zF ?_|refine zG ?_|refine zH ?_|refine zI ?_|refine zJ ?_|refine zK ?_|refine zL ?_|refine zM rfl ?_|refine zN ?_|refine zO ?_|refine zP ?_|refine zQ ?_)
    refine x_cond_f rfl ?_
    repeat (first|refine zA ?_|refine zB ?_|refine zC ?_|refine zD ?_|refine zE ?_|refine zF ?_|refine zG ?_|refine zH ?_|refine zI ?_|refine zJ ?_|refine zK ?_|refine zL ?_|refine zM rfl ?_|refine zN ?_|refine zO ?_|refine zP ?_|refine zQ ?_)
    refine x_draw (_) [0, 1, 2, 3, 4, 5, 6, 7] (.r 0 (.r 1 (.r 2 (.r 3 (.r 4 (.r 5 (.r 6 (.e 7 true (.q 8 (.q 9 (.e 10 false .nil))))))))))) (by kernel_rfl) (by kernel_rfl) (Imp.refl _) ?_
    first | refine cx_p rfl (pv_move_ptr rfl) ?_ | refine cx_p rfl (pv_move rfl) ?_
    first | refine cx_p rfl (pv_move_ptr rfl) ?_ | refine cx_p rfl (pv_move rfl) ?_
    refine cx_p rfl (pv_nil_ptr rfl) ?_
    first | refine cx_p rfl (pv_fieldAddrz rfl (by omega)) ?_ | refine cx_p rfl (pv_fieldAddr rfl (by omega)) ?_
    refine cx_load rfl rfl (by repeat constructor) (pcl_S hk) ?_
    first | refine cx_p rfl (pv_fieldAddrz rfl (by omega)) ?_ | refine cx_p rfl (pv_fieldAddr rfl (by omega)) ?_
    refine cx_load rfl rfl (by repeat constructor) ((ocl_2 o).trans (by rw [hov])) ?_
    refine cx_e rfl ?_
    refine x_call rfl (by kernel_rfl) (two_x (L := own 5 1 (.slice a all.length c) all.length (all.map u8b) :: L) (Bs.own .here) (hb.imp Imp.tail) (by omega)) rfl (by repeat (first | exact Take.nil | exact Take.all | (apply Take.cons; (next => (repeat constructor); done)) | apply Take.skip)) ?_
    rintro _ _ ⟨ta, tc, rfl, rfl⟩
    refine xo_app (by repeat (first | exact App.nil | apply App.cons | (apply App.flip; first | exact App.nil | apply App.cons) | exact App.any)) ?_
    refine x_nil ⟨fun _ => Imp.arr (by repeat (first | exact Arr.nil | exact Arr.stop | refine Arr.cons (by repeat constructor) ?_ | refine Arr.skip ?_)), ?_⟩
    refine cx_q rfl (pv_nil_ptr rfl) ?_
    first | refine cx_q rfl (pv_fieldAddrz rfl (by omega)) ?_ | refine cx_q rfl (pv_fieldAddr rfl (by omega)) ?_
    refine cx_e rfl ?_
    refine x_store_s rfl rfl (by repeat constructor) (by first | rfl | omega | (rw [szL]; omega) | exact Nat.le_of_ble_eq_true rfl | (simp; done) | (simp; omega)) (pcl_setS hk) ?_
    refine x_nil ⟨(fun hh => Bool.noConfusion hh), ?_⟩
    refine cx_nil ?_
    repeat (first|refine zA ?_|refine zB ?_|refine zC ?_|refine zD ?_|refine zE ?_|refine zF ?_|refine zG ?_|refine zH ?_|refine zI ?_|refine zJ ?_|refine zK ?_|refine zL ?_|refine zM rfl ?_|refine zN ?_|refine zO ?_|refine zP ?_|refine zQ ?_)
    refine x_reg ?_
    first | refine x_pv (pv_assign_int rfl) ?_ | refine x_pv (pv_assign rfl) ?_
    refine x_nil ?_
    repeat (first|refine zA ?_|refine zB ?_|refine zC ?_|refine zD ?_|refine zE ?_|refine zF ?_|refine zG ?_|refine zH ?_|refine zI ?_|refine zJ ?_|refine zK ?_|refine zL ?_|refine zM rfl ?_|refine zN ?_|refine zO ?_|refine zP ?_|refine zQ ?_)
    refine x_loop [(8, 8), (69, 82)] (by kernel_rfl) (fun s : Nat × List Byte => s.1 ≤ o.b_.length ∧ s.2.length = o.b_.length + 80)
      (fun s => cl g (s.2.map u8b).toArray 5 :: cl p (pcl (some ⟨q, 0, none⟩) key (.slice ta (all ++ o.b_).length tc) false) 42 :: own 5 1 (.slice ta (all ++ o.b_).length tc) (all ++ o.b_).length ((all ++ o.b_).map u8b) :: cl q (pc (writeS (newS key) (all ++ o.b_))) 74 :: L)
      (fun s => [(8, nv s.1)]) (fun s => o.b_.length - s.1) (0, spareL o.b_) ⟨by omega, hsp⟩ (by exact Imp.arr (by repeat (first | exact Arr.nil | exact Arr.stop | refine Arr.cons (by repeat constructor) ?_ | refine Arr.skip ?_))) ⟨rfl, trivial⟩ ?_
    rintro ⟨k, ct⟩ u ⟨hk2, hct⟩
    dsimp only at hk2 hct ⊢
    repeat (first|refine zA ?_|refine zB ?_|refine zC ?_|refine zD ?_|refine zE ?_|refine zF ?_|refine zG ?_|refine zH ?_|refine zI ?_|refine zJ ?_|refine zK ?_|refine zL ?_|refine zM rfl ?_|refine zN ?_|refine zO ?_|refine zP ?_|refine zQ ?_)
    refine x_reg ?_
    first | refine x_pv (pv_move_int rfl) ?_ | refine x_pv (pv_move rfl) ?_
    first | refine x_pv (pv_move_slice rfl) ?_ | refine x_pv (pv_move rfl) ?_
    first | refine x_pv (pv_len rfl) ?_ | refine x_pv (pv_len_arr) ?_ | refine x_pv (pv_len_str rfl) ?_
    first | refine x_pv (pv_lssn rfl rfl) ?_ | refine x_pv (pv_lss rfl rfl) ?_
    refine x_nil ?_
    repeat (first|refine zA ?_|refine zB ?_|refine zC ?_|refine zD ?_|refine zE ?_|refine zF ?_|refine zG ?_|refine zH ?_|refine zI ?_|refine zJ ?_|refine zK ?_|refine zL ?_|refine zM rfl ?_|refine zN ?_|refine zO ?_|refine zP ?_|refine zQ ?_)
    refine x_cond_p rfl (fun hB => ?_) (fun hB => ?_)
    · have hkc : k < ct.length := by omega
      repeat (first|refine zA ?_|refine zB ?_|refine zC ?_|refine zD ?_|refine zE ?_|refine zF ?_|refine zG ?_|refine zH ?_|refine zI ?_|refine zJ ?_|refine zK ?_|refine zL ?_|refine zM rfl ?_|refine zN ?_|refine zO ?_|refine zP ?_|refine zQ ?_)
      refine x_reg ?_
      first | refine x_pv (pv_move_slice rfl) ?_ | refine x_pv (pv_move rfl) ?_
      first | refine x_pv (pv_move_int rfl) ?_ | refine x_pv (pv_move rfl) ?_
      first | refine x_pv (pv_move_slice rfl) ?_ | refine x_pv (pv_move rfl) ?_
      first | refine x_pv (pv_move_int rfl) ?_ | refine x_pv (pv_move rfl) ?_
      first | refine x_pv (pv_ixs1z rfl rfl (by first | omega | exact Nat.le_of_ble_eq_true rfl | (simp; done) | (simp; omega))) ?_ | refine x_pv (pv_ixs1 rfl rfl (by first | omega | exact Nat.le_of_ble_eq_true rfl | (simp; done) | (simp; omega))) ?_
      refine x_load rfl (by repeat constructor) (getL (f := u8b) (l := ct) hkc) ?_
      refine x_pv (pv_xor_u8 (y := 90#8) rfl rfl) ?_
      first | refine x_pv (pv_ixs1z rfl rfl (by first | omega | exact Nat.le_of_ble_eq_true rfl | (simp; done) | (simp; omega))) ?_ | refine x_pv (pv_ixs1 rfl rfl (by first | omega | exact Nat.le_of_ble_eq_true rfl | (simp; done) | (simp; omega))) ?_
      refine x_store_i rfl rfl (by repeat constructor) (by first | rfl | omega | (rw [szL]; omega) | exact Nat.le_of_ble_eq_true rfl | (simp; done) | (simp; omega)) (setL (f := u8b) (l := ct)) ?_
      refine x_nil ?_
      repeat (first|refine zA ?_|refine zB ?_|refine zC ?_|refine zD ?_|refine zE ?_|refine zF ?_|refine zG ?_|refine zH ?_|refine zI ?_|refine zJ ?_|refine zK ?_|refine zL ?_|refine zM rfl ?_|refine zN ?_|refine zO ?_|refine zP ?_|refine zQ ?_)
      refine x_reg ?_
      first | refine x_pv (pv_move_int rfl) ?_ | refine x_pv (pv_move rfl) ?_
      first | refine x_pv (pv_addn (b := 1) rfl rfl (by first | omega | exact Nat.le_of_ble_eq_true rfl | (simp; done) | (simp; omega) | decide)) ?_ | refine x_pv (pv_add_i rfl rfl (by first | omega | exact Nat.le_of_ble_eq_true rfl | (simp; done) | (simp; omega) | decide)) ?_
      first | refine x_pv (pv_assign_int rfl) ?_ | refine x_pv (pv_assign rfl) ?_
      refine x_nil ?_
      repeat (first|refine zA ?_|refine zB ?_|refine zC ?_|refine zD ?_|refine zE ?_|refine zF ?_|refine zG ?_|refine zH ?_|refine zI ?_|refine zJ ?_|refine zK ?_|refine zL ?_|refine zM rfl ?_|refine zN ?_|refine zO ?_|refine zP ?_|refine zQ ?_)
      exact x_loop_n (k + 1, ct.set k (ct[k] ^^^ 90#8)) (by first | omega | (dsimp only; omega) | (simp only []; omega)) ⟨by dsimp only; omega, by simp [hct]⟩ (by exact Imp.arr (by repeat (first | exact Arr.nil | exact Arr.stop | refine Arr.cons (by repeat constructor) ?_ | refine Arr.skip ?_))) ⟨rfl, trivial⟩
    · repeat (first|refine zA ?_|refine zB ?_|refine zC ?_|refine zD ?_|refine zE ?_|refine zF ?_|refine zG ?_|refine zH ?_|refine zI ?_|refine zJ ?_|refine zK ?_|refine zL ?_|refine zM rfl ?_|refine zN ?_|refine zO ?_|refine zP ?_|refine zQ ?_)
      refine x_reg ?_
      first | refine x_pv (pv_assign_bool rfl) ?_ | refine x_pv (pv_assign rfl) ?_
      refine x_nil ?_
      repeat (first|refine zA ?_|refine zB ?_|refine zC ?_|refine zD ?_|refine zE ?_|refine zF ?_|refine zG ?_|refine zH ?_|refine zI ?_|refine zJ ?_|refine zK ?_|refine zL ?_|refine zM rfl ?_|refine zN ?_|refine zO ?_|refine zP ?_|refine zQ ?_)
      refine rx1 (rx_bool rfl (rx_nil)) ?_
      exact ⟨_, ⟨rfl, ⟨q, key, all ++ o.b_, ta, tc, true, false⟩, ⟨hk, fun _ => rfl, fun h => Bool.noConfusion h⟩, by simp, rfl⟩, by show Imp _ (_ :: _ :: _ :: L); exact Imp.arr (by repeat (first | exact Arr.nil | exact Arr.stop | refine Arr.cons (by repeat constructor) ?_ | refine Arr.skip ?_))⟩
  · repeat (first|refine zA ?_|refine zB ?_|refine zC ?_|refine zD ?_|refine zE ?_|refine zF ?_|refine zG ?_|refine zH ?_|refine zI ?_|refine zJ ?_|refine zK ?_|refine zL ?_|refine zM rfl ?_|refine zN ?_|refine zO ?_|refine zP ?_|refine zQ ?_)
    refine x_reg ?_
    first | refine x_pv (pv_eqln (b := 2) rfl rfl) ?_ | refine x_pv (pv_eql rfl rfl) ?_
    first | refine x_pv (pv_assign_bool rfl) ?_ | refine x_pv (pv_assign rfl) ?_
    refine x_nil ?_
    repeat (first|refine zA ?_|refine zB ?_|refine zC ?_|refine zD ?_|refine zE ?_|refine zF ?_|refine zG ?_|refine zH ?_|refine zI ?_|refine zJ ?_|refine zK ?_|refine zL ?_|refine zM rfl ?_|refine zN ?_|refine zO ?_|refine zP ?_|refine zQ ?_)
    refine x_cond_p rfl (fun h2 => ?_) (fun h2 => ?_)
    · have hcl := code_len key all
      have hcs : sumS (writeS (newS key) all) = code key all := by unfold code; rfl
      have hsl : (sumS (writeS (newS key) all)).length = 16 := by rw [hcs]; exact hcl
      repeat (first|refine zA ?_|refine zB ?_|refine zC ?_|refine zD ?_|refine zE ?_|refine zF ?_|refine zG ?_|refine zH ?_|refine zI ?_|refine zJ ?_|refine zK ?_|refine zL ?_|refine zM rfl ?_|refine zN ?_|refine zO ?_|refine zP ?_|refine zQ ?_)
      refine x_reg ?_
      first | refine x_pv (pv_move_ptr rfl) ?_ | refine x_pv (pv_move rfl) ?_
      refine x_pv (pv_nil_ptr rfl) ?_
      first | refine x_pv (pv_fieldAddrz rfl (by omega)) ?_ | refine x_pv (pv_fieldAddr rfl (by omega)) ?_
      refine x_load rfl (by repeat constructor) (pcl_P) ?_
      refine x_call rfl (by kernel_rfl) (sum_c _ hok) rfl (by repeat (first | exact Take.nil | exact Take.all | (apply Take.cons; (next => (repeat constructor); done)) | apply Take.skip)) ?_
      rintro _ _ ⟨rfl, rfl⟩
      refine xo_app (by repeat (first | exact App.nil | apply App.cons | (apply App.flip; first | exact App.nil | apply App.cons) | exact App.any)) ?_
      refine x_alloc (cs := ((List.replicate 16 0#8).map u8b).toArray) rfl ?_; intro b9
      first | refine x_store_all rfl rfl (by repeat constructor) (by first | rfl | omega | (rw [szL]; omega) | exact Nat.le_of_ble_eq_true rfl | (simp; done) | (simp; omega)) (by first | rfl | exact oneM_u8 _ | exact oneL_u8 _ | (simp [oneC]; done)) (by first | rfl | omega | (rw [szL]; omega) | exact Nat.le_of_ble_eq_true rfl | (simp; done) | (simp; omega)) ?_ | refine x_store_agg rfl rfl (by repeat constructor) (by first | rfl | omega | (rw [szL]; omega) | exact Nat.le_of_ble_eq_true rfl | (simp; done) | (simp; omega)) (by first | rfl | exact oneM_u8 _ | exact oneL_u8 _ | (simp [oneC]; done)) (by first | rfl | omega | (rw [szL]; omega) | exact Nat.le_of_ble_eq_true rfl | (simp; done) | (simp; omega)) rfl ?_
      refine x_nil ?_
      repeat (first|refine zA ?_|refine zB ?_|refine zC ?_|refine zD ?_|refine zE ?_|refine zF ?_|refine zG ?_|refine zH ?_|refine zI ?_|refine zJ ?_|refine zK ?_|refine zL ?_|refine zM rfl ?_|refine zN ?_|refine zO ?_|refine zP ?_|refine zQ ?_)
      rw [hcs]
      repeat (first|refine zA ?_|refine zB ?_|refine zC ?_|refine zD ?_|refine zE ?_|refine zF ?_|refine zG ?_|refine zH ?_|refine zI ?_|refine zJ ?_|refine zK ?_|refine zL ?_|refine zM rfl ?_|refine zN ?_|refine zO ?_|refine zP ?_|refine zQ ?_)
      refine x_reg ?_
      first | refine x_pv (pv_move_ptr rfl) ?_ | refine x_pv (pv_move rfl) ?_
      refine x_pv (pv_nil_ptr rfl) ?_
      first | refine x_pv (pv_fieldAddrz rfl (by omega)) ?_ | refine x_pv (pv_fieldAddr rfl (by omega)) ?_
      refine x_load rfl (by repeat constructor) (pcl_nn hk) ?_
      refine x_nil ?_
      repeat (first|refine zA ?_|refine zB ?_|refine zC ?_|refine zD ?_|refine zE ?_|refine zF ?_|refine zG ?_|refine zH ?_|refine zI ?_|refine zJ ?_|refine zK ?_|refine zL ?_|refine zM rfl ?_|refine zN ?_|refine zO ?_|refine zP ?_|refine zQ ?_)
      refine x_cond_f rfl ?_
      repeat (first|refine zA ?_|refine zB ?_|refine zC ?_|refine zD ?_|refine zE ?_|refine zF ?_|refine zG ?_|refine zH ?_|refine zI ?_|refine zJ ?_|refine zK ?_|refine zL ?_|refine zM rfl ?_|refine zN ?_|refine zO ?_|refine zP ?_|refine zQ ?_)
      refine x_draw ([cl b9 ((code key all).map u8b).toArray 28, cl p (pcl (some ⟨q, 0, none⟩) key (.slice a all.length c) false) 42]) [0, 1, 2, 3, 4, 5, 6, 7, 8, 9] (.r 0 (.r 1 (.r 2 (.r 3 (.r 4 (.r 5 (.r 6 (.r 7 (.r 8 (.e 9 true (.q 10 (.q 11 .nil)))))))))))) (by kernel_rfl) (by kernel_rfl) (Imp.arr (by repeat (first | exact Arr.nil | exact Arr.stop | refine Arr.cons (by repeat constructor) ?_ | refine Arr.skip ?_))) ?_
      first | refine cx_load_all rfl rfl (by repeat constructor) (by first | rfl | omega | (rw [szL]; omega) | exact Nat.le_of_ble_eq_true rfl | (simp; done) | (simp; omega)) ?_ | refine cx_load_agg rfl rfl (by repeat constructor) (by first | rfl | omega | (rw [szL]; omega) | exact Nat.le_of_ble_eq_true rfl | (simp; done) | (simp; omega)) rfl ?_
      first | refine cx_p rfl (pv_move_ptr rfl) ?_ | refine cx_p rfl (pv_move rfl) ?_
      refine cx_p rfl (pv_nil_ptr rfl) ?_
      first | refine cx_p rfl (pv_fieldAddrz rfl (by omega)) ?_ | refine cx_p rfl (pv_fieldAddr rfl (by omega)) ?_
      first | refine cx_load_all rfl rfl (by repeat constructor) (by first | rfl | omega | (rw [szL]; omega) | exact Nat.le_of_ble_eq_true rfl | (simp; done) | (simp; omega)) ?_ | refine cx_load_agg rfl rfl (by repeat constructor) (by first | rfl | omega | (rw [szL]; omega) | exact Nat.le_of_ble_eq_true rfl | (simp; done) | (simp; omega)) (pcl_key hk) ?_
      first | refine cx_p rfl (pv_move_ptr rfl) ?_ | refine cx_p rfl (pv_move rfl) ?_
      refine cx_p rfl (pv_nil_ptr rfl) ?_
      first | refine cx_p rfl (pv_fieldAddrz rfl (by omega)) ?_ | refine cx_p rfl (pv_fieldAddr rfl (by omega)) ?_
      refine cx_load rfl rfl (by repeat constructor) (pcl_S hk) ?_
      refine cx_e rfl ?_
      refine x_call rfl (by kernel_rfl) (rsum_x (L := [own 5 1 (.slice a all.length c) all.length (all.map u8b)]) key hk (Bs.own .here) (by simp at hal; omega)) rfl (by repeat (first | exact Take.nil | exact Take.all | (apply Take.cons; (next => (repeat constructor); done)) | apply Take.skip)) ?_
      rintro _ _ ⟨rfl, rfl⟩
      refine xo_app (by repeat (first | exact App.nil | apply App.cons | (apply App.flip; first | exact App.nil | apply App.cons) | exact App.any)) ?_
      refine x_nil ⟨fun _ => Imp.arr (by repeat (first | exact Arr.nil | exact Arr.stop | refine Arr.cons (by repeat constructor) ?_ | refine Arr.skip ?_)), ?_⟩
      refine cx_q rfl (pv_eql_ba (n := 16) (a := code key all) (b := code key all) hcl hcl rfl rfl) ?_
      refine cx_isT 107 rfl (decide_eq_true (rfl)) ?_
      first | refine cx_q rfl (pv_assign_bool rfl) ?_ | refine cx_q rfl (pv_assign rfl) ?_
      refine cx_nil ?_
      repeat (first|refine zA ?_|refine zB ?_|refine zC ?_|refine zD ?_|refine zE ?_|refine zF ?_|refine zG ?_|refine zH ?_|refine zI ?_|refine zJ ?_|refine zK ?_|refine zL ?_|refine zM rfl ?_|refine zN ?_|refine zO ?_|refine zP ?_|refine zQ ?_)
      refine rx1 (rx_bool rfl (rx_nil)) ?_
      exact ⟨_, ⟨rfl, ⟨q, key, all, a, c, true, false⟩, ⟨hk, fun _ => rfl, fun h => Bool.noConfusion h⟩, by simp, rfl⟩, by show Imp _ (_ :: _ :: _ :: L); exact Imp.arr (by repeat (first | exact Arr.nil | exact Arr.stop | refine Arr.cons (by repeat constructor) ?_ | refine Arr.skip ?_))⟩
    · repeat (first|refine zA ?_|refine zB ?_|refine zC ?_|refine zD ?_|refine zE ?_|refine zF ?_|refine zG ?_|refine zH ?_|refine zI ?_|refine zJ ?_|refine zK ?_|refine zL ?_|refine zM rfl ?_|refine zN ?_|refine zO ?_|refine zP ?_|refine zQ ?_)
      refine x_reg ?_
      first | refine x_pv (pv_eqln (b := 3) rfl rfl) ?_ | refine x_pv (pv_eql rfl rfl) ?_
      first | refine x_pv (pv_assign_bool rfl) ?_ | refine x_pv (pv_assign rfl) ?_
      refine x_nil ?_
      repeat (first|refine zA ?_|refine zB ?_|refine zC ?_|refine zD ?_|refine zE ?_|refine zF ?_|refine zG ?_|refine zH ?_|refine zI ?_|refine zJ ?_|refine zK ?_|refine zL ?_|refine zM rfl ?_|refine zN ?_|refine zO ?_|refine zP ?_|refine zQ ?_)
      refine x_cond_p rfl (fun h3 => ?_) (fun h3 => ?_)
      · have hsz2 := pcl_size (S := .slice a all.length c) (nn := false) (P := some ⟨q, 0, none⟩) ho
        repeat (first|refine zA ?_|refine zB ?_|refine zC ?_|refine zD ?_|refine zE ?_|refine zF ?_|refine zG ?_|refine zH ?_|refine zI ?_|refine zJ ?_|refine zK ?_|refine zL ?_|refine zM rfl ?_|refine zN ?_|refine zO ?_|refine zP ?_|refine zQ ?_)
        refine x_reg ?_
        first | refine x_pv (pv_move_ptr rfl) ?_ | refine x_pv (pv_move rfl) ?_
        first | refine x_pv (pv_fieldAddrz rfl (by omega)) ?_ | refine x_pv (pv_fieldAddr rfl (by omega)) ?_
        first | refine x_load_all rfl (by repeat constructor) (by first | rfl | omega | (rw [szL]; omega) | exact Nat.le_of_ble_eq_true rfl | (simp; done) | (simp; omega)) ?_ | refine x_load_agg rfl (by repeat constructor) (by first | rfl | omega | (rw [szL]; omega) | exact Nat.le_of_ble_eq_true rfl | (simp; done) | (simp; omega)) (ocl_3 o ho) ?_
        refine x_call rfl (by kernel_rfl) (new_c o.key_ ho) rfl (by repeat (first | exact Take.nil | exact Take.all | (apply Take.cons; (next => (repeat constructor); done)) | apply Take.skip)) ?_
        rintro _ _ ⟨q2, rfl, rfl⟩
        refine xo_app (by repeat (first | exact App.nil | apply App.cons | (apply App.flip; first | exact App.nil | apply App.cons) | exact App.any)) ?_
        refine x_pv (pv_nil_ptr rfl) ?_
        first | refine x_pv (pv_fieldAddrz rfl (by omega)) ?_ | refine x_pv (pv_fieldAddr rfl (by omega)) ?_
        refine x_store_p rfl rfl (by repeat constructor) (by first | rfl | omega | (rw [szL]; omega) | exact Nat.le_of_ble_eq_true rfl | (simp; done) | (simp; omega)) (pcl_setP) ?_
        refine x_nil ?_
        repeat (first|refine zA ?_|refine zB ?_|refine zC ?_|refine zD ?_|refine zE ?_|refine zF ?_|refine zG ?_|refine zH ?_|refine zI ?_|refine zJ ?_|refine zK ?_|refine zL ?_|refine zM rfl ?_|refine zN ?_|refine zO ?_|refine zP ?_|refine zQ ?_)
        have hsz3 := pcl_size (S := .slice a all.length c) (nn := false) (P := some ⟨q2, 0, none⟩) hk
        repeat (first|refine zA ?_|refine zB ?_|refine zC ?_|refine zD ?_|refine zE ?_|refine zF ?_|refine zG ?_|refine zH ?_|refine zI ?_|refine zJ ?_|refine zK ?_|refine zL ?_|refine zM rfl ?_|refine zN ?_|refine zO ?_|refine zP ?_|refine zQ ?_)
        refine x_reg ?_
        first | refine x_pv (pv_move_ptr rfl) ?_ | refine x_pv (pv_move rfl) ?_
        first | refine x_pv (pv_fieldAddrz rfl (by omega)) ?_ | refine x_pv (pv_fieldAddr rfl (by omega)) ?_
        first | refine x_load_all rfl (by repeat constructor) (by first | rfl | omega | (rw [szL]; omega) | exact Nat.le_of_ble_eq_true rfl | (simp; done) | (simp; omega)) ?_ | refine x_load_agg rfl (by repeat constructor) (by first | rfl | omega | (rw [szL]; omega) | exact Nat.le_of_ble_eq_true rfl | (simp; done) | (simp; omega)) (ocl_3 o ho) ?_
        refine x_pv (pv_nil_ptr rfl) ?_
        first | refine x_pv (pv_fieldAddrz rfl (by omega)) ?_ | refine x_pv (pv_fieldAddr rfl (by omega)) ?_
        first | refine x_store_all rfl rfl (by repeat constructor) (by first | rfl | omega | (rw [szL]; omega) | exact Nat.le_of_ble_eq_true rfl | (simp; done) | (simp; omega)) (by first | rfl | exact oneM_u8 _ | exact oneL_u8 _ | (simp [oneC]; done)) (by first | rfl | omega | (rw [szL]; omega) | exact Nat.le_of_ble_eq_true rfl | (simp; done) | (simp; omega)) ?_ | refine x_store_agg rfl rfl (by repeat constructor) (by first | rfl | omega | (rw [szL]; omega) | exact Nat.le_of_ble_eq_true rfl | (simp; done) | (simp; omega)) (by first | rfl | exact oneM_u8 _ | exact oneL_u8 _ | (simp [oneC]; done)) (by first | rfl | omega | (rw [szL]; omega) | exact Nat.le_of_ble_eq_true rfl | (simp; done) | (simp; omega)) (pcl_setK hk ho) ?_
        refine x_nil ?_
        repeat (first|refine zA ?_|refine zB ?_|refine zC ?_|refine zD ?_|refine zE ?_|refine zF ?_|refine zG ?_|refine zH ?_|refine zI ?_|refine zJ ?_|refine zK ?_|refine zL ?_|refine zM rfl ?_|refine zN ?_|refine zO ?_|refine zP ?_|refine zQ ?_)
        have hsz4 := pcl_size (S := .slice a all.length c) (nn := false) (P := some ⟨q2, 0, none⟩) ho
        repeat (first|refine zA ?_|refine zB ?_|refine zC ?_|refine zD ?_|refine zE ?_|refine zF ?_|refine zG ?_|refine zH ?_|refine zI ?_|refine zJ ?_|refine zK ?_|refine zL ?_|refine zM rfl ?_|refine zN ?_|refine zO ?_|refine zP ?_|refine zQ ?_)
        refine x_reg ?_
        first | refine x_pv (pv_move_ptr rfl) ?_ | refine x_pv (pv_move rfl) ?_
        refine x_pv (pv_nil_ptr rfl) ?_
        first | refine x_pv (pv_fieldAddrz rfl (by omega)) ?_ | refine x_pv (pv_fieldAddr rfl (by omega)) ?_
        refine x_store_s rfl rfl (by repeat constructor) (by first | rfl | omega | (rw [szL]; omega) | exact Nat.le_of_ble_eq_true rfl | (simp; done) | (simp; omega)) (pcl_setS ho) ?_
        refine x_nil ?_
        repeat (first|refine zA ?_|refine zB ?_|refine zC ?_|refine zD ?_|refine zE ?_|refine zF ?_|refine zG ?_|refine zH ?_|refine zI ?_|refine zJ ?_|refine zK ?_|refine zL ?_|refine zM rfl ?_|refine zN ?_|refine zO ?_|refine zP ?_|refine zQ ?_)
        have hsz5 := pcl_size (S := .slice none 0 0) (nn := false) (P := some ⟨q2, 0, none⟩) ho
        repeat (first|refine zA ?_|refine zB ?_|refine zC ?_|refine zD ?_|refine zE ?_|refine zF ?_|refine zG ?_|refine zH ?_|refine zI ?_|refine zJ ?_|refine zK ?_|refine zL ?_|refine zM rfl ?_|refine zN ?_|refine zO ?_|refine zP ?_|refine zQ ?_)
        refine x_reg ?_
        first | refine x_pv (pv_move_ptr rfl) ?_ | refine x_pv (pv_move rfl) ?_
        refine x_pv (pv_nil_ptr rfl) ?_
        first | refine x_pv (pv_fieldAddrz rfl (by omega)) ?_ | refine x_pv (pv_fieldAddr rfl (by omega)) ?_
        refine x_store_b rfl rfl (by repeat constructor) (by first | rfl | omega | (rw [szL]; omega) | exact Nat.le_of_ble_eq_true rfl | (simp; done) | (simp; omega)) (pcl_setN ho) ?_
        refine x_nil ?_
        repeat (first|refine zA ?_|refine zB ?_|refine zC ?_|refine zD ?_|refine zE ?_|refine zF ?_|refine zG ?_|refine zH ?_|refine zI ?_|refine zJ ?_|refine zK ?_|refine zL ?_|refine zM rfl ?_|refine zN ?_|refine zO ?_|refine zP ?_|refine zQ ?_)
        refine x_reg ?_
        first | refine x_pv (pv_move_ptr rfl) ?_ | refine x_pv (pv_move rfl) ?_
        refine x_pv (pv_nil_ptr rfl) ?_
        first | refine x_pv (pv_fieldAddrz rfl (by omega)) ?_ | refine x_pv (pv_fieldAddr rfl (by omega)) ?_
        refine x_load rfl (by repeat constructor) (pcl_P) ?_
        refine x_pv (pv_neq_ptr_nil rfl rfl) ?_
        first | refine x_pv (pv_assign_bool rfl) ?_ | refine x_pv (pv_assign rfl) ?_
        refine x_nil ?_
        repeat (first|refine zA ?_|refine zB ?_|refine zC ?_|refine zD ?_|refine zE ?_|refine zF ?_|refine zG ?_|refine zH ?_|refine zI ?_|refine zJ ?_|refine zK ?_|refine zL ?_|refine zM rfl ?_|refine zN ?_|refine zO ?_|refine zP ?_|refine zQ ?_)
        refine rx1 (rx_bool rfl (rx_nil)) ?_
        refine ⟨_, ⟨rfl, ⟨q2, o.key_, [], none, 0, true, false⟩, ⟨ho, fun _ => rfl, fun h => Bool.noConfusion h⟩, by simp, rfl⟩, ?_⟩
        show Imp _ (_ :: own 5 1 (.slice none 0 0) 0 [] :: cl q2 (pc (writeS (newS o.key_) [])) 74 :: L)
        rw [writeS_nil]
        refine Imp.trans (Imp.arr (N := cl p (pcl (some ⟨q2, 0, none⟩) o.key_ (.slice none 0 0) false) 42 :: cl q2 (pc (newS o.key_)) 74 :: L) (by repeat (first | exact Arr.nil | exact Arr.stop | refine Arr.cons (by repeat constructor) ?_ | refine Arr.skip ?_))) (Imp.cons Imp.own_nil)
      · repeat (first|refine zA ?_|refine zB ?_|refine zC ?_|refine zD ?_|refine zE ?_|refine zF ?_|refine zG ?_|refine zH ?_|refine zI ?_|refine zJ ?_|refine zK ?_|refine zL ?_|refine zM rfl ?_|refine zN ?_|refine zO ?_|refine zP ?_|refine zQ ?_)
        refine x_reg ?_
        first | refine x_pv (pv_eqln (b := 4) rfl rfl) ?_ | refine x_pv (pv_eql rfl rfl) ?_
        first | refine x_pv (pv_assign_bool rfl) ?_ | refine x_pv (pv_assign rfl) ?_
        refine x_nil ?_
        repeat (first|refine zA ?_|refine zB ?_|refine zC ?_|refine zD ?_|refine zE ?_|refine zF ?_|refine zG ?_|refine zH ?_|refine zI ?_|refine zJ ?_|refine zK ?_|refine zL ?_|refine zM rfl ?_|refine zN ?_|refine zO ?_|refine zP ?_|refine zQ ?_)
        refine x_cond_p rfl (fun h4 => ?_) (fun h4 => ?_)
        · repeat (first|refine zA ?_|refine zB ?_|refine zC ?_|refine zD ?_|refine zE ?_|refine zF ?_|refine zG ?_|refine zH ?_|refine zI ?_|refine zJ ?_|refine zK ?_|refine zL ?_|refine zM rfl ?_|refine zN ?_|refine zO ?_|refine zP ?_|refine zQ ?_)
          refine x_reg ?_
          first | refine x_pv (pv_move_ptr rfl) ?_ | refine x_pv (pv_move rfl) ?_
          refine x_pv (pv_nil_ptr rfl) ?_
          first | refine x_pv (pv_fieldAddrz rfl (by omega)) ?_ | refine x_pv (pv_fieldAddr rfl (by omega)) ?_
          refine x_store_p rfl rfl (by repeat constructor) (by first | rfl | omega | (rw [szL]; omega) | exact Nat.le_of_ble_eq_true rfl | (simp; done) | (simp; omega)) (pcl_setP) ?_
          refine x_nil ?_
          repeat (first|refine zA ?_|refine zB ?_|refine zC ?_|refine zD ?_|refine zE ?_|refine zF ?_|refine zG ?_|refine zH ?_|refine zI ?_|refine zJ ?_|refine zK ?_|refine zL ?_|refine zM rfl ?_|refine zN ?_|refine zO ?_|refine zP ?_|refine zQ ?_)
          have hsz4 := pcl_size (S := .slice a all.length c) (nn := false) (P := none) hk
          repeat (first|refine zA ?_|refine zB ?_|refine zC ?_|refine zD ?_|refine zE ?_|refine zF ?_|refine zG ?_|refine zH ?_|refine zI ?_|refine zJ ?_|refine zK ?_|refine zL ?_|refine zM rfl ?_|refine zN ?_|refine zO ?_|refine zP ?_|refine zQ ?_)
          refine x_reg ?_
          first | refine x_pv (pv_move_ptr rfl) ?_ | refine x_pv (pv_move rfl) ?_
          refine x_pv (pv_nil_ptr rfl) ?_
          first | refine x_pv (pv_fieldAddrz rfl (by omega)) ?_ | refine x_pv (pv_fieldAddr rfl (by omega)) ?_
          refine x_store_s rfl rfl (by repeat constructor) (by first | rfl | omega | (rw [szL]; omega) | exact Nat.le_of_ble_eq_true rfl | (simp; done) | (simp; omega)) (pcl_setS hk) ?_
          refine x_nil ?_
          repeat (first|refine zA ?_|refine zB ?_|refine zC ?_|refine zD ?_|refine zE ?_|refine zF ?_|refine zG ?_|refine zH ?_|refine zI ?_|refine zJ ?_|refine zK ?_|refine zL ?_|refine zM rfl ?_|refine zN ?_|refine zO ?_|refine zP ?_|refine zQ ?_)
          have hsz5 := pcl_size (S := .slice none 0 0) (nn := false) (P := none) hk
          repeat (first|refine zA ?_|refine zB ?_|refine zC ?_|refine zD ?_|refine zE ?_|refine zF ?_|refine zG ?_|refine zH ?_|refine zI ?_|refine zJ ?_|refine zK ?_|refine zL ?_|refine zM rfl ?_|refine zN ?_|refine zO ?_|refine zP ?_|refine zQ ?_)
          refine x_reg ?_
          first | refine x_pv (pv_move_ptr rfl) ?_ | refine x_pv (pv_move rfl) ?_
          refine x_pv (pv_nil_ptr rfl) ?_
          first | refine x_pv (pv_fieldAddrz rfl (by omega)) ?_ | refine x_pv (pv_fieldAddr rfl (by omega)) ?_
          refine x_store_b rfl rfl (by repeat constructor) (by first | rfl | omega | (rw [szL]; omega) | exact Nat.le_of_ble_eq_true rfl | (simp; done) | (simp; omega)) (pcl_setN hk) ?_
          refine x_nil ?_
          repeat (first|refine zA ?_|refine zB ?_|refine zC ?_|refine zD ?_|refine zE ?_|refine zF ?_|refine zG ?_|refine zH ?_|refine zI ?_|refine zJ ?_|refine zK ?_|refine zL ?_|refine zM rfl ?_|refine zN ?_|refine zO ?_|refine zP ?_|refine zQ ?_)
          refine x_reg ?_
          first | refine x_pv (pv_assign_bool rfl) ?_ | refine x_pv (pv_assign rfl) ?_
          refine x_nil ?_
          repeat (first|refine zA ?_|refine zB ?_|refine zC ?_|refine zD ?_|refine zE ?_|refine zF ?_|refine zG ?_|refine zH ?_|refine zI ?_|refine zJ ?_|refine zK ?_|refine zL ?_|refine zM rfl ?_|refine zN ?_|refine zO ?_|refine zP ?_|refine zQ ?_)
          refine rx1 (rx_bool rfl (rx_nil)) ?_
          refine ⟨_, ⟨rfl, ⟨q, key, [], none, 0, false, true⟩, ⟨hk, fun h => Bool.noConfusion h, fun _ => ⟨rfl, rfl, rfl, rfl⟩⟩, by simp, rfl⟩, ?_⟩
          show Imp _ (_ :: own 5 1 (.slice none 0 0) 0 [] :: pur True :: L)
          refine Imp.trans (Imp.arr (N := cl p (pcl none key (.slice none 0 0) true) 42 :: L) (by repeat (first | exact Arr.nil | exact Arr.stop | refine Arr.cons (by repeat constructor) ?_ | refine Arr.skip ?_))) (Imp.cons (Imp.own_nil.trans (Imp.cons (Imp.pur_mk trivial))))
        · repeat (first|refine zA ?_|refine zB ?_|refine zC ?_|refine zD ?_|refine zE ?_|refine zF ?_|refine zG ?_|refine zH ?_|refine zI ?_|refine zJ ?_|refine zK ?_|refine zL ?_|refine zM rfl ?_|refine zN ?_|refine zO ?_|refine zP ?_|refine zQ ?_)
          refine x_reg ?_
          first | refine x_pv (pv_assign_bool rfl) ?_ | refine x_pv (pv_assign rfl) ?_
          refine x_nil ?_
          repeat (first|refine zA ?_|refine zB ?_|refine zC ?_|refine zD ?_|refine zE ?_|refine zF ?_|refine zG ?_|refine zH ?_|refine zI ?_|refine zJ ?_|refine zK ?_|refine zL ?_|refine zM rfl ?_|refine zN ?_|refine zO ?_|refine zP ?_|refine zQ ?_)
          refine rx1 (rx_bool rfl (rx_nil)) ?_
          exact ⟨_, ⟨rfl, ⟨q, key, all, a, c, true, false⟩, ⟨hk, fun _ => rfl, fun h => Bool.noConfusion h⟩, by simp, rfl⟩, by show Imp _ (_ :: _ :: _ :: L); exact Imp.arr (by repeat (first | exact Arr.nil | exact Arr.stop | refine Arr.cons (by repeat constructor) ?_ | refine Arr.skip ?_))⟩
theorem step_none {L : List Asrt} {p : Nat} {key : List Byte} {nn : Bool} (hk : key.length = 32) (o : OpV) (ho : o.key_.length = 32) (hb : Bs L o.b_V o.b_) (hbl : o.b_.length ≤ 140737488351232) (oc : Array Value) (hoc : oc = o.cells.toArray) (hn : nn = true ∨ o.kind_ = 3) :
    Con Try.prog 19 [.pointer (some ⟨p, 0, none⟩), .agg oc] (cl p (pcl none key (.slice none 0 0) nn) 42 :: L)
      (fun r M => r = .bool true ∧ ∃ x, PairOk x ∧ x.all.length ≤ o.b_.length ∧ pA p x ++ L = M) := by
  subst hoc
  have hsz := pcl_size (P := none) (S := .slice none 0 0) (nn := nn) hk
  have hocl := ocl_len o ho
  refine Con.get (fun w0 w F H => (hb.imp (Imp.arr (by repeat (first | exact Arr.nil | exact Arr.stop | refine Arr.cons (by repeat constructor) ?_ | refine Arr.skip ?_)))).sh _ _ _ H) ?_
  rintro ⟨oa, oca, hov, hoc1, hoc2⟩
  rw [hov] at hb
  have fin : Imp (cl p (pcl none key (.slice none 0 0) true) 42 :: L) (pA p ⟨p, key, [], none, 0, false, true⟩ ++ L) :=
    Imp.cons (Imp.own_nil.trans (Imp.cons (Imp.pur_mk trivial)))
  have okf : PairOk ⟨p, key, [], none, 0, false, true⟩ := ⟨hk, fun h => Bool.noConfusion h, fun _ => ⟨rfl, rfl, rfl, rfl⟩⟩
  refine fn_x Try.func19 rfl rfl rfl Try.mixed (by kernel_rfl) ?_
  intro w0
  repeat (first|refine zA ?_|refine zB ?_|refine zC ?_|refine zD ?_|refine zE ?_|refine zF ?_|refine zG ?_|refine zH ?_|refine zI ?_|refine zJ ?_|refine zK ?_|refine zL ?_|refine zM rfl ?_|refine zN ?_|refine zO ?_|refine zP ?_|refine zQ ?_)
  refine x_reg ?_
  refine x_box_a rfl ?_; intro b3
  first | refine x_pv (pv_assign_bool rfl) ?_ | refine x_pv (pv_assign rfl) ?_
  refine x_nil ?_
  repeat (first|refine zA ?_|refine zB ?_|refine zC ?_|refine zD ?_|refine zE ?_|refine zF ?_|refine zG ?_|refine zH ?_|refine zI ?_|refine zJ ?_|refine zK ?_|refine zL ?_|refine zM rfl ?_|refine zN ?_|refine zO ?_|refine zP ?_|refine zQ ?_)
  refine x_reg ?_
  first | refine x_pv (pv_fieldAddrz rfl (by omega)) ?_ | refine x_pv (pv_fieldAddr rfl (by omega)) ?_
  refine x_load rfl (by repeat constructor) (ocl_0 o) ?_
  refine x_nil ?_
  repeat (first|refine zA ?_|refine zB ?_|refine zC ?_|refine zD ?_|refine zE ?_|refine zF ?_|refine zG ?_|refine zH ?_|refine zI ?_|refine zJ ?_|refine zK ?_|refine zL ?_|refine zM rfl ?_|refine zN ?_|refine zO ?_|refine zP ?_|refine zQ ?_)
  refine x_reg ?_
  first | refine x_pv (pv_eqln (b := 1) rfl rfl) ?_ | refine x_pv (pv_eql rfl rfl) ?_
  first | refine x_pv (pv_assign_bool rfl) ?_ | refine x_pv (pv_assign rfl) ?_
  refine x_nil ?_
  repeat (first|refine zA ?_|refine zB ?_|refine zC ?_|refine zD ?_|refine zE ?_|refine zF ?_|refine zG ?_|refine zH ?_|refine zI ?_|refine zJ ?_|refine zK ?_|refine zL ?_|refine zM rfl ?_|refine zN ?_|refine zO ?_|refine zP ?_|refine zQ ?_)
  refine x_cond_p rfl (fun h1 => ?_) (fun h1 => ?_)
  · have hnt : nn = true := by
      rcases hn with h | h
      · exact h
      · exact absurd (h1.symm.trans h) (by decide)
    subst hnt
    repeat (first|refine zA ?_|refine zB ?_|refine zC ?_|refine zD ?_|refine zE ?_|refine zF ?_|refine zG ?_|refine zH ?_|refine zI ?_|refine zJ ?_|refine zK ?_|refine zL ?_|refine zM rfl ?_|refine zN ?_|refine zO ?_|refine zP ?_|refine zQ ?_)
    refine x_reg ?_
    first | refine x_pv (pv_fieldAddrz rfl (by omega)) ?_ | refine x_pv (pv_fieldAddr rfl (by omega)) ?_
    refine x_load rfl (by repeat constructor) ((ocl_2 o).trans (by rw [hov])) ?_
    refine x_call rfl (by kernel_rfl) (spare_x (L := L) hb (by omega)) rfl (by repeat (first | exact Take.nil | exact Take.all | (apply Take.cons; (next => (repeat constructor); done)) | apply Take.skip)) ?_
    rintro _ _ ⟨g, rfl, rfl⟩
    refine xo_app (by repeat (first | exact App.nil | apply App.cons | (apply App.flip; first | exact App.nil | apply App.cons) | exact App.any)) ?_
    first | refine x_pv (pv_assign_slice rfl) ?_ | refine x_pv (pv_assign rfl) ?_
    refine x_nil ?_
    repeat (first|refine zA ?_|refine zB ?_|refine zC ?_|refine zD ?_|refine zE ?_|refine zF ?_|refine zG ?_|refine zH ?_|refine zI ?_|refine zJ ?_|refine zK ?_|refine zL ?_|refine zM rfl ?_|refine zN ?_|refine zO ?_|refine zP ?_|refine zQ ?_)
    have hsp := spareL_len o.b_
    repeat (first|refine zA ?_|refine zB ?_|refine zC ?_|refine zD ?_|refine zE ?_|refine zF ?_|refine zG ?_|refine zH ?_|refine zI ?_|refine zJ ?_|refine zK ?_|refine zL ?_|refine zM rfl ?_|refine zN ?_|refine zO ?_|refine zP ?_|refine zQ ?_)
    refine x_reg ?_
    first | refine x_pv (pv_move_ptr rfl) ?_ | refine x_pv (pv_move rfl) ?_
    refine x_pv (pv_nil_ptr rfl) ?_
    first | refine x_pv (pv_fieldAddrz rfl (by omega)) ?_ | refine x_pv (pv_fieldAddr rfl (by omega)) ?_
    refine x_load rfl (by repeat constructor) (pcl_P) ?_
    first | refine x_pv (pv_move_slice rfl) ?_ | refine x_pv (pv_move rfl) ?_
    refine x_call rfl (by kernel_rfl) (write_nil_c _ (some ⟨g, 0, none⟩) o.b_.length (o.b_.length + 80) rfl) rfl (by repeat (first | exact Take.nil | exact Take.all | (apply Take.cons; (next => (repeat constructor); done)) | apply Take.skip)) ?_
    rintro _ _ ⟨rfl, rfl⟩
    refine xo_app (by repeat (first | exact App.nil | apply App.cons | (apply App.flip; first | exact App.nil | apply App.cons) | exact App.any)) ?_
    first | refine x_pv (pv_move_tup rfl) ?_ | refine x_pv (pv_move rfl) ?_
    refine x_pv (pv_extract rfl rfl) ?_
    refine x_pv (pv_extract rfl rfl) ?_
    first | refine x_pv (pv_assign_int rfl) ?_ | refine x_pv (pv_assign rfl) ?_
    first | refine x_pv (pv_assign_ifc rfl) ?_ | refine x_pv (pv_assign rfl) ?_
    refine x_nil ?_
    repeat (first|refine zA ?_|refine zB ?_|refine zC ?_|refine zD ?_|refine zE ?_|refine zF ?_|refine zG ?_|refine zH ?_|refine zI ?_|refine zJ ?_|refine zK ?_|refine zL ?_|refine zM rfl ?_|refine zN ?_|refine zO ?_|refine zP ?_|refine zQ ?_)
    refine x_reg ?_
    first | refine x_pv (pv_move_ptr rfl) ?_ | refine x_pv (pv_move rfl) ?_
    refine x_pv (pv_nil_ptr rfl) ?_
    first | refine x_pv (pv_fieldAddrz rfl (by omega)) ?_ | refine x_pv (pv_fieldAddr rfl (by omega)) ?_
    refine x_load rfl (by repeat constructor) (pcl_nn hk) ?_
    refine x_nil ?_
    repeat (first|refine zA ?_|refine zB ?_|refine zC ?_|refine zD ?_|refine zE ?_|refine zF ?_|refine zG ?_|refine zH ?_|refine zI ?_|refine zJ ?_|refine zK ?_|refine zL ?_|refine zM rfl ?_|refine zN ?_|refine zO ?_|refine zP ?_|refine zQ ?_)
    refine x_cond_t rfl ?_
    repeat (first|refine zA ?_|refine zB ?_|refine zC ?_|refine zD ?_|refine zE ?_|refine zF ?_|refine zG ?_|refine zH ?_|refine zI ?_|refine zJ ?_|refine zK ?_|refine zL ?_|refine zM rfl ?_|refine zN ?_|refine zO ?_|refine zP ?_|refine zQ ?_)
    refine x_reg ?_
    first | refine x_pv (pv_move_int rfl) ?_ | refine x_pv (pv_move rfl) ?_
    first | refine x_pv (pv_eqln (b := 0) rfl rfl) ?_ | refine x_pv (pv_eql rfl rfl) ?_
    refine x_isT 31 rfl (rfl) ?_
    first | refine x_pv (pv_move_bool rfl) ?_ | refine x_pv (pv_move rfl) ?_
    first | refine x_gn rfl ?_ | refine x_gu rfl ?_ | (refine x_gy rfl ?_; (first | refine x_pv (pv_move_ifc rfl) ?_ | refine x_pv (pv_move rfl) ?_))
    first | refine x_gn rfl ?_ | refine x_gu rfl ?_ | (refine x_gy rfl ?_; (refine x_pv (pv_mkifc_i rfl) ?_))
    first | refine x_gn rfl ?_ | refine x_gu rfl ?_ | (refine x_gy rfl ?_; (refine x_pv (pv_eql_ifc_i Try.underlying50 Try.underlying68 rfl rfl rfl rfl) ?_))
    refine x_isT 35 rfl (rfl) ?_
    first | refine x_pv (pv_pick_tb rfl rfl) ?_ | refine x_pv (pv_pick_fb rfl rfl) ?_ | refine x_pv (pv_pick_t rfl rfl) ?_ | refine x_pv (pv_pick_f rfl rfl) ?_ | refine x_pv (pv_pick_and rfl rfl) ?_ | refine x_pv (pv_pick_or rfl rfl) ?_
    first | refine x_pv (pv_move_bool rfl) ?_ | refine x_pv (pv_move rfl) ?_
    first | refine x_gn rfl ?_ | refine x_gu rfl ?_ | (refine x_gy rfl ?_; (first | refine x_pv (pv_move_slice rfl) ?_ | refine x_pv (pv_move rfl) ?_))
    first | refine x_gn rfl ?_ | refine x_gu rfl ?_ | (refine x_gy rfl ?_; (first | refine x_pv (pv_fieldAddrz rfl (by omega)) ?_ | refine x_pv (pv_fieldAddr rfl (by omega)) ?_))
    first | refine x_gn rfl ?_ | refine x_gu rfl ?_ | (refine x_gy rfl ?_; (refine x_load rfl (by repeat constructor) ((ocl_2 o).trans (by rw [hov])) ?_))
    first | refine x_gn rfl ?_ | refine x_gu rfl ?_ | (refine x_gy rfl ?_; (refine x_call rfl (by kernel_rfl) (kept_x (L := cl g ((spareL o.b_).map u8b).toArray 5 :: L) .here (hb.imp Imp.tail) (by omega)) rfl (by repeat (first | exact Take.nil | exact Take.all | (apply Take.cons; (next => (repeat constructor); done)) | apply Take.skip)) ?_); (rintro _ _ ⟨rfl, rfl⟩); (refine xo_app (by repeat (first | exact App.nil | apply App.cons | (apply App.flip; first | exact App.nil | apply App.cons) | exact App.any)) ?_))
    refine x_isT 41 rfl (rfl) ?_
    first | refine x_pv (pv_pick_tb rfl rfl) ?_ | refine x_pv (pv_pick_fb rfl rfl) ?_ | refine x_pv (pv_pick_t rfl rfl) ?_ | refine x_pv (pv_pick_f rfl rfl) ?_ | refine x_pv (pv_pick_and rfl rfl) ?_ | refine x_pv (pv_pick_or rfl rfl) ?_
    first | refine x_pv (pv_assign_bool rfl) ?_ | refine x_pv (pv_assign rfl) ?_
    refine x_nil ?_
    repeat (first|refine zA ?_|refine zB ?_|refine zC ?_|refine zD ?_|refine zE ?_|refine zF ?_|refine zG ?_|refine zH ?_|refine zI ?_|refine zJ ?_|refine zK ?_|refine zL ?_|refine zM rfl ?_|refine zN ?_|refine zO ?_|refine zP ?_|refine zQ ?_)
    refine rx1 (rx_bool rfl (rx_nil)) ?_
    exact ⟨_, ⟨rfl, _, okf, by simp, rfl⟩, (Imp.arr (N := cl p (pcl none key (.slice none 0 0) true) 42 :: L) (by repeat (first | exact Arr.nil | exact Arr.stop | refine Arr.cons (by repeat constructor) ?_ | refine Arr.skip ?_))).trans fin⟩
  · repeat (first|refine zA ?_|refine zB ?_|refine zC ?_|refine zD ?_|refine zE ?_|refine zF ?_|refine zG ?_|refine zH ?_|refine zI ?_|refine zJ ?_|refine zK ?_|refine zL ?_|refine zM rfl ?_|refine zN ?_|refine zO ?_|refine zP ?_|refine zQ ?_)
    refine x_reg ?_
    first | refine x_pv (pv_eqln (b := 2) rfl rfl) ?_ | refine x_pv (pv_eql rfl rfl) ?_
    first | refine x_pv (pv_assign_bool rfl) ?_ | refine x_pv (pv_assign rfl) ?_
    refine x_nil ?_
    repeat (first|refine zA ?_|refine zB ?_|refine zC ?_|refine zD ?_|refine zE ?_|refine zF ?_|refine zG ?_|refine zH ?_|refine zI ?_|refine zJ ?_|refine zK ?_|refine zL ?_|refine zM rfl ?_|refine zN ?_|refine zO ?_|refine zP ?_|refine zQ ?_)
    refine x_cond_p rfl (fun h2 => ?_) (fun h2 => ?_)
    · have hnt : nn = true := by
        rcases hn with h | h
        · exact h
        · exact absurd (h2.symm.trans h) (by decide)
      subst hnt
      repeat (first|refine zA ?_|refine zB ?_|refine zC ?_|refine zD ?_|refine zE ?_|refine zF ?_|refine zG ?_|refine zH ?_|refine zI ?_|refine zJ ?_|refine zK ?_|refine zL ?_|refine zM rfl ?_|refine zN ?_|refine zO ?_|refine zP ?_|refine zQ ?_)
      refine x_reg ?_
      first | refine x_pv (pv_move_ptr rfl) ?_ | refine x_pv (pv_move rfl) ?_
      refine x_pv (pv_nil_ptr rfl) ?_
      first | refine x_pv (pv_fieldAddrz rfl (by omega)) ?_ | refine x_pv (pv_fieldAddr rfl (by omega)) ?_
      refine x_load rfl (by repeat constructor) (pcl_P) ?_
      refine x_call rfl (by kernel_rfl) (sum_nil_c) rfl (by repeat (first | exact Take.nil | exact Take.all | (apply Take.cons; (next => (repeat constructor); done)) | apply Take.skip)) ?_
      rintro _ _ ⟨rfl, rfl⟩
      refine xo_app (by repeat (first | exact App.nil | apply App.cons | (apply App.flip; first | exact App.nil | apply App.cons) | exact App.any)) ?_
      refine x_alloc (cs := ((List.replicate 16 0#8).map u8b).toArray) rfl ?_; intro b9
      first | refine x_store_all rfl rfl (by repeat constructor) (by first | rfl | omega | (rw [szL]; omega) | exact Nat.le_of_ble_eq_true rfl | (simp; done) | (simp; omega)) (by first | rfl | exact oneM_u8 _ | exact oneL_u8 _ | (simp [oneC]; done)) (by first | rfl | omega | (rw [szL]; omega) | exact Nat.le_of_ble_eq_true rfl | (simp; done) | (simp; omega)) ?_ | refine x_store_agg rfl rfl (by repeat constructor) (by first | rfl | omega | (rw [szL]; omega) | exact Nat.le_of_ble_eq_true rfl | (simp; done) | (simp; omega)) (by first | rfl | exact oneM_u8 _ | exact oneL_u8 _ | (simp [oneC]; done)) (by first | rfl | omega | (rw [szL]; omega) | exact Nat.le_of_ble_eq_true rfl | (simp; done) | (simp; omega)) rfl ?_
      refine x_nil ?_
      repeat (first|refine zA ?_|refine zB ?_|refine zC ?_|refine zD ?_|refine zE ?_|refine zF ?_|refine zG ?_|refine zH ?_|refine zI ?_|refine zJ ?_|refine zK ?_|refine zL ?_|refine zM rfl ?_|refine zN ?_|refine zO ?_|refine zP ?_|refine zQ ?_)
      refine x_reg ?_
      first | refine x_pv (pv_move_ptr rfl) ?_ | refine x_pv (pv_move rfl) ?_
      refine x_pv (pv_nil_ptr rfl) ?_
      first | refine x_pv (pv_fieldAddrz rfl (by omega)) ?_ | refine x_pv (pv_fieldAddr rfl (by omega)) ?_
      refine x_load rfl (by repeat constructor) (pcl_nn hk) ?_
      refine x_nil ?_
      repeat (first|refine zA ?_|refine zB ?_|refine zC ?_|refine zD ?_|refine zE ?_|refine zF ?_|refine zG ?_|refine zH ?_|refine zI ?_|refine zJ ?_|refine zK ?_|refine zL ?_|refine zM rfl ?_|refine zN ?_|refine zO ?_|refine zP ?_|refine zQ ?_)
      refine x_cond_t rfl ?_
      repeat (first|refine zA ?_|refine zB ?_|refine zC ?_|refine zD ?_|refine zE ?_|refine zF ?_|refine zG ?_|refine zH ?_|refine zI ?_|refine zJ ?_|refine zK ?_|refine zL ?_|refine zM rfl ?_|refine zN ?_|refine zO ?_|refine zP ?_|refine zQ ?_)
      refine x_reg ?_
      first | refine x_load_all rfl (by repeat constructor) (by first | rfl | omega | (rw [szL]; omega) | exact Nat.le_of_ble_eq_true rfl | (simp; done) | (simp; omega)) ?_ | refine x_load_agg rfl (by repeat constructor) (by first | rfl | omega | (rw [szL]; omega) | exact Nat.le_of_ble_eq_true rfl | (simp; done) | (simp; omega)) rfl ?_
      refine x_pv (pv_build_arr (cs := #[u8b 0#8, u8b 0#8, u8b 0#8, u8b 0#8, u8b 0#8, u8b 0#8, u8b 0#8, u8b 0#8, u8b 0#8, u8b 0#8, u8b 0#8, u8b 0#8, u8b 0#8, u8b 0#8, u8b 0#8, u8b 0#8]) (by kernel_rfl)) ?_
      refine x_pv (pv_eql_ba (n := 16) (a := List.replicate 16 0#8) (b := List.replicate 16 0#8) rfl rfl rfl rfl) ?_
      refine x_isT 96 rfl (decide_eq_true (rfl)) ?_
      first | refine x_pv (pv_assign_bool rfl) ?_ | refine x_pv (pv_assign rfl) ?_
      refine x_nil ?_
      repeat (first|refine zA ?_|refine zB ?_|refine zC ?_|refine zD ?_|refine zE ?_|refine zF ?_|refine zG ?_|refine zH ?_|refine zI ?_|refine zJ ?_|refine zK ?_|refine zL ?_|refine zM rfl ?_|refine zN ?_|refine zO ?_|refine zP ?_|refine zQ ?_)
      refine rx1 (rx_bool rfl (rx_nil)) ?_
      exact ⟨_, ⟨rfl, _, okf, by simp, rfl⟩, (Imp.arr (N := cl p (pcl none key (.slice none 0 0) true) 42 :: L) (by repeat (first | exact Arr.nil | exact Arr.stop | refine Arr.cons (by repeat constructor) ?_ | refine Arr.skip ?_))).trans fin⟩
    · repeat (first|refine zA ?_|refine zB ?_|refine zC ?_|refine zD ?_|refine zE ?_|refine zF ?_|refine zG ?_|refine zH ?_|refine zI ?_|refine zJ ?_|refine zK ?_|refine zL ?_|refine zM rfl ?_|refine zN ?_|refine zO ?_|refine zP ?_|refine zQ ?_)
      refine x_reg ?_
      first | refine x_pv (pv_eqln (b := 3) rfl rfl) ?_ | refine x_pv (pv_eql rfl rfl) ?_
      first | refine x_pv (pv_assign_bool rfl) ?_ | refine x_pv (pv_assign rfl) ?_
      refine x_nil ?_
      repeat (first|refine zA ?_|refine zB ?_|refine zC ?_|refine zD ?_|refine zE ?_|refine zF ?_|refine zG ?_|refine zH ?_|refine zI ?_|refine zJ ?_|refine zK ?_|refine zL ?_|refine zM rfl ?_|refine zN ?_|refine zO ?_|refine zP ?_|refine zQ ?_)
      refine x_cond_p rfl (fun h3 => ?_) (fun h3 => ?_)
      · repeat (first|refine zA ?_|refine zB ?_|refine zC ?_|refine zD ?_|refine zE ?_|refine zF ?_|refine zG ?_|refine zH ?_|refine zI ?_|refine zJ ?_|refine zK ?_|refine zL ?_|refine zM rfl ?_|refine zN ?_|refine zO ?_|refine zP ?_|refine zQ ?_)
        refine x_reg ?_
        first | refine x_pv (pv_move_ptr rfl) ?_ | refine x_pv (pv_move rfl) ?_
        first | refine x_pv (pv_fieldAddrz rfl (by omega)) ?_ | refine x_pv (pv_fieldAddr rfl (by omega)) ?_
        first | refine x_load_all rfl (by repeat constructor) (by first | rfl | omega | (rw [szL]; omega) | exact Nat.le_of_ble_eq_true rfl | (simp; done) | (simp; omega)) ?_ | refine x_load_agg rfl (by repeat constructor) (by first | rfl | omega | (rw [szL]; omega) | exact Nat.le_of_ble_eq_true rfl | (simp; done) | (simp; omega)) (ocl_3 o ho) ?_
        refine x_call rfl (by kernel_rfl) (new_c o.key_ ho) rfl (by repeat (first | exact Take.nil | exact Take.all | (apply Take.cons; (next => (repeat constructor); done)) | apply Take.skip)) ?_
        rintro _ _ ⟨q2, rfl, rfl⟩
        refine xo_app (by repeat (first | exact App.nil | apply App.cons | (apply App.flip; first | exact App.nil | apply App.cons) | exact App.any)) ?_
        refine x_pv (pv_nil_ptr rfl) ?_
        first | refine x_pv (pv_fieldAddrz rfl (by omega)) ?_ | refine x_pv (pv_fieldAddr rfl (by omega)) ?_
        refine x_store_p rfl rfl (by repeat constructor) (by first | rfl | omega | (rw [szL]; omega) | exact Nat.le_of_ble_eq_true rfl | (simp; done) | (simp; omega)) (pcl_setP) ?_
        refine x_nil ?_
        repeat (first|refine zA ?_|refine zB ?_|refine zC ?_|refine zD ?_|refine zE ?_|refine zF ?_|refine zG ?_|refine zH ?_|refine zI ?_|refine zJ ?_|refine zK ?_|refine zL ?_|refine zM rfl ?_|refine zN ?_|refine zO ?_|refine zP ?_|refine zQ ?_)
        have hsz3 := pcl_size (S := .slice none 0 0) (nn := nn) (P := some ⟨q2, 0, none⟩) hk
        repeat (first|refine zA ?_|refine zB ?_|refine zC ?_|refine zD ?_|refine zE ?_|refine zF ?_|refine zG ?_|refine zH ?_|refine zI ?_|refine zJ ?_|refine zK ?_|refine zL ?_|refine zM rfl ?_|refine zN ?_|refine zO ?_|refine zP ?_|refine zQ ?_)
        refine x_reg ?_
        first | refine x_pv (pv_move_ptr rfl) ?_ | refine x_pv (pv_move rfl) ?_
        first | refine x_pv (pv_fieldAddrz rfl (by omega)) ?_ | refine x_pv (pv_fieldAddr rfl (by omega)) ?_
        first | refine x_load_all rfl (by repeat constructor) (by first | rfl | omega | (rw [szL]; omega) | exact Nat.le_of_ble_eq_true rfl | (simp; done) | (simp; omega)) ?_ | refine x_load_agg rfl (by repeat constructor) (by first | rfl | omega | (rw [szL]; omega) | exact Nat.le_of_ble_eq_true rfl | (simp; done) | (simp; omega)) (ocl_3 o ho) ?_
        refine x_pv (pv_nil_ptr rfl) ?_
        first | refine x_pv (pv_fieldAddrz rfl (by omega)) ?_ | refine x_pv (pv_fieldAddr rfl (by omega)) ?_
        first | refine x_store_all rfl rfl (by repeat constructor) (by first | rfl | omega | (rw [szL]; omega) | exact Nat.le_of_ble_eq_true rfl | (simp; done) | (simp; omega)) (by first | rfl | exact oneM_u8 _ | exact oneL_u8 _ | (simp [oneC]; done)) (by first | rfl | omega | (rw [szL]; omega) | exact Nat.le_of_ble_eq_true rfl | (simp; done) | (simp; omega)) ?_ | refine x_store_agg rfl rfl (by repeat constructor) (by first | rfl | omega | (rw [szL]; omega) | exact Nat.le_of_ble_eq_true rfl | (simp; done) | (simp; omega)) (by first | rfl | exact oneM_u8 _ | exact oneL_u8 _ | (simp [oneC]; done)) (by first | rfl | omega | (rw [szL]; omega) | exact Nat.le_of_ble_eq_true rfl | (simp; done) | (simp; omega)) (pcl_setK hk ho) ?_
        refine x_nil ?_
        repeat (first|refine zA ?_|refine zB ?_|refine zC ?_|refine zD ?_|refine zE ?_|refine zF ?_|refine zG ?_|refine zH ?_|refine zI ?_|refine zJ ?_|refine zK ?_|refine zL ?_|refine zM rfl ?_|refine zN ?_|refine zO ?_|refine zP ?_|refine zQ ?_)
        have hsz4 := pcl_size (S := .slice none 0 0) (nn := nn) (P := some ⟨q2, 0, none⟩) ho
        repeat (first|refine zA ?_|refine zB ?_|refine zC ?_|refine zD ?_|refine zE ?_|refine zF ?_|refine zG ?_|refine zH ?_|refine zI ?_|refine zJ ?_|refine zK ?_|refine zL ?_|refine zM rfl ?_|refine zN ?_|refine zO ?_|refine zP ?_|refine zQ ?_)
        refine x_reg ?_
        first | refine x_pv (pv_move_ptr rfl) ?_ | refine x_pv (pv_move rfl) ?_
        refine x_pv (pv_nil_ptr rfl) ?_
        first | refine x_pv (pv_fieldAddrz rfl (by omega)) ?_ | refine x_pv (pv_fieldAddr rfl (by omega)) ?_
        refine x_store_s rfl rfl (by repeat constructor) (by first | rfl | omega | (rw [szL]; omega) | exact Nat.le_of_ble_eq_true rfl | (simp; done) | (simp; omega)) (pcl_setS ho) ?_
        refine x_nil ?_
        repeat (first|refine zA ?_|refine zB ?_|refine zC ?_|refine zD ?_|refine zE ?_|refine zF ?_|refine zG ?_|refine zH ?_|refine zI ?_|refine zJ ?_|refine zK ?_|refine zL ?_|refine zM rfl ?_|refine zN ?_|refine zO ?_|refine zP ?_|refine zQ ?_)
        refine x_reg ?_
        first | refine x_pv (pv_move_ptr rfl) ?_ | refine x_pv (pv_move rfl) ?_
        refine x_pv (pv_nil_ptr rfl) ?_
        first | refine x_pv (pv_fieldAddrz rfl (by omega)) ?_ | refine x_pv (pv_fieldAddr rfl (by omega)) ?_
        refine x_store_b rfl rfl (by repeat constructor) (by first | rfl | omega | (rw [szL]; omega) | exact Nat.le_of_ble_eq_true rfl | (simp; done) | (simp; omega)) (pcl_setN ho) ?_
        refine x_nil ?_
        repeat (first|refine zA ?_|refine zB ?_|refine zC ?_|refine zD ?_|refine zE ?_|refine zF ?_|refine zG ?_|refine zH ?_|refine zI ?_|refine zJ ?_|refine zK ?_|refine zL ?_|refine zM rfl ?_|refine zN ?_|refine zO ?_|refine zP ?_|refine zQ ?_)
        refine x_reg ?_
        first | refine x_pv (pv_move_ptr rfl) ?_ | refine x_pv (pv_move rfl) ?_
        refine x_pv (pv_nil_ptr rfl) ?_
        first | refine x_pv (pv_fieldAddrz rfl (by omega)) ?_ | refine x_pv (pv_fieldAddr rfl (by omega)) ?_
        refine x_load rfl (by repeat constructor) (pcl_P) ?_
        refine x_pv (pv_neq_ptr_nil rfl rfl) ?_
        first | refine x_pv (pv_assign_bool rfl) ?_ | refine x_pv (pv_assign rfl) ?_
        refine x_nil ?_
        repeat (first|refine zA ?_|refine zB ?_|refine zC ?_|refine zD ?_|refine zE ?_|refine zF ?_|refine zG ?_|refine zH ?_|refine zI ?_|refine zJ ?_|refine zK ?_|refine zL ?_|refine zM rfl ?_|refine zN ?_|refine zO ?_|refine zP ?_|refine zQ ?_)
        refine rx1 (rx_bool rfl (rx_nil)) ?_
        refine ⟨_, ⟨rfl, ⟨q2, o.key_, [], none, 0, true, false⟩, ⟨ho, fun _ => rfl, fun h => Bool.noConfusion h⟩, by simp, rfl⟩, ?_⟩
        show Imp _ (_ :: own 5 1 (.slice none 0 0) 0 [] :: cl q2 (pc (writeS (newS o.key_) [])) 74 :: L)
        rw [writeS_nil]
        refine Imp.trans (Imp.arr (N := cl p (pcl (some ⟨q2, 0, none⟩) o.key_ (.slice none 0 0) false) 42 :: cl q2 (pc (newS o.key_)) 74 :: L) (by repeat (first | exact Arr.nil | exact Arr.stop | refine Arr.cons (by repeat constructor) ?_ | refine Arr.skip ?_))) (Imp.cons Imp.own_nil)
      · have hnt : nn = true := by
          rcases hn with h | h
          · exact h
          · exact absurd h h3
        subst hnt
        repeat (first|refine zA ?_|refine zB ?_|refine zC ?_|refine zD ?_|refine zE ?_|refine zF ?_|refine zG ?_|refine zH ?_|refine zI ?_|refine zJ ?_|refine zK ?_|refine zL ?_|refine zM rfl ?_|refine zN ?_|refine zO ?_|refine zP ?_|refine zQ ?_)
        refine x_reg ?_
        first | refine x_pv (pv_eqln (b := 4) rfl rfl) ?_ | refine x_pv (pv_eql rfl rfl) ?_
        first | refine x_pv (pv_assign_bool rfl) ?_ | refine x_pv (pv_assign rfl) ?_
        refine x_nil ?_
        repeat (first|refine zA ?_|refine zB ?_|refine zC ?_|refine zD ?_|refine zE ?_|refine zF ?_|refine zG ?_|refine zH ?_|refine zI ?_|refine zJ ?_|refine zK ?_|refine zL ?_|refine zM rfl ?_|refine zN ?_|refine zO ?_|refine zP ?_|refine zQ ?_)
        refine x_cond_p rfl (fun h4 => ?_) (fun h4 => ?_)
        · repeat (first|refine zA ?_|refine zB ?_|refine zC ?_|refine zD ?_|refine zE ?_|refine zF ?_|refine zG ?_|refine zH ?_|refine zI ?_|refine zJ ?_|refine zK ?_|refine zL ?_|refine zM rfl ?_|refine zN ?_|refine zO ?_|refine zP ?_|refine zQ ?_)
          refine x_reg ?_
          first | refine x_pv (pv_move_ptr rfl) ?_ | refine x_pv (pv_move rfl) ?_
          refine x_pv (pv_nil_ptr rfl) ?_
          first | refine x_pv (pv_fieldAddrz rfl (by omega)) ?_ | refine x_pv (pv_fieldAddr rfl (by omega)) ?_
          refine x_store_p rfl rfl (by repeat constructor) (by first | rfl | omega | (rw [szL]; omega) | exact Nat.le_of_ble_eq_true rfl | (simp; done) | (simp; omega)) (pcl_setP) ?_
          refine x_nil ?_
          repeat (first|refine zA ?_|refine zB ?_|refine zC ?_|refine zD ?_|refine zE ?_|refine zF ?_|refine zG ?_|refine zH ?_|refine zI ?_|refine zJ ?_|refine zK ?_|refine zL ?_|refine zM rfl ?_|refine zN ?_|refine zO ?_|refine zP ?_|refine zQ ?_)
          refine x_reg ?_
          first | refine x_pv (pv_move_ptr rfl) ?_ | refine x_pv (pv_move rfl) ?_
          refine x_pv (pv_nil_ptr rfl) ?_
          first | refine x_pv (pv_fieldAddrz rfl (by omega)) ?_ | refine x_pv (pv_fieldAddr rfl (by omega)) ?_
          refine x_store_s rfl rfl (by repeat constructor) (by first | rfl | omega | (rw [szL]; omega) | exact Nat.le_of_ble_eq_true rfl | (simp; done) | (simp; omega)) (pcl_setS hk) ?_
          refine x_nil ?_
          repeat (first|refine zA ?_|refine zB ?_|refine zC ?_|refine zD ?_|refine zE ?_|refine zF ?_|refine zG ?_|refine zH ?_|refine zI ?_|refine zJ ?_|refine zK ?_|refine zL ?_|refine zM rfl ?_|refine zN ?_|refine zO ?_|refine zP ?_|refine zQ ?_)
          refine x_reg ?_
          first | refine x_pv (pv_move_ptr rfl) ?_ | refine x_pv (pv_move rfl) ?_
          refine x_pv (pv_nil_ptr rfl) ?_
          first | refine x_pv (pv_fieldAddrz rfl (by omega)) ?_ | refine x_pv (pv_fieldAddr rfl (by omega)) ?_
          refine x_store_b rfl rfl (by repeat constructor) (by first | rfl | omega | (rw [szL]; omega) | exact Nat.le_of_ble_eq_true rfl | (simp; done) | (simp; omega)) (pcl_setN hk) ?_
          refine x_nil ?_
          repeat (first|refine zA ?_|refine zB ?_|refine zC ?_|refine zD ?_|refine zE ?_|refine zF ?_|refine zG ?_|refine zH ?_|refine zI ?_|refine zJ ?_|refine zK ?_|refine zL ?_|refine zM rfl ?_|refine zN ?_|refine zO ?_|refine zP ?_|refine zQ ?_)
          refine x_reg ?_
          first | refine x_pv (pv_assign_bool rfl) ?_ | refine x_pv (pv_assign rfl) ?_
          refine x_nil ?_
          repeat (first|refine zA ?_|refine zB ?_|refine zC ?_|refine zD ?_|refine zE ?_|refine zF ?_|refine zG ?_|refine zH ?_|refine zI ?_|refine zJ ?_|refine zK ?_|refine zL ?_|refine zM rfl ?_|refine zN ?_|refine zO ?_|refine zP ?_|refine zQ ?_)
          refine rx1 (rx_bool rfl (rx_nil)) ?_
          exact ⟨_, ⟨rfl, _, okf, by simp, rfl⟩, (Imp.arr (N := cl p (pcl none key (.slice none 0 0) true) 42 :: L) (by repeat (first | exact Arr.nil | exact Arr.stop | refine Arr.cons (by repeat constructor) ?_ | refine Arr.skip ?_))).trans fin⟩
        · repeat (first|refine zA ?_|refine zB ?_|refine zC ?_|refine zD ?_|refine zE ?_|refine zF ?_|refine zG ?_|refine zH ?_|refine zI ?_|refine zJ ?_|refine zK ?_|refine zL ?_|refine zM rfl ?_|refine zN ?_|refine zO ?_|refine zP ?_|refine zQ ?_)
          refine x_reg ?_
          first | refine x_pv (pv_assign_bool rfl) ?_ | refine x_pv (pv_assign rfl) ?_
          refine x_nil ?_
          repeat (first|refine zA ?_|refine zB ?_|refine zC ?_|refine zD ?_|refine zE ?_|refine zF ?_|refine zG ?_|refine zH ?_|refine zI ?_|refine zJ ?_|refine zK ?_|refine zL ?_|refine zM rfl ?_|refine zN ?_|refine zO ?_|refine zP ?_|refine zQ ?_)
          refine rx1 (rx_bool rfl (rx_nil)) ?_
          exact ⟨_, ⟨rfl, _, okf, by simp, rfl⟩, (Imp.arr (N := cl p (pcl none key (.slice none 0 0) true) 42 :: L) (by repeat (first | exact Arr.nil | exact Arr.stop | refine Arr.cons (by repeat constructor) ?_ | refine Arr.skip ?_))).trans fin⟩
/-- A step on a pair, whatever it is. -/
theorem stepped_x {L : List Asrt} {p : Nat} (x : PairS) (ok : PairOk x) (o : OpV) (ho : o.key_.length = 32) (hb : Bs L o.b_V o.b_) (hbl : o.b_.length ≤ 140737488351232) (hal : x.all.length + o.b_.length ≤ 140737488351232) (oc : Array Value) (hoc : oc = o.cells.toArray) :
    Con Try.prog 19 [.pointer (some ⟨p, 0, none⟩), .agg oc] (pA p x ++ L)
      (fun r M => r = .bool true ∧ ∃ x', PairOk x' ∧ x'.all.length ≤ x.all.length + o.b_.length ∧ pA p x' ++ L = M) := by
  obtain ⟨q, key, all, a, c, pl, nn⟩ := x
  cases pl with
  | true =>
    have h1 := ok.some rfl
    dsimp only at h1 hal
    subst h1
    exact step_some (L := L) ok.key o ho hb hbl (by simpa using hal) oc hoc
  | false =>
    have h1 := ok.none rfl
    dsimp only at h1
    obtain ⟨rfl, rfl, rfl, rfl⟩ := h1
    refine Con.pre ((step_none (L := L) (p := p) (nn := true) ok.key o ho hb hbl oc hoc (.inl rfl)).mono ?_) ?_
    · rintro v M ⟨rfl, x', h1, h2, rfl⟩
      exact ⟨_, Imp.refl _, rfl, x', h1, by dsimp only; omega, rfl⟩
    · show Imp (cl p (pcl none key (.slice none 0 0) true) 42 :: own 5 1 (.slice none 0 0) 0 [] :: pur True :: L) _
      exact Imp.arr (by repeat (first | exact Arr.nil | exact Arr.stop | refine Arr.cons (by repeat constructor) ?_ | refine Arr.skip ?_))
end Go.Sl

/- cells that may be read, wherever they stand. -/
set_option linter.unusedVariables false
set_option linter.unusedSimpArgs false
namespace Go.Sl
open Go
/-- Among the pieces M the cell o of the block b is v. -/
def RdAt (M : List Asrt) (b o : Nat) (v : Value) : Prop := ∀ w0 F w, St w0 w (F :: M) → ∃ c E fr, w.heap[b]? = some (.cells c E fr) ∧ c[o]? = some v
/-- ... n cells from o on. -/
def RdAg (M : List Asrt) (b o n : Nat) (cs : Array Value) : Prop := ∀ w0 F w, St w0 w (F :: M) → ∃ c E fr, w.heap[b]? = some (.cells c E fr) ∧ o + n ≤ c.size ∧ c.extract o (o + n) = cs
section
variable {M M' : List Asrt} {b o : Nat}
theorem RdAt.imp {v : Value} (h : RdAt M b o v) (hi : Imp M' M) : RdAt M' b o v := fun _ _ _ H => h _ _ _ (H.enx hi)
theorem RdAg.imp {n : Nat} {cs : Array Value} (h : RdAg M b o n cs) (hi : Imp M' M) : RdAg M' b o n cs := fun _ _ _ H => h _ _ _ (H.enx hi)
theorem RdAt.cl {c : Array Value} {E : Nat} {v : Value} (hm : Has M (cl b c E) M') (hv : c[o]? = some v) : RdAt M b o v := fun _ _ _ H => ⟨c, E, (0, 0), (H.pick (.there hm)).cl_get, hv⟩
theorem RdAg.cl {c cs : Array Value} {E n : Nat} (hm : Has M (Sl.cl b c E) M') (hv : o + n ≤ c.size) (hc : c.extract o (o + n) = cs) : RdAg M b o n cs := fun _ _ _ H => ⟨c, E, (0, 0), (H.pick (.there hm)).cl_get, hv, hc⟩
theorem Rd.at {m k j : Nat} {xs : List Value} {v : Value} (h : Rd M 1 (.slice (some ⟨b, o, none⟩) m k) m xs) (hj : j < m) (hv : xs[j]? = some v) : RdAt M b (o + j) v := fun _ _ _ H => by
  obtain ⟨c, E, fr, hb, hc⟩ := (h _ _ _ H).cellAt hj
  exact ⟨c, E, fr, hb, hc.trans hv⟩
theorem Rd.at0 {m k j : Nat} {xs : List Value} {v : Value} (h : Rd M 1 (.slice (some ⟨b, 0, none⟩) m k) m xs) (hj : j < m) (hv : xs[j]? = some v) : RdAt M b j v := by
  have := h.at hj hv; rwa [Nat.zero_add] at this
theorem Rd.atN {α : Type} {enc : α → List Value} {l : List α} {sz k i j : Nat} {v : Value} (h : Rd M sz (.slice (some ⟨b, o, none⟩) l.length k) l.length (l.flatMap enc)) (he : ∀ a, (enc a).length = sz) (hi : i < l.length) (hj : j < sz) (hv : (enc l[i])[j]? = some v) : RdAt M b (o + i * sz + j) v := fun _ _ _ H => by
  obtain ⟨c, E, fr, hb, hc⟩ := (h _ _ _ H).cellAtN he (by omega) hi hj
  exact ⟨c, E, fr, hb, hc.trans hv⟩
theorem Rd.atN0 {α : Type} {enc : α → List Value} {l : List α} {sz k i j : Nat} {v : Value} (h : Rd M sz (.slice (some ⟨b, 0, none⟩) l.length k) l.length (l.flatMap enc)) (he : ∀ a, (enc a).length = sz) (hi : i < l.length) (hj : j < sz) (hv : (enc l[i])[j]? = some v) : RdAt M b (i * sz + j) v := by
  have := h.atN he hi hj hv; rwa [Nat.zero_add] at this
theorem Rd.atF {α : Type} {enc : α → List Value} {l : List α} {sz k i : Nat} {v : Value} (h : Rd M sz (.slice (some ⟨b, o, none⟩) l.length k) l.length (l.flatMap enc)) (he : ∀ a, (enc a).length = sz) (hi : i < l.length) (hj : 0 < sz) (hv : (enc l[i])[0]? = some v) : RdAt M b (o + i * sz) v := h.atN (j := 0) he hi hj hv
theorem Rd.agN {α : Type} {enc : α → List Value} {l : List α} {sz k i : Nat} (h : Rd M sz (.slice (some ⟨b, o, none⟩) l.length k) l.length (l.flatMap enc)) (he : ∀ a, (enc a).length = sz) (hsz : 0 < sz) (hi : i < l.length) : RdAg M b (o + i * sz) sz (enc l[i]).toArray := fun _ _ _ H => by
  obtain ⟨c, E, fr, hb, hle, hc⟩ := (h _ _ _ H).cellsAt he hsz hi
  exact ⟨c, E, fr, hb, hle, hc⟩
theorem Rd.agN0 {α : Type} {enc : α → List Value} {l : List α} {sz k i : Nat} (h : Rd M sz (.slice (some ⟨b, 0, none⟩) l.length k) l.length (l.flatMap enc)) (he : ∀ a, (enc a).length = sz) (hsz : 0 < sz) (hi : i < l.length) : RdAg M b (i * sz) sz (enc l[i]).toArray := by
  have := h.agN he hsz hi; rwa [Nat.zero_add] at this
end
section
variable {P : Program} {w0 : World} {ops : Array Oper} {dst : Option Nat} {ty T : TypeId} {pos : String} {after : Array Edge} {rest : List Oper} {ρ : Env} {K : XK} {M SM : List Asrt} {x : Operand} {b o i j n by' : Nat} {z v : Value} {cs : Array Value} {r : Ord} {t : Bool}
theorem run_ldc {oo : Oper} {w : World} [hs : TyScal P T] (hoo : oo.op = .load T x) (hx : ev ρ x = .pointer (some ⟨b, o, none⟩)) (h : RdAt SM b o v) {F : Asrt} (H : St w0 w (F :: SM)) : (execOp (ev ρ) oo).run P w = .ok (.value v) w := by
  obtain ⟨c, E, fr, hb, hc⟩ := h _ _ _ H
  have hr : (Instr.loadAt T (ev ρ x)).run P w = .ok v w := by
    rw [hx]; unfold Instr.loadAt
    rw [run_bind P _ _ w w _ rfl]; unfold loadVar
    rw [run_bind P _ _ w w _ (run_isAgg hs.h)]
    exact run_load1 hb hc
  unfold execOp; rw [hoo]
  exact op_run_value hr
theorem run_ldg {oo : Oper} {w : World} [hs : TyAggr P T] [hi : TyI P T n by' z] (hoo : oo.op = .load T x) (hx : ev ρ x = .pointer (some ⟨b, o, none⟩)) (h : RdAg SM b o n cs) {F : Asrt} (H : St w0 w (F :: SM)) : (execOp (ev ρ) oo).run P w = .ok (.value (.agg cs)) w := by
  obtain ⟨c, E, fr, hb, hv, hc⟩ := h _ _ _ H
  have hr := run_loadAgg (P := P) (ρ := ρ) (x := x) (T := T) (n := n) hb hv hx
  rw [hc] at hr
  unfold execOp; rw [hoo]
  exact op_run_value hr
theorem x_ldc [hs : TyScal P T] (hx : ev ρ x = .pointer (some ⟨b, o, none⟩)) (h : RdAt M b o v) (kk : xOps P w0 ops rest (put ρ dst v) M K) : xOps P w0 ops (⟨dst, .load T x, ty, pos, after, none⟩ :: rest) ρ M K := fun F w H => by
  obtain ⟨c, E, fr, hb, hc⟩ := h _ _ _ H
  exact d_load_w hx hb hc (kk F w H)
theorem x_ldg [hs : TyAggr P T] [hi : TyI P T n by' z] (hx : ev ρ x = .pointer (some ⟨b, o, none⟩)) (h : RdAg M b o n cs) (kk : xOps P w0 ops rest (put ρ dst (.agg cs)) M K) : xOps P w0 ops (⟨dst, .load T x, ty, pos, after, none⟩ :: rest) ρ M K := fun F w H => by
  obtain ⟨c, E, fr, hb, hv, hc⟩ := h _ _ _ H
  exact d_load_agg_w hx hb hv hc (kk F w H)
theorem cx_ldc [hs : TyScal P T] (ho : ops[i]? = some ⟨dst, .load T x, ty, pos, after, none⟩) (hx : ev ρ x = .pointer (some ⟨b, o, none⟩)) (h : RdAt SM b o v) (k : cX P w0 ops SM r (put ρ dst v) M K) : cX P w0 ops SM (.r i r) ρ M K :=
  cx_rd ho (fun F w H => run_ldc rfl hx h H) k
theorem cx_ldcy [hs : TyScal P T] (ho : ops[i]? = some ⟨dst, .load T x, ty, pos, after, some (j, t)⟩) (hg : yl ops ρ j = some t) (hx : ev ρ x = .pointer (some ⟨b, o, none⟩)) (h : RdAt SM b o v) (k : cX P w0 ops SM r (put ρ dst v) M K) : cX P w0 ops SM (.r i r) ρ M K :=
  cx_rdy ho hg (fun F w H => run_ldc rfl hx h H) k
theorem cx_ldg [hs : TyAggr P T] [hi : TyI P T n by' z] (ho : ops[i]? = some ⟨dst, .load T x, ty, pos, after, none⟩) (hx : ev ρ x = .pointer (some ⟨b, o, none⟩)) (h : RdAg SM b o n cs) (k : cX P w0 ops SM r (put ρ dst (.agg cs)) M K) : cX P w0 ops SM (.r i r) ρ M K :=
  cx_rd ho (fun F w H => run_ldg rfl hx h H) k
theorem cx_ldgy [hs : TyAggr P T] [hi : TyI P T n by' z] (ho : ops[i]? = some ⟨dst, .load T x, ty, pos, after, some (j, t)⟩) (hg : yl ops ρ j = some t) (hx : ev ρ x = .pointer (some ⟨b, o, none⟩)) (h : RdAg SM b o n cs) (k : cX P w0 ops SM r (put ρ dst (.agg cs)) M K) : cX P w0 ops SM (.r i r) ρ M K :=
  cx_rdy ho hg (fun F w H => run_ldg rfl hx h H) k
end
end Go.Sl

/- trystlaw06: TagPlays, walked. -/
set_option maxHeartbeats 4000000
set_option maxRecDepth 10000
set_option linter.unusedVariables false
set_option linter.unusedSimpArgs false
namespace Go.Sl
open Go Go.Proofs
attribute [local irreducible] cl pt own old pur ex all den denOps denS xOps xC cX CX xthen xblk xcut xloop retX resX Calls PV Rd Con
abbrev ptrV (b : Nat) : Value := .pointer (some ⟨b, 0, none⟩)
abbrev nilP : Value := .pointer none
def pS (x : Nat × PairS) : Asrt := all (pA x.1 x.2)
abbrev pX (p : Nat) (x : PairS) (L : List Asrt) : List Asrt := cl p (pcl x.ptr x.key (.slice x.a x.all.length x.c) x.nn) 42 :: own 5 1 (.slice x.a x.all.length x.c) x.all.length (x.all.map u8b) :: pq x :: L
theorem pS_out {x : Nat × PairS} {L : List Asrt} : Imp (pS x :: L) (pX x.1 x.2 L) := Imp.unapp (L := pA x.1 x.2)
theorem pS_in {x : Nat × PairS} {L : List Asrt} : Imp (pX x.1 x.2 L) (pS x :: L) := Imp.app (L := pA x.1 x.2)
theorem ptr_set (vs : List Value) (n i : Nat) (v : Value) (h : vs.length = i) : ((vs ++ List.replicate (n + 1) nilP).toArray).setIfInBounds i v = ((vs ++ [v]) ++ List.replicate n nilP).toArray := by
  apply Array.ext'
  subst h
  simp [List.replicate_succ, List.set_append_right]
theorem stepped_y {L : List Asrt} {p : Nat} (x : PairS) (ok : PairOk x) (o : OpV) (ho : o.key_.length = 32) (hb : Bs L o.b_V o.b_) (hbl : o.b_.length ≤ 140737488351232) (hal : x.all.length + o.b_.length ≤ 140737488351232) (oc : Array Value) (hoc : oc = o.cells.toArray) :
    Con Try.prog 19 [.pointer (some ⟨p, 0, none⟩), .agg oc] (pX p x L)
      (fun r M => ∃ x', PairOk x' ∧ x'.all.length ≤ x.all.length + o.b_.length ∧ r = .bool true ∧ M = pX p x' L) := by
  refine (stepped_x (L := L) (p := p) x ok o ho hb hbl hal oc hoc).mono ?_
  rintro v M ⟨rfl, x', h1, h2, rfl⟩
  exact ⟨_, Imp.refl _, x', h1, h2, rfl, rfl⟩
theorem step_new {L : List Asrt} {p : Nat} (o : OpV) (ho : o.key_.length = 32) (hb : Bs L o.b_V o.b_) (hbl : o.b_.length ≤ 140737488351232) (oc : Array Value) (hoc : oc = o.cells.toArray) (hn : o.kind_ = 3) (cs : Array Value) (hcs : cs = pcl none (List.replicate 32 0#8) (.slice none 0 0) false) :
    Con Try.prog 19 [.pointer (some ⟨p, 0, none⟩), .agg oc] (cl p cs 42 :: L)
      (fun r M => ∃ x', PairOk x' ∧ x'.all.length ≤ o.b_.length ∧ r = .bool true ∧ M = pX p x' L) := by
  subst hcs
  refine (step_none (L := L) (p := p) (nn := false) (by simp) o ho hb hbl oc hoc (.inr hn)).mono ?_
  rintro v M ⟨rfl, x', h1, h2, rfl⟩
  exact ⟨_, Imp.refl _, x', h1, h2, rfl, rfl⟩
def opNew (y : Byte) : OpV := ⟨3, 0, .slice none 0 0, [], y :: 7#8 :: List.replicate 30 0#8⟩
def opSum : OpV := ⟨2, 0, .slice none 0 0, [], List.replicate 32 0#8⟩
theorem opNew_cells (y : Byte) : (#[.int .i64 3, .int .i64 0, .slice none 0 0, u8b y, u8b 7#8, u8b 0#8, u8b 0#8, u8b 0#8, u8b 0#8, u8b 0#8, u8b 0#8, u8b 0#8, u8b 0#8, u8b 0#8, u8b 0#8, u8b 0#8, u8b 0#8, u8b 0#8, u8b 0#8, u8b 0#8, u8b 0#8, u8b 0#8, u8b 0#8, u8b 0#8, u8b 0#8, u8b 0#8, u8b 0#8, u8b 0#8, u8b 0#8, u8b 0#8, u8b 0#8, u8b 0#8, u8b 0#8, u8b 0#8, u8b 0#8] : Array Value) = (opNew y).cells.toArray := rfl
theorem opSum_cells : (#[.int .i64 2, .int .i64 0, .slice none 0 0, u8b 0#8, u8b 0#8, u8b 0#8, u8b 0#8, u8b 0#8, u8b 0#8, u8b 0#8, u8b 0#8, u8b 0#8, u8b 0#8, u8b 0#8, u8b 0#8, u8b 0#8, u8b 0#8, u8b 0#8, u8b 0#8, u8b 0#8, u8b 0#8, u8b 0#8, u8b 0#8, u8b 0#8, u8b 0#8, u8b 0#8, u8b 0#8, u8b 0#8, u8b 0#8, u8b 0#8, u8b 0#8, u8b 0#8, u8b 0#8, u8b 0#8, u8b 0#8] : Array Value) = opSum.cells.toArray := rfl
theorem pair_zero : (#[.pointer none, u8b 0#8, u8b 0#8, u8b 0#8, u8b 0#8, u8b 0#8, u8b 0#8, u8b 0#8, u8b 0#8, u8b 0#8, u8b 0#8, u8b 0#8, u8b 0#8, u8b 0#8, u8b 0#8, u8b 0#8, u8b 0#8, u8b 0#8, u8b 0#8, u8b 0#8, u8b 0#8, u8b 0#8, u8b 0#8, u8b 0#8, u8b 0#8, u8b 0#8, u8b 0#8, u8b 0#8, u8b 0#8, u8b 0#8, u8b 0#8, u8b 0#8, u8b 0#8, .slice none 0 0, .bool false] : Array Value) = pcl none (List.replicate 32 0#8) (.slice none 0 0) false := rfl
def sumL (l : List OpV) : Nat := (l.map (·.b_.length)).sum
theorem sumL_take (l : List OpV) (i : Nat) (h : i < l.length) : sumL (l.take (i + 1)) = sumL (l.take i) + l[i].b_.length := by
  unfold sumL; rw [List.take_succ_eq_append_getElem h]; simp only [List.map_append, List.sum_append, List.map_cons, List.map_nil, List.sum_cons, List.sum_nil, Nat.add_zero]
theorem sumL_le (l : List OpV) (i : Nat) : sumL (l.take i) ≤ sumL l := by
  have : sumL l = sumL (l.take i) + sumL (l.drop i) := by unfold sumL; rw [← List.sum_append, ← List.map_append, List.take_append_drop]
  omega
attribute [local irreducible] pcl OpV.cells pS pq
theorem plays_x (W : World) (v : Value) (l : List OpV) (hin : InOpV W v l) (hsum : sumL l + l.length ≤ 2097152) :
    Con Try.prog 6 [v] [old W] (fun r M => r = .bool true ∧ [old W] = M) := by
  obtain ⟨va, vc, rfl, hvl, hvc⟩ := hin.sh
  obtain ⟨l2, hl2, hsl⟩ := hin.sub
  have hll : l2.length = l.length := by rw [← hl2]; simp
  rw [hll] at hsl
  refine fn_x Try.func6 rfl rfl rfl Try.mixed (by kernel_rfl) ?_
  intro w0
  repeat (first|refine zA ?_|refine zB ?_|refine zC ?_|refine zD ?_|refine zE ?_|refine zF ?_|refine zG ?_|refine zH ?_|refine zI ?_|refine zJ ?_|refine zK ?_|refine zL ?_|refine zM rfl ?_|refine zN ?_|refine zO ?_|refine zP ?_|refine zQ ?_)
  refine x_reg ?_
  first | refine x_pv (pv_assign_bool rfl) ?_ | refine x_pv (pv_assign rfl) ?_
  refine x_nil ?_
  repeat (first|refine zA ?_|refine zB ?_|refine zC ?_|refine zD ?_|refine zE ?_|refine zF ?_|refine zG ?_|refine zH ?_|refine zI ?_|refine zJ ?_|refine zK ?_|refine zL ?_|refine zM rfl ?_|refine zN ?_|refine zO ?_|refine zP ?_|refine zQ ?_)
  refine x_reg ?_
  refine x_alloc (cs := #[.pointer none, .pointer none, .pointer none]) rfl ?_; intro b3
  refine x_nil ?_
  repeat (first|refine zA ?_|refine zB ?_|refine zC ?_|refine zD ?_|refine zE ?_|refine zF ?_|refine zG ?_|refine zH ?_|refine zI ?_|refine zJ ?_|refine zK ?_|refine zL ?_|refine zM rfl ?_|refine zN ?_|refine zO ?_|refine zP ?_|refine zQ ?_)
  refine x_reg ?_
  first | refine x_pv (pv_assign_int rfl) ?_ | refine x_pv (pv_assign rfl) ?_
  refine x_nil ?_
  repeat (first|refine zA ?_|refine zB ?_|refine zC ?_|refine zD ?_|refine zE ?_|refine zF ?_|refine zG ?_|refine zH ?_|refine zI ?_|refine zJ ?_|refine zK ?_|refine zL ?_|refine zM rfl ?_|refine zN ?_|refine zO ?_|refine zP ?_|refine zQ ?_)
  refine x_loop [(2, 2), (4, 4), (7, 24)] (by kernel_rfl) (fun s : List (Nat × PairS) => s.length ≤ 3 ∧ ∀ x ∈ s, PairOk x.2 ∧ x.2.all.length = 0)
    (fun s => cl b3 (s.map (fun x => ptrV x.1) ++ List.replicate (3 - s.length) nilP).toArray 39 :: star pS s :: [old W])
    (fun s => [(4, nv s.length)]) (fun s => 3 - s.length) [] ⟨by simp, by simp⟩ ((Imp.arr (N := cl b3 #[nilP, nilP, nilP] 39 :: [old W]) (by repeat (first | exact Arr.nil | exact Arr.stop | refine Arr.cons (by repeat constructor) ?_ | refine Arr.skip ?_))).trans (Imp.cons star_nil)) ⟨rfl, trivial⟩ ?_
  rintro s u ⟨hs, hsok⟩
  obtain ⟨i, hi⟩ : ∃ i, i = s.length := ⟨_, rfl⟩
  rw [← hi] at hs ⊢
  have hml : (s.map (fun x => ptrV x.1)).length = i := by simp [hi]
  repeat (first|refine zA ?_|refine zB ?_|refine zC ?_|refine zD ?_|refine zE ?_|refine zF ?_|refine zG ?_|refine zH ?_|refine zI ?_|refine zJ ?_|refine zK ?_|refine zL ?_|refine zM rfl ?_|refine zN ?_|refine zO ?_|refine zP ?_|refine zQ ?_)
  refine x_reg ?_
  first | refine x_pv (pv_move_int rfl) ?_ | refine x_pv (pv_move rfl) ?_
  first | refine x_pv (pv_lssn (b := 3) rfl rfl) ?_ | refine x_pv (pv_lss rfl rfl) ?_
  refine x_nil ?_
  repeat (first|refine zA ?_|refine zB ?_|refine zC ?_|refine zD ?_|refine zE ?_|refine zF ?_|refine zG ?_|refine zH ?_|refine zI ?_|refine zJ ?_|refine zK ?_|refine zL ?_|refine zM rfl ?_|refine zN ?_|refine zO ?_|refine zP ?_|refine zQ ?_)
  refine x_cond_p rfl (fun hA => ?_) (fun hA => ?_)
  · have hrep : 3 - i = (3 - (i + 1)) + 1 := by omega
    rw [hrep]
    have hsz : ((s.map (fun x => ptrV x.1) ++ List.replicate (3 - (i + 1) + 1) nilP).toArray).size = 3 := by
      rw [List.size_toArray, List.length_append, hml, List.length_replicate]; omega
    repeat (first|refine zA ?_|refine zB ?_|refine zC ?_|refine zD ?_|refine zE ?_|refine zF ?_|refine zG ?_|refine zH ?_|refine zI ?_|refine zJ ?_|refine zK ?_|refine zL ?_|refine zM rfl ?_|refine zN ?_|refine zO ?_|refine zP ?_|refine zQ ?_)
    refine x_reg ?_
    first | refine x_pv (pv_move_int rfl) ?_ | refine x_pv (pv_move rfl) ?_
    refine x_pv (pv_build (cs := #[.pointer none, u8b 0#8, u8b 0#8, u8b 0#8, u8b 0#8, u8b 0#8, u8b 0#8, u8b 0#8, u8b 0#8, u8b 0#8, u8b 0#8, u8b 0#8, u8b 0#8, u8b 0#8, u8b 0#8, u8b 0#8, u8b 0#8, u8b 0#8, u8b 0#8, u8b 0#8, u8b 0#8, u8b 0#8, u8b 0#8, u8b 0#8, u8b 0#8, u8b 0#8, u8b 0#8, u8b 0#8, u8b 0#8, u8b 0#8, u8b 0#8, u8b 0#8, u8b 0#8, .slice none 0 0, .bool false]) (by kernel_rfl)) ?_
    refine x_box_a rfl ?_; intro b13
    first | refine x_pv (pv_ixa1z rfl rfl (by first | omega | exact Nat.le_of_ble_eq_true rfl | (simp; done) | (simp; omega))) ?_ | refine x_pv (pv_ixa1 rfl rfl (by first | omega | exact Nat.le_of_ble_eq_true rfl | (simp; done) | (simp; omega))) ?_
    refine x_store_p rfl rfl (by repeat constructor) (by first | rfl | omega | (rw [szL]; omega) | exact Nat.le_of_ble_eq_true rfl | (simp; done) | (simp; omega)) (ptr_set _ _ i _ hml) ?_
    refine x_nil ?_
    repeat (first|refine zA ?_|refine zB ?_|refine zC ?_|refine zD ?_|refine zE ?_|refine zF ?_|refine zG ?_|refine zH ?_|refine zI ?_|refine zJ ?_|refine zK ?_|refine zL ?_|refine zM rfl ?_|refine zN ?_|refine zO ?_|refine zP ?_|refine zQ ?_)
    have hget : ((s.map (fun x => ptrV x.1) ++ [ptrV b13] ++ List.replicate (3 - (i + 1)) nilP).toArray)[i]? = some (ptrV b13) := by
      rw [List.getElem?_toArray, List.append_assoc, List.getElem?_append_right (by omega), hml, Nat.sub_self]; rfl
    repeat (first|refine zA ?_|refine zB ?_|refine zC ?_|refine zD ?_|refine zE ?_|refine zF ?_|refine zG ?_|refine zH ?_|refine zI ?_|refine zJ ?_|refine zK ?_|refine zL ?_|refine zM rfl ?_|refine zN ?_|refine zO ?_|refine zP ?_|refine zQ ?_)
    refine x_reg ?_
    first | refine x_pv (pv_move_int rfl) ?_ | refine x_pv (pv_move rfl) ?_
    first | refine x_pv (pv_ixa1z rfl rfl (by first | omega | exact Nat.le_of_ble_eq_true rfl | (simp; done) | (simp; omega))) ?_ | refine x_pv (pv_ixa1 rfl rfl (by first | omega | exact Nat.le_of_ble_eq_true rfl | (simp; done) | (simp; omega))) ?_
    refine x_load rfl (by repeat constructor) (hget) ?_
    first | refine x_pv (pv_move_int rfl) ?_ | refine x_pv (pv_move rfl) ?_
    first | refine x_pv (pv_addn (b := 1) rfl rfl (by first | omega | exact Nat.le_of_ble_eq_true rfl | (simp; done) | (simp; omega) | decide)) ?_ | refine x_pv (pv_add_i rfl rfl (by first | omega | exact Nat.le_of_ble_eq_true rfl | (simp; done) | (simp; omega) | decide)) ?_
    refine x_pv (pv_conv_i_u8 rfl) ?_
    refine x_pv (pv_build_arr (cs := #[u8b (BitVec.ofInt 8 ((i + 1 : Nat) : Int)), u8b 7#8, u8b 0#8, u8b 0#8, u8b 0#8, u8b 0#8, u8b 0#8, u8b 0#8, u8b 0#8, u8b 0#8, u8b 0#8, u8b 0#8, u8b 0#8, u8b 0#8, u8b 0#8, u8b 0#8, u8b 0#8, u8b 0#8, u8b 0#8, u8b 0#8, u8b 0#8, u8b 0#8, u8b 0#8, u8b 0#8, u8b 0#8, u8b 0#8, u8b 0#8, u8b 0#8, u8b 0#8, u8b 0#8, u8b 0#8, u8b 0#8]) (by kernel_rfl)) ?_
    refine x_pv (pv_build (cs := #[.int .i64 3, .int .i64 0, .slice none 0 0, u8b (BitVec.ofInt 8 ((i + 1 : Nat) : Int)), u8b 7#8, u8b 0#8, u8b 0#8, u8b 0#8, u8b 0#8, u8b 0#8, u8b 0#8, u8b 0#8, u8b 0#8, u8b 0#8, u8b 0#8, u8b 0#8, u8b 0#8, u8b 0#8, u8b 0#8, u8b 0#8, u8b 0#8, u8b 0#8, u8b 0#8, u8b 0#8, u8b 0#8, u8b 0#8, u8b 0#8, u8b 0#8, u8b 0#8, u8b 0#8, u8b 0#8, u8b 0#8, u8b 0#8, u8b 0#8, u8b 0#8]) (by kernel_rfl)) ?_
    refine x_call rfl (by kernel_rfl) (step_new (L := []) (opNew (BitVec.ofInt 8 ((i + 1 : Nat) : Int))) rfl Bs.nil (by show 0 ≤ _; omega) _ (opNew_cells _) rfl _ pair_zero) rfl (by repeat (first | exact Take.nil | exact Take.all | (apply Take.cons; (next => (repeat constructor); done)) | apply Take.skip)) ?_
    rintro _ _ ⟨x', hx1, hx2, rfl, rfl⟩
    refine xo_app (by repeat (first | exact App.nil | apply App.cons | (apply App.flip; first | exact App.nil | apply App.cons) | exact App.any)) ?_
    first | refine x_pv (pv_not_p rfl) ?_ | refine x_pv (pv_not rfl) ?_
    refine x_isF 24 rfl (rfl) ?_
    refine x_nil ?_
    repeat (first|refine zA ?_|refine zB ?_|refine zC ?_|refine zD ?_|refine zE ?_|refine zF ?_|refine zG ?_|refine zH ?_|refine zI ?_|refine zJ ?_|refine zK ?_|refine zL ?_|refine zM rfl ?_|refine zN ?_|refine zO ?_|refine zP ?_|refine zQ ?_)
    refine x_cond_f rfl ?_
    repeat (first|refine zA ?_|refine zB ?_|refine zC ?_|refine zD ?_|refine zE ?_|refine zF ?_|refine zG ?_|refine zH ?_|refine zI ?_|refine zJ ?_|refine zK ?_|refine zL ?_|refine zM rfl ?_|refine zN ?_|refine zO ?_|refine zP ?_|refine zQ ?_)
    refine x_reg ?_
    first | refine x_pv (pv_move_int rfl) ?_ | refine x_pv (pv_move rfl) ?_
    first | refine x_pv (pv_addn (b := 1) rfl rfl (by first | omega | exact Nat.le_of_ble_eq_true rfl | (simp; done) | (simp; omega) | decide)) ?_ | refine x_pv (pv_add_i rfl rfl (by first | omega | exact Nat.le_of_ble_eq_true rfl | (simp; done) | (simp; omega) | decide)) ?_
    first | refine x_pv (pv_assign_int rfl) ?_ | refine x_pv (pv_assign rfl) ?_
    refine x_nil ?_
    repeat (first|refine zA ?_|refine zB ?_|refine zC ?_|refine zD ?_|refine zE ?_|refine zF ?_|refine zG ?_|refine zH ?_|refine zI ?_|refine zJ ?_|refine zK ?_|refine zL ?_|refine zM rfl ?_|refine zN ?_|refine zO ?_|refine zP ?_|refine zQ ?_)
    refine x_loop_n (s ++ [(b13, x')]) (by simp; omega) ⟨by simp; omega, ?_⟩ ?_ ⟨by rw [List.length_append, ← hi]; rfl, trivial⟩
    · intro x hx
      rcases List.mem_append.1 hx with h | h
      · exact hsok x h
      · simp only [List.mem_singleton] at h; subst h
        exact ⟨hx1, Nat.le_zero.1 hx2⟩
    · rw [List.length_append, ← hi, List.map_append]
      refine Imp.trans (Imp.arr (N := pX b13 x' (star pS s :: cl b3 (s.map (fun x => ptrV x.1) ++ [ptrV b13] ++ List.replicate (3 - (i + 1)) nilP).toArray 39 :: [old W])) (by repeat (first | exact Arr.nil | exact Arr.stop | refine Arr.cons (by repeat constructor) ?_ | refine Arr.skip ?_))) ?_
      refine Imp.trans (pS_in (x := (b13, x'))) ?_
      exact star_snoc.trans (Imp.arr (by repeat (first | exact Arr.nil | exact Arr.stop | refine Arr.cons (by repeat constructor) ?_ | refine Arr.skip ?_)))
  · have h3 : i = 3 := by omega
    subst h3
    rw [Nat.sub_self, List.replicate_zero, List.append_nil]
    obtain ⟨ids, hids⟩ : ∃ ids, ids = s.map (fun x => ptrV x.1) := ⟨_, rfl⟩
    rw [← hids]
    have hidl : ids.length = 3 := by rw [hids]; exact hml
    have hidv : ∀ (s2 : List (Nat × PairS)) (w : Nat) (h : w < s2.length), s2.map (fun x => ptrV x.1) = ids → ids.toArray[w]? = some (ptrV s2[w].1) := fun s2 w h e => by
      rw [List.getElem?_toArray, ← e, List.getElem?_map, List.getElem?_eq_getElem h]; rfl
    have hidb : ∀ (s2 : List (Nat × PairS)) (w : Nat) (h : w < s2.length) (x' : PairS), s2.map (fun x => ptrV x.1) = ids → (s2.set w (s2[w].1, x')).map (fun x => ptrV x.1) = ids := fun s2 w h x' e => by
      rw [List.map_set, ← e]
      have : ptrV s2[w].1 = (s2.map (fun x => ptrV x.1))[w]'(by simpa using h) := by simp
      rw [this, List.set_getElem_self]
    have hsn : s.length = 3 := hi.symm
    repeat (first|refine zA ?_|refine zB ?_|refine zC ?_|refine zD ?_|refine zE ?_|refine zF ?_|refine zG ?_|refine zH ?_|refine zI ?_|refine zJ ?_|refine zK ?_|refine zL ?_|refine zM rfl ?_|refine zN ?_|refine zO ?_|refine zP ?_|refine zQ ?_)
    refine x_reg ?_
    first | refine x_pv (pv_assign_int rfl) ?_ | refine x_pv (pv_assign rfl) ?_
    refine x_nil ?_
    repeat (first|refine zA ?_|refine zB ?_|refine zC ?_|refine zD ?_|refine zE ?_|refine zF ?_|refine zG ?_|refine zH ?_|refine zI ?_|refine zJ ?_|refine zK ?_|refine zL ?_|refine zM rfl ?_|refine zN ?_|refine zO ?_|refine zP ?_|refine zQ ?_)
    refine x_loop [(2, 2), (5, 5), (25, 44)] (by kernel_rfl) (fun t : Nat × List (Nat × PairS) => t.1 ≤ l.length ∧ t.2.length = 3 ∧ t.2.map (fun x => ptrV x.1) = ids ∧ ∀ x ∈ t.2, PairOk x.2 ∧ x.2.all.length ≤ sumL (l.take t.1))
      (fun t => cl b3 ids.toArray 39 :: star pS t.2 :: [old W]) (fun t => [(5, nv t.1)]) (fun t => l.length - t.1) (0, s) ⟨by simp, hsn, hids.symm, fun x hx => ⟨(hsok x hx).1, by have := (hsok x hx).2; omega⟩⟩ (by exact Imp.arr (by repeat (first | exact Arr.nil | exact Arr.stop | refine Arr.cons (by repeat constructor) ?_ | refine Arr.skip ?_))) ⟨rfl, trivial⟩ ?_
    rintro ⟨i, s2⟩ u2 ⟨hi2, hs2, he2, hok2⟩
    dsimp only at hi2 hs2 he2 hok2 ⊢
    repeat (first|refine zA ?_|refine zB ?_|refine zC ?_|refine zD ?_|refine zE ?_|refine zF ?_|refine zG ?_|refine zH ?_|refine zI ?_|refine zJ ?_|refine zK ?_|refine zL ?_|refine zM rfl ?_|refine zN ?_|refine zO ?_|refine zP ?_|refine zQ ?_)
    refine x_reg ?_
    first | refine x_pv (pv_move_int rfl) ?_ | refine x_pv (pv_move rfl) ?_
    first | refine x_pv (pv_move_slice rfl) ?_ | refine x_pv (pv_move rfl) ?_
    first | refine x_pv (pv_len rfl) ?_ | refine x_pv (pv_len_arr) ?_ | refine x_pv (pv_len_str rfl) ?_
    first | refine x_pv (pv_lssn rfl rfl) ?_ | refine x_pv (pv_lss rfl rfl) ?_
    refine x_nil ?_
    repeat (first|refine zA ?_|refine zB ?_|refine zC ?_|refine zD ?_|refine zE ?_|refine zF ?_|refine zG ?_|refine zH ?_|refine zI ?_|refine zJ ?_|refine zK ?_|refine zL ?_|refine zM rfl ?_|refine zN ?_|refine zO ?_|refine zP ?_|refine zQ ?_)
    refine x_cond_p rfl (fun hB => ?_) (fun hB => ?_)
    · have hB2 : i < l2.length := by omega
      have hox : l2[i].1 = l[i] := by simp only [← hl2, List.getElem_map]
      obtain ⟨b0, o0, rfl⟩ := hsl.isSome (by omega)
      have hrd : Rd [cl b3 ids.toArray 39, old W] 35 (.slice (some ⟨b0, o0, none⟩) l2.length vc) l2.length (l2.flatMap fun x => x.1.cells) := Rd.old (by repeat constructor) (by rw [hll]; exact hsl)
      have hok := l2[i].2
      have hsl1 := sumL_take l i hB
      have hsl2 := sumL_le l (i + 1)
      have hv1 : (l2[i].1.cells)[1]? = some (.int .i64 l2[i].1.which_) := by have := ocl_1 l2[i].1; rwa [List.getElem?_toArray] at this
      have hb := hok.b_.bs (M := [old W]) .here
      rw [hox] at hok hv1 hb
      have hag := hrd.agN (fun x => OpV.len x.2) (by omega) hB2
      rw [hox] at hag
      obtain ⟨w, hw⟩ : ∃ w, w = (l[i].which_ % (3 : Nat)).toNat := ⟨_, rfl⟩
      have hw3 : w < 3 := by have := Int.emod_nonneg l[i].which_ (show ((3 : Nat) : Int) ≠ 0 by omega); have := Int.emod_lt_of_pos l[i].which_ (show (0 : Int) < (3 : Nat) by omega); omega
      have hws : w < s2.length := by omega
      have hx2 := hok2 _ (List.getElem_mem hws)
      have hwi := within_n l[i].which_ 3 (by omega) (by omega) hok.which_
      rw [← hw] at hwi
      refine x_ent (Imp.trans (Imp.swap.trans (star_at hws)) (pS_out)) ?_
      repeat (first|refine zA ?_|refine zB ?_|refine zC ?_|refine zD ?_|refine zE ?_|refine zF ?_|refine zG ?_|refine zH ?_|refine zI ?_|refine zJ ?_|refine zK ?_|refine zL ?_|refine zM rfl ?_|refine zN ?_|refine zO ?_|refine zP ?_|refine zQ ?_)
      refine x_draw ([cl b3 ids.toArray 39, old W]) [0, 1, 2, 3, 4, 5, 6, 7, 8, 9, 10, 11] (.r 0 (.r 1 (.r 2 (.r 3 (.r 4 (.r 8 (.r 9 (.r 10 (.r 11 (.e 5 true (.r 6 (.r 7 (.e 12 false (.q 13 .nil)))))))))))))) (by kernel_rfl) (by kernel_rfl) (Imp.arr (by repeat (first | exact Arr.nil | exact Arr.stop | refine Arr.cons (by repeat constructor) ?_ | refine Arr.skip ?_))) ?_
      first | refine cx_p rfl (pv_move_slice rfl) ?_ | refine cx_p rfl (pv_move rfl) ?_
      first | refine cx_p rfl (pv_move_int rfl) ?_ | refine cx_p rfl (pv_move rfl) ?_
      first | refine cx_p rfl (pv_indexAddr_nz rfl rfl (by first | omega | exact Nat.le_of_ble_eq_true rfl | (simp; done) | (simp; omega))) ?_ | refine cx_p rfl (pv_indexAddr_n rfl rfl (by first | omega | exact Nat.le_of_ble_eq_true rfl | (simp; done) | (simp; omega))) ?_
      first | refine cx_p rfl (pv_fieldAddrz rfl (by omega)) ?_ | refine cx_p rfl (pv_fieldAddr rfl (by omega)) ?_
      refine cx_ldc rfl rfl ((hrd.atN (fun x => OpV.len x.2) hB2 (by omega) (by rw [hox]; exact hv1))) ?_
      first | refine cx_p rfl (pv_move_slice rfl) ?_ | refine cx_p rfl (pv_move rfl) ?_
      first | refine cx_p rfl (pv_move_int rfl) ?_ | refine cx_p rfl (pv_move rfl) ?_
      first | refine cx_p rfl (pv_indexAddr_nz rfl rfl (by first | omega | exact Nat.le_of_ble_eq_true rfl | (simp; done) | (simp; omega))) ?_ | refine cx_p rfl (pv_indexAddr_n rfl rfl (by first | omega | exact Nat.le_of_ble_eq_true rfl | (simp; done) | (simp; omega))) ?_
      refine cx_ldg rfl rfl (hag) ?_
      refine cx_e rfl ?_
      refine x_call rfl (by kernel_rfl) (hwi) rfl (by repeat (first | exact Take.nil | exact Take.all | (apply Take.cons; (next => (repeat constructor); done)) | apply Take.skip)) ?_
      rintro _ _ ⟨rfl, rfl⟩
      refine xo_app (by repeat (first | exact App.nil | apply App.cons | (apply App.flip; first | exact App.nil | apply App.cons) | exact App.any)) ?_
      refine x_nil ⟨fun _ => Imp.arr (by repeat (first | exact Arr.nil | exact Arr.stop | refine Arr.cons (by repeat constructor) ?_ | refine Arr.skip ?_)), ?_⟩
      first | refine cx_p rfl (pv_ixa1z rfl rfl (by first | omega | exact Nat.le_of_ble_eq_true rfl | (simp; done) | (simp; omega))) ?_ | refine cx_p rfl (pv_ixa1 rfl rfl (by first | omega | exact Nat.le_of_ble_eq_true rfl | (simp; done) | (simp; omega))) ?_
      refine cx_ldc rfl rfl ((RdAt.cl (by repeat constructor) (hidv s2 w hws he2))) ?_
      refine cx_e rfl ?_
      refine x_call rfl (by kernel_rfl) (stepped_y (L := [old W]) s2[w].2 hx2.1 l[i] hok.key_ hb (by have := hok.b_.len; omega) (by omega) _ rfl) rfl (by repeat (first | exact Take.nil | exact Take.all | (apply Take.cons; (next => (repeat constructor); done)) | apply Take.skip)) ?_
      rintro _ _ ⟨x', hx1', hx2', rfl, rfl⟩
      refine xo_app (by repeat (first | exact App.nil | apply App.cons | (apply App.flip; first | exact App.nil | apply App.cons) | exact App.any)) ?_
      refine x_nil ⟨(fun hh => Bool.noConfusion hh), ?_⟩
      first | refine cx_q rfl (pv_not_p rfl) ?_ | refine cx_q rfl (pv_not rfl) ?_
      refine cx_isF 44 rfl (rfl) ?_
      refine cx_nil ?_
      repeat (first|refine zA ?_|refine zB ?_|refine zC ?_|refine zD ?_|refine zE ?_|refine zF ?_|refine zG ?_|refine zH ?_|refine zI ?_|refine zJ ?_|refine zK ?_|refine zL ?_|refine zM rfl ?_|refine zN ?_|refine zO ?_|refine zP ?_|refine zQ ?_)
      refine x_cond_f rfl ?_
      repeat (first|refine zA ?_|refine zB ?_|refine zC ?_|refine zD ?_|refine zE ?_|refine zF ?_|refine zG ?_|refine zH ?_|refine zI ?_|refine zJ ?_|refine zK ?_|refine zL ?_|refine zM rfl ?_|refine zN ?_|refine zO ?_|refine zP ?_|refine zQ ?_)
      refine x_reg ?_
      first | refine x_pv (pv_move_int rfl) ?_ | refine x_pv (pv_move rfl) ?_
      first | refine x_pv (pv_addn (b := 1) rfl rfl (by first | omega | exact Nat.le_of_ble_eq_true rfl | (simp; done) | (simp; omega) | decide)) ?_ | refine x_pv (pv_add_i rfl rfl (by first | omega | exact Nat.le_of_ble_eq_true rfl | (simp; done) | (simp; omega) | decide)) ?_
      first | refine x_pv (pv_assign_int rfl) ?_ | refine x_pv (pv_assign rfl) ?_
      refine x_nil ?_
      repeat (first|refine zA ?_|refine zB ?_|refine zC ?_|refine zD ?_|refine zE ?_|refine zF ?_|refine zG ?_|refine zH ?_|refine zI ?_|refine zJ ?_|refine zK ?_|refine zL ?_|refine zM rfl ?_|refine zN ?_|refine zO ?_|refine zP ?_|refine zQ ?_)
      refine x_loop_n (i + 1, s2.set w (s2[w].1, x')) (by first | omega | (dsimp only; omega) | (simp only []; omega)) ⟨by dsimp only; omega, by simp [hs2], hidb s2 w hws x' he2, ?_⟩ ?_ ⟨rfl, trivial⟩
      · intro x hx
        rcases List.mem_or_eq_of_mem_set hx with h | h
        · have := hok2 x h
          exact ⟨this.1, by first | omega | (dsimp only; omega) | (simp only []; omega)⟩
        · subst h
          exact ⟨hx1', by first | omega | (dsimp only; omega) | (simp only []; omega)⟩
      · dsimp only
        refine Imp.trans (Imp.arr (N := pX s2[w].1 x' (star pS (s2.eraseIdx w) :: cl b3 ids.toArray 39 :: [old W])) (by repeat (first | exact Arr.nil | exact Arr.stop | refine Arr.cons (by repeat constructor) ?_ | refine Arr.skip ?_))) ?_
        exact (pS_in (x := (s2[w].1, x'))).trans ((star_back hws (s2[w].1, x')).trans Imp.swap)
    · repeat (first|refine zA ?_|refine zB ?_|refine zC ?_|refine zD ?_|refine zE ?_|refine zF ?_|refine zG ?_|refine zH ?_|refine zI ?_|refine zJ ?_|refine zK ?_|refine zL ?_|refine zM rfl ?_|refine zN ?_|refine zO ?_|refine zP ?_|refine zQ ?_)
      refine x_reg ?_
      first | refine x_pv (pv_assign_int rfl) ?_ | refine x_pv (pv_assign rfl) ?_
      refine x_nil ?_
      repeat (first|refine zA ?_|refine zB ?_|refine zC ?_|refine zD ?_|refine zE ?_|refine zF ?_|refine zG ?_|refine zH ?_|refine zI ?_|refine zJ ?_|refine zK ?_|refine zL ?_|refine zM rfl ?_|refine zN ?_|refine zO ?_|refine zP ?_|refine zQ ?_)
      have hsl3 := sumL_le l i
      refine x_loop [(2, 2), (6, 6), (45, 54)] (by kernel_rfl) (fun t : Nat × List (Nat × PairS) => t.1 ≤ 3 ∧ t.2.length = 3 ∧ t.2.map (fun x => ptrV x.1) = ids ∧ ∀ x ∈ t.2, PairOk x.2 ∧ x.2.all.length ≤ sumL l)
        (fun t => cl b3 ids.toArray 39 :: star pS t.2 :: [old W]) (fun t => [(6, nv t.1)]) (fun t => 3 - t.1) (0, s2) ⟨by simp, hs2, he2, fun x hx => ⟨(hok2 x hx).1, by have := (hok2 x hx).2; omega⟩⟩ (by exact Imp.arr (by repeat (first | exact Arr.nil | exact Arr.stop | refine Arr.cons (by repeat constructor) ?_ | refine Arr.skip ?_))) ⟨rfl, trivial⟩ ?_
      rintro ⟨w, s2⟩ u3 ⟨hw3, hs2, he2, hok2⟩
      dsimp only at hw3 hs2 he2 hok2 ⊢
      repeat (first|refine zA ?_|refine zB ?_|refine zC ?_|refine zD ?_|refine zE ?_|refine zF ?_|refine zG ?_|refine zH ?_|refine zI ?_|refine zJ ?_|refine zK ?_|refine zL ?_|refine zM rfl ?_|refine zN ?_|refine zO ?_|refine zP ?_|refine zQ ?_)
      refine x_reg ?_
      first | refine x_pv (pv_move_int rfl) ?_ | refine x_pv (pv_move rfl) ?_
      first | refine x_pv (pv_lssn (b := 3) rfl rfl) ?_ | refine x_pv (pv_lss rfl rfl) ?_
      refine x_nil ?_
      repeat (first|refine zA ?_|refine zB ?_|refine zC ?_|refine zD ?_|refine zE ?_|refine zF ?_|refine zG ?_|refine zH ?_|refine zI ?_|refine zJ ?_|refine zK ?_|refine zL ?_|refine zM rfl ?_|refine zN ?_|refine zO ?_|refine zP ?_|refine zQ ?_)
      refine x_cond_p rfl (fun hC => ?_) (fun hC => ?_)
      · have hws : w < s2.length := by omega
        have hx2 := hok2 _ (List.getElem_mem hws)
        refine x_ent (Imp.trans (Imp.swap.trans (star_at hws)) (pS_out)) ?_
        repeat (first|refine zA ?_|refine zB ?_|refine zC ?_|refine zD ?_|refine zE ?_|refine zF ?_|refine zG ?_|refine zH ?_|refine zI ?_|refine zJ ?_|refine zK ?_|refine zL ?_|refine zM rfl ?_|refine zN ?_|refine zO ?_|refine zP ?_|refine zQ ?_)
        refine x_reg ?_
        first | refine x_pv (pv_move_int rfl) ?_ | refine x_pv (pv_move rfl) ?_
        first | refine x_pv (pv_ixa1z rfl rfl (by first | omega | exact Nat.le_of_ble_eq_true rfl | (simp; done) | (simp; omega))) ?_ | refine x_pv (pv_ixa1 rfl rfl (by first | omega | exact Nat.le_of_ble_eq_true rfl | (simp; done) | (simp; omega))) ?_
        refine x_load rfl (by repeat constructor) (hidv s2 w hws he2) ?_
        refine x_pv (pv_build (cs := #[.int .i64 2, .int .i64 0, .slice none 0 0, u8b 0#8, u8b 0#8, u8b 0#8, u8b 0#8, u8b 0#8, u8b 0#8, u8b 0#8, u8b 0#8, u8b 0#8, u8b 0#8, u8b 0#8, u8b 0#8, u8b 0#8, u8b 0#8, u8b 0#8, u8b 0#8, u8b 0#8, u8b 0#8, u8b 0#8, u8b 0#8, u8b 0#8, u8b 0#8, u8b 0#8, u8b 0#8, u8b 0#8, u8b 0#8, u8b 0#8, u8b 0#8, u8b 0#8, u8b 0#8, u8b 0#8, u8b 0#8]) (by kernel_rfl)) ?_
        refine x_call rfl (by kernel_rfl) (stepped_y (L := []) s2[w].2 hx2.1 opSum rfl Bs.nil (by show 0 ≤ _; omega) (by show _ + 0 ≤ _; omega) _ opSum_cells) rfl (by repeat (first | exact Take.nil | exact Take.all | (apply Take.cons; (next => (repeat constructor); done)) | apply Take.skip)) ?_
        rintro _ _ ⟨x', hx1', hx2', rfl, rfl⟩
        refine xo_app (by repeat (first | exact App.nil | apply App.cons | (apply App.flip; first | exact App.nil | apply App.cons) | exact App.any)) ?_
        first | refine x_pv (pv_not_p rfl) ?_ | refine x_pv (pv_not rfl) ?_
        refine x_isF 54 rfl (rfl) ?_
        refine x_nil ?_
        repeat (first|refine zA ?_|refine zB ?_|refine zC ?_|refine zD ?_|refine zE ?_|refine zF ?_|refine zG ?_|refine zH ?_|refine zI ?_|refine zJ ?_|refine zK ?_|refine zL ?_|refine zM rfl ?_|refine zN ?_|refine zO ?_|refine zP ?_|refine zQ ?_)
        refine x_cond_f rfl ?_
        repeat (first|refine zA ?_|refine zB ?_|refine zC ?_|refine zD ?_|refine zE ?_|refine zF ?_|refine zG ?_|refine zH ?_|refine zI ?_|refine zJ ?_|refine zK ?_|refine zL ?_|refine zM rfl ?_|refine zN ?_|refine zO ?_|refine zP ?_|refine zQ ?_)
        refine x_reg ?_
        first | refine x_pv (pv_move_int rfl) ?_ | refine x_pv (pv_move rfl) ?_
        first | refine x_pv (pv_addn (b := 1) rfl rfl (by first | omega | exact Nat.le_of_ble_eq_true rfl | (simp; done) | (simp; omega) | decide)) ?_ | refine x_pv (pv_add_i rfl rfl (by first | omega | exact Nat.le_of_ble_eq_true rfl | (simp; done) | (simp; omega) | decide)) ?_
        first | refine x_pv (pv_assign_int rfl) ?_ | refine x_pv (pv_assign rfl) ?_
        refine x_nil ?_
        repeat (first|refine zA ?_|refine zB ?_|refine zC ?_|refine zD ?_|refine zE ?_|refine zF ?_|refine zG ?_|refine zH ?_|refine zI ?_|refine zJ ?_|refine zK ?_|refine zL ?_|refine zM rfl ?_|refine zN ?_|refine zO ?_|refine zP ?_|refine zQ ?_)
        refine x_loop_n (w + 1, s2.set w (s2[w].1, x')) (by first | omega | (dsimp only; omega) | (simp only []; omega)) ⟨by dsimp only; omega, by simp [hs2], hidb s2 w hws x' he2, ?_⟩ ?_ ⟨rfl, trivial⟩
        · intro x hx
          rcases List.mem_or_eq_of_mem_set hx with h | h
          · exact hok2 x h
          · subst h
            exact ⟨hx1', by dsimp only; have : x'.all.length ≤ s2[w].2.all.length + 0 := hx2'; omega⟩
        · dsimp only
          refine Imp.trans (Imp.arr (N := pX s2[w].1 x' (star pS (s2.eraseIdx w) :: cl b3 ids.toArray 39 :: [old W])) (by repeat (first | exact Arr.nil | exact Arr.stop | refine Arr.cons (by repeat constructor) ?_ | refine Arr.skip ?_))) ?_
          exact (pS_in (x := (s2[w].1, x'))).trans ((star_back hws (s2[w].1, x')).trans Imp.swap)
      · repeat (first|refine zA ?_|refine zB ?_|refine zC ?_|refine zD ?_|refine zE ?_|refine zF ?_|refine zG ?_|refine zH ?_|refine zI ?_|refine zJ ?_|refine zK ?_|refine zL ?_|refine zM rfl ?_|refine zN ?_|refine zO ?_|refine zP ?_|refine zQ ?_)
        refine x_reg ?_
        refine x_call rfl (by kernel_rfl) (works_x) rfl (by repeat (first | exact Take.nil | exact Take.all | (apply Take.cons; (next => (repeat constructor); done)) | apply Take.skip)) ?_
        rintro _ _ ⟨rfl, rfl⟩
        refine xo_app (by repeat (first | exact App.nil | apply App.cons | (apply App.flip; first | exact App.nil | apply App.cons) | exact App.any)) ?_
        first | refine x_pv (pv_assign_bool rfl) ?_ | refine x_pv (pv_assign rfl) ?_
        refine x_nil ?_
        repeat (first|refine zA ?_|refine zB ?_|refine zC ?_|refine zD ?_|refine zE ?_|refine zF ?_|refine zG ?_|refine zH ?_|refine zI ?_|refine zJ ?_|refine zK ?_|refine zL ?_|refine zM rfl ?_|refine zN ?_|refine zO ?_|refine zP ?_|refine zQ ?_)
        refine rx1 (rx_bool rfl (rx_nil)) ?_
        exact ⟨_, ⟨rfl, rfl⟩, by exact Imp.arr (by repeat (first | exact Arr.nil | exact Arr.stop | refine Arr.cons (by repeat constructor) ?_ | refine Arr.skip ?_))⟩
end Go.Sl
