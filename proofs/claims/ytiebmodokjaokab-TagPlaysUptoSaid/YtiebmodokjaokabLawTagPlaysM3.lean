/- Parts of the proof, joined: TagQ, RefF, RefG, RefH, RefI, RefJ, RefK, RefD, RefL, RefM, RefN. -/
import Derived.Test.YtiebmodokjaokabLawTagPlaysM0
import Derived.Test.YtiebmodokjaokabLawTagPlaysM1
import Derived.Test.YtiebmodokjaokabLawTagPlaysM2
/- trystlaw06: TagPieces, walked. -/
set_option maxHeartbeats 4000000
set_option maxRecDepth 10000
set_option linter.unusedVariables false
set_option linter.unusedSimpArgs false
namespace Go.Sl
open Go Go.Proofs
attribute [local irreducible] cl pt own old pur ex all den denOps denS xOps xC cX CX xthen xblk xcut xloop retX resX Calls PV Rd Con
attribute [local irreducible] pc writeS takeW full put1 setU setH code sumS
theorem pv_neq_ifc_nil {P : Program} {ρ : Env} {T T' : Nat} {x : Operand} {ms : Array (String × TypeId)} (h : P.underlying T = some (.interface ms)) (hx : ev ρ x = .nilIface) : PV P (.binOp .neq T x (.const .nilIface) T') ρ (.bool false) :=
  Zb9 hx (show ev ρ (.const .nilIface) = .nilIface from rfl) (fun w => by unfold eqGuard; cases x <;> rfl) fun w => by
    have hr : (Op.equal T .nilIface .nilIface).run P w = .ok true w := by
      unfold Op.equal Op.maxDepth Op.equalIn
      rw [run_bind P _ _ w w _ (run_under h)]; rfl
    have he : binOp .neq T .nilIface .nilIface = (Op.equal T .nilIface .nilIface >>= fun b => pure (Value.bool (!b))) := rfl
    rw [he, run_bind P _ _ w w _ hr]; rfl
theorem write_b {p : Nat} {L : List Asrt} (t : PolyS) (ht : PolyOk t) {v : Value} {l : List Byte} (h : Bs L v l) :
    Con Try.prog 22 [.pointer (some ⟨p, 0, none⟩), v] (cl p (pc t) 74 :: L) (fun r M => r = .tuple #[.int .i64 l.length, .nilIface] ∧ cl p (pc (writeS t l)) 74 :: L = M) := by
  refine Con.get (fun w0 w F H => (h.imp Imp.tail).sh _ _ _ H) ?_
  rintro ⟨a, c, rfl, h1, h2⟩
  refine (write_c (L := L) t ht l a c h1 h2 h.rd).mono ?_
  rintro v M ⟨rfl, rfl⟩
  exact ⟨_, Imp.refl _, rfl, rfl⟩
theorem pieces_x (W : World) (key : List Byte) (hk : key.length = 32) (v : Value) (ps : List (Value × List Byte)) (hin : InR W v ps) (ask : Bool) (hjb : (joinB ps).length + ps.length ≤ 2097152) : Con Try.prog 7 [.agg (key.map u8b).toArray, v, .bool ask] [old W] (fun r M => r = .bool true ∧ [old W] = M) := by
  obtain ⟨va, vc, rfl, hvl, hvc⟩ := hin.sh
  have hpl := hin.len
  obtain ⟨J, hJ⟩ : ∃ J, J = joinB ps := ⟨_, rfl⟩
  have hcl := code_len key J
  have hj : (joinB ps).length ≤ 140737488355328 := by omega
  have hpl2 : ps.length * 24 ≤ 140737488355328 := by omega
  have hel2 : ∀ x ∈ ps, x.2.length ≤ 140737488355328 := fun x hx => by have := (hin.el x hx).len; omega
  have hql : ∀ qs : List (Value × List Byte), qs.map (·.2) = ps.map (·.2) → qs.length < 9223372036854775807 := fun qs h => by
    have := congrArg List.length h; simp at this; omega
  have hqj : ∀ qs : List (Value × List Byte), qs.map (·.2) = ps.map (·.2) → joinB qs = J := fun qs h => by rw [hJ]; unfold joinB; rw [h]
  refine fn_x Try.func7 rfl rfl rfl Try.mixed (by kernel_rfl) ?_
  intro w0
  repeat (first|refine zA ?_|refine zB ?_|refine zC ?_|refine zD ?_|refine zE ?_|refine zF ?_|refine zG ?_|refine zH ?_|refine zI ?_|refine zJ ?_|refine zK ?_|refine zL ?_|refine zM rfl ?_|refine zN ?_|refine zO ?_|refine zP ?_|refine zQ ?_)
  refine Zgb ?_
  refine Zh5 rfl ?_; intro b3
  first|refine Zhg (Za0 rfl) ?_|refine Zhg (Zas rfl) ?_
  refine Zg3 ?_
  repeat (first|refine zA ?_|refine zB ?_|refine zC ?_|refine zD ?_|refine zE ?_|refine zF ?_|refine zG ?_|refine zH ?_|refine zI ?_|refine zJ ?_|refine zK ?_|refine zL ?_|refine zM rfl ?_|refine zN ?_|refine zO ?_|refine zP ?_|refine zQ ?_)
  refine Zgb ?_
  first|refine Zhr rfl (by repeat constructor) (by first|rfl|omega|(rw [szL]; omega)|exact Nat.le_of_ble_eq_true rfl|(simp; done)|(simp; omega)) ?_|refine Zhq rfl (by repeat constructor) (by first|rfl|omega|(rw [szL]; omega)|exact Nat.le_of_ble_eq_true rfl|(simp; done)|(simp; omega)) rfl ?_
  refine Zh8 rfl (by kernel_rfl) (new_c key hk) rfl (by repeat (first|exact Take.nil|exact Take.all|(apply Take.cons; (next => (repeat constructor); done))|apply Take.skip)) ?_
  rintro _ _ ⟨p, rfl, rfl⟩
  refine Zg2 (by repeat (first|exact App.nil|apply App.cons|(apply App.flip; first|exact App.nil|apply App.cons)|exact App.any)) ?_
  first|refine Zhg (Za1 rfl) ?_|refine Zhg (Zas rfl) ?_
  refine Zg3 ?_
  repeat (first|refine zA ?_|refine zB ?_|refine zC ?_|refine zD ?_|refine zE ?_|refine zF ?_|refine zG ?_|refine zH ?_|refine zI ?_|refine zJ ?_|refine zK ?_|refine zL ?_|refine zM rfl ?_|refine zN ?_|refine zO ?_|refine zP ?_|refine zQ ?_)
  refine Zgb ?_
  first|refine Zhg (Zav rfl) ?_|refine Zhg (Zar rfl) ?_
  refine Zhg (Zca rfl rfl) ?_
  first|refine Zhg (Zau rfl) ?_|refine Zhg (Zar rfl) ?_
  first|refine Zhi rfl ?_|refine Zhj rfl ?_|(refine Zhh rfl ?_; (refine Zh8 rfl (by kernel_rfl) (works_x) rfl (by repeat (first|exact Take.nil|exact Take.all|(apply Take.cons; (next => (repeat constructor); done))|apply Take.skip)) ?_); (rintro _ _ ⟨rfl, rfl⟩); (refine Zg2 (by repeat (first|exact App.nil|apply App.cons|(apply App.flip; first|exact App.nil|apply App.cons)|exact App.any)) ?_))
  first|refine Zhi rfl ?_|refine Zhj rfl ?_|(refine Zhh rfl ?_; (first|refine Zhg (Zb1 rfl) ?_|refine Zhg (Zb0 rfl) ?_))
  first|refine Zhg (Zdz rfl rfl) ?_|refine Zhg (Zd0 rfl rfl) ?_|refine Zhg (Za8 rfl rfl) ?_|refine Zhg (Za9 rfl rfl) ?_|refine Zhg (Za6 rfl rfl) ?_|refine Zhg (Za7 rfl rfl) ?_
  refine Zg3 ?_
  repeat (first|refine zA ?_|refine zB ?_|refine zC ?_|refine zD ?_|refine zE ?_|refine zF ?_|refine zG ?_|refine zH ?_|refine zI ?_|refine zJ ?_|refine zK ?_|refine zL ?_|refine zM rfl ?_|refine zN ?_|refine zO ?_|refine zP ?_|refine zQ ?_)
  refine Zgf rfl ?_
  repeat (first|refine zA ?_|refine zB ?_|refine zC ?_|refine zD ?_|refine zE ?_|refine zF ?_|refine zG ?_|refine zH ?_|refine zI ?_|refine zJ ?_|refine zK ?_|refine zL ?_|refine zM rfl ?_|refine zN ?_|refine zO ?_|refine zP ?_|refine zQ ?_)
  refine Zgb ?_
  first|refine Zhg (Zaw rfl) ?_|refine Zhg (Zar rfl) ?_
  refine Zh8 rfl (by kernel_rfl) (join_x (L := [old W]) (hin.rs .here) hj) rfl (by repeat (first|exact Take.nil|exact Take.all|(apply Take.cons; (next => (repeat constructor); done))|apply Take.skip)) ?_
  rintro _ _ ⟨ja, jc, rfl, rfl⟩
  refine Zg2 (by repeat (first|exact App.nil|apply App.cons|(apply App.flip; first|exact App.nil|apply App.cons)|exact App.any)) ?_
  first|refine Zhg (Za2 rfl) ?_|refine Zhg (Zas rfl) ?_
  refine Zg3 ?_
  repeat (first|refine zA ?_|refine zB ?_|refine zC ?_|refine zD ?_|refine zE ?_|refine zF ?_|refine zG ?_|refine zH ?_|refine zI ?_|refine zJ ?_|refine zK ?_|refine zL ?_|refine zM rfl ?_|refine zN ?_|refine zO ?_|refine zP ?_|refine zQ ?_)
  rw [← hJ]
  repeat (first|refine zA ?_|refine zB ?_|refine zC ?_|refine zD ?_|refine zE ?_|refine zF ?_|refine zG ?_|refine zH ?_|refine zI ?_|refine zJ ?_|refine zK ?_|refine zL ?_|refine zM rfl ?_|refine zN ?_|refine zO ?_|refine zP ?_|refine zQ ?_)
  refine Zgb ?_
  first|refine Zhr rfl (by repeat constructor) (by first|rfl|omega|(rw [szL]; omega)|exact Nat.le_of_ble_eq_true rfl|(simp; done)|(simp; omega)) ?_|refine Zhq rfl (by repeat constructor) (by first|rfl|omega|(rw [szL]; omega)|exact Nat.le_of_ble_eq_true rfl|(simp; done)|(simp; omega)) rfl ?_
  first|refine Zhg (Zaw rfl) ?_|refine Zhg (Zar rfl) ?_
  refine Zh7 (cs := #[.slice _ _ _]) (by omega) (by omega) rfl ?_; intro b25
  refine Zh8 rfl (by kernel_rfl) (tsum1_c (L := [cl b25 #[.slice ja J.length jc] 31, own 5 1 (.slice ja J.length jc) J.length (J.map u8b)]) key hk (by repeat constructor) (Bs.own (by repeat constructor))) rfl (by repeat (first|exact Take.nil|exact Take.all|(apply Take.cons; (next => (repeat constructor); done))|apply Take.skip)) ?_
  rintro _ _ ⟨rfl, rfl⟩
  refine Zg2 (by repeat (first|exact App.nil|apply App.cons|(apply App.flip; first|exact App.nil|apply App.cons)|exact App.any)) ?_
  refine Zhz (cs := ((List.replicate 16 0#8).map u8b).toArray) rfl ?_; intro b9
  first|refine Zhy rfl rfl (by repeat constructor) (by first|rfl|omega|(rw [szL]; omega)|exact Nat.le_of_ble_eq_true rfl|(simp; done)|(simp; omega)) (by first|rfl|exact oneM_u8 _|exact oneL_u8 _|exact pc_one _|(simp [oneC]; done)) (by first|rfl|omega|(rw [szL]; omega)|exact Nat.le_of_ble_eq_true rfl|(simp; done)|(simp; omega)) ?_|refine Zhx rfl rfl (by repeat constructor) (by first|rfl|omega|(rw [szL]; omega)|exact Nat.le_of_ble_eq_true rfl|(simp; done)|(simp; omega)) (by first|rfl|exact oneM_u8 _|exact oneL_u8 _|exact pc_one _|(simp [oneC]; done)) (by first|rfl|omega|(rw [szL]; omega)|exact Nat.le_of_ble_eq_true rfl|(simp; done)|(simp; omega)) rfl ?_
  refine Zg3 ?_
  repeat (first|refine zA ?_|refine zB ?_|refine zC ?_|refine zD ?_|refine zE ?_|refine zF ?_|refine zG ?_|refine zH ?_|refine zI ?_|refine zJ ?_|refine zK ?_|refine zL ?_|refine zM rfl ?_|refine zN ?_|refine zO ?_|refine zP ?_|refine zQ ?_)
  refine Zgb ?_
  first|refine Zhg (Zaz rfl) ?_|refine Zhg (Zas rfl) ?_
  refine Zg3 ?_
  repeat (first|refine zA ?_|refine zB ?_|refine zC ?_|refine zD ?_|refine zE ?_|refine zF ?_|refine zG ?_|refine zH ?_|refine zI ?_|refine zJ ?_|refine zK ?_|refine zL ?_|refine zM rfl ?_|refine zN ?_|refine zO ?_|refine zP ?_|refine zQ ?_)
  refine Zgo [(6, 6), (10, 12), (27, 56)] (by kernel_rfl) (fun i : Nat => i ≤ ps.length) (fun i => [cl p (pc (writeS (newS key) (joinB (ps.take i)))) 74, cl b9 ((code key J).map u8b).toArray 28, own 5 1 (.slice ja J.length jc) J.length (J.map u8b), cl b3 (key.map u8b).toArray 24, old W])
    (fun i => [(10, .int .i64 (i : Int))]) (fun i => ps.length - i) 0 (by omega) (by rw [List.take_zero]; show Imp _ (cl p (pc (writeS (newS key) [])) _ :: _); rw [writeS_nil]; exact Imp.arr (by repeat (first|exact Arr.nil|exact Arr.stop|refine Arr.cons (by repeat constructor) ?_|refine Arr.skip ?_))) ⟨rfl, trivial⟩ ?_
  intro i u hi
  have hok : PolyOk (writeS (newS key) (joinB (ps.take i))) := writeS_ok (newS_ok key)
  repeat (first|refine zA ?_|refine zB ?_|refine zC ?_|refine zD ?_|refine zE ?_|refine zF ?_|refine zG ?_|refine zH ?_|refine zI ?_|refine zJ ?_|refine zK ?_|refine zL ?_|refine zM rfl ?_|refine zN ?_|refine zO ?_|refine zP ?_|refine zQ ?_)
  refine Zgb ?_
  first|refine Zhg (Zat rfl) ?_|refine Zhg (Zar rfl) ?_
  first|refine Zhg (Zaw rfl) ?_|refine Zhg (Zar rfl) ?_
  first|refine Zhg (Zcr rfl) ?_|refine Zhg (Zct) ?_|refine Zhg (Zcu rfl) ?_
  first|refine Zhg (Zmf rfl rfl) ?_|refine Zhg (Zbn rfl rfl) ?_
  refine Zg3 ?_
  repeat (first|refine zA ?_|refine zB ?_|refine zC ?_|refine zD ?_|refine zE ?_|refine zF ?_|refine zG ?_|refine zH ?_|refine zI ?_|refine zJ ?_|refine zK ?_|refine zL ?_|refine zM rfl ?_|refine zN ?_|refine zO ?_|refine zP ?_|refine zQ ?_)
  refine Zgg rfl (fun hB => ?_) (fun hB => ?_)
  · have hel := hin.el _ (List.getElem_mem hB)
    have hsome : ∃ d0 d1, va = some ⟨d0, d1, none⟩ := hin.sl.isSome (by omega)
    obtain ⟨d0, d1, rfl⟩ := hsome
    obtain ⟨ea, ec, hev, hecl, hecm⟩ := hel.sh
    have hrl := hel.len
    generalize hrow : ps[i].2 = row at hel hev hecl hrl
    have hgi : (ps.map (·.1))[i]? = some (.slice ea row.length ec) := by simp [hB, hev]
    rw [hev] at hel
    repeat (first|refine zA ?_|refine zB ?_|refine zC ?_|refine zD ?_|refine zE ?_|refine zF ?_|refine zG ?_|refine zH ?_|refine zI ?_|refine zJ ?_|refine zK ?_|refine zL ?_|refine zM rfl ?_|refine zN ?_|refine zO ?_|refine zP ?_|refine zQ ?_)
    refine Zgb ?_
    first|refine Zhg (Zav rfl) ?_|refine Zhg (Zar rfl) ?_
    first|refine Zhg (Zaw rfl) ?_|refine Zhg (Zar rfl) ?_
    first|refine Zhg (Zat rfl) ?_|refine Zhg (Zar rfl) ?_
    first|refine Zhg (Zl4 rfl rfl) ?_|refine Zhg (Zl1 rfl rfl) ?_
    refine Zic (j := i) rfl ((hin.rs (M := [old W]) .here).rd.imp (by exact Imp.arr (by repeat (first|exact Arr.nil|exact Arr.stop|refine Arr.cons (by repeat constructor) ?_|refine Arr.skip ?_)))) hB hgi ?_
    refine Zh8 rfl (by kernel_rfl) (copyBytes_x (L := [old W]) (hel.bs .here) (by omega)) rfl (by repeat (first|exact Take.nil|exact Take.all|(apply Take.cons; (next => (repeat constructor); done))|apply Take.skip)) ?_
    rintro _ _ ⟨ra, rc, rfl, rfl⟩
    refine Zg2 (by repeat (first|exact App.nil|apply App.cons|(apply App.flip; first|exact App.nil|apply App.cons)|exact App.any)) ?_
    refine Zh8 rfl (by kernel_rfl) (write_b (L := [own 5 1 (.slice ra row.length rc) row.length (row.map u8b)]) _ hok (Bs.own .here)) rfl (Take.cons (by repeat constructor) (Take.cons (by repeat constructor) Take.nil)) ?_; rintro _ _ ⟨rfl, rfl⟩; refine Zg2 (by repeat (first|exact App.nil|apply App.cons|(apply App.flip; first|exact App.nil|apply App.cons)|exact App.any)) ?_
    first|refine Zhg (Zmm rfl) ?_|refine Zhg (Zar rfl) ?_
    refine Zhg (Zco rfl rfl) ?_
    refine Zhg (Zco rfl rfl) ?_
    first|refine Zhg (Zaz rfl) ?_|refine Zhg (Zas rfl) ?_
    first|refine Zhg (Zms rfl) ?_|refine Zhg (Zas rfl) ?_
    refine Zg3 ?_
    repeat (first|refine zA ?_|refine zB ?_|refine zC ?_|refine zD ?_|refine zE ?_|refine zF ?_|refine zG ?_|refine zH ?_|refine zI ?_|refine zJ ?_|refine zK ?_|refine zL ?_|refine zM rfl ?_|refine zN ?_|refine zO ?_|refine zP ?_|refine zQ ?_)
    refine Zgb ?_
    first|refine Zhg (Zat rfl) ?_|refine Zhg (Zar rfl) ?_
    first|refine Zhg (Zaw rfl) ?_|refine Zhg (Zar rfl) ?_
    first|refine Zhg (Zat rfl) ?_|refine Zhg (Zar rfl) ?_
    first|refine Zhg (Zl4 rfl rfl) ?_|refine Zhg (Zl1 rfl rfl) ?_
    refine Zic (j := i) rfl ((hin.rs (M := [old W]) .here).rd.imp (by exact Imp.arr (by repeat (first|exact Arr.nil|exact Arr.stop|refine Arr.cons (by repeat constructor) ?_|refine Arr.skip ?_)))) hB hgi ?_
    first|refine Zhg (Zcr rfl) ?_|refine Zhg (Zct) ?_|refine Zhg (Zcu rfl) ?_
    first|refine Zhg (Zmk rfl rfl) ?_|refine Zhg (Zbs rfl rfl) ?_
    refine Zhn 49 rfl (decide_eq_false (fun h => h rfl)) ?_
    first|refine Zhg (Zau rfl) ?_|refine Zhg (Zar rfl) ?_
    first|refine Zhi rfl ?_|refine Zhj rfl ?_|(refine Zhh rfl ?_; (first|refine Zhg (Zmp rfl) ?_|refine Zhg (Zar rfl) ?_))
    first|refine Zhi rfl ?_|refine Zhj rfl ?_|(refine Zhh rfl ?_; (refine Zhg (pv_neq_ifc_nil Try.underlying50 rfl) ?_))
    first|refine Zhg (Zdz rfl rfl) ?_|refine Zhg (Zd0 rfl rfl) ?_|refine Zhg (Za8 rfl rfl) ?_|refine Zhg (Za9 rfl rfl) ?_|refine Zhg (Za6 rfl rfl) ?_|refine Zhg (Za7 rfl rfl) ?_
    refine Zg3 ?_
    repeat (first|refine zA ?_|refine zB ?_|refine zC ?_|refine zD ?_|refine zE ?_|refine zF ?_|refine zG ?_|refine zH ?_|refine zI ?_|refine zJ ?_|refine zK ?_|refine zL ?_|refine zM rfl ?_|refine zN ?_|refine zO ?_|refine zP ?_|refine zQ ?_)
    refine Zgf rfl ?_
    have hw : writeS (writeS (newS key) (joinB (ps.take i))) row = writeS (newS key) (joinB (ps.take (i + 1))) := by rw [joinB_succ ps i hB, writeS_append, hrow]
    rw [hw]
    repeat (first|refine zA ?_|refine zB ?_|refine zC ?_|refine zD ?_|refine zE ?_|refine zF ?_|refine zG ?_|refine zH ?_|refine zI ?_|refine zJ ?_|refine zK ?_|refine zL ?_|refine zM rfl ?_|refine zN ?_|refine zO ?_|refine zP ?_|refine zQ ?_)
    refine Zgb ?_
    first|refine Zhg (Zau rfl) ?_|refine Zhg (Zar rfl) ?_
    refine Zg3 ?_
    repeat (first|refine zA ?_|refine zB ?_|refine zC ?_|refine zD ?_|refine zE ?_|refine zF ?_|refine zG ?_|refine zH ?_|refine zI ?_|refine zJ ?_|refine zK ?_|refine zL ?_|refine zM rfl ?_|refine zN ?_|refine zO ?_|refine zP ?_|refine zQ ?_)
    cases ask with
    | true =>
      refine Zge rfl ?_
      repeat (first|refine zA ?_|refine zB ?_|refine zC ?_|refine zD ?_|refine zE ?_|refine zF ?_|refine zG ?_|refine zH ?_|refine zI ?_|refine zJ ?_|refine zK ?_|refine zL ?_|refine zM rfl ?_|refine zN ?_|refine zO ?_|refine zP ?_|refine zQ ?_)
      refine Zgb ?_
      first|refine Zhg (Zav rfl) ?_|refine Zhg (Zar rfl) ?_
      refine Zh8 rfl (by kernel_rfl) (sum_c _ (writeS_ok (newS_ok key))) rfl (by repeat (first|exact Take.nil|exact Take.all|(apply Take.cons; (next => (repeat constructor); done))|apply Take.skip)) ?_
      rintro _ _ ⟨rfl, rfl⟩
      refine Zg2 (by repeat (first|exact App.nil|apply App.cons|(apply App.flip; first|exact App.nil|apply App.cons)|exact App.any)) ?_
      refine Zg3 ?_
      repeat (first|refine zA ?_|refine zB ?_|refine zC ?_|refine zD ?_|refine zE ?_|refine zF ?_|refine zG ?_|refine zH ?_|refine zI ?_|refine zJ ?_|refine zK ?_|refine zL ?_|refine zM rfl ?_|refine zN ?_|refine zO ?_|refine zP ?_|refine zQ ?_)
      refine Zgb ?_
      first|refine Zhg (Zat rfl) ?_|refine Zhg (Zar rfl) ?_
      first|refine Zhg (Zma (b := 1) rfl rfl) ?_|refine Zhg (Zbg rfl rfl) ?_
      first|refine Zhg (Zaz rfl) ?_|refine Zhg (Zas rfl) ?_
      refine Zg3 ?_
      repeat (first|refine zA ?_|refine zB ?_|refine zC ?_|refine zD ?_|refine zE ?_|refine zF ?_|refine zG ?_|refine zH ?_|refine zI ?_|refine zJ ?_|refine zK ?_|refine zL ?_|refine zM rfl ?_|refine zN ?_|refine zO ?_|refine zP ?_|refine zQ ?_)
      exact Zgl (i + 1) (by first|omega|(dsimp only; omega)|(simp only []; omega)) (by first|omega|(dsimp only; omega)|(simp only []; omega)) (by exact Imp.arr (by repeat (first|exact Arr.nil|exact Arr.stop|refine Arr.cons (by repeat constructor) ?_|refine Arr.skip ?_))) ⟨rfl, trivial⟩
    | false =>
      refine Zgf rfl ?_
      repeat (first|refine zA ?_|refine zB ?_|refine zC ?_|refine zD ?_|refine zE ?_|refine zF ?_|refine zG ?_|refine zH ?_|refine zI ?_|refine zJ ?_|refine zK ?_|refine zL ?_|refine zM rfl ?_|refine zN ?_|refine zO ?_|refine zP ?_|refine zQ ?_)
      refine Zgb ?_
      first|refine Zhg (Zat rfl) ?_|refine Zhg (Zar rfl) ?_
      first|refine Zhg (Zma (b := 1) rfl rfl) ?_|refine Zhg (Zbg rfl rfl) ?_
      first|refine Zhg (Zaz rfl) ?_|refine Zhg (Zas rfl) ?_
      refine Zg3 ?_
      repeat (first|refine zA ?_|refine zB ?_|refine zC ?_|refine zD ?_|refine zE ?_|refine zF ?_|refine zG ?_|refine zH ?_|refine zI ?_|refine zJ ?_|refine zK ?_|refine zL ?_|refine zM rfl ?_|refine zN ?_|refine zO ?_|refine zP ?_|refine zQ ?_)
      exact Zgl (i + 1) (by first|omega|(dsimp only; omega)|(simp only []; omega)) (by first|omega|(dsimp only; omega)|(simp only []; omega)) (by exact Imp.arr (by repeat (first|exact Arr.nil|exact Arr.stop|refine Arr.cons (by repeat constructor) ?_|refine Arr.skip ?_))) ⟨rfl, trivial⟩
  · have hie : i = ps.length := by omega
    subst hie
    rw [List.take_length, ← hJ]
    have hcs : sumS (writeS (newS key) J) = code key J := by unfold code; rfl
    repeat (first|refine zA ?_|refine zB ?_|refine zC ?_|refine zD ?_|refine zE ?_|refine zF ?_|refine zG ?_|refine zH ?_|refine zI ?_|refine zJ ?_|refine zK ?_|refine zL ?_|refine zM rfl ?_|refine zN ?_|refine zO ?_|refine zP ?_|refine zQ ?_)
    refine Zij ([cl b9 ((code key J).map u8b).toArray 28, cl b3 (key.map u8b).toArray 24]) [0, 1, 2, 5, 6, 7, 11, 12, 13, 14, 15, 19, 20, 21, 22] (.r 0 (.r 2 (.e 1 true (.q 3 (.q 4 (.r 5 (.r 7 (.e 6 true (.q 8 (.q 9 (.q 10 (.r 11 (.r 12 (.r 15 (.e 13 true (.e 14 true (.q 16 (.q 17 (.q 18 (.r 19 (.r 20 (.r 21 (.e 22 true (.e 23 false (.q 24 (.q 25 .nil)))))))))))))))))))))))))) (by kernel_rfl) (by kernel_rfl) (Imp.arr (by repeat (first|exact Arr.nil|exact Arr.stop|refine Arr.cons (by repeat constructor) ?_|refine Arr.skip ?_))) ?_
    first|refine Ziz rfl (Zav rfl) ?_|refine Ziz rfl (Zar rfl) ?_
    first|refine Ziy rfl rfl (by repeat constructor) (by first|rfl|omega|(rw [szL]; omega)|exact Nat.le_of_ble_eq_true rfl|(simp; done)|(simp; omega)) ?_|refine Zix rfl rfl (by repeat constructor) (by first|rfl|omega|(rw [szL]; omega)|exact Nat.le_of_ble_eq_true rfl|(simp; done)|(simp; omega)) rfl ?_
    refine Ziq rfl ?_
    refine Zh8 rfl (by kernel_rfl) (sum_c _ (writeS_ok (newS_ok key))) rfl (by repeat (first|exact Take.nil|exact Take.all|(apply Take.cons; (next => (repeat constructor); done))|apply Take.skip)) ?_
    rintro _ _ ⟨rfl, rfl⟩
    refine Zg2 (by repeat (first|exact App.nil|apply App.cons|(apply App.flip; first|exact App.nil|apply App.cons)|exact App.any)) ?_
    refine Zg3 ⟨fun _ => Imp.arr (by repeat (first|exact Arr.nil|exact Arr.stop|refine Arr.cons (by repeat constructor) ?_|refine Arr.skip ?_)), ?_⟩
    refine Zim rfl (Zm4 (n := 16) (a := code key J) (b := code key J) hcl hcl (by rw [← hcs]; rfl) rfl) ?_
    refine Zi5 60 rfl (decide_eq_true rfl) ?_
    first|refine Zim rfl (Zau rfl) ?_|refine Zim rfl (Zar rfl) ?_
    first|refine Zi1 rfl rfl ?_|refine Zi2 rfl rfl ?_|refine Zi0 rfl rfl (Zav rfl) ?_|refine Zi0 rfl rfl (Zar rfl) ?_
    first|refine Zi1 rfl rfl ?_|refine Zi2 rfl rfl ?_|refine Zi4 rfl rfl rfl (by repeat constructor) (by first|rfl|omega|(rw [szL]; omega)|exact Nat.le_of_ble_eq_true rfl|(simp; done)|(simp; omega)) ?_|refine Zi3 rfl rfl rfl (by repeat constructor) (by first|rfl|omega|(rw [szL]; omega)|exact Nat.le_of_ble_eq_true rfl|(simp; done)|(simp; omega)) rfl ?_
    refine Ziq rfl ?_
    first|refine Zhi rfl ?_|refine Zhj rfl ?_|(refine Zhh rfl ?_; (refine Zh8 rfl (by kernel_rfl) (sum_c _ (writeS_ok (newS_ok key))) rfl (by repeat (first|exact Take.nil|exact Take.all|(apply Take.cons; (next => (repeat constructor); done))|apply Take.skip)) ?_); (rintro _ _ ⟨rfl, rfl⟩); (refine Zg2 (by repeat (first|exact App.nil|apply App.cons|(apply App.flip; first|exact App.nil|apply App.cons)|exact App.any)) ?_))
    refine Zg3 ⟨fun _ => Imp.arr (by repeat (first|exact Arr.nil|exact Arr.stop|refine Arr.cons (by repeat constructor) ?_|refine Arr.skip ?_)), ?_⟩
    first|refine Zio rfl rfl ?_|refine Zip rfl rfl ?_|refine Zin rfl rfl (Zm4 (n := 16) (a := code key J) (b := code key J) hcl hcl (by rw [← hcs]; rfl) rfl) ?_
    refine Zi5 65 rfl (decide_eq_true rfl) ?_
    first|refine Zim rfl (Zdz rfl rfl) ?_|refine Zim rfl (Zd0 rfl rfl) ?_|refine Zim rfl (Za8 rfl rfl) ?_|refine Zim rfl (Za9 rfl rfl) ?_|refine Zim rfl (Za6 rfl rfl) ?_|refine Zim rfl (Za7 rfl rfl) ?_
    first|refine Zim rfl (Zau rfl) ?_|refine Zim rfl (Zar rfl) ?_
    first|refine Zi1 rfl rfl ?_|refine Zi2 rfl rfl ?_|refine Zi4 rfl rfl rfl (by repeat constructor) (by first|rfl|omega|(rw [szL]; omega)|exact Nat.le_of_ble_eq_true rfl|(simp; done)|(simp; omega)) ?_|refine Zi3 rfl rfl rfl (by repeat constructor) (by first|rfl|omega|(rw [szL]; omega)|exact Nat.le_of_ble_eq_true rfl|(simp; done)|(simp; omega)) rfl ?_
    first|refine Zi1 rfl rfl ?_|refine Zi2 rfl rfl ?_|refine Zi0 rfl rfl (Zaw rfl) ?_|refine Zi0 rfl rfl (Zar rfl) ?_
    first|refine Zi1 rfl rfl ?_|refine Zi2 rfl rfl ?_|refine Zi4 rfl rfl rfl (by repeat constructor) (by first|rfl|omega|(rw [szL]; omega)|exact Nat.le_of_ble_eq_true rfl|(simp; done)|(simp; omega)) ?_|refine Zi3 rfl rfl rfl (by repeat constructor) (by first|rfl|omega|(rw [szL]; omega)|exact Nat.le_of_ble_eq_true rfl|(simp; done)|(simp; omega)) rfl ?_
    refine Ziq rfl ?_
    first|refine Zhi rfl ?_|refine Zhj rfl ?_|(refine Zhh rfl ?_; (refine Zh8 rfl (by kernel_rfl) (copyRows_x (L := [old W]) (hin.rs .here) hpl2 hel2) rfl (by repeat (first|exact Take.nil|exact Take.all|(apply Take.cons; (next => (repeat constructor); done))|apply Take.skip)) ?_); (rintro _ _ ⟨qs, ra, rc, hqs, rfl, rfl⟩); (refine Zg2 (by repeat (first|exact App.nil|apply App.cons|(apply App.flip; first|exact App.nil|apply App.cons)|exact App.any)) ?_))
    refine Zg3 ⟨fun _ => Imp.arr (by repeat (first|exact Arr.nil|exact Arr.stop|refine Arr.cons (by repeat constructor) ?_|refine Arr.skip ?_)), ?_⟩
    refine Ziq rfl ?_
    first|refine Zhi rfl ?_|refine Zhj rfl ?_|(refine Zhh rfl ?_; (refine Zh8 rfl (by kernel_rfl) (tsum_c (L := [own 31 1 (.slice ra qs.length rc) qs.length (qs.map (·.1)), star rowA qs]) key hk (rs_rows (by repeat constructor) (by repeat constructor)) (hql qs hqs)) rfl (by repeat (first|exact Take.nil|exact Take.all|(apply Take.cons; (next => (repeat constructor); done))|apply Take.skip)) ?_); (rintro _ _ ⟨rfl, rfl⟩); (refine Zg2 (by repeat (first|exact App.nil|apply App.cons|(apply App.flip; first|exact App.nil|apply App.cons)|exact App.any)) ?_))
    refine Zg3 ⟨fun _ => Imp.arr (by repeat (first|exact Arr.nil|exact Arr.stop|refine Arr.cons (by repeat constructor) ?_|refine Arr.skip ?_)), ?_⟩
    first|refine Zio rfl rfl ?_|refine Zip rfl rfl ?_|refine Zin rfl rfl (Zm4 (n := 16) (a := code key (joinB qs)) (b := code key J) (code_len _ _) hcl rfl rfl) ?_
    refine Zi5 73 rfl (decide_eq_true (by rw [hqj qs hqs])) ?_
    first|refine Zim rfl (Zdz rfl rfl) ?_|refine Zim rfl (Zd0 rfl rfl) ?_|refine Zim rfl (Za8 rfl rfl) ?_|refine Zim rfl (Za9 rfl rfl) ?_|refine Zim rfl (Za6 rfl rfl) ?_|refine Zim rfl (Za7 rfl rfl) ?_
    first|refine Zim rfl (Zau rfl) ?_|refine Zim rfl (Zar rfl) ?_
    first|refine Zi1 rfl rfl ?_|refine Zi2 rfl rfl ?_|refine Zi4 rfl rfl rfl (by repeat constructor) (by first|rfl|omega|(rw [szL]; omega)|exact Nat.le_of_ble_eq_true rfl|(simp; done)|(simp; omega)) ?_|refine Zi3 rfl rfl rfl (by repeat constructor) (by first|rfl|omega|(rw [szL]; omega)|exact Nat.le_of_ble_eq_true rfl|(simp; done)|(simp; omega)) rfl ?_
    first|refine Zi1 rfl rfl ?_|refine Zi2 rfl rfl ?_|refine Zi4 rfl rfl rfl (by repeat constructor) (by first|rfl|omega|(rw [szL]; omega)|exact Nat.le_of_ble_eq_true rfl|(simp; done)|(simp; omega)) ?_|refine Zi3 rfl rfl rfl (by repeat constructor) (by first|rfl|omega|(rw [szL]; omega)|exact Nat.le_of_ble_eq_true rfl|(simp; done)|(simp; omega)) rfl ?_
    first|refine Zi1 rfl rfl ?_|refine Zi2 rfl rfl ?_|refine Zi0 rfl rfl (Zaw rfl) ?_|refine Zi0 rfl rfl (Zar rfl) ?_
    refine Ziq rfl ?_
    first|refine Zhi rfl ?_|refine Zhj rfl ?_|(refine Zhh rfl ?_; (refine Zh7 (cs := #[.slice _ _ _]) (by omega) (by omega) rfl ?_; intro b79))
    refine Zg3 ⟨fun _ => Imp.arr (by repeat (first|exact Arr.nil|exact Arr.stop|refine Arr.cons (by repeat constructor) ?_|refine Arr.skip ?_)), ?_⟩
    refine Ziq rfl ?_
    first|refine Zhi rfl ?_|refine Zhj rfl ?_|(refine Zhh rfl ?_; (refine Zh8 rfl (by kernel_rfl) (check_c (L := [cl b79 #[.slice ja J.length jc] 31, own 5 1 (.slice ja J.length jc) J.length (J.map u8b)]) key hk (code key J) hcl (rs_one (by repeat constructor) (Bs.own (by repeat constructor))) (by simp)) rfl (by repeat (first|exact Take.nil|exact Take.all|(apply Take.cons; (next => (repeat constructor); done))|apply Take.skip)) ?_); (rintro _ _ ⟨rfl, rfl⟩); (refine Zg2 (by repeat (first|exact App.nil|apply App.cons|(apply App.flip; first|exact App.nil|apply App.cons)|exact App.any)) ?_))
    refine Zg3 ⟨(fun hh => Bool.noConfusion hh), ?_⟩
    refine Zi5 80 rfl (decide_eq_true (by simp [joinB])) ?_
    first|refine Zim rfl (Zdz rfl rfl) ?_|refine Zim rfl (Zd0 rfl rfl) ?_|refine Zim rfl (Za8 rfl rfl) ?_|refine Zim rfl (Za9 rfl rfl) ?_|refine Zim rfl (Za6 rfl rfl) ?_|refine Zim rfl (Za7 rfl rfl) ?_
    first|refine Zim rfl (Za0 rfl) ?_|refine Zim rfl (Zas rfl) ?_
    refine Zik ?_
    repeat (first|refine zA ?_|refine zB ?_|refine zC ?_|refine zD ?_|refine zE ?_|refine zF ?_|refine zG ?_|refine zH ?_|refine zI ?_|refine zJ ?_|refine zK ?_|refine zL ?_|refine zM rfl ?_|refine zN ?_|refine zO ?_|refine zP ?_|refine zQ ?_)
    refine rx1 (Zha rfl (Zg7)) ?_
    exact ⟨_, ⟨rfl, rfl⟩, by exact Imp.arr (by repeat (first|exact Arr.nil|exact Arr.stop|refine Arr.cons (by repeat constructor) ?_|refine Arr.skip ?_))⟩
end Go.Sl

/- the document's answer for the code, in digits: clean, nought. -/
set_option maxHeartbeats 4000000
set_option maxRecDepth 10000
set_option linter.unusedVariables false
set_option linter.unusedSimpArgs false
namespace Go.Sl
open Go Go.Proofs
attribute [local irreducible] cl pt own old pur ex all den denOps denS xOps xC cX CX xthen xblk xcut xloop retX resX Calls PV Rd Con
/-- A number that an int holds. -/
abbrev nv (n : Nat) : Value := .int .i64 (n : Int)
def valD : List Nat → Nat
  | [] => 0
  | x :: l => x + 256 * valD l
theorem valD_app (a b : List Nat) : valD (a ++ b) = valD a + 256 ^ a.length * valD b := by
  induction a with
  | nil => simp [valD]
  | cons x a ih =>
    simp only [List.cons_append, valD, ih, List.length_cons, Nat.pow_succ, Nat.mul_add]
    rw [← Nat.mul_assoc, Nat.mul_comm 256 (256 ^ a.length)]; omega
theorem valD_lt : ∀ (l : List Nat), (∀ x ∈ l, x < 256) → valD l < 256 ^ l.length
  | [], _ => by simp [valD]
  | x :: l, h => by
    have h1 := h x (by simp)
    have h2 := valD_lt l (fun y hy => h y (by simp [hy]))
    simp only [valD, List.length_cons, Nat.pow_succ]; omega
theorem valD_zeros (n : Nat) : valD (List.replicate n 0) = 0 := by
  induction n with
  | zero => rfl
  | succ n ih => simp [List.replicate_succ, valD, ih]
/-- Digits below 256. -/
def Dig (l : List Nat) : Prop := ∀ x ∈ l, x < 256
theorem clean_x {L : List Asrt} {a : Option Addr} {c n : Nat} {l : List Nat} (h : Rd L 1 (.slice a l.length c) l.length (l.map nv)) (hb : ∀ x ∈ l, x ≤ 1099511627776) (hl : l.length ≤ n) (hn : n ≤ 4096) (hv : valD l < 256 ^ n) :
    Con Try.prog 40 [.slice a l.length c] L (fun r M => ∃ a2 c2 d, Dig d ∧ valD d = valD l ∧ d.length ≤ n ∧ l.length ≤ d.length ∧ r = .slice a2 d.length c2 ∧ M = own 3 1 r d.length (d.map nv) :: L) := by
  refine fn_x Try.func40 rfl rfl rfl Try.mixed (by kernel_rfl) ?_
  intro w0
  repeat (first|refine zA ?_|refine zB ?_|refine zC ?_|refine zD ?_|refine zE ?_|refine zF ?_|refine zG ?_|refine zH ?_|refine zI ?_|refine zJ ?_|refine zK ?_|refine zL ?_|refine zM rfl ?_|refine zN ?_|refine zO ?_|refine zP ?_|refine zQ ?_)
  refine Zgb ?_
  first|refine Zhg (Za2 rfl) ?_|refine Zhg (Zas rfl) ?_
  refine Zg3 ?_
  repeat (first|refine zA ?_|refine zB ?_|refine zC ?_|refine zD ?_|refine zE ?_|refine zF ?_|refine zG ?_|refine zH ?_|refine zI ?_|refine zJ ?_|refine zK ?_|refine zL ?_|refine zM rfl ?_|refine zN ?_|refine zO ?_|refine zP ?_|refine zQ ?_)
  refine Zgb ?_
  first|refine Zhg (Za2 rfl) ?_|refine Zhg (Zas rfl) ?_
  refine Zg3 ?_
  repeat (first|refine zA ?_|refine zB ?_|refine zC ?_|refine zD ?_|refine zE ?_|refine zF ?_|refine zG ?_|refine zH ?_|refine zI ?_|refine zJ ?_|refine zK ?_|refine zL ?_|refine zM rfl ?_|refine zN ?_|refine zO ?_|refine zP ?_|refine zQ ?_)
  refine Zgb ?_
  first|refine Zhg (Zaz rfl) ?_|refine Zhg (Zas rfl) ?_
  refine Zg3 ?_
  repeat (first|refine zA ?_|refine zB ?_|refine zC ?_|refine zD ?_|refine zE ?_|refine zF ?_|refine zG ?_|refine zH ?_|refine zI ?_|refine zJ ?_|refine zK ?_|refine zL ?_|refine zM rfl ?_|refine zN ?_|refine zO ?_|refine zP ?_|refine zQ ?_)
  refine Zgb ?_
  first|refine Zhg (Zaz rfl) ?_|refine Zhg (Zas rfl) ?_
  refine Zg3 ?_
  repeat (first|refine zA ?_|refine zB ?_|refine zC ?_|refine zD ?_|refine zE ?_|refine zF ?_|refine zG ?_|refine zH ?_|refine zI ?_|refine zJ ?_|refine zK ?_|refine zL ?_|refine zM rfl ?_|refine zN ?_|refine zO ?_|refine zP ?_|refine zQ ?_)
  refine Zgo [(3, 32)] (by kernel_rfl) (fun s : Nat × Nat × Option Addr × Nat × List Nat => s.1 ≤ n ∧ s.2.2.2.2.length = s.1 ∧ s.2.1 ≤ 4398046511104 ∧ Dig s.2.2.2.2 ∧ valD s.2.2.2.2 + 256 ^ s.1 * (s.2.1 + valD (l.drop s.1)) = valD l)
    (fun s => own 3 1 (.slice s.2.2.1 s.2.2.2.2.length s.2.2.2.1) s.2.2.2.2.length (s.2.2.2.2.map nv) :: L)
    (fun s => [(5, .int .i64 (s.1 : Int)), (4, .int .i64 (s.2.1 : Int)), (3, .slice s.2.2.1 s.2.2.2.2.length s.2.2.2.1)]) (fun s => (l.length - s.1) * 4398046511105 + s.2.1) (0, 0, none, 0, []) ⟨Nat.zero_le _, rfl, by show 0 ≤ _; omega, by intro x hx; simp at hx, by simp [valD]⟩ Imp.own_nil ⟨rfl, rfl, rfl, trivial⟩ ?_
  rintro ⟨i, cy, da, dc, d⟩ u ⟨hi, hdl, hcy, hd, hval⟩
  dsimp only at hi hdl hcy hd hval ⊢
  have hdrop : ∀ hA : i < l.length, l.drop i = l[i] :: l.drop (i + 1) := fun hA => List.drop_eq_getElem_cons hA
  have step : ∀ x cy' : Nat, x = cy + (l[i]?.getD 0) → cy' = x / 256 → valD (d ++ [x % 256]) + 256 ^ (i + 1) * (cy' + valD (l.drop (i + 1))) = valD l := by
    intro x cy' hx hc
    rw [← hval, valD_app, hdl, Nat.pow_succ]
    have e : cy + valD (l.drop i) = x % 256 + 256 * (cy' + valD (l.drop (i + 1))) := by
      by_cases hA : i < l.length
      · rw [hdrop hA, List.getElem?_eq_getElem hA] at *
        simp only [Option.getD_some, valD] at *
        omega
      · rw [List.drop_eq_nil_of_le (by omega), List.drop_eq_nil_of_le (by omega), List.getElem?_eq_none (by omega)] at *
        simp only [Option.getD_none, valD] at *
        omega
    rw [e]
    simp only [valD, Nat.mul_add, Nat.mul_assoc]
    omega
  have room : 0 < cy ∨ i < l.length → i < n := by
    intro h0
    rcases h0 with h0|h0
    · apply Nat.lt_of_not_le
      intro hc
      have h1 : 256 ^ n ≤ 256 ^ i := Nat.pow_le_pow_right (by omega) hc
      have h2 : 256 ^ i * 1 ≤ 256 ^ i * (cy + valD (l.drop i)) := Nat.mul_le_mul_left _ (by omega)
      omega
    · omega
  have dig : ∀ x, Dig (d ++ [x % 256]) := by
    intro x y hy
    rcases List.mem_append.mp hy with h1|h1
    · exact hd y h1
    · simp only [List.mem_singleton] at h1; omega
  by_cases hA : i < l.length
  · have hx : l[i] ≤ 1099511627776 := hb _ (List.getElem_mem hA)
    repeat (first|refine zA ?_|refine zB ?_|refine zC ?_|refine zD ?_|refine zE ?_|refine zF ?_|refine zG ?_|refine zH ?_|refine zI ?_|refine zJ ?_|refine zK ?_|refine zL ?_|refine zM rfl ?_|refine zN ?_|refine zO ?_|refine zP ?_|refine zQ ?_)
    refine Zgb ?_
    first|refine Zhg (Zat rfl) ?_|refine Zhg (Zar rfl) ?_
    first|refine Zhg (Zaw rfl) ?_|refine Zhg (Zar rfl) ?_
    first|refine Zhg (Zcr rfl) ?_|refine Zhg (Zct) ?_|refine Zhg (Zcu rfl) ?_
    first|refine Zhg (Zmf rfl rfl) ?_|refine Zhg (Zbn rfl rfl) ?_
    refine Zhm 9 rfl (decide_eq_true (hA)) ?_
    first|refine Zhg (Zau rfl) ?_|refine Zhg (Zar rfl) ?_
    first|refine Zhi rfl ?_|refine Zhj rfl ?_|(refine Zhh rfl ?_; (first|refine Zhg (Zat rfl) ?_|refine Zhg (Zar rfl) ?_))
    first|refine Zhi rfl ?_|refine Zhj rfl ?_|(refine Zhh rfl ?_; (first|refine Zhg (Zmh (b := 0) rfl rfl) ?_|refine Zhg (Zbp rfl rfl) ?_))
    first|refine Zhg (Zdz rfl rfl) ?_|refine Zhg (Zd0 rfl rfl) ?_|refine Zhg (Za8 rfl rfl) ?_|refine Zhg (Za9 rfl rfl) ?_|refine Zhg (Za6 rfl rfl) ?_|refine Zhg (Za7 rfl rfl) ?_
    refine Zg3 ?_
    repeat (first|refine zA ?_|refine zB ?_|refine zC ?_|refine zD ?_|refine zE ?_|refine zF ?_|refine zG ?_|refine zH ?_|refine zI ?_|refine zJ ?_|refine zK ?_|refine zL ?_|refine zM rfl ?_|refine zN ?_|refine zO ?_|refine zP ?_|refine zQ ?_)
    refine Zge rfl ?_
    repeat (first|refine zA ?_|refine zB ?_|refine zC ?_|refine zD ?_|refine zE ?_|refine zF ?_|refine zG ?_|refine zH ?_|refine zI ?_|refine zJ ?_|refine zK ?_|refine zL ?_|refine zM rfl ?_|refine zN ?_|refine zO ?_|refine zP ?_|refine zQ ?_)
    refine Zgb ?_
    first|refine Zhg (Zat rfl) ?_|refine Zhg (Zar rfl) ?_
    first|refine Zhg (Zaw rfl) ?_|refine Zhg (Zar rfl) ?_
    first|refine Zhg (Zcr rfl) ?_|refine Zhg (Zct) ?_|refine Zhg (Zcu rfl) ?_
    first|refine Zhg (Zmf rfl rfl) ?_|refine Zhg (Zbn rfl rfl) ?_
    refine Zhm 19 rfl (decide_eq_true (hA)) ?_
    refine Zg3 ?_
    repeat (first|refine zA ?_|refine zB ?_|refine zC ?_|refine zD ?_|refine zE ?_|refine zF ?_|refine zG ?_|refine zH ?_|refine zI ?_|refine zJ ?_|refine zK ?_|refine zL ?_|refine zM rfl ?_|refine zN ?_|refine zO ?_|refine zP ?_|refine zQ ?_)
    refine Zge rfl ?_
    refine Zgt (fun F w H => (h.imp (by exact Imp.arr (by repeat (first|exact Arr.nil|exact Arr.stop|refine Arr.cons (by repeat constructor) ?_|refine Arr.skip ?_)))).someAt (by omega) H) ?_
    rintro ⟨a1, a2, rfl⟩
    repeat (first|refine zA ?_|refine zB ?_|refine zC ?_|refine zD ?_|refine zE ?_|refine zF ?_|refine zG ?_|refine zH ?_|refine zI ?_|refine zJ ?_|refine zK ?_|refine zL ?_|refine zM rfl ?_|refine zN ?_|refine zO ?_|refine zP ?_|refine zQ ?_)
    refine Zgb ?_
    first|refine Zhg (Zat rfl) ?_|refine Zhg (Zar rfl) ?_
    first|refine Zhg (Zaw rfl) ?_|refine Zhg (Zar rfl) ?_
    first|refine Zhg (Zat rfl) ?_|refine Zhg (Zar rfl) ?_
    first|refine Zhg (Zl4 rfl rfl) ?_|refine Zhg (Zl1 rfl rfl) ?_
    refine Zic (j := i) rfl (h.imp (by exact Imp.arr (by repeat (first|exact Arr.nil|exact Arr.stop|refine Arr.cons (by repeat constructor) ?_|refine Arr.skip ?_)))) hA (getM hA) ?_
    first|refine Zhg (Zma rfl rfl) ?_|refine Zhg (Zbg rfl rfl) ?_
    first|refine Zhg (Zaz rfl) ?_|refine Zhg (Zas rfl) ?_
    refine Zg3 ?_
    repeat (first|refine zA ?_|refine zB ?_|refine zC ?_|refine zD ?_|refine zE ?_|refine zF ?_|refine zG ?_|refine zH ?_|refine zI ?_|refine zJ ?_|refine zK ?_|refine zL ?_|refine zM rfl ?_|refine zN ?_|refine zO ?_|refine zP ?_|refine zQ ?_)
    refine Zgb ?_
    first|refine Zhg (Zaw rfl) ?_|refine Zhg (Zar rfl) ?_
    first|refine Zhg (Zat rfl) ?_|refine Zhg (Zar rfl) ?_
    first|refine Zhg (Zme (b := 256) rfl rfl) ?_|refine Zhg (Zbl rfl rfl) ?_
    refine Zh7 (cs := #[.int .i64 _]) (by omega) (by omega) rfl ?_; intro b29
    refine Zia rfl rfl (by repeat constructor) (Rd.cl (xs := [nv ((cy + l[i]) % 256)]) (by repeat constructor) rfl (by first|rfl|omega|(rw [szL]; omega)|exact Nat.le_of_ble_eq_true rfl|(simp; done)|(simp; omega)) rfl) (by first|rfl|exact oneM_u8 _|exact oneL_u8 _|(simp [oneC]; done)) (by omega) (by first|omega|exact Nat.le_of_ble_eq_true rfl|(simp; done)|(simp; omega)|decide) ?_; intro a3 c3
    first|refine Zhg (Za2 rfl) ?_|refine Zhg (Zas rfl) ?_
    refine Zg3 ?_
    repeat (first|refine zA ?_|refine zB ?_|refine zC ?_|refine zD ?_|refine zE ?_|refine zF ?_|refine zG ?_|refine zH ?_|refine zI ?_|refine zJ ?_|refine zK ?_|refine zL ?_|refine zM rfl ?_|refine zN ?_|refine zO ?_|refine zP ?_|refine zQ ?_)
    refine Zgb ?_
    first|refine Zhg (Zat rfl) ?_|refine Zhg (Zar rfl) ?_
    first|refine Zhg (Zmd (b := 256) rfl rfl) ?_|refine Zhg (Zbj rfl rfl) ?_
    first|refine Zhg (Zaz rfl) ?_|refine Zhg (Zas rfl) ?_
    refine Zg3 ?_
    repeat (first|refine zA ?_|refine zB ?_|refine zC ?_|refine zD ?_|refine zE ?_|refine zF ?_|refine zG ?_|refine zH ?_|refine zI ?_|refine zJ ?_|refine zK ?_|refine zL ?_|refine zM rfl ?_|refine zN ?_|refine zO ?_|refine zP ?_|refine zQ ?_)
    refine Zgb ?_
    first|refine Zhg (Zat rfl) ?_|refine Zhg (Zar rfl) ?_
    first|refine Zhg (Zma (b := 1) rfl rfl) ?_|refine Zhg (Zbg rfl rfl) ?_
    first|refine Zhg (Zaz rfl) ?_|refine Zhg (Zas rfl) ?_
    refine Zg3 ?_
    repeat (first|refine zA ?_|refine zB ?_|refine zC ?_|refine zD ?_|refine zE ?_|refine zF ?_|refine zG ?_|refine zH ?_|refine zI ?_|refine zJ ?_|refine zK ?_|refine zL ?_|refine zM rfl ?_|refine zN ?_|refine zO ?_|refine zP ?_|refine zQ ?_)
    refine Zgl (i + 1, (cy + l[i]) / 256, a3, c3, d ++ [(cy + l[i]) % 256]) (by first|omega|(dsimp only; omega)|(simp only []; omega)) ⟨room (.inr hA), by simp [hdl], by dsimp only; omega, dig _, step _ _ (by rw [List.getElem?_eq_getElem hA]; rfl) rfl⟩ ?_ ?_
    · dsimp only; rw [List.length_append, List.map_append]; exact Imp.arr (by repeat (first|exact Arr.nil|exact Arr.stop|refine Arr.cons (by repeat constructor) ?_|refine Arr.skip ?_))
    · dsimp only; rw [List.length_append]; exact ⟨rfl, rfl, rfl, trivial⟩
  · repeat (first|refine zA ?_|refine zB ?_|refine zC ?_|refine zD ?_|refine zE ?_|refine zF ?_|refine zG ?_|refine zH ?_|refine zI ?_|refine zJ ?_|refine zK ?_|refine zL ?_|refine zM rfl ?_|refine zN ?_|refine zO ?_|refine zP ?_|refine zQ ?_)
    refine Zgb ?_
    first|refine Zhg (Zat rfl) ?_|refine Zhg (Zar rfl) ?_
    first|refine Zhg (Zaw rfl) ?_|refine Zhg (Zar rfl) ?_
    first|refine Zhg (Zcr rfl) ?_|refine Zhg (Zct) ?_|refine Zhg (Zcu rfl) ?_
    first|refine Zhg (Zmf rfl rfl) ?_|refine Zhg (Zbn rfl rfl) ?_
    refine Zhn 9 rfl (decide_eq_false (hA)) ?_
    first|refine Zhg (Zau rfl) ?_|refine Zhg (Zar rfl) ?_
    first|refine Zhi rfl ?_|refine Zhj rfl ?_|(refine Zhh rfl ?_; (first|refine Zhg (Zat rfl) ?_|refine Zhg (Zar rfl) ?_))
    first|refine Zhi rfl ?_|refine Zhj rfl ?_|(refine Zhh rfl ?_; (first|refine Zhg (Zmh (b := 0) rfl rfl) ?_|refine Zhg (Zbp rfl rfl) ?_))
    first|refine Zhg (Zdz rfl rfl) ?_|refine Zhg (Zd0 rfl rfl) ?_|refine Zhg (Za8 rfl rfl) ?_|refine Zhg (Za9 rfl rfl) ?_|refine Zhg (Za6 rfl rfl) ?_|refine Zhg (Za7 rfl rfl) ?_
    refine Zg3 ?_
    repeat (first|refine zA ?_|refine zB ?_|refine zC ?_|refine zD ?_|refine zE ?_|refine zF ?_|refine zG ?_|refine zH ?_|refine zI ?_|refine zJ ?_|refine zK ?_|refine zL ?_|refine zM rfl ?_|refine zN ?_|refine zO ?_|refine zP ?_|refine zQ ?_)
    refine Zgg rfl (fun hB => ?_) (fun hB => ?_)
    · repeat (first|refine zA ?_|refine zB ?_|refine zC ?_|refine zD ?_|refine zE ?_|refine zF ?_|refine zG ?_|refine zH ?_|refine zI ?_|refine zJ ?_|refine zK ?_|refine zL ?_|refine zM rfl ?_|refine zN ?_|refine zO ?_|refine zP ?_|refine zQ ?_)
      refine Zgb ?_
      first|refine Zhg (Zat rfl) ?_|refine Zhg (Zar rfl) ?_
      first|refine Zhg (Zaw rfl) ?_|refine Zhg (Zar rfl) ?_
      first|refine Zhg (Zcr rfl) ?_|refine Zhg (Zct) ?_|refine Zhg (Zcu rfl) ?_
      first|refine Zhg (Zmf rfl rfl) ?_|refine Zhg (Zbn rfl rfl) ?_
      refine Zhn 19 rfl (decide_eq_false (hA)) ?_
      refine Zg3 ?_
      repeat (first|refine zA ?_|refine zB ?_|refine zC ?_|refine zD ?_|refine zE ?_|refine zF ?_|refine zG ?_|refine zH ?_|refine zI ?_|refine zJ ?_|refine zK ?_|refine zL ?_|refine zM rfl ?_|refine zN ?_|refine zO ?_|refine zP ?_|refine zQ ?_)
      refine Zgf rfl ?_
      repeat (first|refine zA ?_|refine zB ?_|refine zC ?_|refine zD ?_|refine zE ?_|refine zF ?_|refine zG ?_|refine zH ?_|refine zI ?_|refine zJ ?_|refine zK ?_|refine zL ?_|refine zM rfl ?_|refine zN ?_|refine zO ?_|refine zP ?_|refine zQ ?_)
      refine Zgb ?_
      first|refine Zhg (Zaw rfl) ?_|refine Zhg (Zar rfl) ?_
      first|refine Zhg (Zat rfl) ?_|refine Zhg (Zar rfl) ?_
      first|refine Zhg (Zme (b := 256) rfl rfl) ?_|refine Zhg (Zbl rfl rfl) ?_
      refine Zh7 (cs := #[.int .i64 _]) (by omega) (by omega) rfl ?_; intro b29
      refine Zia rfl rfl (by repeat constructor) (Rd.cl (xs := [nv (cy % 256)]) (by repeat constructor) rfl (by first|rfl|omega|(rw [szL]; omega)|exact Nat.le_of_ble_eq_true rfl|(simp; done)|(simp; omega)) rfl) (by first|rfl|exact oneM_u8 _|exact oneL_u8 _|(simp [oneC]; done)) (by omega) (by first|omega|exact Nat.le_of_ble_eq_true rfl|(simp; done)|(simp; omega)|decide) ?_; intro a3 c3
      first|refine Zhg (Za2 rfl) ?_|refine Zhg (Zas rfl) ?_
      refine Zg3 ?_
      repeat (first|refine zA ?_|refine zB ?_|refine zC ?_|refine zD ?_|refine zE ?_|refine zF ?_|refine zG ?_|refine zH ?_|refine zI ?_|refine zJ ?_|refine zK ?_|refine zL ?_|refine zM rfl ?_|refine zN ?_|refine zO ?_|refine zP ?_|refine zQ ?_)
      refine Zgb ?_
      first|refine Zhg (Zat rfl) ?_|refine Zhg (Zar rfl) ?_
      first|refine Zhg (Zmd (b := 256) rfl rfl) ?_|refine Zhg (Zbj rfl rfl) ?_
      first|refine Zhg (Zaz rfl) ?_|refine Zhg (Zas rfl) ?_
      refine Zg3 ?_
      repeat (first|refine zA ?_|refine zB ?_|refine zC ?_|refine zD ?_|refine zE ?_|refine zF ?_|refine zG ?_|refine zH ?_|refine zI ?_|refine zJ ?_|refine zK ?_|refine zL ?_|refine zM rfl ?_|refine zN ?_|refine zO ?_|refine zP ?_|refine zQ ?_)
      refine Zgb ?_
      first|refine Zhg (Zat rfl) ?_|refine Zhg (Zar rfl) ?_
      first|refine Zhg (Zma (b := 1) rfl rfl) ?_|refine Zhg (Zbg rfl rfl) ?_
      first|refine Zhg (Zaz rfl) ?_|refine Zhg (Zas rfl) ?_
      refine Zg3 ?_
      repeat (first|refine zA ?_|refine zB ?_|refine zC ?_|refine zD ?_|refine zE ?_|refine zF ?_|refine zG ?_|refine zH ?_|refine zI ?_|refine zJ ?_|refine zK ?_|refine zL ?_|refine zM rfl ?_|refine zN ?_|refine zO ?_|refine zP ?_|refine zQ ?_)
      refine Zgl (i + 1, cy / 256, a3, c3, d ++ [cy % 256]) (by first|omega|(dsimp only; omega)|(simp only []; omega)) ⟨room (.inl hB), by simp [hdl], by dsimp only; omega, dig _, step _ _ (by rw [List.getElem?_eq_none (by omega)]; rfl) rfl⟩ ?_ ?_
      · dsimp only; rw [List.length_append, List.map_append]; exact Imp.arr (by repeat (first|exact Arr.nil|exact Arr.stop|refine Arr.cons (by repeat constructor) ?_|refine Arr.skip ?_))
      · dsimp only; rw [List.length_append]; exact ⟨rfl, rfl, rfl, trivial⟩
    · have hc0 : cy = 0 := by omega
      subst hc0
      rw [List.drop_eq_nil_of_le (by omega)] at hval
      repeat (first|refine zA ?_|refine zB ?_|refine zC ?_|refine zD ?_|refine zE ?_|refine zF ?_|refine zG ?_|refine zH ?_|refine zI ?_|refine zJ ?_|refine zK ?_|refine zL ?_|refine zM rfl ?_|refine zN ?_|refine zO ?_|refine zP ?_|refine zQ ?_)
      refine Zgb ?_
      first|refine Zhg (Zaw rfl) ?_|refine Zhg (Zar rfl) ?_
      first|refine Zhg (Za2 rfl) ?_|refine Zhg (Zas rfl) ?_
      refine Zg3 ?_
      repeat (first|refine zA ?_|refine zB ?_|refine zC ?_|refine zD ?_|refine zE ?_|refine zF ?_|refine zG ?_|refine zH ?_|refine zI ?_|refine zJ ?_|refine zK ?_|refine zL ?_|refine zM rfl ?_|refine zN ?_|refine zO ?_|refine zP ?_|refine zQ ?_)
      refine rx1 (Zhc rfl (Zg7)) ?_
      exact ⟨_, ⟨da, dc, d, hd, by simp only [valD] at hval; omega, by omega, by omega, rfl, rfl⟩, by exact Imp.arr (by repeat (first|exact Arr.nil|exact Arr.stop|refine Arr.cons (by repeat constructor) ?_|refine Arr.skip ?_))⟩
theorem noughtD_x {L : List Asrt} {a : Option Addr} {c : Nat} {l : List Nat} (h : Rd L 1 (.slice a l.length c) l.length (l.map nv)) (hl : l.length ≤ 4096) :
    Con Try.prog 39 [.slice a l.length c] L (fun r M => r = .bool (decide (valD l = 0)) ∧ L = M) := by
  refine fn_x Try.func39 rfl rfl rfl Try.mixed (by kernel_rfl) ?_
  intro w0
  repeat (first|refine zA ?_|refine zB ?_|refine zC ?_|refine zD ?_|refine zE ?_|refine zF ?_|refine zG ?_|refine zH ?_|refine zI ?_|refine zJ ?_|refine zK ?_|refine zL ?_|refine zM rfl ?_|refine zN ?_|refine zO ?_|refine zP ?_|refine zQ ?_)
  refine Zgb ?_
  first|refine Zhg (Za0 rfl) ?_|refine Zhg (Zas rfl) ?_
  refine Zg3 ?_
  repeat (first|refine zA ?_|refine zB ?_|refine zC ?_|refine zD ?_|refine zE ?_|refine zF ?_|refine zG ?_|refine zH ?_|refine zI ?_|refine zJ ?_|refine zK ?_|refine zL ?_|refine zM rfl ?_|refine zN ?_|refine zO ?_|refine zP ?_|refine zQ ?_)
  refine Zgb ?_
  first|refine Zhg (Zaz rfl) ?_|refine Zhg (Zas rfl) ?_
  refine Zg3 ?_
  repeat (first|refine zA ?_|refine zB ?_|refine zC ?_|refine zD ?_|refine zE ?_|refine zF ?_|refine zG ?_|refine zH ?_|refine zI ?_|refine zJ ?_|refine zK ?_|refine zL ?_|refine zM rfl ?_|refine zN ?_|refine zO ?_|refine zP ?_|refine zQ ?_)
  refine Zgo [(2, 14)] (by kernel_rfl) (fun i : Nat => i ≤ l.length ∧ valD (l.take i) = 0) (fun _ => L) (fun i => [(3, .int .i64 (i : Int))]) (fun i => l.length - i) 0 ⟨Nat.zero_le _, rfl⟩ (Imp.refl _) ⟨rfl, trivial⟩ ?_
  rintro i u ⟨hi, hz⟩
  repeat (first|refine zA ?_|refine zB ?_|refine zC ?_|refine zD ?_|refine zE ?_|refine zF ?_|refine zG ?_|refine zH ?_|refine zI ?_|refine zJ ?_|refine zK ?_|refine zL ?_|refine zM rfl ?_|refine zN ?_|refine zO ?_|refine zP ?_|refine zQ ?_)
  refine Zgb ?_
  first|refine Zhg (Zat rfl) ?_|refine Zhg (Zar rfl) ?_
  first|refine Zhg (Zaw rfl) ?_|refine Zhg (Zar rfl) ?_
  first|refine Zhg (Zcr rfl) ?_|refine Zhg (Zct) ?_|refine Zhg (Zcu rfl) ?_
  first|refine Zhg (Zmf rfl rfl) ?_|refine Zhg (Zbn rfl rfl) ?_
  refine Zg3 ?_
  repeat (first|refine zA ?_|refine zB ?_|refine zC ?_|refine zD ?_|refine zE ?_|refine zF ?_|refine zG ?_|refine zH ?_|refine zI ?_|refine zJ ?_|refine zK ?_|refine zL ?_|refine zM rfl ?_|refine zN ?_|refine zO ?_|refine zP ?_|refine zQ ?_)
  refine Zgg rfl (fun hA => ?_) (fun hA => ?_)
  · refine Zgt (fun F w H => h.someAt (by omega) H) ?_
    rintro ⟨a1, a2, rfl⟩
    have hs : valD l = 256 ^ i * (l[i] + 256 * valD (l.drop (i + 1))) := by
      have e := valD_app (l.take i) (l.drop i)
      rw [List.take_append_drop, hz, List.drop_eq_getElem_cons hA, List.length_take, Nat.min_eq_left hi, Nat.zero_add] at e
      exact e
    repeat (first|refine zA ?_|refine zB ?_|refine zC ?_|refine zD ?_|refine zE ?_|refine zF ?_|refine zG ?_|refine zH ?_|refine zI ?_|refine zJ ?_|refine zK ?_|refine zL ?_|refine zM rfl ?_|refine zN ?_|refine zO ?_|refine zP ?_|refine zQ ?_)
    refine Zgb ?_
    first|refine Zhg (Zaw rfl) ?_|refine Zhg (Zar rfl) ?_
    first|refine Zhg (Zat rfl) ?_|refine Zhg (Zar rfl) ?_
    first|refine Zhg (Zl4 rfl rfl) ?_|refine Zhg (Zl1 rfl rfl) ?_
    refine Zic (j := i) rfl h hA (getM hA) ?_
    first|refine Zhg (Zmk (b := 0) rfl rfl) ?_|refine Zhg (Zbs rfl rfl) ?_
    refine Zg3 ?_
    repeat (first|refine zA ?_|refine zB ?_|refine zC ?_|refine zD ?_|refine zE ?_|refine zF ?_|refine zG ?_|refine zH ?_|refine zI ?_|refine zJ ?_|refine zK ?_|refine zL ?_|refine zM rfl ?_|refine zN ?_|refine zO ?_|refine zP ?_|refine zQ ?_)
    refine Zgg rfl (fun h0 => ?_) (fun h0 => ?_)
    · repeat (first|refine zA ?_|refine zB ?_|refine zC ?_|refine zD ?_|refine zE ?_|refine zF ?_|refine zG ?_|refine zH ?_|refine zI ?_|refine zJ ?_|refine zK ?_|refine zL ?_|refine zM rfl ?_|refine zN ?_|refine zO ?_|refine zP ?_|refine zQ ?_)
      refine Zgb ?_
      first|refine Zhg (Za0 rfl) ?_|refine Zhg (Zas rfl) ?_
      refine Zg3 ?_
      repeat (first|refine zA ?_|refine zB ?_|refine zC ?_|refine zD ?_|refine zE ?_|refine zF ?_|refine zG ?_|refine zH ?_|refine zI ?_|refine zJ ?_|refine zK ?_|refine zL ?_|refine zM rfl ?_|refine zN ?_|refine zO ?_|refine zP ?_|refine zQ ?_)
      refine rx1 (Zha rfl (Zg7)) ?_
      refine ⟨_, ⟨?_, rfl⟩, by exact Imp.arr (by repeat (first|exact Arr.nil|exact Arr.stop|refine Arr.cons (by repeat constructor) ?_|refine Arr.skip ?_))⟩
      have hz1 : ¬ l[i] = 0 := fun e => by rw [e] at h0; exact h0 rfl
      have : ¬ valD l = 0 := by
        rw [hs]
        exact Nat.ne_of_gt (Nat.mul_pos (Nat.pow_pos (by omega)) (by omega))
      rw [decide_eq_false this]
    · have hz1 : l[i] = 0 := by
        apply Classical.byContradiction; intro e; exact h0 (fun e2 => e (by first|exact e2|(simp at e2; omega)))
      repeat (first|refine zA ?_|refine zB ?_|refine zC ?_|refine zD ?_|refine zE ?_|refine zF ?_|refine zG ?_|refine zH ?_|refine zI ?_|refine zJ ?_|refine zK ?_|refine zL ?_|refine zM rfl ?_|refine zN ?_|refine zO ?_|refine zP ?_|refine zQ ?_)
      refine Zgb ?_
      first|refine Zhg (Zat rfl) ?_|refine Zhg (Zar rfl) ?_
      first|refine Zhg (Zma (b := 1) rfl rfl) ?_|refine Zhg (Zbg rfl rfl) ?_
      first|refine Zhg (Zaz rfl) ?_|refine Zhg (Zas rfl) ?_
      refine Zg3 ?_
      repeat (first|refine zA ?_|refine zB ?_|refine zC ?_|refine zD ?_|refine zE ?_|refine zF ?_|refine zG ?_|refine zH ?_|refine zI ?_|refine zJ ?_|refine zK ?_|refine zL ?_|refine zM rfl ?_|refine zN ?_|refine zO ?_|refine zP ?_|refine zQ ?_)
      refine Zgl (i + 1) (by first|omega|(dsimp only; omega)|(simp only []; omega)) ⟨by omega, ?_⟩ (by exact Imp.arr (by repeat (first|exact Arr.nil|exact Arr.stop|refine Arr.cons (by repeat constructor) ?_|refine Arr.skip ?_))) ⟨rfl, trivial⟩
      rw [List.take_succ_eq_append_getElem hA, valD_app, hz, hz1]; simp [valD]
  · repeat (first|refine zA ?_|refine zB ?_|refine zC ?_|refine zD ?_|refine zE ?_|refine zF ?_|refine zG ?_|refine zH ?_|refine zI ?_|refine zJ ?_|refine zK ?_|refine zL ?_|refine zM rfl ?_|refine zN ?_|refine zO ?_|refine zP ?_|refine zQ ?_)
    refine Zgb ?_
    first|refine Zhg (Za0 rfl) ?_|refine Zhg (Zas rfl) ?_
    refine Zg3 ?_
    repeat (first|refine zA ?_|refine zB ?_|refine zC ?_|refine zD ?_|refine zE ?_|refine zF ?_|refine zG ?_|refine zH ?_|refine zI ?_|refine zJ ?_|refine zK ?_|refine zL ?_|refine zM rfl ?_|refine zN ?_|refine zO ?_|refine zP ?_|refine zQ ?_)
    refine rx1 (Zha rfl (Zg7)) ?_
    have hie : i = l.length := by omega
    rw [hie, List.take_length] at hz
    exact ⟨_, ⟨by rw [decide_eq_true hz], rfl⟩, by exact Imp.arr (by repeat (first|exact Arr.nil|exact Arr.stop|refine Arr.cons (by repeat constructor) ?_|refine Arr.skip ?_))⟩
end Go.Sl

/- the document's answer for the code, in digits: add, mul. -/
set_option maxHeartbeats 4000000
set_option maxRecDepth 10000
set_option linter.unusedVariables false
set_option linter.unusedSimpArgs false
namespace Go.Sl
open Go Go.Proofs
attribute [local irreducible] cl pt own old pur ex all den denOps denS xOps xC cX CX xthen xblk xcut xloop retX resX Calls PV Rd Con
theorem valD_set : ∀ (s : List Nat) (i y : Nat) (h : i < s.length), valD (s.set i (s[i] + y)) = valD s + 256 ^ i * y
  | x :: s, 0, y, _ => by simp [valD]; omega
  | x :: s, i + 1, y, h => by
    have := valD_set s i y (by simpa using h)
    simp only [List.set_cons_succ, List.getElem_cons_succ, valD, this, Nat.pow_succ, Nat.mul_add]
    rw [← Nat.mul_assoc, Nat.mul_comm 256 (256 ^ i)]; omega
theorem bnd_set {s : List Nat} {i y B C : Nat} (hs : ∀ x ∈ s, x ≤ B) (h : i < s.length) (hy : B + y ≤ C) : ∀ x ∈ s.set i (s[i] + y), x ≤ C := by
  intro x hx
  rcases List.mem_or_eq_of_mem_set hx with h1|h1
  · have := hs x h1; omega
  · have := hs _ (List.getElem_mem h); omega
theorem valD_take (l : List Nat) (i : Nat) (h : i < l.length) : valD (l.take (i + 1)) = valD (l.take i) + 256 ^ i * l[i] := by
  rw [List.take_succ_eq_append_getElem h, valD_app, List.length_take, Nat.min_eq_left (by omega)]; simp [valD]
theorem add_x {L : List Asrt} {aa ab : Option Addr} {ca cb n : Nat} {la lb : List Nat} (ha : Rd L 1 (.slice aa la.length ca) la.length (la.map nv)) (hb : Rd L 1 (.slice ab lb.length cb) lb.length (lb.map nv)) (da : Dig la) (db : Dig lb)
    (hla : la.length ≤ n) (hlb : lb.length ≤ n) (hn : n ≤ 4096) (hv : valD la + valD lb < 256 ^ n) :
    Con Try.prog 31 [.slice aa la.length ca, .slice ab lb.length cb] L (fun r M => ∃ a2 c2 d, Dig d ∧ valD d = valD la + valD lb ∧ d.length ≤ n ∧ r = .slice a2 d.length c2 ∧ M = own 3 1 r d.length (d.map nv) :: L) := by
  refine fn_x Try.func31 rfl rfl rfl Try.mixed (by kernel_rfl) ?_
  intro w0
  repeat (first|refine zA ?_|refine zB ?_|refine zC ?_|refine zD ?_|refine zE ?_|refine zF ?_|refine zG ?_|refine zH ?_|refine zI ?_|refine zJ ?_|refine zK ?_|refine zL ?_|refine zM rfl ?_|refine zN ?_|refine zO ?_|refine zP ?_|refine zQ ?_)
  refine Zgb ?_
  first|refine Zhg (Za2 rfl) ?_|refine Zhg (Zas rfl) ?_
  refine Zg3 ?_
  repeat (first|refine zA ?_|refine zB ?_|refine zC ?_|refine zD ?_|refine zE ?_|refine zF ?_|refine zG ?_|refine zH ?_|refine zI ?_|refine zJ ?_|refine zK ?_|refine zL ?_|refine zM rfl ?_|refine zN ?_|refine zO ?_|refine zP ?_|refine zQ ?_)
  refine Zgb ?_
  first|refine Zhg (Zaw rfl) ?_|refine Zhg (Zar rfl) ?_
  first|refine Zhg (Zcr rfl) ?_|refine Zhg (Zct) ?_|refine Zhg (Zcu rfl) ?_
  first|refine Zhg (Zaz rfl) ?_|refine Zhg (Zas rfl) ?_
  refine Zg3 ?_
  repeat (first|refine zA ?_|refine zB ?_|refine zC ?_|refine zD ?_|refine zE ?_|refine zF ?_|refine zG ?_|refine zH ?_|refine zI ?_|refine zJ ?_|refine zK ?_|refine zL ?_|refine zM rfl ?_|refine zN ?_|refine zO ?_|refine zP ?_|refine zQ ?_)
  refine Zgb ?_
  first|refine Zhg (Zaw rfl) ?_|refine Zhg (Zar rfl) ?_
  first|refine Zhg (Zcr rfl) ?_|refine Zhg (Zct) ?_|refine Zhg (Zcu rfl) ?_
  first|refine Zhg (Zat rfl) ?_|refine Zhg (Zar rfl) ?_
  first|refine Zhg (Zmh rfl rfl) ?_|refine Zhg (Zbp rfl rfl) ?_
  refine Zg3 ?_
  repeat (first|refine zA ?_|refine zB ?_|refine zC ?_|refine zD ?_|refine zE ?_|refine zF ?_|refine zG ?_|refine zH ?_|refine zI ?_|refine zJ ?_|refine zK ?_|refine zL ?_|refine zM rfl ?_|refine zN ?_|refine zO ?_|refine zP ?_|refine zQ ?_)
  refine Zgn [(5, 5), (15, 16)] (by kernel_rfl) (fun N : Nat => la.length ≤ N ∧ lb.length ≤ N ∧ N ≤ n) (fun _ => L) (fun N => [(5, .int .i64 (N : Int))]) ?_ ?_
  · refine Zgg rfl (fun hA => ?_) (fun hA => ?_)
    · repeat (first|refine zA ?_|refine zB ?_|refine zC ?_|refine zD ?_|refine zE ?_|refine zF ?_|refine zG ?_|refine zH ?_|refine zI ?_|refine zJ ?_|refine zK ?_|refine zL ?_|refine zM rfl ?_|refine zN ?_|refine zO ?_|refine zP ?_|refine zQ ?_)
      refine Zgb ?_
      first|refine Zhg (Zaw rfl) ?_|refine Zhg (Zar rfl) ?_
      first|refine Zhg (Zcr rfl) ?_|refine Zhg (Zct) ?_|refine Zhg (Zcu rfl) ?_
      first|refine Zhg (Zaz rfl) ?_|refine Zhg (Zas rfl) ?_
      refine Zg3 ?_
      repeat (first|refine zA ?_|refine zB ?_|refine zC ?_|refine zD ?_|refine zE ?_|refine zF ?_|refine zG ?_|refine zH ?_|refine zI ?_|refine zJ ?_|refine zK ?_|refine zL ?_|refine zM rfl ?_|refine zN ?_|refine zO ?_|refine zP ?_|refine zQ ?_)
      exact Zgk lb.length ⟨by omega, by omega, by omega⟩ (by exact Imp.arr (by repeat (first|exact Arr.nil|exact Arr.stop|refine Arr.cons (by repeat constructor) ?_|refine Arr.skip ?_))) ⟨rfl, trivial⟩
    · repeat (first|refine zA ?_|refine zB ?_|refine zC ?_|refine zD ?_|refine zE ?_|refine zF ?_|refine zG ?_|refine zH ?_|refine zI ?_|refine zJ ?_|refine zK ?_|refine zL ?_|refine zM rfl ?_|refine zN ?_|refine zO ?_|refine zP ?_|refine zQ ?_)
      exact Zgk la.length ⟨by omega, by omega, by omega⟩ (by exact Imp.arr (by repeat (first|exact Arr.nil|exact Arr.stop|refine Arr.cons (by repeat constructor) ?_|refine Arr.skip ?_))) ⟨rfl, trivial⟩
  rintro N u ⟨h1, h2, h3⟩
  repeat (first|refine zA ?_|refine zB ?_|refine zC ?_|refine zD ?_|refine zE ?_|refine zF ?_|refine zG ?_|refine zH ?_|refine zI ?_|refine zJ ?_|refine zK ?_|refine zL ?_|refine zM rfl ?_|refine zN ?_|refine zO ?_|refine zP ?_|refine zQ ?_)
  refine Zgb ?_
  first|refine Zhg (Zat rfl) ?_|refine Zhg (Zar rfl) ?_
  refine Zm3 (f := nv) (a := 0) rfl rfl rfl (by first|omega|exact Nat.le_of_ble_eq_true rfl|(simp; done)|(simp; omega)|decide) (by first|omega|exact Nat.le_of_ble_eq_true rfl|(simp; done)|(simp; omega)|decide) (by first|omega|exact Nat.le_of_ble_eq_true rfl|(simp; done)|(simp; omega)|decide) ?_; intro b18
  first|refine Zhg (Za2 rfl) ?_|refine Zhg (Zas rfl) ?_
  refine Zg3 ?_
  repeat (first|refine zA ?_|refine zB ?_|refine zC ?_|refine zD ?_|refine zE ?_|refine zF ?_|refine zG ?_|refine zH ?_|refine zI ?_|refine zJ ?_|refine zK ?_|refine zL ?_|refine zM rfl ?_|refine zN ?_|refine zO ?_|refine zP ?_|refine zQ ?_)
  refine Zgb ?_
  first|refine Zhg (Zaz rfl) ?_|refine Zhg (Zas rfl) ?_
  refine Zg3 ?_
  repeat (first|refine zA ?_|refine zB ?_|refine zC ?_|refine zD ?_|refine zE ?_|refine zF ?_|refine zG ?_|refine zH ?_|refine zI ?_|refine zJ ?_|refine zK ?_|refine zL ?_|refine zM rfl ?_|refine zN ?_|refine zO ?_|refine zP ?_|refine zQ ?_)
  refine Zgo [(7, 7), (19, 36)] (by kernel_rfl) (fun s : Nat × List Nat => s.1 ≤ la.length ∧ s.2.length = N ∧ (∀ x ∈ s.2, x ≤ 256 * s.1) ∧ valD s.2 = valD (la.take s.1))
    (fun s => cl b18 ((s.2.map nv).toArray) 3 :: L) (fun s => [(7, .int .i64 (s.1 : Int))]) (fun s => la.length - s.1) (0, List.replicate N 0) ⟨by show 0 ≤ _; omega, by simp, by intro x hx; simp at hx; show x ≤ 256 * 0; omega, by simp [valD_zeros, valD]⟩ (by exact Imp.arr (by repeat (first|exact Arr.nil|exact Arr.stop|refine Arr.cons (by repeat constructor) ?_|refine Arr.skip ?_))) ⟨rfl, trivial⟩ ?_
  rintro ⟨i, s⟩ u2 ⟨hi, hsl, hsb, hsv⟩
  dsimp only at hi hsl hsb hsv ⊢
  repeat (first|refine zA ?_|refine zB ?_|refine zC ?_|refine zD ?_|refine zE ?_|refine zF ?_|refine zG ?_|refine zH ?_|refine zI ?_|refine zJ ?_|refine zK ?_|refine zL ?_|refine zM rfl ?_|refine zN ?_|refine zO ?_|refine zP ?_|refine zQ ?_)
  refine Zgb ?_
  first|refine Zhg (Zat rfl) ?_|refine Zhg (Zar rfl) ?_
  first|refine Zhg (Zaw rfl) ?_|refine Zhg (Zar rfl) ?_
  first|refine Zhg (Zcr rfl) ?_|refine Zhg (Zct) ?_|refine Zhg (Zcu rfl) ?_
  first|refine Zhg (Zmf rfl rfl) ?_|refine Zhg (Zbn rfl rfl) ?_
  refine Zg3 ?_
  repeat (first|refine zA ?_|refine zB ?_|refine zC ?_|refine zD ?_|refine zE ?_|refine zF ?_|refine zG ?_|refine zH ?_|refine zI ?_|refine zJ ?_|refine zK ?_|refine zL ?_|refine zM rfl ?_|refine zN ?_|refine zO ?_|refine zP ?_|refine zQ ?_)
  refine Zgg rfl (fun hA => ?_) (fun hA => ?_)
  · refine Zgt (fun F w H => (ha.imp (by exact Imp.arr (by repeat (first|exact Arr.nil|exact Arr.stop|refine Arr.cons (by repeat constructor) ?_|refine Arr.skip ?_)))).someAt (by omega) H) ?_
    rintro ⟨a1, a2, rfl⟩
    have hsi : i < s.length := by omega
    have hx : s[i] ≤ 256 * i := hsb _ (List.getElem_mem hsi)
    have hy : la[i] < 256 := da _ (List.getElem_mem hA)
    repeat (first|refine zA ?_|refine zB ?_|refine zC ?_|refine zD ?_|refine zE ?_|refine zF ?_|refine zG ?_|refine zH ?_|refine zI ?_|refine zJ ?_|refine zK ?_|refine zL ?_|refine zM rfl ?_|refine zN ?_|refine zO ?_|refine zP ?_|refine zQ ?_)
    refine Zij (_) [0, 1, 2, 3, 4, 5, 6, 7, 8, 9, 10] (.r 0 (.r 1 (.r 2 (.r 3 (.r 4 (.r 5 (.r 6 (.r 7 (.r 8 (.r 9 (.r 10 (.q 11 (.e 12 false .nil))))))))))))) (by kernel_rfl) (by kernel_rfl) (Imp.refl _) ?_
    first|refine Ziz rfl (Zaw rfl) ?_|refine Ziz rfl (Zar rfl) ?_
    first|refine Ziz rfl (Zat rfl) ?_|refine Ziz rfl (Zar rfl) ?_
    first|refine Ziz rfl (Zaw rfl) ?_|refine Ziz rfl (Zar rfl) ?_
    first|refine Ziz rfl (Zat rfl) ?_|refine Ziz rfl (Zar rfl) ?_
    first|refine Ziz rfl (Zl4 rfl rfl) ?_|refine Ziz rfl (Zl1 rfl rfl) ?_
    refine Ziv rfl rfl (by repeat constructor) (by rw [List.getElem?_toArray]; exact getM hsi) ?_
    first|refine Ziz rfl (Zaw rfl) ?_|refine Ziz rfl (Zar rfl) ?_
    first|refine Ziz rfl (Zat rfl) ?_|refine Ziz rfl (Zar rfl) ?_
    first|refine Ziz rfl (Zl4 rfl rfl) ?_|refine Ziz rfl (Zl1 rfl rfl) ?_
    refine Zi8 (j := i) rfl rfl (ha.imp (by exact Imp.arr (by repeat (first|exact Arr.nil|exact Arr.stop|refine Arr.cons (by repeat constructor) ?_|refine Arr.skip ?_)))) hA (getM hA) ?_
    first|refine Ziz rfl (Zma rfl rfl) ?_|refine Ziz rfl (Zbg rfl rfl) ?_
    first|refine Zim rfl (Zl4 rfl rfl) ?_|refine Zim rfl (Zl1 rfl rfl) ?_
    refine Ziq rfl ?_
    refine Zht rfl rfl (by repeat constructor) (by first|rfl|omega|(rw [szL]; omega)|exact Nat.le_of_ble_eq_true rfl|(simp; done)|(simp; omega)) (setL (f := nv) (l := s)) ?_
    refine Zg3 ⟨(fun hh => Bool.noConfusion hh), ?_⟩
    refine Zik ?_
    repeat (first|refine zA ?_|refine zB ?_|refine zC ?_|refine zD ?_|refine zE ?_|refine zF ?_|refine zG ?_|refine zH ?_|refine zI ?_|refine zJ ?_|refine zK ?_|refine zL ?_|refine zM rfl ?_|refine zN ?_|refine zO ?_|refine zP ?_|refine zQ ?_)
    refine Zgb ?_
    first|refine Zhg (Zat rfl) ?_|refine Zhg (Zar rfl) ?_
    first|refine Zhg (Zma (b := 1) rfl rfl) ?_|refine Zhg (Zbg rfl rfl) ?_
    first|refine Zhg (Zaz rfl) ?_|refine Zhg (Zas rfl) ?_
    refine Zg3 ?_
    repeat (first|refine zA ?_|refine zB ?_|refine zC ?_|refine zD ?_|refine zE ?_|refine zF ?_|refine zG ?_|refine zH ?_|refine zI ?_|refine zJ ?_|refine zK ?_|refine zL ?_|refine zM rfl ?_|refine zN ?_|refine zO ?_|refine zP ?_|refine zQ ?_)
    refine Zgl (i + 1, s.set i (s[i] + la[i])) (by first|omega|(dsimp only; omega)|(simp only []; omega)) ⟨by dsimp only; omega, by simp [hsl], bnd_set hsb hsi (by dsimp only; omega), by dsimp only; rw [valD_set, hsv, valD_take _ _ hA]⟩ (by exact Imp.arr (by repeat (first|exact Arr.nil|exact Arr.stop|refine Arr.cons (by repeat constructor) ?_|refine Arr.skip ?_))) ⟨rfl, trivial⟩
  have hie : i = la.length := by omega
  subst hie
  rw [List.take_length] at hsv
  repeat (first|refine zA ?_|refine zB ?_|refine zC ?_|refine zD ?_|refine zE ?_|refine zF ?_|refine zG ?_|refine zH ?_|refine zI ?_|refine zJ ?_|refine zK ?_|refine zL ?_|refine zM rfl ?_|refine zN ?_|refine zO ?_|refine zP ?_|refine zQ ?_)
  refine Zgb ?_
  first|refine Zhg (Zaz rfl) ?_|refine Zhg (Zas rfl) ?_
  refine Zg3 ?_
  repeat (first|refine zA ?_|refine zB ?_|refine zC ?_|refine zD ?_|refine zE ?_|refine zF ?_|refine zG ?_|refine zH ?_|refine zI ?_|refine zJ ?_|refine zK ?_|refine zL ?_|refine zM rfl ?_|refine zN ?_|refine zO ?_|refine zP ?_|refine zQ ?_)
  refine Zgo [(8, 8), (37, 54)] (by kernel_rfl) (fun s : Nat × List Nat => s.1 ≤ lb.length ∧ s.2.length = N ∧ (∀ x ∈ s.2, x ≤ 256 * (la.length + s.1)) ∧ valD s.2 = valD la + valD (lb.take s.1))
    (fun s => cl b18 ((s.2.map nv).toArray) 3 :: L) (fun s => [(8, .int .i64 (s.1 : Int))]) (fun s => lb.length - s.1) (0, s) ⟨by show 0 ≤ _; omega, hsl, hsb, by rw [hsv]; simp [valD]⟩ (by exact Imp.arr (by repeat (first|exact Arr.nil|exact Arr.stop|refine Arr.cons (by repeat constructor) ?_|refine Arr.skip ?_))) ⟨rfl, trivial⟩ ?_
  rintro ⟨i, s2⟩ u3 ⟨hi, hsl, hsb, hsv⟩
  dsimp only at hi hsl hsb hsv ⊢
  repeat (first|refine zA ?_|refine zB ?_|refine zC ?_|refine zD ?_|refine zE ?_|refine zF ?_|refine zG ?_|refine zH ?_|refine zI ?_|refine zJ ?_|refine zK ?_|refine zL ?_|refine zM rfl ?_|refine zN ?_|refine zO ?_|refine zP ?_|refine zQ ?_)
  refine Zgb ?_
  first|refine Zhg (Zat rfl) ?_|refine Zhg (Zar rfl) ?_
  first|refine Zhg (Zaw rfl) ?_|refine Zhg (Zar rfl) ?_
  first|refine Zhg (Zcr rfl) ?_|refine Zhg (Zct) ?_|refine Zhg (Zcu rfl) ?_
  first|refine Zhg (Zmf rfl rfl) ?_|refine Zhg (Zbn rfl rfl) ?_
  refine Zg3 ?_
  repeat (first|refine zA ?_|refine zB ?_|refine zC ?_|refine zD ?_|refine zE ?_|refine zF ?_|refine zG ?_|refine zH ?_|refine zI ?_|refine zJ ?_|refine zK ?_|refine zL ?_|refine zM rfl ?_|refine zN ?_|refine zO ?_|refine zP ?_|refine zQ ?_)
  refine Zgg rfl (fun hA => ?_) (fun hA => ?_)
  · refine Zgt (fun F w H => (hb.imp (by exact Imp.arr (by repeat (first|exact Arr.nil|exact Arr.stop|refine Arr.cons (by repeat constructor) ?_|refine Arr.skip ?_)))).someAt (by omega) H) ?_
    rintro ⟨a1, a2, rfl⟩
    have hsi : i < s2.length := by omega
    have hx : s2[i] ≤ 256 * (la.length + i) := hsb _ (List.getElem_mem hsi)
    have hy : lb[i] < 256 := db _ (List.getElem_mem hA)
    repeat (first|refine zA ?_|refine zB ?_|refine zC ?_|refine zD ?_|refine zE ?_|refine zF ?_|refine zG ?_|refine zH ?_|refine zI ?_|refine zJ ?_|refine zK ?_|refine zL ?_|refine zM rfl ?_|refine zN ?_|refine zO ?_|refine zP ?_|refine zQ ?_)
    refine Zij (_) [0, 1, 2, 3, 4, 5, 6, 7, 8, 9, 10] (.r 0 (.r 1 (.r 2 (.r 3 (.r 4 (.r 5 (.r 6 (.r 7 (.r 8 (.r 9 (.r 10 (.q 11 (.e 12 false .nil))))))))))))) (by kernel_rfl) (by kernel_rfl) (Imp.refl _) ?_
    first|refine Ziz rfl (Zaw rfl) ?_|refine Ziz rfl (Zar rfl) ?_
    first|refine Ziz rfl (Zat rfl) ?_|refine Ziz rfl (Zar rfl) ?_
    first|refine Ziz rfl (Zaw rfl) ?_|refine Ziz rfl (Zar rfl) ?_
    first|refine Ziz rfl (Zat rfl) ?_|refine Ziz rfl (Zar rfl) ?_
    first|refine Ziz rfl (Zl4 rfl rfl) ?_|refine Ziz rfl (Zl1 rfl rfl) ?_
    refine Ziv rfl rfl (by repeat constructor) (by rw [List.getElem?_toArray]; exact getM hsi) ?_
    first|refine Ziz rfl (Zaw rfl) ?_|refine Ziz rfl (Zar rfl) ?_
    first|refine Ziz rfl (Zat rfl) ?_|refine Ziz rfl (Zar rfl) ?_
    first|refine Ziz rfl (Zl4 rfl rfl) ?_|refine Ziz rfl (Zl1 rfl rfl) ?_
    refine Zi8 (j := i) rfl rfl (hb.imp (by exact Imp.arr (by repeat (first|exact Arr.nil|exact Arr.stop|refine Arr.cons (by repeat constructor) ?_|refine Arr.skip ?_)))) hA (getM hA) ?_
    first|refine Ziz rfl (Zma rfl rfl) ?_|refine Ziz rfl (Zbg rfl rfl) ?_
    first|refine Zim rfl (Zl4 rfl rfl) ?_|refine Zim rfl (Zl1 rfl rfl) ?_
    refine Ziq rfl ?_
    refine Zht rfl rfl (by repeat constructor) (by first|rfl|omega|(rw [szL]; omega)|exact Nat.le_of_ble_eq_true rfl|(simp; done)|(simp; omega)) (setL (f := nv) (l := s2)) ?_
    refine Zg3 ⟨(fun hh => Bool.noConfusion hh), ?_⟩
    refine Zik ?_
    repeat (first|refine zA ?_|refine zB ?_|refine zC ?_|refine zD ?_|refine zE ?_|refine zF ?_|refine zG ?_|refine zH ?_|refine zI ?_|refine zJ ?_|refine zK ?_|refine zL ?_|refine zM rfl ?_|refine zN ?_|refine zO ?_|refine zP ?_|refine zQ ?_)
    refine Zgb ?_
    first|refine Zhg (Zat rfl) ?_|refine Zhg (Zar rfl) ?_
    first|refine Zhg (Zma (b := 1) rfl rfl) ?_|refine Zhg (Zbg rfl rfl) ?_
    first|refine Zhg (Zaz rfl) ?_|refine Zhg (Zas rfl) ?_
    refine Zg3 ?_
    repeat (first|refine zA ?_|refine zB ?_|refine zC ?_|refine zD ?_|refine zE ?_|refine zF ?_|refine zG ?_|refine zH ?_|refine zI ?_|refine zJ ?_|refine zK ?_|refine zL ?_|refine zM rfl ?_|refine zN ?_|refine zO ?_|refine zP ?_|refine zQ ?_)
    refine Zgl (i + 1, s2.set i (s2[i] + lb[i])) (by first|omega|(dsimp only; omega)|(simp only []; omega)) ⟨by dsimp only; omega, by simp [hsl], bnd_set hsb hsi (by dsimp only; omega), by dsimp only; rw [valD_set, hsv, valD_take _ _ hA, Nat.add_assoc]⟩ (by exact Imp.arr (by repeat (first|exact Arr.nil|exact Arr.stop|refine Arr.cons (by repeat constructor) ?_|refine Arr.skip ?_))) ⟨rfl, trivial⟩
  have hie : i = lb.length := by omega
  subst hie
  rw [List.take_length] at hsv
  subst hsl
  have hbb : ∀ x ∈ s2, x ≤ 1099511627776 := fun x hx => by have := hsb x hx; omega
  have hrd : Rd (cl b18 (s2.map nv).toArray 3 :: L) 1 (.slice (some ⟨b18, 0, none⟩) s2.length s2.length) s2.length (s2.map nv) := Rd.cl (o := 0) .here (by simp) (by rw [szL]; omega) (by simp; exact List.take_of_length_le (by simp))
  repeat (first|refine zA ?_|refine zB ?_|refine zC ?_|refine zD ?_|refine zE ?_|refine zF ?_|refine zG ?_|refine zH ?_|refine zI ?_|refine zJ ?_|refine zK ?_|refine zL ?_|refine zM rfl ?_|refine zN ?_|refine zO ?_|refine zP ?_|refine zQ ?_)
  refine Zgb ?_
  first|refine Zhg (Zaw rfl) ?_|refine Zhg (Zar rfl) ?_
  refine Zh8 rfl (by kernel_rfl) (clean_x (n := n) (l := s2) hrd hbb h3 hn (by omega)) rfl (by repeat (first|exact Take.nil|exact Take.all|(apply Take.cons; (next => (repeat constructor); done))|apply Take.skip)) ?_
  rintro _ _ ⟨a2, c2, d, hd, hdv, hdn, _, rfl, rfl⟩
  refine Zg2 (by repeat (first|exact App.nil|apply App.cons|(apply App.flip; first|exact App.nil|apply App.cons)|exact App.any)) ?_
  first|refine Zhg (Za2 rfl) ?_|refine Zhg (Zas rfl) ?_
  refine Zg3 ?_
  repeat (first|refine zA ?_|refine zB ?_|refine zC ?_|refine zD ?_|refine zE ?_|refine zF ?_|refine zG ?_|refine zH ?_|refine zI ?_|refine zJ ?_|refine zK ?_|refine zL ?_|refine zM rfl ?_|refine zN ?_|refine zO ?_|refine zP ?_|refine zQ ?_)
  refine rx1 (Zhc rfl (Zg7)) ?_
  exact ⟨_, ⟨a2, c2, d, hd, by omega, hdn, rfl, rfl⟩, by exact Imp.arr (by repeat (first|exact Arr.nil|exact Arr.stop|refine Arr.cons (by repeat constructor) ?_|refine Arr.skip ?_))⟩
end Go.Sl

/- the document's answer for the code, in digits: mul. -/
set_option maxHeartbeats 4000000
set_option maxRecDepth 10000
set_option linter.unusedVariables false
set_option linter.unusedSimpArgs false
namespace Go.Sl
open Go Go.Proofs
attribute [local irreducible] cl pt own old pur ex all den denOps denS xOps xC cX CX xthen xblk xcut xloop retX resX Calls PV Rd Con
theorem mul_x {L : List Asrt} {aa ab : Option Addr} {ca cb n : Nat} {la lb : List Nat} (ha : Rd L 1 (.slice aa la.length ca) la.length (la.map nv)) (hb : Rd L 1 (.slice ab lb.length cb) lb.length (lb.map nv)) (da : Dig la) (db : Dig lb)
    (hla : la.length ≤ 1024) (hlb : lb.length ≤ 1024) (hln : la.length + lb.length ≤ n) (hn : n ≤ 4096) (hv : valD la * valD lb < 256 ^ n) :
    Con Try.prog 30 [.slice aa la.length ca, .slice ab lb.length cb] L (fun r M => ∃ a2 c2 d, Dig d ∧ valD d = valD la * valD lb ∧ d.length ≤ n ∧ r = .slice a2 d.length c2 ∧ M = own 3 1 r d.length (d.map nv) :: L) := by
  refine fn_x Try.func30 rfl rfl rfl Try.mixed (by kernel_rfl) ?_
  intro w0
  repeat (first|refine zA ?_|refine zB ?_|refine zC ?_|refine zD ?_|refine zE ?_|refine zF ?_|refine zG ?_|refine zH ?_|refine zI ?_|refine zJ ?_|refine zK ?_|refine zL ?_|refine zM rfl ?_|refine zN ?_|refine zO ?_|refine zP ?_|refine zQ ?_)
  refine Zgb ?_
  first|refine Zhg (Za2 rfl) ?_|refine Zhg (Zas rfl) ?_
  refine Zg3 ?_
  repeat (first|refine zA ?_|refine zB ?_|refine zC ?_|refine zD ?_|refine zE ?_|refine zF ?_|refine zG ?_|refine zH ?_|refine zI ?_|refine zJ ?_|refine zK ?_|refine zL ?_|refine zM rfl ?_|refine zN ?_|refine zO ?_|refine zP ?_|refine zQ ?_)
  refine Zgb ?_
  first|refine Zhg (Zaw rfl) ?_|refine Zhg (Zar rfl) ?_
  first|refine Zhg (Zcr rfl) ?_|refine Zhg (Zct) ?_|refine Zhg (Zcu rfl) ?_
  first|refine Zhg (Zaw rfl) ?_|refine Zhg (Zar rfl) ?_
  first|refine Zhg (Zcr rfl) ?_|refine Zhg (Zct) ?_|refine Zhg (Zcu rfl) ?_
  first|refine Zhg (Zma rfl rfl) ?_|refine Zhg (Zbg rfl rfl) ?_
  refine Zm3 (f := nv) (a := 0) rfl rfl rfl (by first|omega|exact Nat.le_of_ble_eq_true rfl|(simp; done)|(simp; omega)|decide) (by first|omega|exact Nat.le_of_ble_eq_true rfl|(simp; done)|(simp; omega)|decide) (by first|omega|exact Nat.le_of_ble_eq_true rfl|(simp; done)|(simp; omega)|decide) ?_; intro b13
  first|refine Zhg (Za2 rfl) ?_|refine Zhg (Zas rfl) ?_
  refine Zg3 ?_
  repeat (first|refine zA ?_|refine zB ?_|refine zC ?_|refine zD ?_|refine zE ?_|refine zF ?_|refine zG ?_|refine zH ?_|refine zI ?_|refine zJ ?_|refine zK ?_|refine zL ?_|refine zM rfl ?_|refine zN ?_|refine zO ?_|refine zP ?_|refine zQ ?_)
  refine Zgb ?_
  first|refine Zhg (Zaz rfl) ?_|refine Zhg (Zas rfl) ?_
  refine Zg3 ?_
  repeat (first|refine zA ?_|refine zB ?_|refine zC ?_|refine zD ?_|refine zE ?_|refine zF ?_|refine zG ?_|refine zH ?_|refine zI ?_|refine zJ ?_|refine zK ?_|refine zL ?_|refine zM rfl ?_|refine zN ?_|refine zO ?_|refine zP ?_|refine zQ ?_)
  refine Zgo [(6, 7), (14, 46)] (by kernel_rfl) (fun s : Nat × List Nat => s.1 ≤ la.length ∧ s.2.length = la.length + lb.length ∧ (∀ x ∈ s.2, x ≤ 65536 * (1024 * s.1)) ∧ valD s.2 = valD (la.take s.1) * valD lb)
    (fun s => cl b13 ((s.2.map nv).toArray) 3 :: L) (fun s => [(6, .int .i64 (s.1 : Int))]) (fun s => la.length - s.1) (0, List.replicate (la.length + lb.length) 0) ⟨by show 0 ≤ _; omega, by simp, by intro x hx; simp at hx; show x ≤ 65536 * (1024 * 0); omega, by simp [valD_zeros, valD]⟩ (by exact Imp.arr (by repeat (first|exact Arr.nil|exact Arr.stop|refine Arr.cons (by repeat constructor) ?_|refine Arr.skip ?_))) ⟨rfl, trivial⟩ ?_
  rintro ⟨i, s⟩ u2 ⟨hi, hsl, hsb, hsv⟩
  dsimp only at hi hsl hsb hsv ⊢
  repeat (first|refine zA ?_|refine zB ?_|refine zC ?_|refine zD ?_|refine zE ?_|refine zF ?_|refine zG ?_|refine zH ?_|refine zI ?_|refine zJ ?_|refine zK ?_|refine zL ?_|refine zM rfl ?_|refine zN ?_|refine zO ?_|refine zP ?_|refine zQ ?_)
  refine Zgb ?_
  first|refine Zhg (Zat rfl) ?_|refine Zhg (Zar rfl) ?_
  first|refine Zhg (Zaw rfl) ?_|refine Zhg (Zar rfl) ?_
  first|refine Zhg (Zcr rfl) ?_|refine Zhg (Zct) ?_|refine Zhg (Zcu rfl) ?_
  first|refine Zhg (Zmf rfl rfl) ?_|refine Zhg (Zbn rfl rfl) ?_
  refine Zg3 ?_
  repeat (first|refine zA ?_|refine zB ?_|refine zC ?_|refine zD ?_|refine zE ?_|refine zF ?_|refine zG ?_|refine zH ?_|refine zI ?_|refine zJ ?_|refine zK ?_|refine zL ?_|refine zM rfl ?_|refine zN ?_|refine zO ?_|refine zP ?_|refine zQ ?_)
  refine Zgg rfl (fun hA => ?_) (fun hA => ?_)
  · repeat (first|refine zA ?_|refine zB ?_|refine zC ?_|refine zD ?_|refine zE ?_|refine zF ?_|refine zG ?_|refine zH ?_|refine zI ?_|refine zJ ?_|refine zK ?_|refine zL ?_|refine zM rfl ?_|refine zN ?_|refine zO ?_|refine zP ?_|refine zQ ?_)
    refine Zgb ?_
    first|refine Zhg (Zaz rfl) ?_|refine Zhg (Zas rfl) ?_
    refine Zg3 ?_
    repeat (first|refine zA ?_|refine zB ?_|refine zC ?_|refine zD ?_|refine zE ?_|refine zF ?_|refine zG ?_|refine zH ?_|refine zI ?_|refine zJ ?_|refine zK ?_|refine zL ?_|refine zM rfl ?_|refine zN ?_|refine zO ?_|refine zP ?_|refine zQ ?_)
    refine Zgo [(7, 7), (20, 46)] (by kernel_rfl) (fun t : Nat × List Nat => t.1 ≤ lb.length ∧ t.2.length = la.length + lb.length ∧ (∀ x ∈ t.2, x ≤ 65536 * (1024 * i + t.1)) ∧ valD t.2 = valD (la.take i) * valD lb + 256 ^ i * (la[i] * valD (lb.take t.1)))
      (fun t => cl b13 ((t.2.map nv).toArray) 3 :: L) (fun t => [(7, .int .i64 (t.1 : Int))]) (fun t => lb.length - t.1) (0, s) ⟨by show 0 ≤ _; omega, hsl, hsb, by rw [hsv]; simp [valD]⟩ (by exact Imp.arr (by repeat (first|exact Arr.nil|exact Arr.stop|refine Arr.cons (by repeat constructor) ?_|refine Arr.skip ?_))) ⟨rfl, trivial⟩ ?_
    rintro ⟨k, t⟩ u3 ⟨hk, htl, htb, htv⟩
    dsimp only at hk htl htb htv ⊢
    repeat (first|refine zA ?_|refine zB ?_|refine zC ?_|refine zD ?_|refine zE ?_|refine zF ?_|refine zG ?_|refine zH ?_|refine zI ?_|refine zJ ?_|refine zK ?_|refine zL ?_|refine zM rfl ?_|refine zN ?_|refine zO ?_|refine zP ?_|refine zQ ?_)
    refine Zgb ?_
    first|refine Zhg (Zat rfl) ?_|refine Zhg (Zar rfl) ?_
    first|refine Zhg (Zaw rfl) ?_|refine Zhg (Zar rfl) ?_
    first|refine Zhg (Zcr rfl) ?_|refine Zhg (Zct) ?_|refine Zhg (Zcu rfl) ?_
    first|refine Zhg (Zmf rfl rfl) ?_|refine Zhg (Zbn rfl rfl) ?_
    refine Zg3 ?_
    repeat (first|refine zA ?_|refine zB ?_|refine zC ?_|refine zD ?_|refine zE ?_|refine zF ?_|refine zG ?_|refine zH ?_|refine zI ?_|refine zJ ?_|refine zK ?_|refine zL ?_|refine zM rfl ?_|refine zN ?_|refine zO ?_|refine zP ?_|refine zQ ?_)
    refine Zgg rfl (fun hB => ?_) (fun hB => ?_)
    · refine Zgt (fun F w H => (ha.imp (by exact Imp.arr (by repeat (first|exact Arr.nil|exact Arr.stop|refine Arr.cons (by repeat constructor) ?_|refine Arr.skip ?_)))).someAt (by omega) H) ?_
      rintro ⟨a1, a2, rfl⟩
      refine Zgt (fun F w H => (hb.imp (by exact Imp.arr (by repeat (first|exact Arr.nil|exact Arr.stop|refine Arr.cons (by repeat constructor) ?_|refine Arr.skip ?_)))).someAt (by omega) H) ?_
      rintro ⟨a3, a4, rfl⟩
      have hti : i + k < t.length := by omega
      have hx : t[i + k] ≤ 65536 * (1024 * i + k) := htb _ (List.getElem_mem hti)
      have hy : la[i] < 256 := da _ (List.getElem_mem hA)
      have hz : lb[k] < 256 := db _ (List.getElem_mem hB)
      have hp : la[i] * lb[k] ≤ 65536 := Nat.le_trans (Nat.mul_le_mul (Nat.le_of_lt hy) (Nat.le_of_lt hz)) (by omega)
      repeat (first|refine zA ?_|refine zB ?_|refine zC ?_|refine zD ?_|refine zE ?_|refine zF ?_|refine zG ?_|refine zH ?_|refine zI ?_|refine zJ ?_|refine zK ?_|refine zL ?_|refine zM rfl ?_|refine zN ?_|refine zO ?_|refine zP ?_|refine zQ ?_)
      refine Zij (_) [0, 1, 2, 3, 4, 5, 6, 7, 8, 9, 10, 11, 12, 13, 14, 15, 16, 17, 18, 19] (.r 0 (.r 1 (.r 2 (.r 3 (.r 4 (.r 5 (.r 6 (.r 7 (.r 8 (.r 9 (.r 10 (.r 11 (.r 12 (.r 13 (.r 14 (.r 15 (.r 16 (.r 17 (.r 18 (.r 19 (.q 20 (.e 21 false .nil)))))))))))))))))))))) (by kernel_rfl) (by kernel_rfl) (Imp.refl _) ?_
      first|refine Ziz rfl (Zaw rfl) ?_|refine Ziz rfl (Zar rfl) ?_
      first|refine Ziz rfl (Zat rfl) ?_|refine Ziz rfl (Zar rfl) ?_
      first|refine Ziz rfl (Zat rfl) ?_|refine Ziz rfl (Zar rfl) ?_
      first|refine Ziz rfl (Zma rfl rfl) ?_|refine Ziz rfl (Zbg rfl rfl) ?_
      first|refine Ziz rfl (Zaw rfl) ?_|refine Ziz rfl (Zar rfl) ?_
      first|refine Ziz rfl (Zat rfl) ?_|refine Ziz rfl (Zar rfl) ?_
      first|refine Ziz rfl (Zat rfl) ?_|refine Ziz rfl (Zar rfl) ?_
      first|refine Ziz rfl (Zma rfl rfl) ?_|refine Ziz rfl (Zbg rfl rfl) ?_
      first|refine Ziz rfl (Zl4 (n := i + k) rfl (int_eq (by push_cast; omega))) ?_|refine Ziz rfl (Zl1 (n := i + k) rfl (int_eq (by push_cast; omega))) ?_
      refine Ziv rfl rfl (by repeat constructor) (by rw [List.getElem?_toArray]; exact getM hti) ?_
      first|refine Ziz rfl (Zaw rfl) ?_|refine Ziz rfl (Zar rfl) ?_
      first|refine Ziz rfl (Zat rfl) ?_|refine Ziz rfl (Zar rfl) ?_
      first|refine Ziz rfl (Zl4 rfl rfl) ?_|refine Ziz rfl (Zl1 rfl rfl) ?_
      refine Zi8 (j := i) rfl rfl (ha.imp (by exact Imp.arr (by repeat (first|exact Arr.nil|exact Arr.stop|refine Arr.cons (by repeat constructor) ?_|refine Arr.skip ?_)))) hA (getM hA) ?_
      first|refine Ziz rfl (Zaw rfl) ?_|refine Ziz rfl (Zar rfl) ?_
      first|refine Ziz rfl (Zat rfl) ?_|refine Ziz rfl (Zar rfl) ?_
      first|refine Ziz rfl (Zl4 rfl rfl) ?_|refine Ziz rfl (Zl1 rfl rfl) ?_
      refine Zi8 (j := k) rfl rfl (hb.imp (by exact Imp.arr (by repeat (first|exact Arr.nil|exact Arr.stop|refine Arr.cons (by repeat constructor) ?_|refine Arr.skip ?_)))) hB (getM hB) ?_
      first|refine Ziz rfl (Zmc rfl rfl) ?_|refine Ziz rfl (Zbi rfl rfl) ?_
      first|refine Ziz rfl (Zma rfl rfl) ?_|refine Ziz rfl (Zbg rfl rfl) ?_
      first|refine Zim rfl (Zl4 (n := i + k) rfl (int_eq (by push_cast; omega))) ?_|refine Zim rfl (Zl1 (n := i + k) rfl (int_eq (by push_cast; omega))) ?_
      refine Ziq rfl ?_
      refine Zht rfl rfl (by repeat constructor) (by first|rfl|omega|(rw [szL]; omega)|exact Nat.le_of_ble_eq_true rfl|(simp; done)|(simp; omega)) (setL (f := nv) (l := t)) ?_
      refine Zg3 ⟨(fun hh => Bool.noConfusion hh), ?_⟩
      refine Zik ?_
      repeat (first|refine zA ?_|refine zB ?_|refine zC ?_|refine zD ?_|refine zE ?_|refine zF ?_|refine zG ?_|refine zH ?_|refine zI ?_|refine zJ ?_|refine zK ?_|refine zL ?_|refine zM rfl ?_|refine zN ?_|refine zO ?_|refine zP ?_|refine zQ ?_)
      refine Zgb ?_
      first|refine Zhg (Zat rfl) ?_|refine Zhg (Zar rfl) ?_
      first|refine Zhg (Zma (b := 1) rfl rfl) ?_|refine Zhg (Zbg rfl rfl) ?_
      first|refine Zhg (Zaz rfl) ?_|refine Zhg (Zas rfl) ?_
      refine Zg3 ?_
      repeat (first|refine zA ?_|refine zB ?_|refine zC ?_|refine zD ?_|refine zE ?_|refine zF ?_|refine zG ?_|refine zH ?_|refine zI ?_|refine zJ ?_|refine zK ?_|refine zL ?_|refine zM rfl ?_|refine zN ?_|refine zO ?_|refine zP ?_|refine zQ ?_)
      refine Zgl (k + 1, t.set (i + k) (t[i + k] + la[i] * lb[k])) (by first|omega|(dsimp only; omega)|(simp only []; omega)) ⟨by dsimp only; omega, by simp [htl], bnd_set htb hti (by dsimp only; omega), ?_⟩ (by exact Imp.arr (by repeat (first|exact Arr.nil|exact Arr.stop|refine Arr.cons (by repeat constructor) ?_|refine Arr.skip ?_))) ⟨rfl, trivial⟩
      dsimp only
      rw [valD_set, htv, valD_take _ _ hB, Nat.pow_add]
      simp only [Nat.mul_add, Nat.add_assoc]
      rw [show 256 ^ i * (la[i] * (256 ^ k * lb[k])) = 256 ^ i * 256 ^ k * (la[i] * lb[k]) by rw [Nat.mul_left_comm la[i], Nat.mul_assoc]]
    · have hke : k = lb.length := by omega
      subst hke
      rw [List.take_length] at htv
      repeat (first|refine zA ?_|refine zB ?_|refine zC ?_|refine zD ?_|refine zE ?_|refine zF ?_|refine zG ?_|refine zH ?_|refine zI ?_|refine zJ ?_|refine zK ?_|refine zL ?_|refine zM rfl ?_|refine zN ?_|refine zO ?_|refine zP ?_|refine zQ ?_)
      refine Zgb ?_
      first|refine Zhg (Zat rfl) ?_|refine Zhg (Zar rfl) ?_
      first|refine Zhg (Zma (b := 1) rfl rfl) ?_|refine Zhg (Zbg rfl rfl) ?_
      first|refine Zhg (Zaz rfl) ?_|refine Zhg (Zas rfl) ?_
      refine Zg3 ?_
      repeat (first|refine zA ?_|refine zB ?_|refine zC ?_|refine zD ?_|refine zE ?_|refine zF ?_|refine zG ?_|refine zH ?_|refine zI ?_|refine zJ ?_|refine zK ?_|refine zL ?_|refine zM rfl ?_|refine zN ?_|refine zO ?_|refine zP ?_|refine zQ ?_)
      refine Zgl (i + 1, t) (by first|omega|(dsimp only; omega)|(simp only []; omega)) ⟨by dsimp only; omega, htl, fun x hx => by have := htb x hx; dsimp only; omega, by dsimp only; rw [htv, valD_take _ _ hA, Nat.add_mul, Nat.mul_assoc]⟩ (by exact Imp.arr (by repeat (first|exact Arr.nil|exact Arr.stop|refine Arr.cons (by repeat constructor) ?_|refine Arr.skip ?_))) ⟨rfl, trivial⟩
  · have hie : i = la.length := by omega
    subst hie
    rw [List.take_length] at hsv
    have hbb : ∀ x ∈ s, x ≤ 1099511627776 := fun x hx => by have := hsb x hx; omega
    have hrd : Rd (cl b13 (s.map nv).toArray 3 :: L) 1 (.slice (some ⟨b13, 0, none⟩) s.length s.length) s.length (s.map nv) := Rd.cl (o := 0) .here (by simp) (by rw [szL]; omega) (by simp; exact List.take_of_length_le (by simp))
    rw [← hsl]
    repeat (first|refine zA ?_|refine zB ?_|refine zC ?_|refine zD ?_|refine zE ?_|refine zF ?_|refine zG ?_|refine zH ?_|refine zI ?_|refine zJ ?_|refine zK ?_|refine zL ?_|refine zM rfl ?_|refine zN ?_|refine zO ?_|refine zP ?_|refine zQ ?_)
    refine Zgb ?_
    first|refine Zhg (Zaw rfl) ?_|refine Zhg (Zar rfl) ?_
    refine Zh8 rfl (by kernel_rfl) (clean_x (n := n) (l := s) hrd hbb (by omega) hn (by rw [hsv]; exact hv)) rfl (by repeat (first|exact Take.nil|exact Take.all|(apply Take.cons; (next => (repeat constructor); done))|apply Take.skip)) ?_
    rintro _ _ ⟨a2, c2, d, hd, hdv, hdn, _, rfl, rfl⟩
    refine Zg2 (by repeat (first|exact App.nil|apply App.cons|(apply App.flip; first|exact App.nil|apply App.cons)|exact App.any)) ?_
    first|refine Zhg (Za2 rfl) ?_|refine Zhg (Zas rfl) ?_
    refine Zg3 ?_
    repeat (first|refine zA ?_|refine zB ?_|refine zC ?_|refine zD ?_|refine zE ?_|refine zF ?_|refine zG ?_|refine zH ?_|refine zI ?_|refine zJ ?_|refine zK ?_|refine zL ?_|refine zM rfl ?_|refine zN ?_|refine zO ?_|refine zP ?_|refine zQ ?_)
    refine rx1 (Zhc rfl (Zg7)) ?_
    exact ⟨_, ⟨a2, c2, d, hd, by rw [hdv, hsv], hdn, rfl, rfl⟩, by exact Imp.arr (by repeat (first|exact Arr.nil|exact Arr.stop|refine Arr.cons (by repeat constructor) ?_|refine Arr.skip ?_))⟩
end Go.Sl

/- the document's answer for the code, in digits: part, low. -/
set_option maxHeartbeats 4000000
set_option maxRecDepth 10000
set_option linter.unusedVariables false
set_option linter.unusedSimpArgs false
namespace Go.Sl
open Go Go.Proofs
attribute [local irreducible] cl pt own old pur ex all den denOps denS xOps xC cX CX xthen xblk xcut xloop retX resX Calls PV Rd Con
/-- The digits below 2^130. -/
def lowD (l : List Nat) (i : Nat) : List Nat := if i ≤ 16 then l.take i else l.take 16 ++ [(l[16]?.getD 0) % 4]
theorem low_x {L : List Asrt} {a : Option Addr} {c : Nat} {l : List Nat} (h : Rd L 1 (.slice a l.length c) l.length (l.map nv)) (hl : l.length ≤ 4096) :
    Con Try.prog 38 [.slice a l.length c, .bool false] L (fun r M => ∃ a2 c2 d, d = lowD l l.length ∧ r = .slice a2 d.length c2 ∧ M = own 3 1 r d.length (d.map nv) :: L) := by
  refine fn_x Try.func38 rfl rfl rfl Try.mixed (by kernel_rfl) ?_
  intro w0
  repeat (first|refine zA ?_|refine zB ?_|refine zC ?_|refine zD ?_|refine zE ?_|refine zF ?_|refine zG ?_|refine zH ?_|refine zI ?_|refine zJ ?_|refine zK ?_|refine zL ?_|refine zM rfl ?_|refine zN ?_|refine zO ?_|refine zP ?_|refine zQ ?_)
  refine Zgb ?_
  first|refine Zhg (Za2 rfl) ?_|refine Zhg (Zas rfl) ?_
  refine Zg3 ?_
  repeat (first|refine zA ?_|refine zB ?_|refine zC ?_|refine zD ?_|refine zE ?_|refine zF ?_|refine zG ?_|refine zH ?_|refine zI ?_|refine zJ ?_|refine zK ?_|refine zL ?_|refine zM rfl ?_|refine zN ?_|refine zO ?_|refine zP ?_|refine zQ ?_)
  refine Zgb ?_
  first|refine Zhg (Za2 rfl) ?_|refine Zhg (Zas rfl) ?_
  refine Zg3 ?_
  repeat (first|refine zA ?_|refine zB ?_|refine zC ?_|refine zD ?_|refine zE ?_|refine zF ?_|refine zG ?_|refine zH ?_|refine zI ?_|refine zJ ?_|refine zK ?_|refine zL ?_|refine zM rfl ?_|refine zN ?_|refine zO ?_|refine zP ?_|refine zQ ?_)
  refine Zgb ?_
  first|refine Zhg (Zaz rfl) ?_|refine Zhg (Zas rfl) ?_
  refine Zg3 ?_
  repeat (first|refine zA ?_|refine zB ?_|refine zC ?_|refine zD ?_|refine zE ?_|refine zF ?_|refine zG ?_|refine zH ?_|refine zI ?_|refine zJ ?_|refine zK ?_|refine zL ?_|refine zM rfl ?_|refine zN ?_|refine zO ?_|refine zP ?_|refine zQ ?_)
  refine Zgo [(5, 85)] (by kernel_rfl) (fun s : Nat × Option Addr × Nat × List Nat => s.1 ≤ l.length ∧ s.2.2.2 = lowD l s.1)
    (fun s => own 3 1 (.slice s.2.1 s.2.2.2.length s.2.2.1) s.2.2.2.length (s.2.2.2.map nv) :: L)
    (fun s => [(6, .int .i64 (s.1 : Int)), (5, .slice s.2.1 s.2.2.2.length s.2.2.1)]) (fun s => l.length - s.1) (0, none, 0, []) ⟨Nat.zero_le _, by simp [lowD]⟩ Imp.own_nil ⟨rfl, rfl, trivial⟩ ?_
  rintro ⟨i, da, dc, d⟩ u ⟨hi, hd⟩
  dsimp only at hi hd ⊢
  have hdl : d.length ≤ 17 := by rw [hd]; unfold lowD; split <;> simp <;> omega
  repeat (first|refine zA ?_|refine zB ?_|refine zC ?_|refine zD ?_|refine zE ?_|refine zF ?_|refine zG ?_|refine zH ?_|refine zI ?_|refine zJ ?_|refine zK ?_|refine zL ?_|refine zM rfl ?_|refine zN ?_|refine zO ?_|refine zP ?_|refine zQ ?_)
  refine Zgb ?_
  first|refine Zhg (Zat rfl) ?_|refine Zhg (Zar rfl) ?_
  first|refine Zhg (Zaw rfl) ?_|refine Zhg (Zar rfl) ?_
  first|refine Zhg (Zcr rfl) ?_|refine Zhg (Zct) ?_|refine Zhg (Zcu rfl) ?_
  first|refine Zhg (Zmf rfl rfl) ?_|refine Zhg (Zbn rfl rfl) ?_
  refine Zg3 ?_
  repeat (first|refine zA ?_|refine zB ?_|refine zC ?_|refine zD ?_|refine zE ?_|refine zF ?_|refine zG ?_|refine zH ?_|refine zI ?_|refine zJ ?_|refine zK ?_|refine zL ?_|refine zM rfl ?_|refine zN ?_|refine zO ?_|refine zP ?_|refine zQ ?_)
  refine Zgg rfl (fun hA => ?_) (fun hA => ?_)
  · refine Zgt (fun F w H => (h.imp (by exact Imp.arr (by repeat (first|exact Arr.nil|exact Arr.stop|refine Arr.cons (by repeat constructor) ?_|refine Arr.skip ?_)))).someAt (by omega) H) ?_
    rintro ⟨a1, a2, rfl⟩
    repeat (first|refine zA ?_|refine zB ?_|refine zC ?_|refine zD ?_|refine zE ?_|refine zF ?_|refine zG ?_|refine zH ?_|refine zI ?_|refine zJ ?_|refine zK ?_|refine zL ?_|refine zM rfl ?_|refine zN ?_|refine zO ?_|refine zP ?_|refine zQ ?_)
    refine Zgb ?_
    first|refine Zhg (Zau rfl) ?_|refine Zhg (Zar rfl) ?_
    first|refine Zhg (Zb1 rfl) ?_|refine Zhg (Zb0 rfl) ?_
    first|refine Zhg (Zau rfl) ?_|refine Zhg (Zar rfl) ?_
    first|refine Zhi rfl ?_|refine Zhj rfl ?_|(refine Zhh rfl ?_; (first|refine Zhg (Zat rfl) ?_|refine Zhg (Zar rfl) ?_))
    first|refine Zhi rfl ?_|refine Zhj rfl ?_|(refine Zhh rfl ?_; (first|refine Zhg (Zmf (b := 16) rfl rfl) ?_|refine Zhg (Zbn rfl rfl) ?_))
    first|refine Zhg (Zdz rfl rfl) ?_|refine Zhg (Zd0 rfl rfl) ?_|refine Zhg (Za8 rfl rfl) ?_|refine Zhg (Za9 rfl rfl) ?_|refine Zhg (Za6 rfl rfl) ?_|refine Zhg (Za7 rfl rfl) ?_
    first|refine Zhg (Za0 rfl) ?_|refine Zhg (Zas rfl) ?_
    refine Zg3 ?_
    repeat (first|refine zA ?_|refine zB ?_|refine zC ?_|refine zD ?_|refine zE ?_|refine zF ?_|refine zG ?_|refine zH ?_|refine zI ?_|refine zJ ?_|refine zK ?_|refine zL ?_|refine zM rfl ?_|refine zN ?_|refine zO ?_|refine zP ?_|refine zQ ?_)
    refine Zgg rfl (fun hB => ?_) (fun hB => ?_)
    · repeat (first|refine zA ?_|refine zB ?_|refine zC ?_|refine zD ?_|refine zE ?_|refine zF ?_|refine zG ?_|refine zH ?_|refine zI ?_|refine zJ ?_|refine zK ?_|refine zL ?_|refine zM rfl ?_|refine zN ?_|refine zO ?_|refine zP ?_|refine zQ ?_)
      refine Zgb ?_
      first|refine Zhg (Zaw rfl) ?_|refine Zhg (Zar rfl) ?_
      first|refine Zhg (Zaw rfl) ?_|refine Zhg (Zar rfl) ?_
      first|refine Zhg (Zat rfl) ?_|refine Zhg (Zar rfl) ?_
      first|refine Zhg (Zl4 rfl rfl) ?_|refine Zhg (Zl1 rfl rfl) ?_
      refine Zic (j := i) rfl (h.imp (by exact Imp.arr (by repeat (first|exact Arr.nil|exact Arr.stop|refine Arr.cons (by repeat constructor) ?_|refine Arr.skip ?_)))) hA (getM hA) ?_
      refine Zh7 (cs := #[.int .i64 _]) (by omega) (by omega) rfl ?_; intro b25
      refine Zia rfl rfl (by repeat constructor) (Rd.cl (xs := [nv l[i]]) (by repeat constructor) rfl (by first|rfl|omega|(rw [szL]; omega)|exact Nat.le_of_ble_eq_true rfl|(simp; done)|(simp; omega)) rfl) (by first|rfl|exact oneM_u8 _|exact oneL_u8 _|(simp [oneC]; done)) (by omega) (by first|omega|exact Nat.le_of_ble_eq_true rfl|(simp; done)|(simp; omega)|decide) ?_; intro a3 c3
      first|refine Zhg (Za2 rfl) ?_|refine Zhg (Zas rfl) ?_
      refine Zg3 ?_
      repeat (first|refine zA ?_|refine zB ?_|refine zC ?_|refine zD ?_|refine zE ?_|refine zF ?_|refine zG ?_|refine zH ?_|refine zI ?_|refine zJ ?_|refine zK ?_|refine zL ?_|refine zM rfl ?_|refine zN ?_|refine zO ?_|refine zP ?_|refine zQ ?_)
      refine Zgb ?_
      first|refine Zhg (Zat rfl) ?_|refine Zhg (Zar rfl) ?_
      first|refine Zhg (Zma (b := 1) rfl rfl) ?_|refine Zhg (Zbg rfl rfl) ?_
      first|refine Zhg (Zaz rfl) ?_|refine Zhg (Zas rfl) ?_
      refine Zg3 ?_
      repeat (first|refine zA ?_|refine zB ?_|refine zC ?_|refine zD ?_|refine zE ?_|refine zF ?_|refine zG ?_|refine zH ?_|refine zI ?_|refine zJ ?_|refine zK ?_|refine zL ?_|refine zM rfl ?_|refine zN ?_|refine zO ?_|refine zP ?_|refine zQ ?_)
      refine Zgl (i + 1, a3, c3, d ++ [l[i]]) (by first|omega|(dsimp only; omega)|(simp only []; omega)) ⟨by dsimp only; omega, ?_⟩ ?_ ?_
      · dsimp only; rw [hd, lowD, lowD, if_pos (by omega), if_pos (by omega), List.take_succ_eq_append_getElem hA]
      · dsimp only; rw [List.length_append, List.map_append]; exact Imp.arr (by repeat (first|exact Arr.nil|exact Arr.stop|refine Arr.cons (by repeat constructor) ?_|refine Arr.skip ?_))
      · dsimp only; rw [List.length_append]; exact ⟨rfl, rfl, trivial⟩
    · repeat (first|refine zA ?_|refine zB ?_|refine zC ?_|refine zD ?_|refine zE ?_|refine zF ?_|refine zG ?_|refine zH ?_|refine zI ?_|refine zJ ?_|refine zK ?_|refine zL ?_|refine zM rfl ?_|refine zN ?_|refine zO ?_|refine zP ?_|refine zQ ?_)
      refine Zgb ?_
      first|refine Zhg (Zau rfl) ?_|refine Zhg (Zar rfl) ?_
      first|refine Zhg (Zb1 rfl) ?_|refine Zhg (Zb0 rfl) ?_
      first|refine Zhg (Zau rfl) ?_|refine Zhg (Zar rfl) ?_
      first|refine Zhi rfl ?_|refine Zhj rfl ?_|(refine Zhh rfl ?_; (first|refine Zhg (Zat rfl) ?_|refine Zhg (Zar rfl) ?_))
      first|refine Zhi rfl ?_|refine Zhj rfl ?_|(refine Zhh rfl ?_; (first|refine Zhg (Zmj (b := 16) rfl rfl) ?_|refine Zhg (Zbr rfl rfl) ?_))
      first|refine Zhg (Zdz rfl rfl) ?_|refine Zhg (Zd0 rfl rfl) ?_|refine Zhg (Za8 rfl rfl) ?_|refine Zhg (Za9 rfl rfl) ?_|refine Zhg (Za6 rfl rfl) ?_|refine Zhg (Za7 rfl rfl) ?_
      first|refine Zhg (Za0 rfl) ?_|refine Zhg (Zas rfl) ?_
      refine Zg3 ?_
      repeat (first|refine zA ?_|refine zB ?_|refine zC ?_|refine zD ?_|refine zE ?_|refine zF ?_|refine zG ?_|refine zH ?_|refine zI ?_|refine zJ ?_|refine zK ?_|refine zL ?_|refine zM rfl ?_|refine zN ?_|refine zO ?_|refine zP ?_|refine zQ ?_)
      refine Zgg rfl (fun hC => ?_) (fun hC => ?_)
      · have hi16 : i = 16 := by omega
        subst hi16
        repeat (first|refine zA ?_|refine zB ?_|refine zC ?_|refine zD ?_|refine zE ?_|refine zF ?_|refine zG ?_|refine zH ?_|refine zI ?_|refine zJ ?_|refine zK ?_|refine zL ?_|refine zM rfl ?_|refine zN ?_|refine zO ?_|refine zP ?_|refine zQ ?_)
        refine Zgb ?_
        first|refine Zhg (Zaw rfl) ?_|refine Zhg (Zar rfl) ?_
        first|refine Zhg (Zaw rfl) ?_|refine Zhg (Zar rfl) ?_
        first|refine Zhg (Zat rfl) ?_|refine Zhg (Zar rfl) ?_
        first|refine Zhg (Zl4 rfl rfl) ?_|refine Zhg (Zl1 rfl rfl) ?_
        refine Zic (j := 16) rfl (h.imp (by exact Imp.arr (by repeat (first|exact Arr.nil|exact Arr.stop|refine Arr.cons (by repeat constructor) ?_|refine Arr.skip ?_)))) hA (getM hA) ?_
        first|refine Zhg (Zme (b := 4) rfl rfl) ?_|refine Zhg (Zbl rfl rfl) ?_
        refine Zh7 (cs := #[.int .i64 _]) (by omega) (by omega) rfl ?_; intro b40
        refine Zia rfl rfl (by repeat constructor) (Rd.cl (xs := [nv (l[16] % 4)]) (by repeat constructor) rfl (by first|rfl|omega|(rw [szL]; omega)|exact Nat.le_of_ble_eq_true rfl|(simp; done)|(simp; omega)) rfl) (by first|rfl|exact oneM_u8 _|exact oneL_u8 _|(simp [oneC]; done)) (by omega) (by first|omega|exact Nat.le_of_ble_eq_true rfl|(simp; done)|(simp; omega)|decide) ?_; intro a3 c3
        first|refine Zhg (Za2 rfl) ?_|refine Zhg (Zas rfl) ?_
        refine Zg3 ?_
        repeat (first|refine zA ?_|refine zB ?_|refine zC ?_|refine zD ?_|refine zE ?_|refine zF ?_|refine zG ?_|refine zH ?_|refine zI ?_|refine zJ ?_|refine zK ?_|refine zL ?_|refine zM rfl ?_|refine zN ?_|refine zO ?_|refine zP ?_|refine zQ ?_)
        refine Zgb ?_
        first|refine Zhg (Zat rfl) ?_|refine Zhg (Zar rfl) ?_
        first|refine Zhg (Zma (b := 1) rfl rfl) ?_|refine Zhg (Zbg rfl rfl) ?_
        first|refine Zhg (Zaz rfl) ?_|refine Zhg (Zas rfl) ?_
        refine Zg3 ?_
        repeat (first|refine zA ?_|refine zB ?_|refine zC ?_|refine zD ?_|refine zE ?_|refine zF ?_|refine zG ?_|refine zH ?_|refine zI ?_|refine zJ ?_|refine zK ?_|refine zL ?_|refine zM rfl ?_|refine zN ?_|refine zO ?_|refine zP ?_|refine zQ ?_)
        refine Zgl (16 + 1, a3, c3, d ++ [l[16] % 4]) (by first|omega|(dsimp only; omega)|(simp only []; omega)) ⟨by dsimp only; omega, ?_⟩ ?_ ?_
        · dsimp only; rw [hd, lowD, lowD, if_pos (by omega), if_neg (by omega), List.getElem?_eq_getElem hA]; rfl
        · dsimp only; rw [List.length_append, List.map_append]; exact Imp.arr (by repeat (first|exact Arr.nil|exact Arr.stop|refine Arr.cons (by repeat constructor) ?_|refine Arr.skip ?_))
        · dsimp only; rw [List.length_append]; exact ⟨rfl, rfl, trivial⟩
      · repeat (first|refine zA ?_|refine zB ?_|refine zC ?_|refine zD ?_|refine zE ?_|refine zF ?_|refine zG ?_|refine zH ?_|refine zI ?_|refine zJ ?_|refine zK ?_|refine zL ?_|refine zM rfl ?_|refine zN ?_|refine zO ?_|refine zP ?_|refine zQ ?_)
        refine Zgb ?_
        first|refine Zhg (Zau rfl) ?_|refine Zhg (Zar rfl) ?_
        first|refine Zhg (Zau rfl) ?_|refine Zhg (Zar rfl) ?_
        first|refine Zhi rfl ?_|refine Zhj rfl ?_|(refine Zhh rfl ?_; (first|refine Zhg (Zat rfl) ?_|refine Zhg (Zar rfl) ?_))
        first|refine Zhi rfl ?_|refine Zhj rfl ?_|(refine Zhh rfl ?_; (first|refine Zhg (Zmj (b := 16) rfl rfl) ?_|refine Zhg (Zbr rfl rfl) ?_))
        first|refine Zhg (Zdz rfl rfl) ?_|refine Zhg (Zd0 rfl rfl) ?_|refine Zhg (Za8 rfl rfl) ?_|refine Zhg (Za9 rfl rfl) ?_|refine Zhg (Za6 rfl rfl) ?_|refine Zhg (Za7 rfl rfl) ?_
        first|refine Zhg (Za0 rfl) ?_|refine Zhg (Zas rfl) ?_
        refine Zg3 ?_
        repeat (first|refine zA ?_|refine zB ?_|refine zC ?_|refine zD ?_|refine zE ?_|refine zF ?_|refine zG ?_|refine zH ?_|refine zI ?_|refine zJ ?_|refine zK ?_|refine zL ?_|refine zM rfl ?_|refine zN ?_|refine zO ?_|refine zP ?_|refine zQ ?_)
        refine Zgf rfl ?_
        repeat (first|refine zA ?_|refine zB ?_|refine zC ?_|refine zD ?_|refine zE ?_|refine zF ?_|refine zG ?_|refine zH ?_|refine zI ?_|refine zJ ?_|refine zK ?_|refine zL ?_|refine zM rfl ?_|refine zN ?_|refine zO ?_|refine zP ?_|refine zQ ?_)
        refine Zgb ?_
        first|refine Zhg (Zau rfl) ?_|refine Zhg (Zar rfl) ?_
        first|refine Zhg (Zau rfl) ?_|refine Zhg (Zar rfl) ?_
        first|refine Zhi rfl ?_|refine Zhj rfl ?_|(refine Zhh rfl ?_; (first|refine Zhg (Zat rfl) ?_|refine Zhg (Zar rfl) ?_))
        first|refine Zhi rfl ?_|refine Zhj rfl ?_|(refine Zhh rfl ?_; (first|refine Zhg (Zmh (b := 16) rfl rfl) ?_|refine Zhg (Zbp rfl rfl) ?_))
        first|refine Zhg (Zdz rfl rfl) ?_|refine Zhg (Zd0 rfl rfl) ?_|refine Zhg (Za8 rfl rfl) ?_|refine Zhg (Za9 rfl rfl) ?_|refine Zhg (Za6 rfl rfl) ?_|refine Zhg (Za7 rfl rfl) ?_
        first|refine Zhg (Za0 rfl) ?_|refine Zhg (Zas rfl) ?_
        refine Zg3 ?_
        repeat (first|refine zA ?_|refine zB ?_|refine zC ?_|refine zD ?_|refine zE ?_|refine zF ?_|refine zG ?_|refine zH ?_|refine zI ?_|refine zJ ?_|refine zK ?_|refine zL ?_|refine zM rfl ?_|refine zN ?_|refine zO ?_|refine zP ?_|refine zQ ?_)
        refine Zgf rfl ?_
        repeat (first|refine zA ?_|refine zB ?_|refine zC ?_|refine zD ?_|refine zE ?_|refine zF ?_|refine zG ?_|refine zH ?_|refine zI ?_|refine zJ ?_|refine zK ?_|refine zL ?_|refine zM rfl ?_|refine zN ?_|refine zO ?_|refine zP ?_|refine zQ ?_)
        refine Zgb ?_
        first|refine Zhg (Zat rfl) ?_|refine Zhg (Zar rfl) ?_
        first|refine Zhg (Zma (b := 1) rfl rfl) ?_|refine Zhg (Zbg rfl rfl) ?_
        first|refine Zhg (Zaz rfl) ?_|refine Zhg (Zas rfl) ?_
        refine Zg3 ?_
        repeat (first|refine zA ?_|refine zB ?_|refine zC ?_|refine zD ?_|refine zE ?_|refine zF ?_|refine zG ?_|refine zH ?_|refine zI ?_|refine zJ ?_|refine zK ?_|refine zL ?_|refine zM rfl ?_|refine zN ?_|refine zO ?_|refine zP ?_|refine zQ ?_)
        exact Zgl (i + 1, da, dc, d) (by first|omega|(dsimp only; omega)|(simp only []; omega)) ⟨by dsimp only; omega, by dsimp only; rw [hd, lowD, lowD, if_neg (by omega), if_neg (by omega)]⟩ (by exact Imp.arr (by repeat (first|exact Arr.nil|exact Arr.stop|refine Arr.cons (by repeat constructor) ?_|refine Arr.skip ?_))) ⟨rfl, rfl, trivial⟩
  · have hie : i = l.length := by omega
    subst hie
    repeat (first|refine zA ?_|refine zB ?_|refine zC ?_|refine zD ?_|refine zE ?_|refine zF ?_|refine zG ?_|refine zH ?_|refine zI ?_|refine zJ ?_|refine zK ?_|refine zL ?_|refine zM rfl ?_|refine zN ?_|refine zO ?_|refine zP ?_|refine zQ ?_)
    refine Zgb ?_
    first|refine Zhg (Zaw rfl) ?_|refine Zhg (Zar rfl) ?_
    first|refine Zhg (Za2 rfl) ?_|refine Zhg (Zas rfl) ?_
    refine Zg3 ?_
    repeat (first|refine zA ?_|refine zB ?_|refine zC ?_|refine zD ?_|refine zE ?_|refine zF ?_|refine zG ?_|refine zH ?_|refine zI ?_|refine zJ ?_|refine zK ?_|refine zL ?_|refine zM rfl ?_|refine zN ?_|refine zO ?_|refine zP ?_|refine zQ ?_)
    refine rx1 (Zhc rfl (Zg7)) ?_
    exact ⟨_, ⟨da, dc, d, hd, rfl, rfl⟩, by exact Imp.arr (by repeat (first|exact Arr.nil|exact Arr.stop|refine Arr.cons (by repeat constructor) ?_|refine Arr.skip ?_))⟩
theorem lowD_val (l : List Nat) (h : Dig l) : valD (lowD l l.length) = valD l % 1361129467683753853853498429727072845824 ∧ Dig (lowD l l.length) ∧ (lowD l l.length).length ≤ 17 := by
  unfold lowD
  have p16 : (256 : Nat) ^ 16 = 340282366920938463463374607431768211456 := by decide
  have hall : ∀ k, Dig (l.take k) := fun k x hx => h x (List.mem_of_mem_take hx)
  split
  · rename_i h16
    rw [List.take_length]
    have hlt := valD_lt l h
    have hle : 256 ^ l.length ≤ 256 ^ 16 := Nat.pow_le_pow_right (by omega) h16
    exact ⟨by omega, h, by omega⟩
  · rename_i h16
    have h16 : 16 < l.length := by omega
    have e := valD_app (l.take 16) (l.drop 16)
    have hlt := valD_lt (l.take 16) (hall 16)
    have hlen : (l.take 16).length = 16 := by simp; omega
    rw [List.take_append_drop, hlen, p16, List.drop_eq_getElem_cons h16] at e
    rw [hlen, p16] at hlt
    simp only [valD] at e
    refine ⟨?_, ?_, by simp; omega⟩
    · rw [valD_app, hlen, p16, List.getElem?_eq_getElem h16]
      simp only [valD, Option.getD_some]
      omega
    · intro x hx
      rcases List.mem_append.mp hx with h1|h1
      · exact hall 16 x h1
      · simp only [List.mem_singleton] at h1; omega
end Go.Sl

/- the document's answer for the code, in digits: part, high. -/
set_option maxHeartbeats 4000000
set_option maxRecDepth 10000
set_option linter.unusedVariables false
set_option linter.unusedSimpArgs false
namespace Go.Sl
open Go Go.Proofs
attribute [local irreducible] cl pt own old pur ex all den denOps denS xOps xC cX CX xthen xblk xcut xloop retX resX Calls PV Rd Con
theorem high_step (l : List Nat) (i : Nat) (hi : 17 ≤ i) (hA : i < l.length) : valD (l.take (i + 1)) / 1361129467683753853853498429727072845824 = valD (l.take i) / 1361129467683753853853498429727072845824 + 256 ^ (i - 17) * (64 * l[i]) := by
  have p17 : (256 : Nat) ^ 17 = 1361129467683753853853498429727072845824 * 64 := by decide
  have e : 256 ^ i * l[i] = 1361129467683753853853498429727072845824 * (256 ^ (i - 17) * (64 * l[i])) := by
    have : 256 ^ i = 256 ^ 17 * 256 ^ (i - 17) := by rw [← Nat.pow_add]; congr 1; omega
    rw [this, p17]
    simp only [Nat.mul_assoc, Nat.mul_left_comm (64 : Nat)]
  rw [valD_take _ _ hA, e, Nat.add_mul_div_left _ _ (by omega)]
theorem high_16 (l : List Nat) (hA : 16 < l.length) (h : Dig l) : valD (l.take 17) / 1361129467683753853853498429727072845824 = l[16] / 4 := by
  have p16 : (256 : Nat) ^ 16 = 340282366920938463463374607431768211456 := by decide
  have hlt := valD_lt (l.take 16) (fun x hx => h x (List.mem_of_mem_take hx))
  have hlen : (l.take 16).length = 16 := by simp; omega
  rw [hlen, p16] at hlt
  rw [valD_take _ _ hA, p16]
  omega
theorem high_lo (l : List Nat) (i : Nat) (hi : i ≤ 16) (h : Dig l) : valD (l.take i) / 1361129467683753853853498429727072845824 = 0 := by
  have p16 : (256 : Nat) ^ 16 = 340282366920938463463374607431768211456 := by decide
  have hlt := valD_lt (l.take i) (fun x hx => h x (List.mem_of_mem_take hx))
  have hle : 256 ^ (l.take i).length ≤ 256 ^ 16 := Nat.pow_le_pow_right (by omega) (by simp; omega)
  rw [p16] at hle
  omega
theorem high_x {L : List Asrt} {a : Option Addr} {c : Nat} {l : List Nat} (h : Rd L 1 (.slice a l.length c) l.length (l.map nv)) (hl : l.length ≤ 4096) (hd0 : Dig l) :
    Con Try.prog 38 [.slice a l.length c, .bool true] L (fun r M => ∃ a2 c2 d, Dig d ∧ valD d = valD l / 1361129467683753853853498429727072845824 ∧ d.length = l.length - 16 ∧ r = .slice a2 d.length c2 ∧ M = own 3 1 r d.length (d.map nv) :: L) := by
  refine fn_x Try.func38 rfl rfl rfl Try.mixed (by kernel_rfl) ?_
  intro w0
  repeat (first|refine zA ?_|refine zB ?_|refine zC ?_|refine zD ?_|refine zE ?_|refine zF ?_|refine zG ?_|refine zH ?_|refine zI ?_|refine zJ ?_|refine zK ?_|refine zL ?_|refine zM rfl ?_|refine zN ?_|refine zO ?_|refine zP ?_|refine zQ ?_)
  refine Zgb ?_
  first|refine Zhg (Za2 rfl) ?_|refine Zhg (Zas rfl) ?_
  refine Zg3 ?_
  repeat (first|refine zA ?_|refine zB ?_|refine zC ?_|refine zD ?_|refine zE ?_|refine zF ?_|refine zG ?_|refine zH ?_|refine zI ?_|refine zJ ?_|refine zK ?_|refine zL ?_|refine zM rfl ?_|refine zN ?_|refine zO ?_|refine zP ?_|refine zQ ?_)
  refine Zgb ?_
  first|refine Zhg (Za2 rfl) ?_|refine Zhg (Zas rfl) ?_
  refine Zg3 ?_
  repeat (first|refine zA ?_|refine zB ?_|refine zC ?_|refine zD ?_|refine zE ?_|refine zF ?_|refine zG ?_|refine zH ?_|refine zI ?_|refine zJ ?_|refine zK ?_|refine zL ?_|refine zM rfl ?_|refine zN ?_|refine zO ?_|refine zP ?_|refine zQ ?_)
  refine Zgb ?_
  first|refine Zhg (Zaz rfl) ?_|refine Zhg (Zas rfl) ?_
  refine Zg3 ?_
  repeat (first|refine zA ?_|refine zB ?_|refine zC ?_|refine zD ?_|refine zE ?_|refine zF ?_|refine zG ?_|refine zH ?_|refine zI ?_|refine zJ ?_|refine zK ?_|refine zL ?_|refine zM rfl ?_|refine zN ?_|refine zO ?_|refine zP ?_|refine zQ ?_)
  refine Zgo [(5, 85)] (by kernel_rfl) (fun s : Nat × Option Addr × Nat × List Nat => s.1 ≤ l.length ∧ Dig s.2.2.2 ∧ s.2.2.2.length = s.1 - 16 ∧ valD s.2.2.2 = valD (l.take s.1) / 1361129467683753853853498429727072845824 ∧ (∀ x, s.2.2.2.getLast? = some x → x ≤ 63))
    (fun s => own 3 1 (.slice s.2.1 s.2.2.2.length s.2.2.1) s.2.2.2.length (s.2.2.2.map nv) :: L)
    (fun s => [(6, .int .i64 (s.1 : Int)), (5, .slice s.2.1 s.2.2.2.length s.2.2.1)]) (fun s => l.length - s.1) (0, none, 0, []) ⟨Nat.zero_le _, by intro x hx; simp at hx, rfl, by simp [valD], by simp⟩ Imp.own_nil ⟨rfl, rfl, trivial⟩ ?_
  rintro ⟨i, da, dc, d⟩ u ⟨hi, hd, hdl, hdv, hlast⟩
  dsimp only at hi hd hdl hdv hlast ⊢
  repeat (first|refine zA ?_|refine zB ?_|refine zC ?_|refine zD ?_|refine zE ?_|refine zF ?_|refine zG ?_|refine zH ?_|refine zI ?_|refine zJ ?_|refine zK ?_|refine zL ?_|refine zM rfl ?_|refine zN ?_|refine zO ?_|refine zP ?_|refine zQ ?_)
  refine Zgb ?_
  first|refine Zhg (Zat rfl) ?_|refine Zhg (Zar rfl) ?_
  first|refine Zhg (Zaw rfl) ?_|refine Zhg (Zar rfl) ?_
  first|refine Zhg (Zcr rfl) ?_|refine Zhg (Zct) ?_|refine Zhg (Zcu rfl) ?_
  first|refine Zhg (Zmf rfl rfl) ?_|refine Zhg (Zbn rfl rfl) ?_
  refine Zg3 ?_
  repeat (first|refine zA ?_|refine zB ?_|refine zC ?_|refine zD ?_|refine zE ?_|refine zF ?_|refine zG ?_|refine zH ?_|refine zI ?_|refine zJ ?_|refine zK ?_|refine zL ?_|refine zM rfl ?_|refine zN ?_|refine zO ?_|refine zP ?_|refine zQ ?_)
  refine Zgg rfl (fun hA => ?_) (fun hA => ?_)
  · refine Zgt (fun F w H => (h.imp (by exact Imp.arr (by repeat (first|exact Arr.nil|exact Arr.stop|refine Arr.cons (by repeat constructor) ?_|refine Arr.skip ?_)))).someAt (by omega) H) ?_
    rintro ⟨a1, a2, rfl⟩
    repeat (first|refine zA ?_|refine zB ?_|refine zC ?_|refine zD ?_|refine zE ?_|refine zF ?_|refine zG ?_|refine zH ?_|refine zI ?_|refine zJ ?_|refine zK ?_|refine zL ?_|refine zM rfl ?_|refine zN ?_|refine zO ?_|refine zP ?_|refine zQ ?_)
    refine Zgb ?_
    first|refine Zhg (Zau rfl) ?_|refine Zhg (Zar rfl) ?_
    first|refine Zhg (Zb1 rfl) ?_|refine Zhg (Zb0 rfl) ?_
    first|refine Zhg (Zau rfl) ?_|refine Zhg (Zar rfl) ?_
    first|refine Zhi rfl ?_|refine Zhj rfl ?_|(refine Zhh rfl ?_; (first|refine Zhg (Zat rfl) ?_|refine Zhg (Zar rfl) ?_))
    first|refine Zhi rfl ?_|refine Zhj rfl ?_|(refine Zhh rfl ?_; (first|refine Zhg (Zmf (b := 16) rfl rfl) ?_|refine Zhg (Zbn rfl rfl) ?_))
    first|refine Zhg (Zdz rfl rfl) ?_|refine Zhg (Zd0 rfl rfl) ?_|refine Zhg (Za8 rfl rfl) ?_|refine Zhg (Za9 rfl rfl) ?_|refine Zhg (Za6 rfl rfl) ?_|refine Zhg (Za7 rfl rfl) ?_
    first|refine Zhg (Za0 rfl) ?_|refine Zhg (Zas rfl) ?_
    refine Zg3 ?_
    repeat (first|refine zA ?_|refine zB ?_|refine zC ?_|refine zD ?_|refine zE ?_|refine zF ?_|refine zG ?_|refine zH ?_|refine zI ?_|refine zJ ?_|refine zK ?_|refine zL ?_|refine zM rfl ?_|refine zN ?_|refine zO ?_|refine zP ?_|refine zQ ?_)
    refine Zgf rfl ?_
    repeat (first|refine zA ?_|refine zB ?_|refine zC ?_|refine zD ?_|refine zE ?_|refine zF ?_|refine zG ?_|refine zH ?_|refine zI ?_|refine zJ ?_|refine zK ?_|refine zL ?_|refine zM rfl ?_|refine zN ?_|refine zO ?_|refine zP ?_|refine zQ ?_)
    refine Zgb ?_
    first|refine Zhg (Zau rfl) ?_|refine Zhg (Zar rfl) ?_
    first|refine Zhg (Zb1 rfl) ?_|refine Zhg (Zb0 rfl) ?_
    first|refine Zhg (Zau rfl) ?_|refine Zhg (Zar rfl) ?_
    first|refine Zhi rfl ?_|refine Zhj rfl ?_|(refine Zhh rfl ?_; (first|refine Zhg (Zat rfl) ?_|refine Zhg (Zar rfl) ?_))
    first|refine Zhi rfl ?_|refine Zhj rfl ?_|(refine Zhh rfl ?_; (first|refine Zhg (Zmj (b := 16) rfl rfl) ?_|refine Zhg (Zbr rfl rfl) ?_))
    first|refine Zhg (Zdz rfl rfl) ?_|refine Zhg (Zd0 rfl rfl) ?_|refine Zhg (Za8 rfl rfl) ?_|refine Zhg (Za9 rfl rfl) ?_|refine Zhg (Za6 rfl rfl) ?_|refine Zhg (Za7 rfl rfl) ?_
    first|refine Zhg (Za0 rfl) ?_|refine Zhg (Zas rfl) ?_
    refine Zg3 ?_
    repeat (first|refine zA ?_|refine zB ?_|refine zC ?_|refine zD ?_|refine zE ?_|refine zF ?_|refine zG ?_|refine zH ?_|refine zI ?_|refine zJ ?_|refine zK ?_|refine zL ?_|refine zM rfl ?_|refine zN ?_|refine zO ?_|refine zP ?_|refine zQ ?_)
    refine Zgf rfl ?_
    have hx : l[i] < 256 := hd0 _ (List.getElem_mem hA)
    by_cases hB : i = 16
    · subst hB
      have hdn : d = [] := List.eq_nil_of_length_eq_zero (by omega)
      subst hdn
      repeat (first|refine zA ?_|refine zB ?_|refine zC ?_|refine zD ?_|refine zE ?_|refine zF ?_|refine zG ?_|refine zH ?_|refine zI ?_|refine zJ ?_|refine zK ?_|refine zL ?_|refine zM rfl ?_|refine zN ?_|refine zO ?_|refine zP ?_|refine zQ ?_)
      refine Zgb ?_
      first|refine Zhg (Zau rfl) ?_|refine Zhg (Zar rfl) ?_
      first|refine Zhg (Zau rfl) ?_|refine Zhg (Zar rfl) ?_
      first|refine Zhi rfl ?_|refine Zhj rfl ?_|(refine Zhh rfl ?_; (first|refine Zhg (Zat rfl) ?_|refine Zhg (Zar rfl) ?_))
      first|refine Zhi rfl ?_|refine Zhj rfl ?_|(refine Zhh rfl ?_; (first|refine Zhg (Zmj (b := 16) rfl rfl) ?_|refine Zhg (Zbr rfl rfl) ?_))
      first|refine Zhg (Zdz rfl rfl) ?_|refine Zhg (Zd0 rfl rfl) ?_|refine Zhg (Za8 rfl rfl) ?_|refine Zhg (Za9 rfl rfl) ?_|refine Zhg (Za6 rfl rfl) ?_|refine Zhg (Za7 rfl rfl) ?_
      first|refine Zhg (Za0 rfl) ?_|refine Zhg (Zas rfl) ?_
      refine Zg3 ?_
      repeat (first|refine zA ?_|refine zB ?_|refine zC ?_|refine zD ?_|refine zE ?_|refine zF ?_|refine zG ?_|refine zH ?_|refine zI ?_|refine zJ ?_|refine zK ?_|refine zL ?_|refine zM rfl ?_|refine zN ?_|refine zO ?_|refine zP ?_|refine zQ ?_)
      refine Zge rfl ?_
      repeat (first|refine zA ?_|refine zB ?_|refine zC ?_|refine zD ?_|refine zE ?_|refine zF ?_|refine zG ?_|refine zH ?_|refine zI ?_|refine zJ ?_|refine zK ?_|refine zL ?_|refine zM rfl ?_|refine zN ?_|refine zO ?_|refine zP ?_|refine zQ ?_)
      refine Zgb ?_
      first|refine Zhg (Zaw rfl) ?_|refine Zhg (Zar rfl) ?_
      first|refine Zhg (Zaw rfl) ?_|refine Zhg (Zar rfl) ?_
      first|refine Zhg (Zat rfl) ?_|refine Zhg (Zar rfl) ?_
      first|refine Zhg (Zl4 rfl rfl) ?_|refine Zhg (Zl1 rfl rfl) ?_
      refine Zic (j := 16) rfl (h.imp (by exact Imp.arr (by repeat (first|exact Arr.nil|exact Arr.stop|refine Arr.cons (by repeat constructor) ?_|refine Arr.skip ?_)))) hA (getM hA) ?_
      first|refine Zhg (Zmd (b := 4) rfl rfl) ?_|refine Zhg (Zbj rfl rfl) ?_
      refine Zh7 (cs := #[.int .i64 _]) (by omega) (by omega) rfl ?_; intro b54
      refine Zia rfl rfl (by repeat constructor) (Rd.cl (xs := [nv (l[16] / 4)]) (by repeat constructor) rfl (by first|rfl|omega|(rw [szL]; omega)|exact Nat.le_of_ble_eq_true rfl|(simp; done)|(simp; omega)) rfl) (by first|rfl|exact oneM_u8 _|exact oneL_u8 _|(simp [oneC]; done)) (by omega) (by first|omega|exact Nat.le_of_ble_eq_true rfl|(simp; done)|(simp; omega)|decide) ?_; intro a3 c3
      first|refine Zhg (Za2 rfl) ?_|refine Zhg (Zas rfl) ?_
      refine Zg3 ?_
      repeat (first|refine zA ?_|refine zB ?_|refine zC ?_|refine zD ?_|refine zE ?_|refine zF ?_|refine zG ?_|refine zH ?_|refine zI ?_|refine zJ ?_|refine zK ?_|refine zL ?_|refine zM rfl ?_|refine zN ?_|refine zO ?_|refine zP ?_|refine zQ ?_)
      refine Zgb ?_
      first|refine Zhg (Zat rfl) ?_|refine Zhg (Zar rfl) ?_
      first|refine Zhg (Zma (b := 1) rfl rfl) ?_|refine Zhg (Zbg rfl rfl) ?_
      first|refine Zhg (Zaz rfl) ?_|refine Zhg (Zas rfl) ?_
      refine Zg3 ?_
      repeat (first|refine zA ?_|refine zB ?_|refine zC ?_|refine zD ?_|refine zE ?_|refine zF ?_|refine zG ?_|refine zH ?_|refine zI ?_|refine zJ ?_|refine zK ?_|refine zL ?_|refine zM rfl ?_|refine zN ?_|refine zO ?_|refine zP ?_|refine zQ ?_)
      refine Zgl (16 + 1, a3, c3, [l[16] / 4]) (by first|omega|(dsimp only; omega)|(simp only []; omega)) ⟨by dsimp only; omega, ?_, rfl, ?_, ?_⟩ (by exact Imp.arr (by repeat (first|exact Arr.nil|exact Arr.stop|refine Arr.cons (by repeat constructor) ?_|refine Arr.skip ?_))) ⟨rfl, rfl, trivial⟩
      · intro x hx; simp only [List.mem_singleton] at hx; omega
      · dsimp only; rw [high_16 l hA hd0]; simp [valD]
      · intro x hx; simp at hx; omega
    · repeat (first|refine zA ?_|refine zB ?_|refine zC ?_|refine zD ?_|refine zE ?_|refine zF ?_|refine zG ?_|refine zH ?_|refine zI ?_|refine zJ ?_|refine zK ?_|refine zL ?_|refine zM rfl ?_|refine zN ?_|refine zO ?_|refine zP ?_|refine zQ ?_)
      refine Zgb ?_
      first|refine Zhg (Zau rfl) ?_|refine Zhg (Zar rfl) ?_
      first|refine Zhg (Zau rfl) ?_|refine Zhg (Zar rfl) ?_
      first|refine Zhi rfl ?_|refine Zhj rfl ?_|(refine Zhh rfl ?_; (first|refine Zhg (Zat rfl) ?_|refine Zhg (Zar rfl) ?_))
      first|refine Zhi rfl ?_|refine Zhj rfl ?_|(refine Zhh rfl ?_; (first|refine Zhg (Zmj (b := 16) rfl rfl) ?_|refine Zhg (Zbr rfl rfl) ?_))
      first|refine Zhg (Zdz rfl rfl) ?_|refine Zhg (Zd0 rfl rfl) ?_|refine Zhg (Za8 rfl rfl) ?_|refine Zhg (Za9 rfl rfl) ?_|refine Zhg (Za6 rfl rfl) ?_|refine Zhg (Za7 rfl rfl) ?_
      first|refine Zhg (Za0 rfl) ?_|refine Zhg (Zas rfl) ?_
      refine Zg3 ?_
      repeat (first|refine zA ?_|refine zB ?_|refine zC ?_|refine zD ?_|refine zE ?_|refine zF ?_|refine zG ?_|refine zH ?_|refine zI ?_|refine zJ ?_|refine zK ?_|refine zL ?_|refine zM rfl ?_|refine zN ?_|refine zO ?_|refine zP ?_|refine zQ ?_)
      refine Zgf (by show Value.bool (decide _) = _; rw [decide_eq_false (by omega)]) ?_
      repeat (first|refine zA ?_|refine zB ?_|refine zC ?_|refine zD ?_|refine zE ?_|refine zF ?_|refine zG ?_|refine zH ?_|refine zI ?_|refine zJ ?_|refine zK ?_|refine zL ?_|refine zM rfl ?_|refine zN ?_|refine zO ?_|refine zP ?_|refine zQ ?_)
      refine Zgb ?_
      first|refine Zhg (Zau rfl) ?_|refine Zhg (Zar rfl) ?_
      first|refine Zhg (Zau rfl) ?_|refine Zhg (Zar rfl) ?_
      first|refine Zhi rfl ?_|refine Zhj rfl ?_|(refine Zhh rfl ?_; (first|refine Zhg (Zat rfl) ?_|refine Zhg (Zar rfl) ?_))
      first|refine Zhi rfl ?_|refine Zhj rfl ?_|(refine Zhh rfl ?_; (first|refine Zhg (Zmh (b := 16) rfl rfl) ?_|refine Zhg (Zbp rfl rfl) ?_))
      first|refine Zhg (Zdz rfl rfl) ?_|refine Zhg (Zd0 rfl rfl) ?_|refine Zhg (Za8 rfl rfl) ?_|refine Zhg (Za9 rfl rfl) ?_|refine Zhg (Za6 rfl rfl) ?_|refine Zhg (Za7 rfl rfl) ?_
      first|refine Zhg (Za0 rfl) ?_|refine Zhg (Zas rfl) ?_
      refine Zg3 ?_
      repeat (first|refine zA ?_|refine zB ?_|refine zC ?_|refine zD ?_|refine zE ?_|refine zF ?_|refine zG ?_|refine zH ?_|refine zI ?_|refine zJ ?_|refine zK ?_|refine zL ?_|refine zM rfl ?_|refine zN ?_|refine zO ?_|refine zP ?_|refine zQ ?_)
      refine Zgg rfl (fun hC => ?_) (fun hC => ?_)
      · have hli : i - 17 < d.length := by omega
        have hlv : d[i - 17] ≤ 63 := hlast _ (by rw [List.getLast?_eq_getElem?, show d.length - 1 = i - 17 by omega, List.getElem?_eq_getElem hli])
        refine Zgt (fun F w H => own_some .here (by omega) H) ?_
        rintro ⟨g, rfl⟩
        have gl : (d.map nv)[i - 17]? = some (nv d[i - 17]) := getM hli
        repeat (first|refine zA ?_|refine zB ?_|refine zC ?_|refine zD ?_|refine zE ?_|refine zF ?_|refine zG ?_|refine zH ?_|refine zI ?_|refine zJ ?_|refine zK ?_|refine zL ?_|refine zM rfl ?_|refine zN ?_|refine zO ?_|refine zP ?_|refine zQ ?_)
        refine Zij (_) [0, 1, 2, 3, 4, 5, 6, 7, 8, 9, 10, 11, 12, 13, 14] (.r 0 (.r 1 (.r 2 (.r 3 (.r 4 (.r 5 (.r 6 (.r 7 (.r 8 (.r 9 (.r 10 (.r 11 (.r 12 (.r 13 (.r 14 (.q 15 (.e 16 false .nil))))))))))))))))) (by kernel_rfl) (by kernel_rfl) (Imp.refl _) ?_
        first|refine Ziz rfl (Zaw rfl) ?_|refine Ziz rfl (Zar rfl) ?_
        first|refine Ziz rfl (Zat rfl) ?_|refine Ziz rfl (Zar rfl) ?_
        first|refine Ziz rfl (Zmb (b := 17) rfl rfl) ?_|refine Ziz rfl (Zbh rfl rfl) ?_
        first|refine Ziz rfl (Zaw rfl) ?_|refine Ziz rfl (Zar rfl) ?_
        first|refine Ziz rfl (Zat rfl) ?_|refine Ziz rfl (Zar rfl) ?_
        first|refine Ziz rfl (Zmb (b := 17) rfl rfl) ?_|refine Ziz rfl (Zbh rfl rfl) ?_
        first|refine Ziz rfl (Zl4 rfl rfl) ?_|refine Ziz rfl (Zl1 rfl rfl) ?_
        refine Zi8 (b := g) (o := 0) (j := i - 17) rfl (by rw [Nat.zero_add]; rfl) (Rd.own (by repeat constructor)) hli gl ?_
        first|refine Ziz rfl (Zaw rfl) ?_|refine Ziz rfl (Zar rfl) ?_
        first|refine Ziz rfl (Zat rfl) ?_|refine Ziz rfl (Zar rfl) ?_
        first|refine Ziz rfl (Zl4 rfl rfl) ?_|refine Ziz rfl (Zl1 rfl rfl) ?_
        refine Zi8 (j := i) rfl rfl (h.imp (by exact Imp.arr (by repeat (first|exact Arr.nil|exact Arr.stop|refine Arr.cons (by repeat constructor) ?_|refine Arr.skip ?_)))) hA (getM hA) ?_
        first|refine Ziz rfl (Zme (b := 4) rfl rfl) ?_|refine Ziz rfl (Zbl rfl rfl) ?_
        first|refine Ziz rfl (Zmc (b := 64) rfl rfl) ?_|refine Ziz rfl (Zbi rfl rfl) ?_
        first|refine Ziz rfl (Zma rfl rfl) ?_|refine Ziz rfl (Zbg rfl rfl) ?_
        first|refine Zim rfl (Zl4 rfl rfl) ?_|refine Zim rfl (Zl1 rfl rfl) ?_
        refine Ziq rfl ?_; refine Zm7 (u := nv (d[i - 17] + l[i] % 4 * 64)) (i := i - 17) (xs := d.map nv) (ys := (d.set (i - 17) (d[i - 17] + l[i] % 4 * 64)).map nv) rfl rfl rfl (by repeat constructor) hli (by rw [List.map_set]) ?_; refine Zg3 ⟨(fun hh => Bool.noConfusion hh), ?_⟩
        refine Zik ?_
        repeat (first|refine zA ?_|refine zB ?_|refine zC ?_|refine zD ?_|refine zE ?_|refine zF ?_|refine zG ?_|refine zH ?_|refine zI ?_|refine zJ ?_|refine zK ?_|refine zL ?_|refine zM rfl ?_|refine zN ?_|refine zO ?_|refine zP ?_|refine zQ ?_)
        refine Zgb ?_
        first|refine Zhg (Zaw rfl) ?_|refine Zhg (Zar rfl) ?_
        first|refine Zhg (Zaw rfl) ?_|refine Zhg (Zar rfl) ?_
        first|refine Zhg (Zat rfl) ?_|refine Zhg (Zar rfl) ?_
        first|refine Zhg (Zl4 rfl rfl) ?_|refine Zhg (Zl1 rfl rfl) ?_
        refine Zic (j := i) rfl (h.imp (by exact Imp.arr (by repeat (first|exact Arr.nil|exact Arr.stop|refine Arr.cons (by repeat constructor) ?_|refine Arr.skip ?_)))) hA (getM hA) ?_
        first|refine Zhg (Zmd (b := 4) rfl rfl) ?_|refine Zhg (Zbj rfl rfl) ?_
        refine Zh7 (cs := #[.int .i64 _]) (by omega) (by omega) rfl ?_; intro b84
        refine Zia rfl rfl (by repeat constructor) (Rd.cl (xs := [nv (l[i] / 4)]) (by repeat constructor) rfl (by first|rfl|omega|(rw [szL]; omega)|exact Nat.le_of_ble_eq_true rfl|(simp; done)|(simp; omega)) rfl) (by first|rfl|exact oneM_u8 _|exact oneL_u8 _|(simp [oneC]; done)) (by omega) (by first|omega|exact Nat.le_of_ble_eq_true rfl|(simp; done)|(simp; omega)|decide) ?_; intro a3 c3
        first|refine Zhg (Za2 rfl) ?_|refine Zhg (Zas rfl) ?_
        refine Zg3 ?_
        repeat (first|refine zA ?_|refine zB ?_|refine zC ?_|refine zD ?_|refine zE ?_|refine zF ?_|refine zG ?_|refine zH ?_|refine zI ?_|refine zJ ?_|refine zK ?_|refine zL ?_|refine zM rfl ?_|refine zN ?_|refine zO ?_|refine zP ?_|refine zQ ?_)
        refine Zgb ?_
        first|refine Zhg (Zat rfl) ?_|refine Zhg (Zar rfl) ?_
        first|refine Zhg (Zma (b := 1) rfl rfl) ?_|refine Zhg (Zbg rfl rfl) ?_
        first|refine Zhg (Zaz rfl) ?_|refine Zhg (Zas rfl) ?_
        refine Zg3 ?_
        repeat (first|refine zA ?_|refine zB ?_|refine zC ?_|refine zD ?_|refine zE ?_|refine zF ?_|refine zG ?_|refine zH ?_|refine zI ?_|refine zJ ?_|refine zK ?_|refine zL ?_|refine zM rfl ?_|refine zN ?_|refine zO ?_|refine zP ?_|refine zQ ?_)
        refine Zgl (i + 1, a3, c3, d.set (i - 17) (d[i - 17] + l[i] % 4 * 64) ++ [l[i] / 4]) (by first|omega|(dsimp only; omega)|(simp only []; omega)) ⟨by dsimp only; omega, ?_, by simp; omega, ?_, ?_⟩ ?_ ?_
        · intro x hx
          rcases List.mem_append.mp hx with h1|h1
          · rcases List.mem_or_eq_of_mem_set h1 with h2|h2
            · exact hd x h2
            · omega
          · simp only [List.mem_singleton] at h1; omega
        · dsimp only
          rw [high_step l i (by omega) hA, ← hdv, valD_app, valD_set, List.length_set, hdl, show i - 16 = (i - 17) + 1 by omega, Nat.pow_succ]
          simp only [valD, Nat.add_assoc, Nat.mul_assoc, ← Nat.mul_add, Nat.mul_zero, Nat.add_zero]
          congr 2; omega
        · intro x hx; simp at hx; omega
        · dsimp only; rw [List.length_append, List.length_set, List.map_append]; exact Imp.arr (by repeat (first|exact Arr.nil|exact Arr.stop|refine Arr.cons (by repeat constructor) ?_|refine Arr.skip ?_))
        · dsimp only; rw [List.length_append, List.length_set]; exact ⟨rfl, rfl, trivial⟩
      · repeat (first|refine zA ?_|refine zB ?_|refine zC ?_|refine zD ?_|refine zE ?_|refine zF ?_|refine zG ?_|refine zH ?_|refine zI ?_|refine zJ ?_|refine zK ?_|refine zL ?_|refine zM rfl ?_|refine zN ?_|refine zO ?_|refine zP ?_|refine zQ ?_)
        refine Zgb ?_
        first|refine Zhg (Zat rfl) ?_|refine Zhg (Zar rfl) ?_
        first|refine Zhg (Zma (b := 1) rfl rfl) ?_|refine Zhg (Zbg rfl rfl) ?_
        first|refine Zhg (Zaz rfl) ?_|refine Zhg (Zas rfl) ?_
        refine Zg3 ?_
        repeat (first|refine zA ?_|refine zB ?_|refine zC ?_|refine zD ?_|refine zE ?_|refine zF ?_|refine zG ?_|refine zH ?_|refine zI ?_|refine zJ ?_|refine zK ?_|refine zL ?_|refine zM rfl ?_|refine zN ?_|refine zO ?_|refine zP ?_|refine zQ ?_)
        exact Zgl (i + 1, da, dc, d) (by first|omega|(dsimp only; omega)|(simp only []; omega)) ⟨by dsimp only; omega, hd, by dsimp only; omega, by dsimp only; rw [hdv, high_lo l i (by omega) hd0, high_lo l (i + 1) (by omega) hd0], hlast⟩ (by exact Imp.arr (by repeat (first|exact Arr.nil|exact Arr.stop|refine Arr.cons (by repeat constructor) ?_|refine Arr.skip ?_))) ⟨rfl, rfl, trivial⟩
  · have hie : i = l.length := by omega
    subst hie
    rw [List.take_length] at hdv
    repeat (first|refine zA ?_|refine zB ?_|refine zC ?_|refine zD ?_|refine zE ?_|refine zF ?_|refine zG ?_|refine zH ?_|refine zI ?_|refine zJ ?_|refine zK ?_|refine zL ?_|refine zM rfl ?_|refine zN ?_|refine zO ?_|refine zP ?_|refine zQ ?_)
    refine Zgb ?_
    first|refine Zhg (Zaw rfl) ?_|refine Zhg (Zar rfl) ?_
    first|refine Zhg (Za2 rfl) ?_|refine Zhg (Zas rfl) ?_
    refine Zg3 ?_
    repeat (first|refine zA ?_|refine zB ?_|refine zC ?_|refine zD ?_|refine zE ?_|refine zF ?_|refine zG ?_|refine zH ?_|refine zI ?_|refine zJ ?_|refine zK ?_|refine zL ?_|refine zM rfl ?_|refine zN ?_|refine zO ?_|refine zP ?_|refine zQ ?_)
    refine rx1 (Zhc rfl (Zg7)) ?_
    exact ⟨_, ⟨da, dc, d, hd, hdv, hdl, rfl, rfl⟩, by exact Imp.arr (by repeat (first|exact Arr.nil|exact Arr.stop|refine Arr.cons (by repeat constructor) ?_|refine Arr.skip ?_))⟩
end Go.Sl

/- the document's answer for the code, in digits: fold. -/
set_option maxHeartbeats 4000000
set_option maxRecDepth 10000
set_option linter.unusedVariables false
set_option linter.unusedSimpArgs false
namespace Go.Sl
open Go Go.Proofs
attribute [local irreducible] cl pt own old pur ex all den denOps denS xOps xC cX CX xthen xblk xcut xloop retX resX Calls PV Rd Con
theorem rd_five {b : Nat} {M M' : List Asrt} (h : Has M (cl b #[.int .i64 5] 3) M') : Rd M 1 (.slice (some ⟨b, 0, none⟩) ([5] : List Nat).length 1) ([5] : List Nat).length (([5] : List Nat).map nv) :=
  Rd.cl (o := 0) h rfl (by first|rfl|omega|(rw [szL]; omega)|exact Nat.le_of_ble_eq_true rfl|(simp; done)|(simp; omega)) rfl
theorem rd_own {E : Nat} {v : Value} {n : Nat} {l : List Nat} {M M' : List Asrt} (h : Has M (own E 1 v n (l.map nv)) M') : Rd M 1 v n (l.map nv) := Rd.own h
theorem dig_five : Dig [5] := by intro x hx; simp at hx; omega
theorem valD_le {l : List Nat} {n : Nat} (h : Dig l) (hl : l.length ≤ n) : valD l < 256 ^ n := Nat.lt_of_lt_of_le (valD_lt l h) (Nat.pow_le_pow_right (by omega) hl)
theorem mul5_le {l : List Nat} (h : Dig l) (hl : l.length ≤ 46) : valD l * valD [5] < 256 ^ 47 := by
  have := valD_le h hl
  rw [show (256 : Nat) ^ 47 = 256 ^ 46 * 256 from Nat.pow_succ ..]
  simp only [valD]; omega
theorem add_le2 {a b : List Nat} (ha : Dig a) (hb : Dig b) (hl : a.length ≤ 61) (hl2 : b.length ≤ 61) : valD a + valD b < 256 ^ 62 := by
  have := valD_le ha hl; have := valD_le hb hl2
  rw [show (256 : Nat) ^ 62 = 256 ^ 61 * 256 from Nat.pow_succ ..]
  omega
theorem fold_fin (v m : Nat) (h : v < 1361129467683753853853498429727072845824) (hm : m = v + 5) :
    (m / 1361129467683753853853498429727072845824 = 0 → v % 1361129467683753853853498429727072845824 = v % 1361129467683753853853498429727072845819) ∧ (¬ m / 1361129467683753853853498429727072845824 = 0 → m % 1361129467683753853853498429727072845824 = v % 1361129467683753853853498429727072845819) := by
  subst hm; constructor <;> intro h2 <;> omega
theorem fold_x {L : List Asrt} {a : Option Addr} {c : Nat} {l : List Nat} (h : Rd L 1 (.slice a l.length c) l.length (l.map nv)) (hl : l.length ≤ 62) (hd0 : Dig l) :
    Con Try.prog 29 [.slice a l.length c] L (fun r M => ∃ a2 c2 d, Dig d ∧ valD d = valD l % 1361129467683753853853498429727072845819 ∧ d.length ≤ 17 ∧ r = .slice a2 d.length c2 ∧ M = own 3 1 r d.length (d.map nv) :: L) := by
  refine fn_x Try.func29 rfl rfl rfl Try.mixed (by kernel_rfl) ?_
  intro w0
  repeat (first|refine zA ?_|refine zB ?_|refine zC ?_|refine zD ?_|refine zE ?_|refine zF ?_|refine zG ?_|refine zH ?_|refine zI ?_|refine zJ ?_|refine zK ?_|refine zL ?_|refine zM rfl ?_|refine zN ?_|refine zO ?_|refine zP ?_|refine zQ ?_)
  refine Zgb ?_
  first|refine Zhg (Za2 rfl) ?_|refine Zhg (Zas rfl) ?_
  refine Zg3 ?_
  repeat (first|refine zA ?_|refine zB ?_|refine zC ?_|refine zD ?_|refine zE ?_|refine zF ?_|refine zG ?_|refine zH ?_|refine zI ?_|refine zJ ?_|refine zK ?_|refine zL ?_|refine zM rfl ?_|refine zN ?_|refine zO ?_|refine zP ?_|refine zQ ?_)
  refine Zgb ?_
  first|refine Zhg (Zaw rfl) ?_|refine Zhg (Zar rfl) ?_
  refine Zh8 rfl (by kernel_rfl) (high_x h (by omega) hd0) rfl (by repeat (first|exact Take.nil|exact Take.all|(apply Take.cons; (next => (repeat constructor); done))|apply Take.skip)) ?_
  rintro _ _ ⟨ah, ch, hh, hhd, hhv, hhl, rfl, rfl⟩
  refine Zg2 (by repeat (first|exact App.nil|apply App.cons|(apply App.flip; first|exact App.nil|apply App.cons)|exact App.any)) ?_
  first|refine Zhg (Za2 rfl) ?_|refine Zhg (Zas rfl) ?_
  refine Zg3 ?_
  repeat (first|refine zA ?_|refine zB ?_|refine zC ?_|refine zD ?_|refine zE ?_|refine zF ?_|refine zG ?_|refine zH ?_|refine zI ?_|refine zJ ?_|refine zK ?_|refine zL ?_|refine zM rfl ?_|refine zN ?_|refine zO ?_|refine zP ?_|refine zQ ?_)
  refine Zgo [(0, 0), (3, 3), (7, 17)] (by kernel_rfl) (fun s : List Asrt × (Option Addr × Nat × List Nat) × (Option Addr × Nat × List Nat) => Imp s.1 L ∧ Rd s.1 1 (.slice s.2.1.1 s.2.1.2.2.length s.2.1.2.1) s.2.1.2.2.length (s.2.1.2.2.map nv) ∧ Dig s.2.1.2.2 ∧ s.2.1.2.2.length ≤ 62 ∧ valD s.2.1.2.2 % 1361129467683753853853498429727072845819 = valD l % 1361129467683753853853498429727072845819 ∧
      Rd s.1 1 (.slice s.2.2.1 s.2.2.2.2.length s.2.2.2.1) s.2.2.2.2.length (s.2.2.2.2.map nv) ∧ Dig s.2.2.2.2 ∧ valD s.2.2.2.2 = valD s.2.1.2.2 / 1361129467683753853853498429727072845824 ∧ s.2.2.2.2.length = s.2.1.2.2.length - 16)
    (fun s => s.1)
    (fun s => [(0, .slice s.2.1.1 s.2.1.2.2.length s.2.1.2.1), (3, .slice s.2.2.1 s.2.2.2.2.length s.2.2.2.1)]) (fun s => valD s.2.1.2.2) (own 3 1 (.slice ah hh.length ch) hh.length (hh.map nv) :: L, (a, c, l), (ah, ch, hh)) ⟨Imp.tail, h.imp Imp.tail, hd0, hl, rfl, rd_own .here, hhd, hhv, hhl⟩ (Imp.refl _) ⟨rfl, rfl, trivial⟩ ?_
  clear hhd hhv hhl
  rintro ⟨E, ⟨da, dc, d⟩, ⟨ah2, ch2, hi⟩⟩ u ⟨hE, hrd, hd, hdl, hdv, hrh, hhd, hhv, hhl⟩
  dsimp only at hE hrd hd hdl hdv hrh hhd hhv hhl ⊢
  repeat (first|refine zA ?_|refine zB ?_|refine zC ?_|refine zD ?_|refine zE ?_|refine zF ?_|refine zG ?_|refine zH ?_|refine zI ?_|refine zJ ?_|refine zK ?_|refine zL ?_|refine zM rfl ?_|refine zN ?_|refine zO ?_|refine zP ?_|refine zQ ?_)
  refine Zgb ?_
  first|refine Zhg (Zaw rfl) ?_|refine Zhg (Zar rfl) ?_
  refine Zh8 rfl (by kernel_rfl) (noughtD_x (L := E) hrh (by omega)) rfl (by repeat (first|exact Take.nil|exact Take.all|(apply Take.cons; (next => (repeat constructor); done))|apply Take.skip)) ?_
  rintro _ _ ⟨rfl, rfl⟩
  refine Zg2 (by repeat (first|exact App.nil|apply App.cons|(apply App.flip; first|exact App.nil|apply App.cons)|exact App.any)) ?_
  first|refine Zhg (Zb1 rfl) ?_|refine Zhg (Zb0 rfl) ?_
  refine Zg3 ?_
  repeat (first|refine zA ?_|refine zB ?_|refine zC ?_|refine zD ?_|refine zE ?_|refine zF ?_|refine zG ?_|refine zH ?_|refine zI ?_|refine zJ ?_|refine zK ?_|refine zL ?_|refine zM rfl ?_|refine zN ?_|refine zO ?_|refine zP ?_|refine zQ ?_)
  refine Zgg (p := ¬ valD hi = 0) (by show Value.bool _ = _; simp) (fun hA => ?_) (fun hA => ?_)
  · have hlv := (lowD_val d hd).2.2
    repeat (first|refine zA ?_|refine zB ?_|refine zC ?_|refine zD ?_|refine zE ?_|refine zF ?_|refine zG ?_|refine zH ?_|refine zI ?_|refine zJ ?_|refine zK ?_|refine zL ?_|refine zM rfl ?_|refine zN ?_|refine zO ?_|refine zP ?_|refine zQ ?_)
    refine Zgb ?_
    first|refine Zhg (Zaw rfl) ?_|refine Zhg (Zar rfl) ?_
    refine Zh8 rfl (by kernel_rfl) (low_x (L := E) hrd (by omega)) rfl (by repeat (first|exact Take.nil|exact Take.all|(apply Take.cons; (next => (repeat constructor); done))|apply Take.skip)) ?_
    rintro _ _ ⟨al, ccl, lo, rfl, rfl, rfl⟩
    refine Zg2 (by repeat (first|exact App.nil|apply App.cons|(apply App.flip; first|exact App.nil|apply App.cons)|exact App.any)) ?_
    first|refine Zhg (Zaw rfl) ?_|refine Zhg (Zar rfl) ?_
    refine Zh7 (cs := #[.int .i64 _]) (by omega) (by omega) rfl ?_; intro b13
    refine Zh8 rfl (by kernel_rfl) (mul_x (L := cl b13 #[.int .i64 5] 3 :: E) (n := 47) (la := hi) (lb := [5]) (hrh.imp Imp.tail) (rd_five .here) hhd dig_five (by omega) (by simp) (by simp; omega) (by omega) (mul5_le hhd (by omega))) rfl (by repeat (first|exact Take.nil|exact Take.all|(apply Take.cons; (next => (repeat constructor); done))|apply Take.skip)) ?_
    rintro _ _ ⟨am, cm, mm, hmd, hmv, hml, rfl, rfl⟩
    refine Zg2 (by repeat (first|exact App.nil|apply App.cons|(apply App.flip; first|exact App.nil|apply App.cons)|exact App.any)) ?_
    refine Zh8 rfl (by kernel_rfl) (add_x (L := own 3 1 (.slice al (lowD d d.length).length ccl) (lowD d d.length).length ((lowD d d.length).map nv) :: own 3 1 (.slice am mm.length cm) mm.length (mm.map nv) :: E) (n := 62) (rd_own .here) (rd_own (.there .here)) (lowD_val d hd).2.1 hmd (by omega) (by omega) (by omega) (add_le2 (lowD_val d hd).2.1 hmd (by omega) (by omega))) rfl (by repeat (first|exact Take.nil|exact Take.all|(apply Take.cons; (next => (repeat constructor); done))|apply Take.skip)) ?_
    rintro _ _ ⟨a5, c5, ss, hsd, hsv, hsl, rfl, rfl⟩
    refine Zg2 (by repeat (first|exact App.nil|apply App.cons|(apply App.flip; first|exact App.nil|apply App.cons)|exact App.any)) ?_
    first|refine Zhg (Za2 rfl) ?_|refine Zhg (Zas rfl) ?_
    refine Zg3 ?_
    repeat (first|refine zA ?_|refine zB ?_|refine zC ?_|refine zD ?_|refine zE ?_|refine zF ?_|refine zG ?_|refine zH ?_|refine zI ?_|refine zJ ?_|refine zK ?_|refine zL ?_|refine zM rfl ?_|refine zN ?_|refine zO ?_|refine zP ?_|refine zQ ?_)
    have hss : ss.length ≤ 62 := hsl
    repeat (first|refine zA ?_|refine zB ?_|refine zC ?_|refine zD ?_|refine zE ?_|refine zF ?_|refine zG ?_|refine zH ?_|refine zI ?_|refine zJ ?_|refine zK ?_|refine zL ?_|refine zM rfl ?_|refine zN ?_|refine zO ?_|refine zP ?_|refine zQ ?_)
    refine Zgb ?_
    first|refine Zhg (Zaw rfl) ?_|refine Zhg (Zar rfl) ?_
    refine Zh8 rfl (by kernel_rfl) (high_x (L := own 3 1 (.slice a5 ss.length c5) ss.length (ss.map nv) :: E) (rd_own .here) (by omega) hsd) rfl (by repeat (first|exact Take.nil|exact Take.all|(apply Take.cons; (next => (repeat constructor); done))|apply Take.skip)) ?_
    rintro _ _ ⟨ah3, ch3, h3, h3d, h3v, h3l, rfl, rfl⟩
    refine Zg2 (by repeat (first|exact App.nil|apply App.cons|(apply App.flip; first|exact App.nil|apply App.cons)|exact App.any)) ?_
    first|refine Zhg (Za2 rfl) ?_|refine Zhg (Zas rfl) ?_
    refine Zg3 ?_
    repeat (first|refine zA ?_|refine zB ?_|refine zC ?_|refine zD ?_|refine zE ?_|refine zF ?_|refine zG ?_|refine zH ?_|refine zI ?_|refine zJ ?_|refine zK ?_|refine zL ?_|refine zM rfl ?_|refine zN ?_|refine zO ?_|refine zP ?_|refine zQ ?_)
    refine Zgl (own 3 1 (.slice ah3 h3.length ch3) h3.length (h3.map nv) :: own 3 1 (.slice a5 ss.length c5) ss.length (ss.map nv) :: E, (a5, c5, ss), (ah3, ch3, h3)) ?_ ⟨Imp.tail.trans (Imp.tail.trans hE), rd_own (.there .here), hsd, hss, ?_, rd_own .here, h3d, h3v, h3l⟩ (by exact Imp.arr (by repeat (first|exact Arr.nil|exact Arr.stop|refine Arr.cons (by repeat constructor) ?_|refine Arr.skip ?_))) ⟨rfl, rfl, trivial⟩
    · dsimp only
      rw [hsv, (lowD_val d hd).1, hmv, hhv]
      simp only [valD]
      omega
    · dsimp only
      rw [hsv, (lowD_val d hd).1, hmv, hhv, ← hdv]
      simp only [valD]
      omega
  · have hA : valD hi = 0 := Classical.not_not.1 hA
    have hv0 : valD d < 1361129467683753853853498429727072845824 := by rw [hhv] at hA; omega
    have hlo := lowD_val d hd
    repeat (first|refine zA ?_|refine zB ?_|refine zC ?_|refine zD ?_|refine zE ?_|refine zF ?_|refine zG ?_|refine zH ?_|refine zI ?_|refine zJ ?_|refine zK ?_|refine zL ?_|refine zM rfl ?_|refine zN ?_|refine zO ?_|refine zP ?_|refine zQ ?_)
    refine Zgb ?_
    first|refine Zhg (Zaw rfl) ?_|refine Zhg (Zar rfl) ?_
    refine Zh7 (cs := #[.int .i64 _]) (by omega) (by omega) rfl ?_; intro b19
    refine Zh8 rfl (by kernel_rfl) (add_x (L := cl b19 #[.int .i64 5] 3 :: E) (n := 62) (la := d) (lb := [5]) (hrd.imp Imp.tail) (rd_five .here) hd dig_five (by omega) (by simp) (by omega) (by
          have : valD d < 256 ^ 61 := Nat.lt_of_lt_of_le hv0 (by decide)
          rw [show (256 : Nat) ^ 62 = 256 ^ 61 * 256 from Nat.pow_succ ..]; simp only [valD]; omega)) rfl (by repeat (first|exact Take.nil|exact Take.all|(apply Take.cons; (next => (repeat constructor); done))|apply Take.skip)) ?_
    rintro _ _ ⟨a5, c5, mo, hmd, hmv, hml, rfl, rfl⟩
    refine Zg2 (by repeat (first|exact App.nil|apply App.cons|(apply App.flip; first|exact App.nil|apply App.cons)|exact App.any)) ?_
    first|refine Zhg (Za2 rfl) ?_|refine Zhg (Zas rfl) ?_
    refine Zg3 ?_
    repeat (first|refine zA ?_|refine zB ?_|refine zC ?_|refine zD ?_|refine zE ?_|refine zF ?_|refine zG ?_|refine zH ?_|refine zI ?_|refine zJ ?_|refine zK ?_|refine zL ?_|refine zM rfl ?_|refine zN ?_|refine zO ?_|refine zP ?_|refine zQ ?_)
    have hf := fold_fin (valD d) (valD mo) hv0 (by rw [hmv]; simp [valD])
    repeat (first|refine zA ?_|refine zB ?_|refine zC ?_|refine zD ?_|refine zE ?_|refine zF ?_|refine zG ?_|refine zH ?_|refine zI ?_|refine zJ ?_|refine zK ?_|refine zL ?_|refine zM rfl ?_|refine zN ?_|refine zO ?_|refine zP ?_|refine zQ ?_)
    refine Zgb ?_
    first|refine Zhg (Zaw rfl) ?_|refine Zhg (Zar rfl) ?_
    refine Zh8 rfl (by kernel_rfl) (high_x (L := own 3 1 (.slice a5 mo.length c5) mo.length (mo.map nv) :: E) (rd_own .here) (by omega) hmd) rfl (by repeat (first|exact Take.nil|exact Take.all|(apply Take.cons; (next => (repeat constructor); done))|apply Take.skip)) ?_
    rintro _ _ ⟨ah3, ch3, h3, h3d, h3v, h3l, rfl, rfl⟩
    refine Zg2 (by repeat (first|exact App.nil|apply App.cons|(apply App.flip; first|exact App.nil|apply App.cons)|exact App.any)) ?_
    refine Zh8 rfl (by kernel_rfl) (noughtD_x (L := own 3 1 (.slice ah3 h3.length ch3) h3.length (h3.map nv) :: E) (rd_own .here) (by omega)) rfl (by repeat (first|exact Take.nil|exact Take.all|(apply Take.cons; (next => (repeat constructor); done))|apply Take.skip)) ?_
    rintro _ _ ⟨rfl, rfl⟩
    refine Zg2 (by repeat (first|exact App.nil|apply App.cons|(apply App.flip; first|exact App.nil|apply App.cons)|exact App.any)) ?_
    first|refine Zhg (Zb1 rfl) ?_|refine Zhg (Zb0 rfl) ?_
    refine Zg3 ?_
    repeat (first|refine zA ?_|refine zB ?_|refine zC ?_|refine zD ?_|refine zE ?_|refine zF ?_|refine zG ?_|refine zH ?_|refine zI ?_|refine zJ ?_|refine zK ?_|refine zL ?_|refine zM rfl ?_|refine zN ?_|refine zO ?_|refine zP ?_|refine zQ ?_)
    refine Zgg (p := ¬ valD h3 = 0) (by show Value.bool _ = _; simp) (fun hB => ?_) (fun hB => ?_)
    · repeat (first|refine zA ?_|refine zB ?_|refine zC ?_|refine zD ?_|refine zE ?_|refine zF ?_|refine zG ?_|refine zH ?_|refine zI ?_|refine zJ ?_|refine zK ?_|refine zL ?_|refine zM rfl ?_|refine zN ?_|refine zO ?_|refine zP ?_|refine zQ ?_)
      refine Zgb ?_
      first|refine Zhg (Zaw rfl) ?_|refine Zhg (Zar rfl) ?_
      refine Zh8 rfl (by kernel_rfl) (low_x (L := own 3 1 (.slice a5 mo.length c5) mo.length (mo.map nv) :: E) (rd_own .here) (by omega)) rfl (by repeat (first|exact Take.nil|exact Take.all|(apply Take.cons; (next => (repeat constructor); done))|apply Take.skip)) ?_
      rintro _ _ ⟨al, ccl, lo, rfl, rfl, rfl⟩
      refine Zg2 (by repeat (first|exact App.nil|apply App.cons|(apply App.flip; first|exact App.nil|apply App.cons)|exact App.any)) ?_
      first|refine Zhg (Za2 rfl) ?_|refine Zhg (Zas rfl) ?_
      refine Zg3 ?_
      repeat (first|refine zA ?_|refine zB ?_|refine zC ?_|refine zD ?_|refine zE ?_|refine zF ?_|refine zG ?_|refine zH ?_|refine zI ?_|refine zJ ?_|refine zK ?_|refine zL ?_|refine zM rfl ?_|refine zN ?_|refine zO ?_|refine zP ?_|refine zQ ?_)
      have hlm := lowD_val mo hmd
      refine rx1 (Zhc rfl (Zg7)) ?_
      exact ⟨_, ⟨al, ccl, _, hlm.2.1, by rw [hlm.1, hf.2 (by rw [← h3v]; exact hB), hdv], hlm.2.2, rfl, rfl⟩, (Imp.arr (N := own 3 1 (.slice al (lowD mo mo.length).length ccl) (lowD mo mo.length).length ((lowD mo mo.length).map nv) :: E) (by repeat (first|exact Arr.nil|exact Arr.stop|refine Arr.cons (by repeat constructor) ?_|refine Arr.skip ?_))).trans hE.cons⟩
    · have hB : valD h3 = 0 := Classical.not_not.1 hB
      repeat (first|refine zA ?_|refine zB ?_|refine zC ?_|refine zD ?_|refine zE ?_|refine zF ?_|refine zG ?_|refine zH ?_|refine zI ?_|refine zJ ?_|refine zK ?_|refine zL ?_|refine zM rfl ?_|refine zN ?_|refine zO ?_|refine zP ?_|refine zQ ?_)
      refine Zgb ?_
      first|refine Zhg (Zaw rfl) ?_|refine Zhg (Zar rfl) ?_
      refine Zh8 rfl (by kernel_rfl) (low_x (L := E) hrd (by omega)) rfl (by repeat (first|exact Take.nil|exact Take.all|(apply Take.cons; (next => (repeat constructor); done))|apply Take.skip)) ?_
      rintro _ _ ⟨al, ccl, lo, rfl, rfl, rfl⟩
      refine Zg2 (by repeat (first|exact App.nil|apply App.cons|(apply App.flip; first|exact App.nil|apply App.cons)|exact App.any)) ?_
      first|refine Zhg (Za2 rfl) ?_|refine Zhg (Zas rfl) ?_
      refine Zg3 ?_
      repeat (first|refine zA ?_|refine zB ?_|refine zC ?_|refine zD ?_|refine zE ?_|refine zF ?_|refine zG ?_|refine zH ?_|refine zI ?_|refine zJ ?_|refine zK ?_|refine zL ?_|refine zM rfl ?_|refine zN ?_|refine zO ?_|refine zP ?_|refine zQ ?_)
      refine rx1 (Zhc rfl (Zg7)) ?_
      exact ⟨_, ⟨al, ccl, _, hlo.2.1, by rw [hlo.1, hf.1 (by rw [← h3v]; exact hB), hdv], hlo.2.2, rfl, rfl⟩, (Imp.arr (N := own 3 1 (.slice al (lowD d d.length).length ccl) (lowD d d.length).length ((lowD d d.length).map nv) :: E) (by repeat (first|exact Arr.nil|exact Arr.stop|refine Arr.cons (by repeat constructor) ?_|refine Arr.skip ?_))).trans hE.cons⟩
end Go.Sl

/- the statements' small helpers: lists with marked room behind them. -/
set_option maxHeartbeats 4000000
set_option maxRecDepth 10000
set_option linter.unusedVariables false
set_option linter.unusedSimpArgs false
namespace Go.Sl
open Go Go.Proofs
attribute [local irreducible] cl pt own old pur ex all den denOps denS xOps xC cX CX xthen xblk xcut xloop retX resX Calls PV Rd Con
def markB (i : Nat) : Byte := BitVec.ofInt 8 (IntKind.i64.wrap ((BitVec.ofInt IntKind.i64.bits 165 ^^^ BitVec.ofInt IntKind.i64.bits (i : Int)).toNat : Int))
def spF (l : List Byte) (j : Nat) : Byte := if j < l.length then l.getD j 0#8 else markB j
def spareL (l : List Byte) : List Byte := (List.range (l.length + 80)).map (spF l)
def uptoT (N : Nat) (f : Nat → Byte) (i : Nat) : List Byte := (List.range N).map fun j => if j < i then f j else 0#8
theorem uptoT_len (N : Nat) (f : Nat → Byte) (i : Nat) : (uptoT N f i).length = N := by simp [uptoT]
theorem uptoT_set (N : Nat) (f : Nat → Byte) (i : Nat) : (uptoT N f i).set i (f i) = uptoT N f (i + 1) := by
  apply List.ext_getElem (by simp [uptoT])
  intro j h1 h2
  simp only [uptoT, List.getElem_set, List.getElem_map, List.getElem_range]
  by_cases e : i = j
  · subst e; rw [if_pos rfl, if_pos (by omega)]
  · rw [if_neg e]
    by_cases h : j < i
    · rw [if_pos h, if_pos (by omega)]
    · rw [if_neg h, if_neg (by omega)]
theorem uptoT_zero (N : Nat) (f : Nat → Byte) : uptoT N f 0 = List.replicate N 0#8 := by
  apply List.ext_getElem (by simp [uptoT])
  intro j h1 h2
  simp [uptoT]
theorem uptoT_end (N : Nat) (f : Nat → Byte) : uptoT N f N = (List.range N).map f := by
  apply List.map_congr_left
  intro j hj
  rw [if_pos (by simpa using hj)]
theorem spareL_len (l : List Byte) : (spareL l).length = l.length + 80 := by simp [spareL]
theorem spareL_get (l : List Byte) (j : Nat) (h : j < l.length + 80) : (spareL l)[j]'(by rw [spareL_len]; exact h) = spF l j := by simp [spareL]
theorem spareL_take (l : List Byte) : (spareL l).take l.length = l := by
  apply List.ext_getElem (by rw [List.length_take, spareL_len]; omega)
  intro j h1 h2
  rw [List.getElem_take, spareL_get l j (by omega), spF, if_pos h2, List.getD_eq_getElem?_getD, List.getElem?_eq_getElem h2]; rfl
/-- A list that Spare made. -/
theorem bs_spare {M M' : List Asrt} {g : Nat} {l : List Byte} (hm : Has M (cl g ((spareL l).map u8b).toArray 5) M') (hl : l.length ≤ 140737488355328) : Bs M (.slice (some ⟨g, 0, none⟩) l.length (l.length + 80)) l :=
  Bs.cl (o := 0) hm (by rw [szL, spareL_len]; omega) (by
    simp only [Array.toList_extract, List.extract_eq_take_drop]
    rw [Nat.zero_add, Nat.sub_zero, List.drop_zero, ← List.map_take, spareL_take]) (by omega) (by omega)
theorem spare_x {L : List Asrt} {v : Value} {l : List Byte} (h : Bs L v l) (hl : l.length ≤ 140737488355328) : Con Try.prog 27 [v] L (fun r M => ∃ g, r = .slice (some ⟨g, 0, none⟩) l.length (l.length + 80) ∧ M = cl g ((spareL l).map u8b).toArray 5 :: L) := by
  refine Con.get (fun w0 w F H => h.sh _ _ _ H) ?_
  rintro ⟨aa, ac, rfl, hac, hacm⟩
  refine fn_x Try.func27 rfl rfl rfl Try.mixed (by kernel_rfl) ?_
  intro w0
  repeat (first|refine zA ?_|refine zB ?_|refine zC ?_|refine zD ?_|refine zE ?_|refine zF ?_|refine zG ?_|refine zH ?_|refine zI ?_|refine zJ ?_|refine zK ?_|refine zL ?_|refine zM rfl ?_|refine zN ?_|refine zO ?_|refine zP ?_|refine zQ ?_)
  refine Zgb ?_
  first|refine Zhg (Za2 rfl) ?_|refine Zhg (Zas rfl) ?_
  refine Zg3 ?_
  repeat (first|refine zA ?_|refine zB ?_|refine zC ?_|refine zD ?_|refine zE ?_|refine zF ?_|refine zG ?_|refine zH ?_|refine zI ?_|refine zJ ?_|refine zK ?_|refine zL ?_|refine zM rfl ?_|refine zN ?_|refine zO ?_|refine zP ?_|refine zQ ?_)
  refine Zgb ?_
  first|refine Zhg (Zaw rfl) ?_|refine Zhg (Zar rfl) ?_
  first|refine Zhg (Zcr rfl) ?_|refine Zhg (Zct) ?_|refine Zhg (Zcu rfl) ?_
  first|refine Zhg (Zma (b := 80) rfl rfl) ?_|refine Zhg (Zbg rfl rfl) ?_
  refine Zm3 (f := u8b) (a := 0#8) rfl rfl rfl (by first|omega|exact Nat.le_of_ble_eq_true rfl|(simp; done)|(simp; omega)|decide) (by first|omega|exact Nat.le_of_ble_eq_true rfl|(simp; done)|(simp; omega)|decide) (by first|omega|exact Nat.le_of_ble_eq_true rfl|(simp; done)|(simp; omega)|decide) ?_; intro b8
  first|refine Zhg (Za2 rfl) ?_|refine Zhg (Zas rfl) ?_
  refine Zg3 ?_
  repeat (first|refine zA ?_|refine zB ?_|refine zC ?_|refine zD ?_|refine zE ?_|refine zF ?_|refine zG ?_|refine zH ?_|refine zI ?_|refine zJ ?_|refine zK ?_|refine zL ?_|refine zM rfl ?_|refine zN ?_|refine zO ?_|refine zP ?_|refine zQ ?_)
  refine Zgb ?_
  first|refine Zhg (Zaz rfl) ?_|refine Zhg (Zas rfl) ?_
  refine Zg3 ?_
  repeat (first|refine zA ?_|refine zB ?_|refine zC ?_|refine zD ?_|refine zE ?_|refine zF ?_|refine zG ?_|refine zH ?_|refine zI ?_|refine zJ ?_|refine zK ?_|refine zL ?_|refine zM rfl ?_|refine zN ?_|refine zO ?_|refine zP ?_|refine zQ ?_)
  refine Zgo [(4, 4), (9, 31)] (by kernel_rfl) (fun i : Nat => i ≤ l.length + 80) (fun i => cl b8 ((uptoT (l.length + 80) (spF l) i).map u8b).toArray 5 :: L)
    (fun i => [(4, .int .i64 (i : Int))]) (fun i => l.length + 80 - i) 0 (by omega) (by rw [uptoT_zero]; exact Imp.arr (by repeat (first|exact Arr.nil|exact Arr.stop|refine Arr.cons (by repeat constructor) ?_|refine Arr.skip ?_))) ⟨rfl, trivial⟩ ?_
  intro i u hi
  have hul := uptoT_len (l.length + 80) (spF l) i
  repeat (first|refine zA ?_|refine zB ?_|refine zC ?_|refine zD ?_|refine zE ?_|refine zF ?_|refine zG ?_|refine zH ?_|refine zI ?_|refine zJ ?_|refine zK ?_|refine zL ?_|refine zM rfl ?_|refine zN ?_|refine zO ?_|refine zP ?_|refine zQ ?_)
  refine Zgb ?_
  first|refine Zhg (Zat rfl) ?_|refine Zhg (Zar rfl) ?_
  first|refine Zhg (Zaw rfl) ?_|refine Zhg (Zar rfl) ?_
  first|refine Zhg (Zcr rfl) ?_|refine Zhg (Zct) ?_|refine Zhg (Zcu rfl) ?_
  first|refine Zhg (Zmf rfl rfl) ?_|refine Zhg (Zbn rfl rfl) ?_
  refine Zg3 ?_
  repeat (first|refine zA ?_|refine zB ?_|refine zC ?_|refine zD ?_|refine zE ?_|refine zF ?_|refine zG ?_|refine zH ?_|refine zI ?_|refine zJ ?_|refine zK ?_|refine zL ?_|refine zM rfl ?_|refine zN ?_|refine zO ?_|refine zP ?_|refine zQ ?_)
  refine Zgg rfl (fun hB => ?_) (fun hB => ?_)
  · repeat (first|refine zA ?_|refine zB ?_|refine zC ?_|refine zD ?_|refine zE ?_|refine zF ?_|refine zG ?_|refine zH ?_|refine zI ?_|refine zJ ?_|refine zK ?_|refine zL ?_|refine zM rfl ?_|refine zN ?_|refine zO ?_|refine zP ?_|refine zQ ?_)
    refine Zgb ?_
    first|refine Zhg (Zat rfl) ?_|refine Zhg (Zar rfl) ?_
    first|refine Zhg (Zaw rfl) ?_|refine Zhg (Zar rfl) ?_
    first|refine Zhg (Zcr rfl) ?_|refine Zhg (Zct) ?_|refine Zhg (Zcu rfl) ?_
    first|refine Zhg (Zmf rfl rfl) ?_|refine Zhg (Zbn rfl rfl) ?_
    refine Zg3 ?_
    repeat (first|refine zA ?_|refine zB ?_|refine zC ?_|refine zD ?_|refine zE ?_|refine zF ?_|refine zG ?_|refine zH ?_|refine zI ?_|refine zJ ?_|refine zK ?_|refine zL ?_|refine zM rfl ?_|refine zN ?_|refine zO ?_|refine zP ?_|refine zQ ?_)
    refine Zgg rfl (fun hC => ?_) (fun hC => ?_)
    · have e : spF l i = l[i] := by rw [spF, if_pos hC, List.getD_eq_getElem?_getD, List.getElem?_eq_getElem hC]; rfl
      refine Zgt (fun F w H => (h.imp (by exact Imp.arr (by repeat (first|exact Arr.nil|exact Arr.stop|refine Arr.cons (by repeat constructor) ?_|refine Arr.skip ?_)))).some (by omega) H) ?_
      rintro ⟨a1, a2, rfl⟩
      repeat (first|refine zA ?_|refine zB ?_|refine zC ?_|refine zD ?_|refine zE ?_|refine zF ?_|refine zG ?_|refine zH ?_|refine zI ?_|refine zJ ?_|refine zK ?_|refine zL ?_|refine zM rfl ?_|refine zN ?_|refine zO ?_|refine zP ?_|refine zQ ?_)
      refine Zgb ?_
      first|refine Zhg (Zaw rfl) ?_|refine Zhg (Zar rfl) ?_
      first|refine Zhg (Zat rfl) ?_|refine Zhg (Zar rfl) ?_
      first|refine Zhg (Zaw rfl) ?_|refine Zhg (Zar rfl) ?_
      first|refine Zhg (Zat rfl) ?_|refine Zhg (Zar rfl) ?_
      first|refine Zhg (Zl4 rfl rfl) ?_|refine Zhg (Zl1 rfl rfl) ?_
      refine Zic (j := i) rfl (h.rd.imp (by exact Imp.arr (by repeat (first|exact Arr.nil|exact Arr.stop|refine Arr.cons (by repeat constructor) ?_|refine Arr.skip ?_)))) hC (getM (f := u8b) hC) ?_
      first|refine Zhg (Zl4 rfl rfl) ?_|refine Zhg (Zl1 rfl rfl) ?_
      refine Zht rfl rfl (by repeat constructor) (by first|rfl|omega|(rw [szL]; omega)|exact Nat.le_of_ble_eq_true rfl|(simp; done)|(simp; omega)) (setL (f := u8b) (l := uptoT (l.length + 80) (spF l) i)) ?_
      refine Zg3 ?_
      repeat (first|refine zA ?_|refine zB ?_|refine zC ?_|refine zD ?_|refine zE ?_|refine zF ?_|refine zG ?_|refine zH ?_|refine zI ?_|refine zJ ?_|refine zK ?_|refine zL ?_|refine zM rfl ?_|refine zN ?_|refine zO ?_|refine zP ?_|refine zQ ?_)
      rw [← e, uptoT_set]
      repeat (first|refine zA ?_|refine zB ?_|refine zC ?_|refine zD ?_|refine zE ?_|refine zF ?_|refine zG ?_|refine zH ?_|refine zI ?_|refine zJ ?_|refine zK ?_|refine zL ?_|refine zM rfl ?_|refine zN ?_|refine zO ?_|refine zP ?_|refine zQ ?_)
      refine Zgb ?_
      first|refine Zhg (Zat rfl) ?_|refine Zhg (Zar rfl) ?_
      first|refine Zhg (Zma (b := 1) rfl rfl) ?_|refine Zhg (Zbg rfl rfl) ?_
      first|refine Zhg (Zaz rfl) ?_|refine Zhg (Zas rfl) ?_
      refine Zg3 ?_
      repeat (first|refine zA ?_|refine zB ?_|refine zC ?_|refine zD ?_|refine zE ?_|refine zF ?_|refine zG ?_|refine zH ?_|refine zI ?_|refine zJ ?_|refine zK ?_|refine zL ?_|refine zM rfl ?_|refine zN ?_|refine zO ?_|refine zP ?_|refine zQ ?_)
      exact Zgl (i + 1) (by first|omega|(dsimp only; omega)|(simp only []; omega)) (by first|omega|(dsimp only; omega)|(simp only []; omega)) (by exact Imp.arr (by repeat (first|exact Arr.nil|exact Arr.stop|refine Arr.cons (by repeat constructor) ?_|refine Arr.skip ?_))) ⟨rfl, trivial⟩
    · have e : spF l i = markB i := by rw [spF, if_neg hC]
      repeat (first|refine zA ?_|refine zB ?_|refine zC ?_|refine zD ?_|refine zE ?_|refine zF ?_|refine zG ?_|refine zH ?_|refine zI ?_|refine zJ ?_|refine zK ?_|refine zL ?_|refine zM rfl ?_|refine zN ?_|refine zO ?_|refine zP ?_|refine zQ ?_)
      refine Zgb ?_
      first|refine Zhg (Zaw rfl) ?_|refine Zhg (Zar rfl) ?_
      first|refine Zhg (Zat rfl) ?_|refine Zhg (Zar rfl) ?_
      first|refine Zhg (Zat rfl) ?_|refine Zhg (Zar rfl) ?_
      first|refine Zhg (pv_xorn (a := 165) rfl rfl) ?_|refine Zhg (Zbw rfl rfl) ?_
      refine Zhg (Zjs rfl) ?_
      first|refine Zhg (Zl4 rfl rfl) ?_|refine Zhg (Zl1 rfl rfl) ?_
      refine Zht rfl rfl (by repeat constructor) (by first|rfl|omega|(rw [szL]; omega)|exact Nat.le_of_ble_eq_true rfl|(simp; done)|(simp; omega)) (setL (f := u8b) (l := uptoT (l.length + 80) (spF l) i)) ?_
      refine Zg3 ?_
      repeat (first|refine zA ?_|refine zB ?_|refine zC ?_|refine zD ?_|refine zE ?_|refine zF ?_|refine zG ?_|refine zH ?_|refine zI ?_|refine zJ ?_|refine zK ?_|refine zL ?_|refine zM rfl ?_|refine zN ?_|refine zO ?_|refine zP ?_|refine zQ ?_)
      rw [show BitVec.ofInt 8 (IntKind.i64.wrap ((BitVec.ofInt IntKind.i64.bits 165 ^^^ BitVec.ofInt IntKind.i64.bits (i : Int)).toNat : Int)) = spF l i from e.symm, uptoT_set]
      repeat (first|refine zA ?_|refine zB ?_|refine zC ?_|refine zD ?_|refine zE ?_|refine zF ?_|refine zG ?_|refine zH ?_|refine zI ?_|refine zJ ?_|refine zK ?_|refine zL ?_|refine zM rfl ?_|refine zN ?_|refine zO ?_|refine zP ?_|refine zQ ?_)
      refine Zgb ?_
      first|refine Zhg (Zat rfl) ?_|refine Zhg (Zar rfl) ?_
      first|refine Zhg (Zma (b := 1) rfl rfl) ?_|refine Zhg (Zbg rfl rfl) ?_
      first|refine Zhg (Zaz rfl) ?_|refine Zhg (Zas rfl) ?_
      refine Zg3 ?_
      repeat (first|refine zA ?_|refine zB ?_|refine zC ?_|refine zD ?_|refine zE ?_|refine zF ?_|refine zG ?_|refine zH ?_|refine zI ?_|refine zJ ?_|refine zK ?_|refine zL ?_|refine zM rfl ?_|refine zN ?_|refine zO ?_|refine zP ?_|refine zQ ?_)
      exact Zgl (i + 1) (by first|omega|(dsimp only; omega)|(simp only []; omega)) (by first|omega|(dsimp only; omega)|(simp only []; omega)) (by exact Imp.arr (by repeat (first|exact Arr.nil|exact Arr.stop|refine Arr.cons (by repeat constructor) ?_|refine Arr.skip ?_))) ⟨rfl, trivial⟩
  · have hie : i = l.length + 80 := by omega
    subst hie
    rw [uptoT_end]
    repeat (first|refine zA ?_|refine zB ?_|refine zC ?_|refine zD ?_|refine zE ?_|refine zF ?_|refine zG ?_|refine zH ?_|refine zI ?_|refine zJ ?_|refine zK ?_|refine zL ?_|refine zM rfl ?_|refine zN ?_|refine zO ?_|refine zP ?_|refine zQ ?_)
    refine Zgb ?_
    first|refine Zhg (Zaw rfl) ?_|refine Zhg (Zar rfl) ?_
    first|refine Zhg (Zaw rfl) ?_|refine Zhg (Zar rfl) ?_
    first|refine Zhg (Zcr rfl) ?_|refine Zhg (Zct) ?_|refine Zhg (Zcu rfl) ?_
    refine Zhg (Zm0 rfl rfl) ?_
    first|refine Zhg (Za2 rfl) ?_|refine Zhg (Zas rfl) ?_
    refine Zg3 ?_
    repeat (first|refine zA ?_|refine zB ?_|refine zC ?_|refine zD ?_|refine zE ?_|refine zF ?_|refine zG ?_|refine zH ?_|refine zI ?_|refine zJ ?_|refine zK ?_|refine zL ?_|refine zM rfl ?_|refine zN ?_|refine zO ?_|refine zP ?_|refine zQ ?_)
    refine rx1 (Zhc rfl (Zg7)) ?_
    exact ⟨_, ⟨b8, rfl, rfl⟩, by exact Imp.arr (by repeat (first|exact Arr.nil|exact Arr.stop|refine Arr.cons (by repeat constructor) ?_|refine Arr.skip ?_))⟩
theorem kept_r {L : List Asrt} {g : Nat} {vw : Value} {w : List Byte} (hrd : Rd L 1 (.slice (some ⟨g, 0, none⟩) (w.length + 80) (w.length + 80)) (w.length + 80) ((spareL w).map u8b)) (hb : Bs L (.slice (some ⟨g, 0, none⟩) w.length (w.length + 80)) w) (hw : Bs L vw w) (hl : w.length ≤ 140737488355328) :
    Con Try.prog 32 [.slice (some ⟨g, 0, none⟩) w.length (w.length + 80), vw] L (fun r M => r = .bool true ∧ L = M) := by
  refine Con.get (fun w0 w F H => hw.sh _ _ _ H) ?_
  rintro ⟨ba, bc, rfl, hbc, hbcm⟩
  have hsl := spareL_len w
  refine fn_x Try.func32 rfl rfl rfl Try.mixed (by kernel_rfl) ?_
  intro w0
  repeat (first|refine zA ?_|refine zB ?_|refine zC ?_|refine zD ?_|refine zE ?_|refine zF ?_|refine zG ?_|refine zH ?_|refine zI ?_|refine zJ ?_|refine zK ?_|refine zL ?_|refine zM rfl ?_|refine zN ?_|refine zO ?_|refine zP ?_|refine zQ ?_)
  refine Zgb ?_
  first|refine Zhg (Za0 rfl) ?_|refine Zhg (Zas rfl) ?_
  refine Zg3 ?_
  repeat (first|refine zA ?_|refine zB ?_|refine zC ?_|refine zD ?_|refine zE ?_|refine zF ?_|refine zG ?_|refine zH ?_|refine zI ?_|refine zJ ?_|refine zK ?_|refine zL ?_|refine zM rfl ?_|refine zN ?_|refine zO ?_|refine zP ?_|refine zQ ?_)
  refine Zgb ?_
  first|refine Zhg (Zaw rfl) ?_|refine Zhg (Zar rfl) ?_
  first|refine Zhg (Zaw rfl) ?_|refine Zhg (Zar rfl) ?_
  refine Zh8 rfl (by kernel_rfl) (eqBytes_x hb hw) rfl (by repeat (first|exact Take.nil|exact Take.all|(apply Take.cons; (next => (repeat constructor); done))|apply Take.skip)) ?_
  rintro _ _ ⟨rfl, rfl⟩
  refine Zg2 (by repeat (first|exact App.nil|apply App.cons|(apply App.flip; first|exact App.nil|apply App.cons)|exact App.any)) ?_
  first|refine Zhg (Zb1 rfl) ?_|refine Zhg (Zb0 rfl) ?_
  refine Zhn 10 rfl (by simp) ?_
  refine Zg3 ?_
  repeat (first|refine zA ?_|refine zB ?_|refine zC ?_|refine zD ?_|refine zE ?_|refine zF ?_|refine zG ?_|refine zH ?_|refine zI ?_|refine zJ ?_|refine zK ?_|refine zL ?_|refine zM rfl ?_|refine zN ?_|refine zO ?_|refine zP ?_|refine zQ ?_)
  refine Zgf rfl ?_
  repeat (first|refine zA ?_|refine zB ?_|refine zC ?_|refine zD ?_|refine zE ?_|refine zF ?_|refine zG ?_|refine zH ?_|refine zI ?_|refine zJ ?_|refine zK ?_|refine zL ?_|refine zM rfl ?_|refine zN ?_|refine zO ?_|refine zP ?_|refine zQ ?_)
  refine Zgb ?_
  first|refine Zhg (Zaw rfl) ?_|refine Zhg (Zar rfl) ?_
  first|refine Zhg (Zaw rfl) ?_|refine Zhg (Zar rfl) ?_
  first|refine Zhg (Zcr rfl) ?_|refine Zhg (Zct) ?_|refine Zhg (Zcu rfl) ?_
  first|refine Zhg (Zma (b := 80) rfl rfl) ?_|refine Zhg (Zbg rfl rfl) ?_
  refine Zhg (Zm0 (h := w.length + 80) rfl rfl (by omega)) ?_
  first|refine Zhg (Za2 rfl) ?_|refine Zhg (Zas rfl) ?_
  refine Zg3 ?_
  repeat (first|refine zA ?_|refine zB ?_|refine zC ?_|refine zD ?_|refine zE ?_|refine zF ?_|refine zG ?_|refine zH ?_|refine zI ?_|refine zJ ?_|refine zK ?_|refine zL ?_|refine zM rfl ?_|refine zN ?_|refine zO ?_|refine zP ?_|refine zQ ?_)
  refine Zgb ?_
  first|refine Zhg (Zaw rfl) ?_|refine Zhg (Zar rfl) ?_
  first|refine Zhg (Zcr rfl) ?_|refine Zhg (Zct) ?_|refine Zhg (Zcu rfl) ?_
  first|refine Zhg (Zaz rfl) ?_|refine Zhg (Zas rfl) ?_
  refine Zg3 ?_
  repeat (first|refine zA ?_|refine zB ?_|refine zC ?_|refine zD ?_|refine zE ?_|refine zF ?_|refine zG ?_|refine zH ?_|refine zI ?_|refine zJ ?_|refine zK ?_|refine zL ?_|refine zM rfl ?_|refine zN ?_|refine zO ?_|refine zP ?_|refine zQ ?_)
  refine Zgo [(4, 4), (6, 6), (18, 31)] (by kernel_rfl) (fun i : Nat => w.length ≤ i ∧ i ≤ w.length + 80) (fun _ => L) (fun i => [(6, .int .i64 (i : Int))]) (fun i => w.length + 80 - i) w.length (by omega) (Imp.refl _) ⟨rfl, trivial⟩ ?_
  rintro i u ⟨hi0, hi⟩
  repeat (first|refine zA ?_|refine zB ?_|refine zC ?_|refine zD ?_|refine zE ?_|refine zF ?_|refine zG ?_|refine zH ?_|refine zI ?_|refine zJ ?_|refine zK ?_|refine zL ?_|refine zM rfl ?_|refine zN ?_|refine zO ?_|refine zP ?_|refine zQ ?_)
  refine Zgb ?_
  first|refine Zhg (Zat rfl) ?_|refine Zhg (Zar rfl) ?_
  first|refine Zhg (Zaw rfl) ?_|refine Zhg (Zar rfl) ?_
  first|refine Zhg (Zcr rfl) ?_|refine Zhg (Zct) ?_|refine Zhg (Zcu rfl) ?_
  first|refine Zhg (Zmf rfl rfl) ?_|refine Zhg (Zbn rfl rfl) ?_
  refine Zg3 ?_
  repeat (first|refine zA ?_|refine zB ?_|refine zC ?_|refine zD ?_|refine zE ?_|refine zF ?_|refine zG ?_|refine zH ?_|refine zI ?_|refine zJ ?_|refine zK ?_|refine zL ?_|refine zM rfl ?_|refine zN ?_|refine zO ?_|refine zP ?_|refine zQ ?_)
  refine Zgg rfl (fun hB => ?_) (fun hB => ?_)
  · have hg : ((spareL w).map u8b)[i]? = some (u8b (markB i)) := by
      rw [getM (by omega), spareL_get w i hB, spF, if_neg (by omega)]
    repeat (first|refine zA ?_|refine zB ?_|refine zC ?_|refine zD ?_|refine zE ?_|refine zF ?_|refine zG ?_|refine zH ?_|refine zI ?_|refine zJ ?_|refine zK ?_|refine zL ?_|refine zM rfl ?_|refine zN ?_|refine zO ?_|refine zP ?_|refine zQ ?_)
    refine Zgb ?_
    first|refine Zhg (Zaw rfl) ?_|refine Zhg (Zar rfl) ?_
    first|refine Zhg (Zat rfl) ?_|refine Zhg (Zar rfl) ?_
    first|refine Zhg (Zl4 rfl rfl) ?_|refine Zhg (Zl1 rfl rfl) ?_
    refine Zm6 (j := i) rfl hrd hB hg ?_
    first|refine Zhg (Zat rfl) ?_|refine Zhg (Zar rfl) ?_
    first|refine Zhg (pv_xorn (a := 165) rfl rfl) ?_|refine Zhg (Zbw rfl rfl) ?_
    refine Zhg (Zjs rfl) ?_
    refine Zhg (Zjl (x := markB i) (y := markB i) rfl rfl) ?_
    refine Zhn 31 rfl (decide_eq_false (fun h => h rfl)) ?_
    refine Zg3 ?_
    repeat (first|refine zA ?_|refine zB ?_|refine zC ?_|refine zD ?_|refine zE ?_|refine zF ?_|refine zG ?_|refine zH ?_|refine zI ?_|refine zJ ?_|refine zK ?_|refine zL ?_|refine zM rfl ?_|refine zN ?_|refine zO ?_|refine zP ?_|refine zQ ?_)
    refine Zgf rfl ?_
    repeat (first|refine zA ?_|refine zB ?_|refine zC ?_|refine zD ?_|refine zE ?_|refine zF ?_|refine zG ?_|refine zH ?_|refine zI ?_|refine zJ ?_|refine zK ?_|refine zL ?_|refine zM rfl ?_|refine zN ?_|refine zO ?_|refine zP ?_|refine zQ ?_)
    refine Zgb ?_
    first|refine Zhg (Zat rfl) ?_|refine Zhg (Zar rfl) ?_
    first|refine Zhg (Zma (b := 1) rfl rfl) ?_|refine Zhg (Zbg rfl rfl) ?_
    first|refine Zhg (Zaz rfl) ?_|refine Zhg (Zas rfl) ?_
    refine Zg3 ?_
    repeat (first|refine zA ?_|refine zB ?_|refine zC ?_|refine zD ?_|refine zE ?_|refine zF ?_|refine zG ?_|refine zH ?_|refine zI ?_|refine zJ ?_|refine zK ?_|refine zL ?_|refine zM rfl ?_|refine zN ?_|refine zO ?_|refine zP ?_|refine zQ ?_)
    exact Zgl (i + 1) (by first|omega|(dsimp only; omega)|(simp only []; omega)) ⟨by omega, by omega⟩ (by exact Imp.arr (by repeat (first|exact Arr.nil|exact Arr.stop|refine Arr.cons (by repeat constructor) ?_|refine Arr.skip ?_))) ⟨rfl, trivial⟩
  · repeat (first|refine zA ?_|refine zB ?_|refine zC ?_|refine zD ?_|refine zE ?_|refine zF ?_|refine zG ?_|refine zH ?_|refine zI ?_|refine zJ ?_|refine zK ?_|refine zL ?_|refine zM rfl ?_|refine zN ?_|refine zO ?_|refine zP ?_|refine zQ ?_)
    refine Zgb ?_
    first|refine Zhg (Za0 rfl) ?_|refine Zhg (Zas rfl) ?_
    refine Zg3 ?_
    repeat (first|refine zA ?_|refine zB ?_|refine zC ?_|refine zD ?_|refine zE ?_|refine zF ?_|refine zG ?_|refine zH ?_|refine zI ?_|refine zJ ?_|refine zK ?_|refine zL ?_|refine zM rfl ?_|refine zN ?_|refine zO ?_|refine zP ?_|refine zQ ?_)
    refine rx1 (Zha rfl (Zg7)) ?_
    exact ⟨_, ⟨rfl, rfl⟩, by exact Imp.arr (by repeat (first|exact Arr.nil|exact Arr.stop|refine Arr.cons (by repeat constructor) ?_|refine Arr.skip ?_))⟩
theorem rd_spare {L L' : List Asrt} {g : Nat} {w : List Byte} (hm : Has L (cl g ((spareL w).map u8b).toArray 5) L') : Rd L 1 (.slice (some ⟨g, 0, none⟩) (w.length + 80) (w.length + 80)) (w.length + 80) ((spareL w).map u8b) := by
  have hsl := spareL_len w
  exact Rd.cl (o := 0) hm (by simp [hsl]) (by rw [szL]; omega) (by simp only [Array.toList_extract, List.extract_eq_take_drop, Nat.zero_add, Nat.mul_one, Nat.sub_zero, List.drop_zero]; exact List.take_of_length_le (by simp [hsl]))
theorem kept_x {L L' : List Asrt} {g : Nat} {vw : Value} {w : List Byte} (hm : Has L (cl g ((spareL w).map u8b).toArray 5) L') (hw : Bs L vw w) (hl : w.length ≤ 140737488355328) :
    Con Try.prog 32 [.slice (some ⟨g, 0, none⟩) w.length (w.length + 80), vw] L (fun r M => r = .bool true ∧ L = M) := kept_r (rd_spare hm) (bs_spare hm hl) hw hl
end Go.Sl

/- the document's answer for the code: chunks, digits of bytes, the halves of a key. -/
set_option maxHeartbeats 4000000
set_option maxRecDepth 10000
set_option linter.unusedVariables false
set_option linter.unusedSimpArgs false
namespace Go.Sl
open Go Go.Proofs
attribute [local irreducible] cl pt own old pur ex all den denOps denS xOps xC cX CX xthen xblk xcut xloop retX resX Calls PV Rd Con
abbrev P130 : Nat := 1361129467683753853853498429727072845819
def digL (l : List Byte) : List Nat := l.map BitVec.toNat
theorem digL_val (l : List Byte) : valD (digL l) = leN l := by
  induction l with
  | nil => rfl
  | cons x l ih => show x.toNat + 256 * valD (digL l) = x.toNat + 256 * leN l; rw [ih]
theorem digL_dig (l : List Byte) : Dig (digL l) := by
  intro x hx
  obtain ⟨b, _, rfl⟩ := List.mem_map.1 hx
  exact b.isLt
theorem digL_len (l : List Byte) : (digL l).length = l.length := by simp [digL]
theorem digL_app (a b : List Byte) : digL (a ++ b) = digL a ++ digL b := by simp [digL]
theorem stepN_few (R : Nat) : ∀ (c : List Byte) (v : Nat) (p : List Byte), p.length + c.length < 16 → c.foldl (stepN R) (v, p) = (v, p ++ c)
  | [], v, p, _ => by simp
  | x :: c, v, p, h => by
    simp only [List.length_cons] at h
    have e : stepN R (v, p) x = (v, p ++ [x]) := by unfold stepN; rw [if_neg (by dsimp only; omega)]
    rw [List.foldl_cons, e, stepN_few R c v (p ++ [x]) (by simp; omega)]
    simp
theorem leN_snoc1 (c : List Byte) (h : c.length = 16) : leN (c ++ [1#8]) = leN c + 340282366920938463463374607431768211456 := by
  rw [leN_append, h, show (256 : Nat) ^ 16 = 340282366920938463463374607431768211456 by decide]; simp [leN]
theorem stepN_chunk (R : Nat) (c : List Byte) (v : Nat) (h : c.length = 16) : c.foldl (stepN R) (v, []) = (((v + leN (c ++ [1#8])) * R) % P130, []) := by
  obtain ⟨a, x, rfl⟩ : ∃ a x, c = a ++ [x] := ⟨c.dropLast, c.getLast (by intro e; rw [e] at h; cases h), (List.dropLast_concat_getLast _).symm⟩
  have ha : a.length = 15 := by simpa using h
  rw [List.foldl_append, stepN_few R a v [] (by simp; omega), leN_snoc1 _ h]
  simp only [List.foldl_cons, List.foldl_nil, List.nil_append]
  unfold stepN
  rw [if_pos (by dsimp only; omega)]
  dsimp only
  rw [Nat.add_assoc]
/-- The number behind so many bytes. -/
def accN (R : Nat) (m : List Byte) (i : Nat) : Nat := finN R ((m.take i).foldl (stepN R) (0, []))
theorem accN_step (R : Nat) (m : List Byte) (i : Nat) (hi : i < m.length) (h0 : ((m.take i).foldl (stepN R) (0, [])).2 = []) :
    accN R m (i + 16) = ((accN R m i + leN ((m.drop i).take 16 ++ [1#8])) * R) % P130 ∧ (((m.take (i + 16)).foldl (stepN R) (0, [])).2 = [] ∨ m.length ≤ i + 16) := by
  have e : m.take (i + 16) = m.take i ++ (m.drop i).take 16 := List.take_add ..
  obtain ⟨v, hv⟩ : ∃ v, (m.take i).foldl (stepN R) (0, []) = (v, []) := ⟨_, Prod.ext rfl h0⟩
  have hacc : accN R m i = v := by unfold accN; rw [hv]; rfl
  unfold accN
  rw [e, List.foldl_append, hv]
  have hf : finN R (v, []) = v := rfl
  rw [hf]
  by_cases h16 : i + 16 ≤ m.length
  · have hl : ((m.drop i).take 16).length = 16 := by simp; omega
    rw [stepN_chunk R _ v hl]
    exact ⟨rfl, .inl rfl⟩
  · have hl : ((m.drop i).take 16).length = m.length - i := by simp; omega
    rw [stepN_few R _ v [] (by rw [hl]; simp; omega)]
    refine ⟨?_, .inr (by omega)⟩
    unfold finN
    rw [if_neg (by simp only [List.nil_append]; intro e; rw [e] at hl; simp at hl; omega)]
    simp
theorem accN_end (R : Nat) (m : List Byte) (i : Nat) (hi : m.length ≤ i) : accN R m i = finN R (m.foldl (stepN R) (0, [])) := by
  unfold accN; rw [List.take_of_length_le hi]
-- the halves of a key
def halfF (key : List Byte) (s : Bool) (i : Nat) : Nat :=
  if s then (key.getD (16 + i) 0#8).toNat else if i % 4 = 3 then (key.getD i 0#8).toNat % 16 else if i % 4 = 0 ∧ 0 < i then (key.getD i 0#8).toNat / 4 * 4 else (key.getD i 0#8).toNat
def halfD (key : List Byte) (s : Bool) (n : Nat) : List Nat := (List.range n).map (halfF key s)
theorem halfD_len (key : List Byte) (s : Bool) (n : Nat) : (halfD key s n).length = n := by simp [halfD]
theorem halfD_succ (key : List Byte) (s : Bool) (n : Nat) : halfD key s (n + 1) = halfD key s n ++ [halfF key s n] := by simp [halfD, List.range_succ]
theorem halfD_dig (key : List Byte) (s : Bool) (n : Nat) : Dig (halfD key s n) := by
  intro x hx
  obtain ⟨i, _, rfl⟩ := List.mem_map.1 hx
  have h1 := (key.getD (16 + i) 0#8).isLt
  have h2 := (key.getD i 0#8).isLt
  unfold halfF
  split
  · omega
  · split
    · omega
    · split <;> omega
theorem halfD_true (key : List Byte) (hk : key.length = 32) : valD (halfD key true 16) = sN key := by
  have e : halfD key true 16 = digL (key.drop 16) := by
    apply List.ext_getElem (by simp [halfD, digL, hk])
    intro j h1 h2
    simp only [halfD, List.getElem_map, List.getElem_range, halfF, if_true, digL, List.getElem_drop]
    rw [List.getD_eq_getElem?_getD, List.getElem?_eq_getElem (by simp [digL] at h2; omega)]; rfl
  rw [e, digL_val]; rfl
def maskR : List Byte := [255#8, 255#8, 255#8, 15#8, 252#8, 255#8, 255#8, 15#8]
def maskR2 : List Byte := [252#8, 255#8, 255#8, 15#8, 252#8, 255#8, 255#8, 15#8]
theorem wordB_and : ∀ (a b : List Byte), a.length = b.length → wordB a &&& wordB b = wordB (List.zipWith (· &&& ·) a b)
  | [], [], _ => by decide
  | x :: a, y :: b, h => by
    have ih := wordB_and a b (by simpa using h)
    have e : ∀ (x : Byte) (a : List Byte), wordB (x :: a) = wordB a <<< 8 ||| x.setWidth 64 := fun _ _ => rfl
    rw [List.zipWith_cons_cons, e, e, e, ← ih]
    apply BitVec.eq_of_getLsbD_eq
    intro i hi
    simp only [BitVec.getLsbD_and, BitVec.getLsbD_or, BitVec.getLsbD_shiftLeft, BitVec.getLsbD_setWidth, hi, decide_true, Bool.true_and]
    by_cases h8 : i < 8
    · simp [h8]
    · have hx : ∀ z : Byte, z.getLsbD i = false := fun z => BitVec.getLsbD_of_ge z i (by omega)
      simp [h8, hx]
  | [], _ :: _, h => by simp at h
  | _ :: _, [], h => by simp at h
theorem and255 (a : Byte) : (a &&& 255#8) = a := by
  have : (255#8 : Byte) = BitVec.allOnes 8 := by decide
  rw [this, BitVec.and_allOnes]
theorem and15 (a : Byte) : (a &&& 15#8).toNat = a.toNat % 16 := by
  rw [BitVec.toNat_and]; exact Nat.and_two_pow_sub_one_eq_mod a.toNat 4
theorem and252 (a : Byte) : (a &&& 252#8).toNat = a.toNat / 4 * 4 := by
  have h : ∀ n : Fin 256, (BitVec.ofFin n &&& 252#8).toNat = n.val / 4 * 4 := by decide +kernel
  exact h a.toFin
theorem list16 {α : Type} (l : List α) (d : α) (h : l.length = 16) : l = [l.getD 0 d, l.getD 1 d, l.getD 2 d, l.getD 3 d, l.getD 4 d, l.getD 5 d, l.getD 6 d, l.getD 7 d, l.getD 8 d, l.getD 9 d, l.getD 10 d, l.getD 11 d, l.getD 12 d, l.getD 13 d, l.getD 14 d, l.getD 15 d] := by
  match l, h with
  | [_, _, _, _, _, _, _, _, _, _, _, _, _, _, _, _], _ => rfl
theorem num16 (a0 a1 a2 a3 a4 a5 a6 a7 a8 a9 b0 b1 b2 b3 b4 b5 : Nat) : (a0 + 256 * (a1 + 256 * (a2 + 256 * (a3 + 256 * (a4 + 256 * (a5 + 256 * (a6 + 256 * (a7 + 256 * 0)))))))) + 18446744073709551616 * (a8 + 256 * (a9 + 256 * (b0 + 256 * (b1 + 256 * (b2 + 256 * (b3 + 256 * (b4 + 256 * (b5 + 256 * 0)))))))) =
    a0 + 256 * (a1 + 256 * (a2 + 256 * (a3 + 256 * (a4 + 256 * (a5 + 256 * (a6 + 256 * (a7 + 256 * (a8 + 256 * (a9 + 256 * (b0 + 256 * (b1 + 256 * (b2 + 256 * (b3 + 256 * (b4 + 256 * (b5 + 256 * 0))))))))))))))) := by omega
theorem half_num (k : Nat → Byte) : leN (List.zipWith (· &&& ·) [k 0, k 1, k 2, k 3, k 4, k 5, k 6, k 7] maskR) + 18446744073709551616 * leN (List.zipWith (· &&& ·) [k 8, k 9, k 10, k 11, k 12, k 13, k 14, k 15] maskR2) =
    valD [(k 0).toNat, (k 1).toNat, (k 2).toNat, (k 3).toNat % 16, (k 4).toNat / 4 * 4, (k 5).toNat, (k 6).toNat, (k 7).toNat % 16, (k 8).toNat / 4 * 4, (k 9).toNat, (k 10).toNat, (k 11).toNat % 16, (k 12).toNat / 4 * 4, (k 13).toNat, (k 14).toNat, (k 15).toNat % 16] := by
  simp only [maskR, maskR2, List.zipWith_cons_cons, List.zipWith_nil_left, leN, and255, and15, and252, valD]
  exact num16 ..
theorem halfD_false (key : List Byte) (hk : key.length = 32) : valD (halfD key false 16) = rN key := by
  have hw1 : wordB maskR = 1152921487695413247#64 := by decide +kernel
  have hw2 : wordB maskR2 = 1152921487695413244#64 := by decide +kernel
  show _ = (wordB (key.take 8) &&& 1152921487695413247#64).toNat + 18446744073709551616 * (wordB ((key.drop 8).take 8) &&& 1152921487695413244#64).toNat
  rw [← hw1, ← hw2, wordB_and _ _ (by simp [maskR, hk]), wordB_and _ _ (by simp [maskR2, hk]), wordB_val _ (by simp [maskR]; omega), wordB_val _ (by simp [maskR2]; omega)]
  have e := list16 (key.take 16) 0#8 (by simp [hk])
  have e0 : ∀ j, j < 16 → (key.take 16).getD j 0#8 = key.getD j 0#8 := fun j hj => by
    rw [List.getD_eq_getElem?_getD, List.getElem?_take_of_lt hj, List.getD_eq_getElem?_getD]
  rw [e0 0 (by omega), e0 1 (by omega), e0 2 (by omega), e0 3 (by omega), e0 4 (by omega), e0 5 (by omega), e0 6 (by omega), e0 7 (by omega),
    e0 8 (by omega), e0 9 (by omega), e0 10 (by omega), e0 11 (by omega), e0 12 (by omega), e0 13 (by omega), e0 14 (by omega), e0 15 (by omega)] at e
  have e1 : key.take 8 = (key.take 16).take 8 := by rw [List.take_take]; rfl
  have e2 : (key.drop 8).take 8 = (key.take 16).drop 8 := by rw [List.drop_take]
  rw [e1, e2, e]
  exact (half_num fun j => key.getD j 0#8).symm
end Go.Sl

/- the document's answer for the code: half. -/
set_option maxHeartbeats 4000000
set_option maxRecDepth 10000
set_option linter.unusedVariables false
set_option linter.unusedSimpArgs false
namespace Go.Sl
open Go Go.Proofs
attribute [local irreducible] cl pt own old pur ex all den denOps denS xOps xC cX CX xthen xblk xcut xloop retX resX Calls PV Rd Con
theorem half_x {L : List Asrt} (key : List Byte) (hk : key.length = 32) (s : Bool) :
    Con Try.prog 28 [.agg (key.map u8b).toArray, .bool s] L (fun r M => ∃ a2 c2, r = .slice a2 (halfD key s 16).length c2 ∧ M = own 3 1 r (halfD key s 16).length ((halfD key s 16).map nv) :: L) := by
  refine fn_x Try.func28 rfl rfl rfl Try.mixed (by kernel_rfl) ?_
  intro w0
  repeat (first|refine zA ?_|refine zB ?_|refine zC ?_|refine zD ?_|refine zE ?_|refine zF ?_|refine zG ?_|refine zH ?_|refine zI ?_|refine zJ ?_|refine zK ?_|refine zL ?_|refine zM rfl ?_|refine zN ?_|refine zO ?_|refine zP ?_|refine zQ ?_)
  refine Zgb ?_
  refine Zh5 rfl ?_; intro b2
  first|refine Zhg (Za2 rfl) ?_|refine Zhg (Zas rfl) ?_
  refine Zg3 ?_
  repeat (first|refine zA ?_|refine zB ?_|refine zC ?_|refine zD ?_|refine zE ?_|refine zF ?_|refine zG ?_|refine zH ?_|refine zI ?_|refine zJ ?_|refine zK ?_|refine zL ?_|refine zM rfl ?_|refine zN ?_|refine zO ?_|refine zP ?_|refine zQ ?_)
  refine Zgb ?_
  first|refine Zhg (Za2 rfl) ?_|refine Zhg (Zas rfl) ?_
  refine Zg3 ?_
  repeat (first|refine zA ?_|refine zB ?_|refine zC ?_|refine zD ?_|refine zE ?_|refine zF ?_|refine zG ?_|refine zH ?_|refine zI ?_|refine zJ ?_|refine zK ?_|refine zL ?_|refine zM rfl ?_|refine zN ?_|refine zO ?_|refine zP ?_|refine zQ ?_)
  refine Zgb ?_
  first|refine Zhg (Zaz rfl) ?_|refine Zhg (Zas rfl) ?_
  refine Zg3 ?_
  repeat (first|refine zA ?_|refine zB ?_|refine zC ?_|refine zD ?_|refine zE ?_|refine zF ?_|refine zG ?_|refine zH ?_|refine zI ?_|refine zJ ?_|refine zK ?_|refine zL ?_|refine zM rfl ?_|refine zN ?_|refine zO ?_|refine zP ?_|refine zQ ?_)
  refine Zgo [(5, 40)] (by kernel_rfl) (fun t : Nat × Option Addr × Nat => t.1 ≤ 16) (fun t => own 3 1 (.slice t.2.1 (halfD key s t.1).length t.2.2) (halfD key s t.1).length ((halfD key s t.1).map nv) :: cl b2 (key.map u8b).toArray 24 :: L)
    (fun t => [(6, nv t.1), (5, .slice t.2.1 (halfD key s t.1).length t.2.2)]) (fun t => 16 - t.1) (0, none, 0) (by omega) (Imp.own_nil) ⟨rfl, rfl, trivial⟩ ?_
  rintro ⟨i, da, dc⟩ u hi
  dsimp only at hi ⊢
  have hdl := halfD_len key s i
  have hg : i < 16 → ((key.map u8b).toArray)[i]? = some (u8b (key.getD i 0#8)) := fun h => by
    rw [getL (by omega), List.getD_eq_getElem?_getD, List.getElem?_eq_getElem (by omega)]; rfl
  have hg2 : i < 16 → ((key.map u8b).toArray)[16 + i]? = some (u8b (key.getD (16 + i) 0#8)) := fun h => by
    rw [getL (by omega), List.getD_eq_getElem?_getD, List.getElem?_eq_getElem (by omega)]; rfl
  have hb := (key.getD i 0#8).isLt
  repeat (first|refine zA ?_|refine zB ?_|refine zC ?_|refine zD ?_|refine zE ?_|refine zF ?_|refine zG ?_|refine zH ?_|refine zI ?_|refine zJ ?_|refine zK ?_|refine zL ?_|refine zM rfl ?_|refine zN ?_|refine zO ?_|refine zP ?_|refine zQ ?_)
  refine Zgb ?_
  first|refine Zhg (Zat rfl) ?_|refine Zhg (Zar rfl) ?_
  first|refine Zhg (Zmf (b := 16) rfl rfl) ?_|refine Zhg (Zbn rfl rfl) ?_
  refine Zg3 ?_
  repeat (first|refine zA ?_|refine zB ?_|refine zC ?_|refine zD ?_|refine zE ?_|refine zF ?_|refine zG ?_|refine zH ?_|refine zI ?_|refine zJ ?_|refine zK ?_|refine zL ?_|refine zM rfl ?_|refine zN ?_|refine zO ?_|refine zP ?_|refine zQ ?_)
  refine Zgg rfl (fun hA => ?_) (fun hA => ?_)
  · repeat (first|refine zA ?_|refine zB ?_|refine zC ?_|refine zD ?_|refine zE ?_|refine zF ?_|refine zG ?_|refine zH ?_|refine zI ?_|refine zJ ?_|refine zK ?_|refine zL ?_|refine zM rfl ?_|refine zN ?_|refine zO ?_|refine zP ?_|refine zQ ?_)
    refine Zgb ?_
    first|refine Zhg (Zat rfl) ?_|refine Zhg (Zar rfl) ?_
    first|refine Zhg (Zl5 rfl rfl) ?_|refine Zhg (Zl3 rfl rfl) ?_
    refine Zhp rfl (by repeat constructor) (hg hA) ?_
    refine Zhg (Zjt rfl) ?_
    first|refine Zhg (Zaz rfl) ?_|refine Zhg (Zas rfl) ?_
    refine Zg3 ?_
    repeat (first|refine zA ?_|refine zB ?_|refine zC ?_|refine zD ?_|refine zE ?_|refine zF ?_|refine zG ?_|refine zH ?_|refine zI ?_|refine zJ ?_|refine zK ?_|refine zL ?_|refine zM rfl ?_|refine zN ?_|refine zO ?_|refine zP ?_|refine zQ ?_)
    refine Zgb ?_
    first|refine Zhg (Zau rfl) ?_|refine Zhg (Zar rfl) ?_
    refine Zg3 ?_
    repeat (first|refine zA ?_|refine zB ?_|refine zC ?_|refine zD ?_|refine zE ?_|refine zF ?_|refine zG ?_|refine zH ?_|refine zI ?_|refine zJ ?_|refine zK ?_|refine zL ?_|refine zM rfl ?_|refine zN ?_|refine zO ?_|refine zP ?_|refine zQ ?_)
    refine Zgn [(7, 7), (17, 36)] (by kernel_rfl) (fun _ : Unit => True) (fun _ => own 3 1 (.slice da (halfD key s i).length dc) (halfD key s i).length ((halfD key s i).map nv) :: cl b2 (key.map u8b).toArray 24 :: L) (fun _ => [(7, nv (halfF key s i))]) ?_ ?_
    · cases s with
      | true =>
        refine Zge rfl ?_
        have e : halfF key true i = (key.getD (16 + i) 0#8).toNat := by unfold halfF; rw [if_pos rfl]
        rw [e]
        repeat (first|refine zA ?_|refine zB ?_|refine zC ?_|refine zD ?_|refine zE ?_|refine zF ?_|refine zG ?_|refine zH ?_|refine zI ?_|refine zJ ?_|refine zK ?_|refine zL ?_|refine zM rfl ?_|refine zN ?_|refine zO ?_|refine zP ?_|refine zQ ?_)
        refine Zgb ?_
        first|refine Zhg (Zat rfl) ?_|refine Zhg (Zar rfl) ?_
        first|refine Zhg (Zma (a := 16) rfl rfl) ?_|refine Zhg (Zbg rfl rfl) ?_
        first|refine Zhg (Zl5 (n := 16 + i) rfl (int_eq (by push_cast; omega))) ?_|refine Zhg (Zl3 (n := 16 + i) rfl (int_eq (by push_cast; omega))) ?_
        refine Zhp rfl (by repeat constructor) (hg2 hA) ?_
        refine Zhg (Zjt rfl) ?_
        first|refine Zhg (Zaz rfl) ?_|refine Zhg (Zas rfl) ?_
        refine Zg3 ?_
        repeat (first|refine zA ?_|refine zB ?_|refine zC ?_|refine zD ?_|refine zE ?_|refine zF ?_|refine zG ?_|refine zH ?_|refine zI ?_|refine zJ ?_|refine zK ?_|refine zL ?_|refine zM rfl ?_|refine zN ?_|refine zO ?_|refine zP ?_|refine zQ ?_)
        exact Zgk () trivial (by exact Imp.arr (by repeat (first|exact Arr.nil|exact Arr.stop|refine Arr.cons (by repeat constructor) ?_|refine Arr.skip ?_))) ⟨rfl, trivial⟩
      | false =>
        refine Zgf rfl ?_
        by_cases h3 : i % 4 = 3
        · have e : halfF key false i = (key.getD i 0#8).toNat % 16 := by unfold halfF; rw [if_neg (by decide), if_pos h3]
          rw [e]
          repeat (first|refine zA ?_|refine zB ?_|refine zC ?_|refine zD ?_|refine zE ?_|refine zF ?_|refine zG ?_|refine zH ?_|refine zI ?_|refine zJ ?_|refine zK ?_|refine zL ?_|refine zM rfl ?_|refine zN ?_|refine zO ?_|refine zP ?_|refine zQ ?_)
          refine Zgb ?_
          first|refine Zhg (Zat rfl) ?_|refine Zhg (Zar rfl) ?_
          first|refine Zhg (Zme (b := 4) rfl rfl) ?_|refine Zhg (Zbl rfl rfl) ?_
          first|refine Zhg (Zmj (b := 3) rfl rfl) ?_|refine Zhg (Zbr rfl rfl) ?_
          refine Zhm 24 rfl (decide_eq_true (h3)) ?_
          refine Zg3 ?_
          repeat (first|refine zA ?_|refine zB ?_|refine zC ?_|refine zD ?_|refine zE ?_|refine zF ?_|refine zG ?_|refine zH ?_|refine zI ?_|refine zJ ?_|refine zK ?_|refine zL ?_|refine zM rfl ?_|refine zN ?_|refine zO ?_|refine zP ?_|refine zQ ?_)
          refine Zge rfl ?_
          repeat (first|refine zA ?_|refine zB ?_|refine zC ?_|refine zD ?_|refine zE ?_|refine zF ?_|refine zG ?_|refine zH ?_|refine zI ?_|refine zJ ?_|refine zK ?_|refine zL ?_|refine zM rfl ?_|refine zN ?_|refine zO ?_|refine zP ?_|refine zQ ?_)
          refine Zgb ?_
          first|refine Zhg (Zat rfl) ?_|refine Zhg (Zar rfl) ?_
          first|refine Zhg (Zme (b := 16) rfl rfl) ?_|refine Zhg (Zbl rfl rfl) ?_
          first|refine Zhg (Zaz rfl) ?_|refine Zhg (Zas rfl) ?_
          refine Zg3 ?_
          repeat (first|refine zA ?_|refine zB ?_|refine zC ?_|refine zD ?_|refine zE ?_|refine zF ?_|refine zG ?_|refine zH ?_|refine zI ?_|refine zJ ?_|refine zK ?_|refine zL ?_|refine zM rfl ?_|refine zN ?_|refine zO ?_|refine zP ?_|refine zQ ?_)
          exact Zgk () trivial (by exact Imp.arr (by repeat (first|exact Arr.nil|exact Arr.stop|refine Arr.cons (by repeat constructor) ?_|refine Arr.skip ?_))) ⟨rfl, trivial⟩
        · repeat (first|refine zA ?_|refine zB ?_|refine zC ?_|refine zD ?_|refine zE ?_|refine zF ?_|refine zG ?_|refine zH ?_|refine zI ?_|refine zJ ?_|refine zK ?_|refine zL ?_|refine zM rfl ?_|refine zN ?_|refine zO ?_|refine zP ?_|refine zQ ?_)
          refine Zgb ?_
          first|refine Zhg (Zat rfl) ?_|refine Zhg (Zar rfl) ?_
          first|refine Zhg (Zme (b := 4) rfl rfl) ?_|refine Zhg (Zbl rfl rfl) ?_
          first|refine Zhg (Zmj (b := 3) rfl rfl) ?_|refine Zhg (Zbr rfl rfl) ?_
          refine Zhn 24 rfl (decide_eq_false (h3)) ?_
          refine Zg3 ?_
          repeat (first|refine zA ?_|refine zB ?_|refine zC ?_|refine zD ?_|refine zE ?_|refine zF ?_|refine zG ?_|refine zH ?_|refine zI ?_|refine zJ ?_|refine zK ?_|refine zL ?_|refine zM rfl ?_|refine zN ?_|refine zO ?_|refine zP ?_|refine zQ ?_)
          refine Zgf rfl ?_
          by_cases h0 : i % 4 = 0
          · by_cases hp : 0 < i
            · have e : halfF key false i = (key.getD i 0#8).toNat / 4 * 4 := by unfold halfF; rw [if_neg (by decide), if_neg h3, if_pos ⟨h0, hp⟩]
              rw [e]
              repeat (first|refine zA ?_|refine zB ?_|refine zC ?_|refine zD ?_|refine zE ?_|refine zF ?_|refine zG ?_|refine zH ?_|refine zI ?_|refine zJ ?_|refine zK ?_|refine zL ?_|refine zM rfl ?_|refine zN ?_|refine zO ?_|refine zP ?_|refine zQ ?_)
              refine Zgb ?_
              first|refine Zhg (Zat rfl) ?_|refine Zhg (Zar rfl) ?_
              first|refine Zhg (Zme (b := 4) rfl rfl) ?_|refine Zhg (Zbl rfl rfl) ?_
              first|refine Zhg (Zmj (b := 0) rfl rfl) ?_|refine Zhg (Zbr rfl rfl) ?_
              refine Zhm 29 rfl (decide_eq_true (h0)) ?_
              first|refine Zhg (Zau rfl) ?_|refine Zhg (Zar rfl) ?_
              first|refine Zhi rfl ?_|refine Zhj rfl ?_|(refine Zhh rfl ?_; (first|refine Zhg (Zat rfl) ?_|refine Zhg (Zar rfl) ?_))
              first|refine Zhi rfl ?_|refine Zhj rfl ?_|(refine Zhh rfl ?_; (first|refine Zhg (Zmh (b := 0) rfl rfl) ?_|refine Zhg (Zbp rfl rfl) ?_))
              refine Zhm 32 rfl (decide_eq_true (hp)) ?_
              first|refine Zhg (Zdz rfl rfl) ?_|refine Zhg (Zd0 rfl rfl) ?_|refine Zhg (Za8 rfl rfl) ?_|refine Zhg (Za9 rfl rfl) ?_|refine Zhg (Za6 rfl rfl) ?_|refine Zhg (Za7 rfl rfl) ?_
              refine Zg3 ?_
              repeat (first|refine zA ?_|refine zB ?_|refine zC ?_|refine zD ?_|refine zE ?_|refine zF ?_|refine zG ?_|refine zH ?_|refine zI ?_|refine zJ ?_|refine zK ?_|refine zL ?_|refine zM rfl ?_|refine zN ?_|refine zO ?_|refine zP ?_|refine zQ ?_)
              refine Zge rfl ?_
              repeat (first|refine zA ?_|refine zB ?_|refine zC ?_|refine zD ?_|refine zE ?_|refine zF ?_|refine zG ?_|refine zH ?_|refine zI ?_|refine zJ ?_|refine zK ?_|refine zL ?_|refine zM rfl ?_|refine zN ?_|refine zO ?_|refine zP ?_|refine zQ ?_)
              refine Zgb ?_
              first|refine Zhg (Zat rfl) ?_|refine Zhg (Zar rfl) ?_
              first|refine Zhg (Zmd (b := 4) rfl rfl) ?_|refine Zhg (Zbj rfl rfl) ?_
              first|refine Zhg (Zmc (b := 4) rfl rfl) ?_|refine Zhg (Zbi rfl rfl) ?_
              first|refine Zhg (Zaz rfl) ?_|refine Zhg (Zas rfl) ?_
              refine Zg3 ?_
              repeat (first|refine zA ?_|refine zB ?_|refine zC ?_|refine zD ?_|refine zE ?_|refine zF ?_|refine zG ?_|refine zH ?_|refine zI ?_|refine zJ ?_|refine zK ?_|refine zL ?_|refine zM rfl ?_|refine zN ?_|refine zO ?_|refine zP ?_|refine zQ ?_)
              exact Zgk () trivial (by exact Imp.arr (by repeat (first|exact Arr.nil|exact Arr.stop|refine Arr.cons (by repeat constructor) ?_|refine Arr.skip ?_))) ⟨rfl, trivial⟩
            · have e : halfF key false i = (key.getD i 0#8).toNat := by unfold halfF; rw [if_neg (by decide), if_neg h3, if_neg (fun h => hp h.2)]
              rw [e]
              repeat (first|refine zA ?_|refine zB ?_|refine zC ?_|refine zD ?_|refine zE ?_|refine zF ?_|refine zG ?_|refine zH ?_|refine zI ?_|refine zJ ?_|refine zK ?_|refine zL ?_|refine zM rfl ?_|refine zN ?_|refine zO ?_|refine zP ?_|refine zQ ?_)
              refine Zgb ?_
              first|refine Zhg (Zat rfl) ?_|refine Zhg (Zar rfl) ?_
              first|refine Zhg (Zme (b := 4) rfl rfl) ?_|refine Zhg (Zbl rfl rfl) ?_
              first|refine Zhg (Zmj (b := 0) rfl rfl) ?_|refine Zhg (Zbr rfl rfl) ?_
              refine Zhm 29 rfl (decide_eq_true (h0)) ?_
              first|refine Zhg (Zau rfl) ?_|refine Zhg (Zar rfl) ?_
              first|refine Zhi rfl ?_|refine Zhj rfl ?_|(refine Zhh rfl ?_; (first|refine Zhg (Zat rfl) ?_|refine Zhg (Zar rfl) ?_))
              first|refine Zhi rfl ?_|refine Zhj rfl ?_|(refine Zhh rfl ?_; (first|refine Zhg (Zmh (b := 0) rfl rfl) ?_|refine Zhg (Zbp rfl rfl) ?_))
              refine Zhn 32 rfl (decide_eq_false (hp)) ?_
              first|refine Zhg (Zdz rfl rfl) ?_|refine Zhg (Zd0 rfl rfl) ?_|refine Zhg (Za8 rfl rfl) ?_|refine Zhg (Za9 rfl rfl) ?_|refine Zhg (Za6 rfl rfl) ?_|refine Zhg (Za7 rfl rfl) ?_
              refine Zg3 ?_
              repeat (first|refine zA ?_|refine zB ?_|refine zC ?_|refine zD ?_|refine zE ?_|refine zF ?_|refine zG ?_|refine zH ?_|refine zI ?_|refine zJ ?_|refine zK ?_|refine zL ?_|refine zM rfl ?_|refine zN ?_|refine zO ?_|refine zP ?_|refine zQ ?_)
              refine Zgf rfl ?_
              repeat (first|refine zA ?_|refine zB ?_|refine zC ?_|refine zD ?_|refine zE ?_|refine zF ?_|refine zG ?_|refine zH ?_|refine zI ?_|refine zJ ?_|refine zK ?_|refine zL ?_|refine zM rfl ?_|refine zN ?_|refine zO ?_|refine zP ?_|refine zQ ?_)
              exact Zgk () trivial (by exact Imp.arr (by repeat (first|exact Arr.nil|exact Arr.stop|refine Arr.cons (by repeat constructor) ?_|refine Arr.skip ?_))) ⟨rfl, trivial⟩
          · have e : halfF key false i = (key.getD i 0#8).toNat := by unfold halfF; rw [if_neg (by decide), if_neg h3, if_neg (fun h => h0 h.1)]
            rw [e]
            repeat (first|refine zA ?_|refine zB ?_|refine zC ?_|refine zD ?_|refine zE ?_|refine zF ?_|refine zG ?_|refine zH ?_|refine zI ?_|refine zJ ?_|refine zK ?_|refine zL ?_|refine zM rfl ?_|refine zN ?_|refine zO ?_|refine zP ?_|refine zQ ?_)
            refine Zgb ?_
            first|refine Zhg (Zat rfl) ?_|refine Zhg (Zar rfl) ?_
            first|refine Zhg (Zme (b := 4) rfl rfl) ?_|refine Zhg (Zbl rfl rfl) ?_
            first|refine Zhg (Zmj (b := 0) rfl rfl) ?_|refine Zhg (Zbr rfl rfl) ?_
            refine Zhn 29 rfl (decide_eq_false (h0)) ?_
            first|refine Zhg (Zau rfl) ?_|refine Zhg (Zar rfl) ?_
            first|refine Zhi rfl ?_|refine Zhj rfl ?_|(refine Zhh rfl ?_; (first|refine Zhg (Zat rfl) ?_|refine Zhg (Zar rfl) ?_))
            first|refine Zhi rfl ?_|refine Zhj rfl ?_|(refine Zhh rfl ?_; (first|refine Zhg (Zmh (b := 0) rfl rfl) ?_|refine Zhg (Zbp rfl rfl) ?_))
            first|refine Zhg (Zdz rfl rfl) ?_|refine Zhg (Zd0 rfl rfl) ?_|refine Zhg (Za8 rfl rfl) ?_|refine Zhg (Za9 rfl rfl) ?_|refine Zhg (Za6 rfl rfl) ?_|refine Zhg (Za7 rfl rfl) ?_
            refine Zg3 ?_
            repeat (first|refine zA ?_|refine zB ?_|refine zC ?_|refine zD ?_|refine zE ?_|refine zF ?_|refine zG ?_|refine zH ?_|refine zI ?_|refine zJ ?_|refine zK ?_|refine zL ?_|refine zM rfl ?_|refine zN ?_|refine zO ?_|refine zP ?_|refine zQ ?_)
            refine Zgf rfl ?_
            repeat (first|refine zA ?_|refine zB ?_|refine zC ?_|refine zD ?_|refine zE ?_|refine zF ?_|refine zG ?_|refine zH ?_|refine zI ?_|refine zJ ?_|refine zK ?_|refine zL ?_|refine zM rfl ?_|refine zN ?_|refine zO ?_|refine zP ?_|refine zQ ?_)
            exact Zgk () trivial (by exact Imp.arr (by repeat (first|exact Arr.nil|exact Arr.stop|refine Arr.cons (by repeat constructor) ?_|refine Arr.skip ?_))) ⟨rfl, trivial⟩
    intro _ u2 _
    repeat (first|refine zA ?_|refine zB ?_|refine zC ?_|refine zD ?_|refine zE ?_|refine zF ?_|refine zG ?_|refine zH ?_|refine zI ?_|refine zJ ?_|refine zK ?_|refine zL ?_|refine zM rfl ?_|refine zN ?_|refine zO ?_|refine zP ?_|refine zQ ?_)
    refine Zgb ?_
    first|refine Zhg (Zaw rfl) ?_|refine Zhg (Zar rfl) ?_
    first|refine Zhg (Zat rfl) ?_|refine Zhg (Zar rfl) ?_
    refine Zh7 (cs := #[.int .i64 _]) (by omega) (by omega) rfl ?_; intro b39
    refine Zia rfl rfl (by repeat constructor) (Rd.cl (xs := [nv (halfF key s i)]) (by repeat constructor) rfl (by first|rfl|omega|(rw [szL]; omega)|exact Nat.le_of_ble_eq_true rfl|(simp; done)|(simp; omega)) rfl) (by first|rfl|exact oneM_u8 _|exact oneL_u8 _|(simp [oneC]; done)) (by omega) (by first|omega|exact Nat.le_of_ble_eq_true rfl|(simp; done)|(simp; omega)|decide) ?_; intro a3 c3
    first|refine Zhg (Za2 rfl) ?_|refine Zhg (Zas rfl) ?_
    refine Zg3 ?_
    repeat (first|refine zA ?_|refine zB ?_|refine zC ?_|refine zD ?_|refine zE ?_|refine zF ?_|refine zG ?_|refine zH ?_|refine zI ?_|refine zJ ?_|refine zK ?_|refine zL ?_|refine zM rfl ?_|refine zN ?_|refine zO ?_|refine zP ?_|refine zQ ?_)
    refine Zgb ?_
    first|refine Zhg (Zat rfl) ?_|refine Zhg (Zar rfl) ?_
    first|refine Zhg (Zma (b := 1) rfl rfl) ?_|refine Zhg (Zbg rfl rfl) ?_
    first|refine Zhg (Zaz rfl) ?_|refine Zhg (Zas rfl) ?_
    refine Zg3 ?_
    repeat (first|refine zA ?_|refine zB ?_|refine zC ?_|refine zD ?_|refine zE ?_|refine zF ?_|refine zG ?_|refine zH ?_|refine zI ?_|refine zJ ?_|refine zK ?_|refine zL ?_|refine zM rfl ?_|refine zN ?_|refine zO ?_|refine zP ?_|refine zQ ?_)
    refine Zgl (i + 1, a3, c3) (by first|omega|(dsimp only; omega)|(simp only []; omega)) (by first|omega|(dsimp only; omega)|(simp only []; omega)) ?_ ?_
    · dsimp only; rw [halfD_succ, List.length_append, List.map_append]; exact Imp.arr (by repeat (first|exact Arr.nil|exact Arr.stop|refine Arr.cons (by repeat constructor) ?_|refine Arr.skip ?_))
    · dsimp only; rw [halfD_succ, List.length_append]; exact ⟨rfl, rfl, trivial⟩
  · have hie : i = 16 := by omega
    subst hie
    repeat (first|refine zA ?_|refine zB ?_|refine zC ?_|refine zD ?_|refine zE ?_|refine zF ?_|refine zG ?_|refine zH ?_|refine zI ?_|refine zJ ?_|refine zK ?_|refine zL ?_|refine zM rfl ?_|refine zN ?_|refine zO ?_|refine zP ?_|refine zQ ?_)
    refine Zgb ?_
    first|refine Zhg (Zaw rfl) ?_|refine Zhg (Zar rfl) ?_
    first|refine Zhg (Za2 rfl) ?_|refine Zhg (Zas rfl) ?_
    refine Zg3 ?_
    repeat (first|refine zA ?_|refine zB ?_|refine zC ?_|refine zD ?_|refine zE ?_|refine zF ?_|refine zG ?_|refine zH ?_|refine zI ?_|refine zJ ?_|refine zK ?_|refine zL ?_|refine zM rfl ?_|refine zN ?_|refine zO ?_|refine zP ?_|refine zQ ?_)
    refine rx1 (Zhc rfl (Zg7)) ?_
    exact ⟨_, ⟨da, dc, rfl, rfl⟩, by exact Imp.arr (by repeat (first|exact Arr.nil|exact Arr.stop|refine Arr.cons (by repeat constructor) ?_|refine Arr.skip ?_))⟩
end Go.Sl

/- the document's answer for the code: Sum is the code. -/
set_option maxHeartbeats 4000000
set_option maxRecDepth 10000
set_option linter.unusedVariables false
set_option linter.unusedSimpArgs false
namespace Go.Sl
open Go Go.Proofs
attribute [local irreducible] cl pt own old pur ex all den denOps denS xOps xC cX CX xthen xblk xcut xloop retX resX Calls PV Rd Con
theorem digB_val : ∀ (n : Nat) (d : List Nat), Dig d → leN ((List.range n).map fun j => BitVec.ofInt 8 ((d.getD j 0 : Nat) : Int)) = valD d % 256 ^ n
  | 0, d, _ => by simp [leN, Nat.mod_one]
  | n + 1, [], h => by
    have : ∀ m, leN ((List.range m).map fun j => BitVec.ofInt 8 ((([] : List Nat).getD j 0 : Nat) : Int)) = 0 := by
      intro m
      have e : ((List.range m).map fun j => BitVec.ofInt 8 ((([] : List Nat).getD j 0 : Nat) : Int)) = List.replicate m 0#8 := by
        apply List.ext_getElem (by simp)
        intro j h1 h2
        simp
      rw [e, leN_zeros]
    rw [this]; simp [valD]
  | n + 1, x :: d, h => by
    have hx := h x (by simp)
    have ih := digB_val n d (fun y hy => h y (by simp [hy]))
    rw [List.range_succ_eq_map, List.map_cons, List.map_map]
    show (BitVec.ofInt 8 ((x : Nat) : Int)).toNat + 256 * leN ((List.range n).map fun j => BitVec.ofInt 8 ((d.getD j 0 : Nat) : Int)) = _
    rw [ih, BitVec.toNat_ofInt]
    simp only [valD]
    have hp : 0 < 256 ^ n := Nat.pow_pos (by omega)
    have e1 : ((x : Nat) : Int) % ((2 ^ 8 : Nat) : Int) = x := by omega
    have e2 : (x + 256 * valD d) % 256 ^ (n + 1) = x + 256 * (valD d % 256 ^ n) := by
      rw [Nat.pow_succ, Nat.mul_comm (256 ^ n) 256, Nat.mod_mul, Nat.add_mul_mod_self_left, Nat.mod_eq_of_lt hx, Nat.add_mul_div_left _ _ (by omega), Nat.div_eq_of_lt hx, Nat.zero_add]
    rw [e1, e2]
    simp
def outD (d : List Nat) (j : Nat) : Byte := BitVec.ofInt 8 ((d.getD j 0 : Nat) : Int)
theorem outD_code (key m : List Byte) (hk : key.length = 32) (d : List Nat) (hd : Dig d) (hv : valD d = polyN key m + sN key) : (List.range 16).map (outD d) = code key m := by
  apply leN_inj (by rw [code_len]; simp)
  rw [code_val key m hk]
  have := digB_val 16 d hd
  rw [show (256 : Nat) ^ 16 = 340282366920938463463374607431768211456 by decide, hv] at this
  exact this
theorem uptoT_over (N : Nat) (d : List Nat) (i : Nat) (h : d.length ≤ i) : uptoT N (outD d) i = uptoT N (outD d) N := by
  apply List.map_congr_left
  intro j hj
  have hj : j < N := by simpa using hj
  by_cases h1 : j < i
  · rw [if_pos h1, if_pos hj]
  · rw [if_neg h1, if_pos hj]
    unfold outD
    rw [List.getD_eq_getElem?_getD, List.getElem?_eq_none (by omega)]; rfl
theorem accN_lt (R : Nat) (m : List Byte) (i : Nat) : accN R m i < 1361129467683753853853498429727072845819 := by
  unfold accN finN
  have key2 : ∀ (m : List Byte) (s : Nat × List Byte), s.1 < 1361129467683753853853498429727072845819 → (m.foldl (stepN R) s).1 < 1361129467683753853853498429727072845819 := by
    intro m
    induction m with
    | nil => exact fun _ h => h
    | cons x m ih =>
      intro s hs
      refine ih _ ?_
      unfold stepN
      split
      · exact Nat.mod_lt _ (by omega)
      · exact hs
  split
  · exact key2 _ _ (by show 0 < _; omega)
  · exact Nat.mod_lt _ (by omega)
theorem accN_zero (R : Nat) (m : List Byte) : accN R m 0 = 0 := by unfold accN; rw [List.take_zero]; rfl
attribute [local irreducible] accN polyN sN rN code halfD
theorem rsum_x {L : List Asrt} (key : List Byte) (hk : key.length = 32) {v : Value} {m : List Byte} (h : Bs L v m) (hm : m.length ≤ 140737488355328) :
    Con Try.prog 14 [.agg (key.map u8b).toArray, v] L (fun r M => r = .agg ((code key m).map u8b).toArray ∧ L = M) := by
  refine Con.get (fun w0 w F H => h.sh _ _ _ H) ?_
  rintro ⟨va, vc, rfl, hvc, hvcm⟩
  have hh := halfD_len key false 16
  have hh2 := halfD_len key true 16
  have hhd := halfD_dig key false 16
  have hhv := halfD_false key hk
  generalize hrd : halfD key false 16 = rd at hh hhd hhv
  have hR : valD rd < 256 ^ 16 := valD_le hhd (by omega)
  refine fn_x Try.func14 rfl rfl rfl Try.mixed (by kernel_rfl) ?_
  intro w0
  repeat (first|refine zA ?_|refine zB ?_|refine zC ?_|refine zD ?_|refine zE ?_|refine zF ?_|refine zG ?_|refine zH ?_|refine zI ?_|refine zJ ?_|refine zK ?_|refine zL ?_|refine zM rfl ?_|refine zN ?_|refine zO ?_|refine zP ?_|refine zQ ?_)
  refine Zgb ?_
  refine Zh5 rfl ?_; intro b2
  refine Zhz (cs := ((List.replicate 16 0#8).map u8b).toArray) rfl ?_; intro b4
  refine Zg3 ?_
  repeat (first|refine zA ?_|refine zB ?_|refine zC ?_|refine zD ?_|refine zE ?_|refine zF ?_|refine zG ?_|refine zH ?_|refine zI ?_|refine zJ ?_|refine zK ?_|refine zL ?_|refine zM rfl ?_|refine zN ?_|refine zO ?_|refine zP ?_|refine zQ ?_)
  refine Zgb ?_
  first|refine Zhr rfl (by repeat constructor) (by first|rfl|omega|(rw [szL]; omega)|exact Nat.le_of_ble_eq_true rfl|(simp; done)|(simp; omega)) ?_|refine Zhq rfl (by repeat constructor) (by first|rfl|omega|(rw [szL]; omega)|exact Nat.le_of_ble_eq_true rfl|(simp; done)|(simp; omega)) rfl ?_
  refine Zh8 rfl (by kernel_rfl) (half_x key hk false) rfl (by repeat (first|exact Take.nil|exact Take.all|(apply Take.cons; (next => (repeat constructor); done))|apply Take.skip)) ?_
  rintro _ _ ⟨ra, rc, rfl, rfl⟩
  refine Zg2 (by repeat (first|exact App.nil|apply App.cons|(apply App.flip; first|exact App.nil|apply App.cons)|exact App.any)) ?_
  first|refine Zhg (Za2 rfl) ?_|refine Zhg (Zas rfl) ?_
  refine Zg3 ?_
  repeat (first|refine zA ?_|refine zB ?_|refine zC ?_|refine zD ?_|refine zE ?_|refine zF ?_|refine zG ?_|refine zH ?_|refine zI ?_|refine zJ ?_|refine zK ?_|refine zL ?_|refine zM rfl ?_|refine zN ?_|refine zO ?_|refine zP ?_|refine zQ ?_)
  rw [hrd]
  repeat (first|refine zA ?_|refine zB ?_|refine zC ?_|refine zD ?_|refine zE ?_|refine zF ?_|refine zG ?_|refine zH ?_|refine zI ?_|refine zJ ?_|refine zK ?_|refine zL ?_|refine zM rfl ?_|refine zN ?_|refine zO ?_|refine zP ?_|refine zQ ?_)
  refine Zgb ?_
  refine Zh7 (cs := #[.int .i64 _]) (by omega) (by omega) rfl ?_; intro b15
  first|refine Zhg (Za2 rfl) ?_|refine Zhg (Zas rfl) ?_
  refine Zg3 ?_
  repeat (first|refine zA ?_|refine zB ?_|refine zC ?_|refine zD ?_|refine zE ?_|refine zF ?_|refine zG ?_|refine zH ?_|refine zI ?_|refine zJ ?_|refine zK ?_|refine zL ?_|refine zM rfl ?_|refine zN ?_|refine zO ?_|refine zP ?_|refine zQ ?_)
  refine Zgb ?_
  first|refine Zhg (Zaz rfl) ?_|refine Zhg (Zas rfl) ?_
  refine Zg3 ?_
  repeat (first|refine zA ?_|refine zB ?_|refine zC ?_|refine zD ?_|refine zE ?_|refine zF ?_|refine zG ?_|refine zH ?_|refine zI ?_|refine zJ ?_|refine zK ?_|refine zL ?_|refine zM rfl ?_|refine zN ?_|refine zO ?_|refine zP ?_|refine zQ ?_)
  refine Zgo [(6, 9), (16, 51)] (by kernel_rfl) (fun s : Nat × Option Addr × Nat × List Nat => Dig s.2.2.2 ∧ s.2.2.2.length ≤ 17 ∧ valD s.2.2.2 = accN (rN key) m s.1 ∧ (((m.take s.1).foldl (stepN (rN key)) (0, [])).2 = [] ∨ m.length ≤ s.1) ∧ s.1 ≤ m.length + 16)
    (fun s => own 3 1 (.slice s.2.1 s.2.2.2.length s.2.2.1) s.2.2.2.length (s.2.2.2.map nv) :: own 3 1 (.slice ra rd.length rc) rd.length (rd.map nv) :: cl b2 (key.map u8b).toArray 24 :: cl b4 ((List.replicate 16 0#8).map u8b).toArray 28 :: L) (fun s => [(7, nv s.1), (6, .slice s.2.1 s.2.2.2.length s.2.2.1)]) (fun s => m.length + 16 - s.1)
    (0, some ⟨b15, 0, none⟩, 1, [0])
    ⟨by intro x hx; simp at hx; omega, by simp, by dsimp only; rw [accN_zero]; rfl, .inl rfl, by dsimp only; omega⟩ (Imp.trans (Imp.arr (N := cl b15 #[.int .i64 0] 3 :: own 3 1 (.slice ra rd.length rc) rd.length (rd.map nv) :: cl b2 (key.map u8b).toArray 24 :: cl b4 ((List.replicate 16 0#8).map u8b).toArray 28 :: L) (by repeat (first|exact Arr.nil|exact Arr.stop|refine Arr.cons (by repeat constructor) ?_|refine Arr.skip ?_))) (Imp.own_mk (by simp) (by simp) rfl rfl)) ⟨rfl, rfl, trivial⟩ ?_
  rintro ⟨i, aa, ca, ac⟩ u ⟨had, hal, hav, hst, hib⟩
  dsimp only at had hal hav hst hib ⊢
  obtain ⟨E, hEe⟩ : ∃ E, E = own 3 1 (.slice aa ac.length ca) ac.length (ac.map nv) :: own 3 1 (.slice ra rd.length rc) rd.length (rd.map nv) :: cl b2 (key.map u8b).toArray 24 :: cl b4 ((List.replicate 16 0#8).map u8b).toArray 28 :: L := ⟨_, rfl⟩
  have hE : Imp E (own 3 1 (.slice ra rd.length rc) rd.length (rd.map nv) :: cl b2 (key.map u8b).toArray 24 :: cl b4 ((List.replicate 16 0#8).map u8b).toArray 28 :: L) := by rw [hEe]; exact Imp.tail
  have hrda : Rd E 1 (.slice aa ac.length ca) ac.length (ac.map nv) := by rw [hEe]; exact rd_own .here
  have hEL : Imp E L := hE.trans (Imp.arr (by repeat (first|exact Arr.nil|exact Arr.stop|refine Arr.cons (by repeat constructor) ?_|refine Arr.skip ?_)))
  rw [← hEe]
  repeat (first|refine zA ?_|refine zB ?_|refine zC ?_|refine zD ?_|refine zE ?_|refine zF ?_|refine zG ?_|refine zH ?_|refine zI ?_|refine zJ ?_|refine zK ?_|refine zL ?_|refine zM rfl ?_|refine zN ?_|refine zO ?_|refine zP ?_|refine zQ ?_)
  refine Zgb ?_
  first|refine Zhg (Zat rfl) ?_|refine Zhg (Zar rfl) ?_
  first|refine Zhg (Zaw rfl) ?_|refine Zhg (Zar rfl) ?_
  first|refine Zhg (Zcr rfl) ?_|refine Zhg (Zct) ?_|refine Zhg (Zcu rfl) ?_
  first|refine Zhg (Zmf rfl rfl) ?_|refine Zhg (Zbn rfl rfl) ?_
  refine Zg3 ?_
  repeat (first|refine zA ?_|refine zB ?_|refine zC ?_|refine zD ?_|refine zE ?_|refine zF ?_|refine zG ?_|refine zH ?_|refine zI ?_|refine zJ ?_|refine zK ?_|refine zL ?_|refine zM rfl ?_|refine zN ?_|refine zO ?_|refine zP ?_|refine zQ ?_)
  refine Zgg rfl (fun hA => ?_) (fun hA => ?_)
  · have h0 : ((m.take i).foldl (stepN (rN key)) (0, [])).2 = [] := by
      rcases hst with h1|h1
      · exact h1
      · omega
    repeat (first|refine zA ?_|refine zB ?_|refine zC ?_|refine zD ?_|refine zE ?_|refine zF ?_|refine zG ?_|refine zH ?_|refine zI ?_|refine zJ ?_|refine zK ?_|refine zL ?_|refine zM rfl ?_|refine zN ?_|refine zO ?_|refine zP ?_|refine zQ ?_)
    refine Zgb ?_
    first|refine Zhg (Za2 rfl) ?_|refine Zhg (Zas rfl) ?_
    refine Zg3 ?_
    repeat (first|refine zA ?_|refine zB ?_|refine zC ?_|refine zD ?_|refine zE ?_|refine zF ?_|refine zG ?_|refine zH ?_|refine zI ?_|refine zJ ?_|refine zK ?_|refine zL ?_|refine zM rfl ?_|refine zN ?_|refine zO ?_|refine zP ?_|refine zQ ?_)
    refine Zgb ?_
    first|refine Zhg (Zat rfl) ?_|refine Zhg (Zar rfl) ?_
    first|refine Zhg (Zaz rfl) ?_|refine Zhg (Zas rfl) ?_
    refine Zg3 ?_
    repeat (first|refine zA ?_|refine zB ?_|refine zD ?_|refine zE ?_|refine zF ?_|refine zG ?_|refine zH ?_|refine zI ?_|refine zJ ?_|refine zK ?_|refine zL ?_|refine zM rfl ?_|refine zN ?_|refine zO ?_|refine zP ?_|refine zQ ?_)
    refine Zgn [(8, 9), (23, 42)] (by kernel_rfl) (fun t : Option Addr × Nat => True)
      (fun t => own 3 1 (.slice t.1 (digL ((m.drop i).take 16)).length t.2) (digL ((m.drop i).take 16)).length ((digL ((m.drop i).take 16)).map nv) :: E)
      (fun t => [(8, .slice t.1 (digL ((m.drop i).take 16)).length t.2)]) ?_ ?_
    · repeat (first|refine zA ?_|refine zB ?_|refine zC ?_|refine zD ?_|refine zE ?_|refine zF ?_|refine zG ?_|refine zH ?_|refine zI ?_|refine zJ ?_|refine zK ?_|refine zL ?_|refine zM rfl ?_|refine zN ?_|refine zO ?_|refine zP ?_|refine zQ ?_)
      refine Zgo [(8, 9), (23, 42)] (by kernel_rfl) (fun t : Nat × Option Addr × Nat => t.1 ≤ 16 ∧ i + t.1 ≤ m.length)
        (fun t => own 3 1 (.slice t.2.1 (digL ((m.drop i).take t.1)).length t.2.2) (digL ((m.drop i).take t.1)).length ((digL ((m.drop i).take t.1)).map nv) :: E)
        (fun t => [(9, nv (i + t.1)), (8, .slice t.2.1 (digL ((m.drop i).take t.1)).length t.2.2)]) (fun t => 16 - t.1) (0, none, 0) ⟨by omega, by dsimp only; omega⟩ Imp.own_nil ⟨rfl, rfl, trivial⟩ ?_
      rintro ⟨j, da, dc⟩ u2 ⟨hj, hjl⟩
      dsimp only at hj hjl ⊢
      have hdl : (digL ((m.drop i).take j)).length = j := by simp [digL]; omega
      by_cases hB : i + j < m.length
      · by_cases hC : i + j < i + 16
        · repeat (first|refine zA ?_|refine zB ?_|refine zC ?_|refine zD ?_|refine zE ?_|refine zF ?_|refine zG ?_|refine zH ?_|refine zI ?_|refine zJ ?_|refine zK ?_|refine zL ?_|refine zM rfl ?_|refine zN ?_|refine zO ?_|refine zP ?_|refine zQ ?_)
          refine Zgb ?_
          first|refine Zhg (Zat rfl) ?_|refine Zhg (Zar rfl) ?_
          first|refine Zhg (Zaw rfl) ?_|refine Zhg (Zar rfl) ?_
          first|refine Zhg (Zcr rfl) ?_|refine Zhg (Zct) ?_|refine Zhg (Zcu rfl) ?_
          first|refine Zhg (Zmf rfl rfl) ?_|refine Zhg (Zbn rfl rfl) ?_
          refine Zhm 26 rfl (decide_eq_true (hB)) ?_
          first|refine Zhg (Zau rfl) ?_|refine Zhg (Zar rfl) ?_
          first|refine Zhi rfl ?_|refine Zhj rfl ?_|(refine Zhh rfl ?_; (first|refine Zhg (Zat rfl) ?_|refine Zhg (Zar rfl) ?_))
          first|refine Zhi rfl ?_|refine Zhj rfl ?_|(refine Zhh rfl ?_; (first|refine Zhg (Zat rfl) ?_|refine Zhg (Zar rfl) ?_))
          first|refine Zhi rfl ?_|refine Zhj rfl ?_|(refine Zhh rfl ?_; (first|refine Zhg (Zma (b := 16) rfl rfl) ?_|refine Zhg (Zbg rfl rfl) ?_))
          first|refine Zhi rfl ?_|refine Zhj rfl ?_|(refine Zhh rfl ?_; (first|refine Zhg (Zmf rfl rfl) ?_|refine Zhg (Zbn rfl rfl) ?_))
          refine Zhm 31 rfl (decide_eq_true (hC)) ?_
          first|refine Zhg (Zdz rfl rfl) ?_|refine Zhg (Zd0 rfl rfl) ?_|refine Zhg (Za8 rfl rfl) ?_|refine Zhg (Za9 rfl rfl) ?_|refine Zhg (Za6 rfl rfl) ?_|refine Zhg (Za7 rfl rfl) ?_
          refine Zg3 ?_
          repeat (first|refine zA ?_|refine zB ?_|refine zC ?_|refine zD ?_|refine zE ?_|refine zF ?_|refine zG ?_|refine zH ?_|refine zI ?_|refine zJ ?_|refine zK ?_|refine zL ?_|refine zM rfl ?_|refine zN ?_|refine zO ?_|refine zP ?_|refine zQ ?_)
          refine Zge rfl ?_
          repeat (first|refine zA ?_|refine zB ?_|refine zC ?_|refine zD ?_|refine zE ?_|refine zF ?_|refine zG ?_|refine zH ?_|refine zI ?_|refine zJ ?_|refine zK ?_|refine zL ?_|refine zM rfl ?_|refine zN ?_|refine zO ?_|refine zP ?_|refine zQ ?_)
          refine Zgt (fun F w H => (h.imp (Imp.tail.trans hEL)).some (by omega) H) ?_
          rintro ⟨a1, a2, rfl⟩
          repeat (first|refine zA ?_|refine zB ?_|refine zC ?_|refine zD ?_|refine zE ?_|refine zF ?_|refine zG ?_|refine zH ?_|refine zI ?_|refine zJ ?_|refine zK ?_|refine zL ?_|refine zM rfl ?_|refine zN ?_|refine zO ?_|refine zP ?_|refine zQ ?_)
          refine Zgb ?_
          first|refine Zhg (Zaw rfl) ?_|refine Zhg (Zar rfl) ?_
          first|refine Zhg (Zaw rfl) ?_|refine Zhg (Zar rfl) ?_
          first|refine Zhg (Zat rfl) ?_|refine Zhg (Zar rfl) ?_
          first|refine Zhg (Zl4 rfl rfl) ?_|refine Zhg (Zl1 rfl rfl) ?_
          refine Zic (j := i + j) rfl (h.rd.imp (Imp.tail.trans hEL)) hB (getM hB) ?_
          refine Zhg (Zjt rfl) ?_
          refine Zh7 (cs := #[.int .i64 _]) (by omega) (by omega) rfl ?_; intro b41
          refine Zia rfl rfl (by repeat constructor) (Rd.cl (xs := [nv m[i + j].toNat]) (by repeat constructor) rfl (by first|rfl|omega|(rw [szL]; omega)|exact Nat.le_of_ble_eq_true rfl|(simp; done)|(simp; omega)) rfl) (by first|rfl|exact oneM_u8 _|exact oneL_u8 _|(simp [oneC]; done)) (by omega) (by first|omega|exact Nat.le_of_ble_eq_true rfl|(simp; done)|(simp; omega)|decide) ?_; intro a3 c3
          first|refine Zhg (Za2 rfl) ?_|refine Zhg (Zas rfl) ?_
          refine Zg3 ?_
          repeat (first|refine zA ?_|refine zB ?_|refine zC ?_|refine zD ?_|refine zE ?_|refine zF ?_|refine zG ?_|refine zH ?_|refine zI ?_|refine zJ ?_|refine zK ?_|refine zL ?_|refine zM rfl ?_|refine zN ?_|refine zO ?_|refine zP ?_|refine zQ ?_)
          refine Zgb ?_
          first|refine Zhg (Zat rfl) ?_|refine Zhg (Zar rfl) ?_
          first|refine Zhg (Zma (b := 1) rfl rfl) ?_|refine Zhg (Zbg rfl rfl) ?_
          first|refine Zhg (Zaz rfl) ?_|refine Zhg (Zas rfl) ?_
          refine Zg3 ?_
          repeat (first|refine zA ?_|refine zB ?_|refine zC ?_|refine zD ?_|refine zE ?_|refine zF ?_|refine zG ?_|refine zH ?_|refine zI ?_|refine zJ ?_|refine zK ?_|refine zL ?_|refine zM rfl ?_|refine zN ?_|refine zO ?_|refine zP ?_|refine zQ ?_)
          have e : digL ((m.drop i).take (j + 1)) = digL ((m.drop i).take j) ++ [m[i + j].toNat] := by
            rw [List.take_succ_eq_append_getElem (by simp; omega), digL_app]; simp [digL]
          refine Zgl (j + 1, a3, c3) (by first|omega|(dsimp only; omega)|(simp only []; omega)) ⟨by dsimp only; omega, by dsimp only; omega⟩ ?_ ?_
          · dsimp only; rw [e, List.length_append, List.map_append]; exact Imp.arr (by repeat (first|exact Arr.nil|exact Arr.stop|refine Arr.cons (by repeat constructor) ?_|refine Arr.skip ?_))
          · dsimp only; rw [e, List.length_append]; exact ⟨rfl, rfl, trivial⟩
        · repeat (first|refine zA ?_|refine zB ?_|refine zC ?_|refine zD ?_|refine zE ?_|refine zF ?_|refine zG ?_|refine zH ?_|refine zI ?_|refine zJ ?_|refine zK ?_|refine zL ?_|refine zM rfl ?_|refine zN ?_|refine zO ?_|refine zP ?_|refine zQ ?_)
          refine Zgb ?_
          first|refine Zhg (Zat rfl) ?_|refine Zhg (Zar rfl) ?_
          first|refine Zhg (Zaw rfl) ?_|refine Zhg (Zar rfl) ?_
          first|refine Zhg (Zcr rfl) ?_|refine Zhg (Zct) ?_|refine Zhg (Zcu rfl) ?_
          first|refine Zhg (Zmf rfl rfl) ?_|refine Zhg (Zbn rfl rfl) ?_
          refine Zhm 26 rfl (decide_eq_true (hB)) ?_
          first|refine Zhg (Zau rfl) ?_|refine Zhg (Zar rfl) ?_
          first|refine Zhi rfl ?_|refine Zhj rfl ?_|(refine Zhh rfl ?_; (first|refine Zhg (Zat rfl) ?_|refine Zhg (Zar rfl) ?_))
          first|refine Zhi rfl ?_|refine Zhj rfl ?_|(refine Zhh rfl ?_; (first|refine Zhg (Zat rfl) ?_|refine Zhg (Zar rfl) ?_))
          first|refine Zhi rfl ?_|refine Zhj rfl ?_|(refine Zhh rfl ?_; (first|refine Zhg (Zma (b := 16) rfl rfl) ?_|refine Zhg (Zbg rfl rfl) ?_))
          first|refine Zhi rfl ?_|refine Zhj rfl ?_|(refine Zhh rfl ?_; (first|refine Zhg (Zmf rfl rfl) ?_|refine Zhg (Zbn rfl rfl) ?_))
          refine Zhn 31 rfl (decide_eq_false (hC)) ?_
          first|refine Zhg (Zdz rfl rfl) ?_|refine Zhg (Zd0 rfl rfl) ?_|refine Zhg (Za8 rfl rfl) ?_|refine Zhg (Za9 rfl rfl) ?_|refine Zhg (Za6 rfl rfl) ?_|refine Zhg (Za7 rfl rfl) ?_
          refine Zg3 ?_
          repeat (first|refine zA ?_|refine zB ?_|refine zC ?_|refine zD ?_|refine zE ?_|refine zF ?_|refine zG ?_|refine zH ?_|refine zI ?_|refine zJ ?_|refine zK ?_|refine zL ?_|refine zM rfl ?_|refine zN ?_|refine zO ?_|refine zP ?_|refine zQ ?_)
          refine Zgf rfl ?_
          repeat (first|refine zA ?_|refine zB ?_|refine zC ?_|refine zD ?_|refine zE ?_|refine zF ?_|refine zG ?_|refine zH ?_|refine zI ?_|refine zJ ?_|refine zK ?_|refine zL ?_|refine zM rfl ?_|refine zN ?_|refine zO ?_|refine zP ?_|refine zQ ?_)
          have e : j = 16 := by omega
          subst e
          exact Zgk (da, dc) trivial (by exact Imp.arr (by repeat (first|exact Arr.nil|exact Arr.stop|refine Arr.cons (by repeat constructor) ?_|refine Arr.skip ?_))) ⟨rfl, trivial⟩
      · repeat (first|refine zA ?_|refine zB ?_|refine zC ?_|refine zD ?_|refine zE ?_|refine zF ?_|refine zG ?_|refine zH ?_|refine zI ?_|refine zJ ?_|refine zK ?_|refine zL ?_|refine zM rfl ?_|refine zN ?_|refine zO ?_|refine zP ?_|refine zQ ?_)
        refine Zgb ?_
        first|refine Zhg (Zat rfl) ?_|refine Zhg (Zar rfl) ?_
        first|refine Zhg (Zaw rfl) ?_|refine Zhg (Zar rfl) ?_
        first|refine Zhg (Zcr rfl) ?_|refine Zhg (Zct) ?_|refine Zhg (Zcu rfl) ?_
        first|refine Zhg (Zmf rfl rfl) ?_|refine Zhg (Zbn rfl rfl) ?_
        refine Zhn 26 rfl (decide_eq_false (hB)) ?_
        first|refine Zhg (Zau rfl) ?_|refine Zhg (Zar rfl) ?_
        first|refine Zhi rfl ?_|refine Zhj rfl ?_|(refine Zhh rfl ?_; (first|refine Zhg (Zat rfl) ?_|refine Zhg (Zar rfl) ?_))
        first|refine Zhi rfl ?_|refine Zhj rfl ?_|(refine Zhh rfl ?_; (first|refine Zhg (Zat rfl) ?_|refine Zhg (Zar rfl) ?_))
        first|refine Zhi rfl ?_|refine Zhj rfl ?_|(refine Zhh rfl ?_; (first|refine Zhg (Zma (b := 16) rfl rfl) ?_|refine Zhg (Zbg rfl rfl) ?_))
        first|refine Zhi rfl ?_|refine Zhj rfl ?_|(refine Zhh rfl ?_; (first|refine Zhg (Zmf rfl rfl) ?_|refine Zhg (Zbn rfl rfl) ?_))
        first|refine Zhg (Zdz rfl rfl) ?_|refine Zhg (Zd0 rfl rfl) ?_|refine Zhg (Za8 rfl rfl) ?_|refine Zhg (Za9 rfl rfl) ?_|refine Zhg (Za6 rfl rfl) ?_|refine Zhg (Za7 rfl rfl) ?_
        refine Zg3 ?_
        repeat (first|refine zA ?_|refine zB ?_|refine zC ?_|refine zD ?_|refine zE ?_|refine zF ?_|refine zG ?_|refine zH ?_|refine zI ?_|refine zJ ?_|refine zK ?_|refine zL ?_|refine zM rfl ?_|refine zN ?_|refine zO ?_|refine zP ?_|refine zQ ?_)
        refine Zgf rfl ?_
        repeat (first|refine zA ?_|refine zB ?_|refine zC ?_|refine zD ?_|refine zE ?_|refine zF ?_|refine zG ?_|refine zH ?_|refine zI ?_|refine zJ ?_|refine zK ?_|refine zL ?_|refine zM rfl ?_|refine zN ?_|refine zO ?_|refine zP ?_|refine zQ ?_)
        have e : (m.drop i).take j = (m.drop i).take 16 := by
          rw [List.take_of_length_le (by simp; omega), List.take_of_length_le (by simp; omega)]
        refine Zgk (da, dc) trivial ?_ ?_
        · dsimp only; rw [← e]; exact Imp.arr (by repeat (first|exact Arr.nil|exact Arr.stop|refine Arr.cons (by repeat constructor) ?_|refine Arr.skip ?_))
        · dsimp only; rw [← e]; exact ⟨rfl, trivial⟩
    rintro ⟨da, dc⟩ u2 _
    dsimp only
    have hstep := accN_step (rN key) m i hA h0
    generalize hcc : (m.drop i).take 16 = ch at hstep
    have hcl : ch.length ≤ 16 := by rw [← hcc]; simp; omega
    have hdcl := digL_len ch
    repeat (first|refine zA ?_|refine zB ?_|refine zC ?_|refine zD ?_|refine zE ?_|refine zF ?_|refine zG ?_|refine zH ?_|refine zI ?_|refine zJ ?_|refine zK ?_|refine zL ?_|refine zM rfl ?_|refine zN ?_|refine zO ?_|refine zP ?_|refine zQ ?_)
    refine Zgb ?_
    first|refine Zhg (Zaw rfl) ?_|refine Zhg (Zar rfl) ?_
    refine Zh7 (cs := #[.int .i64 _]) (by omega) (by omega) rfl ?_; intro b44
    refine Zia rfl rfl (by repeat constructor) (Rd.cl (xs := [nv 1]) (by repeat constructor) rfl (by first|rfl|omega|(rw [szL]; omega)|exact Nat.le_of_ble_eq_true rfl|(simp; done)|(simp; omega)) rfl) (by first|rfl|exact oneM_u8 _|exact oneL_u8 _|(simp [oneC]; done)) (by omega) (by first|omega|exact Nat.le_of_ble_eq_true rfl|(simp; done)|(simp; omega)|decide) ?_; intro a3 c3
    first|refine Zhg (Za2 rfl) ?_|refine Zhg (Zas rfl) ?_
    refine Zg3 ?_
    repeat (first|refine zA ?_|refine zB ?_|refine zC ?_|refine zD ?_|refine zE ?_|refine zF ?_|refine zG ?_|refine zH ?_|refine zI ?_|refine zJ ?_|refine zK ?_|refine zL ?_|refine zM rfl ?_|refine zN ?_|refine zO ?_|refine zP ?_|refine zQ ?_)
    have e1 : digL ch ++ [1] = digL (ch ++ [1#8]) := by rw [digL_app]; rfl
    have e2 : (digL ch).length + 1 = (digL (ch ++ [1#8])).length := by rw [← e1]; simp
    have e3 : (digL ch).map nv ++ [nv 1] = (digL (ch ++ [1#8])).map nv := by rw [← e1]; simp
    rw [e2, e3]
    have hcd := digL_dig (ch ++ [1#8])
    have hcv := digL_val (ch ++ [1#8])
    have hcl2 := digL_len (ch ++ [1#8])
    generalize digL (ch ++ [1#8]) = cd at *
    have hcl3 : cd.length ≤ 17 := by rw [hcl2]; simp; omega
    have hsum : valD ac + valD cd < 256 ^ 18 := by
      have h1 := valD_le had hal; have h2 := valD_le hcd hcl3
      rw [show (256 : Nat) ^ 18 = 256 ^ 17 * 256 from Nat.pow_succ ..]; omega
    repeat (first|refine zA ?_|refine zB ?_|refine zC ?_|refine zD ?_|refine zE ?_|refine zF ?_|refine zG ?_|refine zH ?_|refine zI ?_|refine zJ ?_|refine zK ?_|refine zL ?_|refine zM rfl ?_|refine zN ?_|refine zO ?_|refine zP ?_|refine zQ ?_)
    refine Zgb ?_
    first|refine Zhg (Zaw rfl) ?_|refine Zhg (Zar rfl) ?_
    first|refine Zhg (Zaw rfl) ?_|refine Zhg (Zar rfl) ?_
    refine Zh8 rfl (by kernel_rfl) (add_x (L := own 3 1 (.slice a3 cd.length c3) cd.length (cd.map nv) :: E) (n := 18) (hrda.imp Imp.tail) (rd_own .here) had hcd (by omega) (by omega) (by omega) hsum) rfl (by repeat (first|exact Take.nil|exact Take.all|(apply Take.cons; (next => (repeat constructor); done))|apply Take.skip)) ?_
    rintro _ _ ⟨a4, c4, s1, hd1, hv1, hl1, rfl, rfl⟩
    refine Zg2 (by repeat (first|exact App.nil|apply App.cons|(apply App.flip; first|exact App.nil|apply App.cons)|exact App.any)) ?_
    first|refine Zhg (Zaw rfl) ?_|refine Zhg (Zar rfl) ?_
    refine Zh8 rfl (by kernel_rfl) (mul_x (L := own 3 1 (.slice a4 s1.length c4) s1.length (s1.map nv) :: E) (n := 34) (rd_own .here) ((rd_own .here).imp (Imp.tail.trans hE)) hd1 hhd (by omega) (by omega) (by omega) (by omega) (by
          have h1 := valD_le hd1 hl1
          rw [show (256 : Nat) ^ 34 = 256 ^ 18 * 256 ^ 16 from Nat.pow_add 256 18 16]; exact Nat.mul_lt_mul'' h1 hR)) rfl (by repeat (first|exact Take.nil|exact Take.all|(apply Take.cons; (next => (repeat constructor); done))|apply Take.skip)) ?_
    rintro _ _ ⟨a5, c5, m1, hd2, hv2, hl2, rfl, rfl⟩
    refine Zg2 (by repeat (first|exact App.nil|apply App.cons|(apply App.flip; first|exact App.nil|apply App.cons)|exact App.any)) ?_
    refine Zh8 rfl (by kernel_rfl) (fold_x (L := own 3 1 (.slice a5 m1.length c5) m1.length (m1.map nv) :: E) (rd_own .here) (by omega) hd2) rfl (by repeat (first|exact Take.nil|exact Take.all|(apply Take.cons; (next => (repeat constructor); done))|apply Take.skip)) ?_
    rintro _ _ ⟨a6, c6, f1, hd3, hv3, hl3, rfl, rfl⟩
    refine Zg2 (by repeat (first|exact App.nil|apply App.cons|(apply App.flip; first|exact App.nil|apply App.cons)|exact App.any)) ?_
    first|refine Zhg (Za2 rfl) ?_|refine Zhg (Zas rfl) ?_
    refine Zg3 ?_
    repeat (first|refine zA ?_|refine zB ?_|refine zC ?_|refine zD ?_|refine zE ?_|refine zF ?_|refine zG ?_|refine zH ?_|refine zI ?_|refine zJ ?_|refine zK ?_|refine zL ?_|refine zM rfl ?_|refine zN ?_|refine zO ?_|refine zP ?_|refine zQ ?_)
    refine Zgb ?_
    first|refine Zhg (Zat rfl) ?_|refine Zhg (Zar rfl) ?_
    first|refine Zhg (Zma (b := 16) rfl rfl) ?_|refine Zhg (Zbg rfl rfl) ?_
    first|refine Zhg (Zaz rfl) ?_|refine Zhg (Zas rfl) ?_
    refine Zg3 ?_
    repeat (first|refine zA ?_|refine zB ?_|refine zC ?_|refine zD ?_|refine zE ?_|refine zF ?_|refine zG ?_|refine zH ?_|refine zI ?_|refine zJ ?_|refine zK ?_|refine zL ?_|refine zM rfl ?_|refine zN ?_|refine zO ?_|refine zP ?_|refine zQ ?_)
    refine Zgl (i + 16, a6, c6, f1) (by first|omega|(dsimp only; omega)|(simp only []; omega)) ⟨hd3, hl3, ?_, hstep.2, by dsimp only; omega⟩ ((Imp.arr (N := own 3 1 (.slice a6 f1.length c6) f1.length (f1.map nv) :: E) (by repeat (first|exact Arr.nil|exact Arr.stop|refine Arr.cons (by repeat constructor) ?_|refine Arr.skip ?_))).trans hE.cons) ⟨rfl, rfl, trivial⟩
    dsimp only
    rw [hstep.1, hv3, hv2, hv1, hcv, hav, hhv]
  · have hpoly : valD ac = polyN key m := by rw [hav, accN_end _ _ _ (by omega)]; unfold polyN; rfl
    have hlt := accN_lt (rN key) m i
    have h2d := halfD_dig key true 16
    have h2v := halfD_true key hk
    have hal2 := halfD_len key true 16
    rw [hEe]
    repeat (first|refine zA ?_|refine zB ?_|refine zC ?_|refine zD ?_|refine zE ?_|refine zF ?_|refine zG ?_|refine zH ?_|refine zI ?_|refine zJ ?_|refine zK ?_|refine zL ?_|refine zM rfl ?_|refine zN ?_|refine zO ?_|refine zP ?_|refine zQ ?_)
    refine Zgb ?_
    first|refine Zhg (Zaw rfl) ?_|refine Zhg (Zar rfl) ?_
    first|refine Zhr rfl (by repeat constructor) (by first|rfl|omega|(rw [szL]; omega)|exact Nat.le_of_ble_eq_true rfl|(simp; done)|(simp; omega)) ?_|refine Zhq rfl (by repeat constructor) (by first|rfl|omega|(rw [szL]; omega)|exact Nat.le_of_ble_eq_true rfl|(simp; done)|(simp; omega)) rfl ?_
    refine Zh8 rfl (by kernel_rfl) (half_x key hk true) rfl (by repeat (first|exact Take.nil|exact Take.all|(apply Take.cons; (next => (repeat constructor); done))|apply Take.skip)) ?_
    rintro _ _ ⟨ha, hc, rfl, rfl⟩
    refine Zg2 (by repeat (first|exact App.nil|apply App.cons|(apply App.flip; first|exact App.nil|apply App.cons)|exact App.any)) ?_
    refine Zh8 rfl (by kernel_rfl) (add_x (L := own 3 1 (.slice aa ac.length ca) ac.length (ac.map nv) :: own 3 1 (.slice ha (halfD key true 16).length hc) (halfD key true 16).length ((halfD key true 16).map nv) :: own 3 1 (.slice ra rd.length rc) rd.length (rd.map nv) :: cl b2 (key.map u8b).toArray 24 :: cl b4 ((List.replicate 16 0#8).map u8b).toArray 28 :: L) (n := 18) (rd_own .here) (rd_own (.there .here)) had h2d (by omega) (by omega) (by omega) (by
          have h1 := valD_le had hal; have h2 := valD_le (n := 17) h2d (by omega)
          rw [show (256 : Nat) ^ 18 = 256 ^ 17 * 256 from Nat.pow_succ ..]; omega)) rfl (by repeat (first|exact Take.nil|exact Take.all|(apply Take.cons; (next => (repeat constructor); done))|apply Take.skip)) ?_
    rintro _ _ ⟨a7, c7, sm, hsd, hsv, hsl, rfl, rfl⟩
    refine Zg2 (by repeat (first|exact App.nil|apply App.cons|(apply App.flip; first|exact App.nil|apply App.cons)|exact App.any)) ?_
    first|refine Zhg (Za2 rfl) ?_|refine Zhg (Zas rfl) ?_
    refine Zg3 ?_
    repeat (first|refine zA ?_|refine zB ?_|refine zC ?_|refine zD ?_|refine zE ?_|refine zF ?_|refine zG ?_|refine zH ?_|refine zI ?_|refine zJ ?_|refine zK ?_|refine zL ?_|refine zM rfl ?_|refine zN ?_|refine zO ?_|refine zP ?_|refine zQ ?_)
    refine Zgb ?_
    refine Zhz (cs := ((List.replicate 16 0#8).map u8b).toArray) rfl ?_; intro b11
    refine Zg3 ?_
    repeat (first|refine zA ?_|refine zB ?_|refine zC ?_|refine zD ?_|refine zE ?_|refine zF ?_|refine zG ?_|refine zH ?_|refine zI ?_|refine zJ ?_|refine zK ?_|refine zL ?_|refine zM rfl ?_|refine zN ?_|refine zO ?_|refine zP ?_|refine zQ ?_)
    refine Zgb ?_
    first|refine Zhg (Zaz rfl) ?_|refine Zhg (Zas rfl) ?_
    refine Zg3 ?_
    repeat (first|refine zA ?_|refine zB ?_|refine zC ?_|refine zD ?_|refine zE ?_|refine zF ?_|refine zG ?_|refine zH ?_|refine zI ?_|refine zJ ?_|refine zK ?_|refine zL ?_|refine zM rfl ?_|refine zN ?_|refine zO ?_|refine zP ?_|refine zQ ?_)
    have hcl16 := code_len key m
    have hcode := outD_code key m hk sm hsd (by rw [hsv, hpoly, h2v])
    refine Zgo [(12, 12), (56, 72)] (by kernel_rfl) (fun k : Nat => k ≤ 16) (fun k => cl b11 ((uptoT 16 (outD sm) k).map u8b).toArray 28 :: own 3 1 (.slice a7 sm.length c7) sm.length (sm.map nv) :: cl b4 ((List.replicate 16 0#8).map u8b).toArray 28 :: L)
      (fun k => [(12, nv k)]) (fun k => 16 - k) 0 (by omega) (by rw [uptoT_zero]; exact Imp.arr (by repeat (first|exact Arr.nil|exact Arr.stop|refine Arr.cons (by repeat constructor) ?_|refine Arr.skip ?_))) ⟨rfl, trivial⟩ ?_
    intro k u3 hk16
    have hul := uptoT_len 16 (outD sm) k
    by_cases hB : k < 16
    · by_cases hC : k < sm.length
      · repeat (first|refine zA ?_|refine zB ?_|refine zC ?_|refine zD ?_|refine zE ?_|refine zF ?_|refine zG ?_|refine zH ?_|refine zI ?_|refine zJ ?_|refine zK ?_|refine zL ?_|refine zM rfl ?_|refine zN ?_|refine zO ?_|refine zP ?_|refine zQ ?_)
        refine Zgb ?_
        first|refine Zhg (Zat rfl) ?_|refine Zhg (Zar rfl) ?_
        first|refine Zhg (Zmf (b := 16) rfl rfl) ?_|refine Zhg (Zbn rfl rfl) ?_
        refine Zhm 57 rfl (decide_eq_true (hB)) ?_
        first|refine Zhg (Zau rfl) ?_|refine Zhg (Zar rfl) ?_
        first|refine Zhi rfl ?_|refine Zhj rfl ?_|(refine Zhh rfl ?_; (first|refine Zhg (Zat rfl) ?_|refine Zhg (Zar rfl) ?_))
        first|refine Zhi rfl ?_|refine Zhj rfl ?_|(refine Zhh rfl ?_; (first|refine Zhg (Zaw rfl) ?_|refine Zhg (Zar rfl) ?_))
        first|refine Zhi rfl ?_|refine Zhj rfl ?_|(refine Zhh rfl ?_; (first|refine Zhg (Zcr rfl) ?_|refine Zhg (Zct) ?_|refine Zhg (Zcu rfl) ?_))
        first|refine Zhi rfl ?_|refine Zhj rfl ?_|(refine Zhh rfl ?_; (first|refine Zhg (Zmf rfl rfl) ?_|refine Zhg (Zbn rfl rfl) ?_))
        refine Zhm 62 rfl (decide_eq_true (hC)) ?_
        first|refine Zhg (Zdz rfl rfl) ?_|refine Zhg (Zd0 rfl rfl) ?_|refine Zhg (Za8 rfl rfl) ?_|refine Zhg (Za9 rfl rfl) ?_|refine Zhg (Za6 rfl rfl) ?_|refine Zhg (Za7 rfl rfl) ?_
        refine Zg3 ?_
        repeat (first|refine zA ?_|refine zB ?_|refine zC ?_|refine zD ?_|refine zE ?_|refine zF ?_|refine zG ?_|refine zH ?_|refine zI ?_|refine zJ ?_|refine zK ?_|refine zL ?_|refine zM rfl ?_|refine zN ?_|refine zO ?_|refine zP ?_|refine zQ ?_)
        refine Zge rfl ?_
        repeat (first|refine zA ?_|refine zB ?_|refine zC ?_|refine zD ?_|refine zE ?_|refine zF ?_|refine zG ?_|refine zH ?_|refine zI ?_|refine zJ ?_|refine zK ?_|refine zL ?_|refine zM rfl ?_|refine zN ?_|refine zO ?_|refine zP ?_|refine zQ ?_)
        refine Zgt (fun F w H => own_some (a := a7) (by repeat constructor) (by omega) H) ?_
        rintro ⟨g7, rfl⟩
        have e : outD sm k = BitVec.ofInt 8 ((sm[k] : Nat) : Int) := by unfold outD; rw [List.getD_eq_getElem?_getD, List.getElem?_eq_getElem hC]; rfl
        repeat (first|refine zA ?_|refine zB ?_|refine zC ?_|refine zD ?_|refine zE ?_|refine zF ?_|refine zG ?_|refine zH ?_|refine zI ?_|refine zJ ?_|refine zK ?_|refine zL ?_|refine zM rfl ?_|refine zN ?_|refine zO ?_|refine zP ?_|refine zQ ?_)
        refine Zgb ?_
        first|refine Zhg (Zat rfl) ?_|refine Zhg (Zar rfl) ?_
        first|refine Zhg (Zaw rfl) ?_|refine Zhg (Zar rfl) ?_
        first|refine Zhg (Zat rfl) ?_|refine Zhg (Zar rfl) ?_
        first|refine Zhg (Zl4 rfl rfl) ?_|refine Zhg (Zl1 rfl rfl) ?_
        refine Zm6 (j := k) rfl (Rd.own (by repeat constructor)) hC (getM hC) ?_
        refine Zhg (Zjs rfl) ?_
        first|refine Zhg (Zl5 rfl rfl) ?_|refine Zhg (Zl3 rfl rfl) ?_
        refine Zht rfl rfl (by repeat constructor) (by first|rfl|omega|(rw [szL]; omega)|exact Nat.le_of_ble_eq_true rfl|(simp; done)|(simp; omega)) (setL (f := u8b) (l := uptoT 16 (outD sm) k)) ?_
        refine Zg3 ?_
        repeat (first|refine zA ?_|refine zB ?_|refine zC ?_|refine zD ?_|refine zE ?_|refine zF ?_|refine zG ?_|refine zH ?_|refine zI ?_|refine zJ ?_|refine zK ?_|refine zL ?_|refine zM rfl ?_|refine zN ?_|refine zO ?_|refine zP ?_|refine zQ ?_)
        rw [← e, uptoT_set]
        repeat (first|refine zA ?_|refine zB ?_|refine zC ?_|refine zD ?_|refine zE ?_|refine zF ?_|refine zG ?_|refine zH ?_|refine zI ?_|refine zJ ?_|refine zK ?_|refine zL ?_|refine zM rfl ?_|refine zN ?_|refine zO ?_|refine zP ?_|refine zQ ?_)
        refine Zgb ?_
        first|refine Zhg (Zat rfl) ?_|refine Zhg (Zar rfl) ?_
        first|refine Zhg (Zma (b := 1) rfl rfl) ?_|refine Zhg (Zbg rfl rfl) ?_
        first|refine Zhg (Zaz rfl) ?_|refine Zhg (Zas rfl) ?_
        refine Zg3 ?_
        repeat (first|refine zA ?_|refine zB ?_|refine zC ?_|refine zD ?_|refine zE ?_|refine zF ?_|refine zG ?_|refine zH ?_|refine zI ?_|refine zJ ?_|refine zK ?_|refine zL ?_|refine zM rfl ?_|refine zN ?_|refine zO ?_|refine zP ?_|refine zQ ?_)
        exact Zgl (k + 1) (by first|omega|(dsimp only; omega)|(simp only []; omega)) (by first|omega|(dsimp only; omega)|(simp only []; omega)) (by exact Imp.arr (by repeat (first|exact Arr.nil|exact Arr.stop|refine Arr.cons (by repeat constructor) ?_|refine Arr.skip ?_))) ⟨rfl, trivial⟩
      · repeat (first|refine zA ?_|refine zB ?_|refine zC ?_|refine zD ?_|refine zE ?_|refine zF ?_|refine zG ?_|refine zH ?_|refine zI ?_|refine zJ ?_|refine zK ?_|refine zL ?_|refine zM rfl ?_|refine zN ?_|refine zO ?_|refine zP ?_|refine zQ ?_)
        refine Zgb ?_
        first|refine Zhg (Zat rfl) ?_|refine Zhg (Zar rfl) ?_
        first|refine Zhg (Zmf (b := 16) rfl rfl) ?_|refine Zhg (Zbn rfl rfl) ?_
        refine Zhm 57 rfl (decide_eq_true (hB)) ?_
        first|refine Zhg (Zau rfl) ?_|refine Zhg (Zar rfl) ?_
        first|refine Zhi rfl ?_|refine Zhj rfl ?_|(refine Zhh rfl ?_; (first|refine Zhg (Zat rfl) ?_|refine Zhg (Zar rfl) ?_))
        first|refine Zhi rfl ?_|refine Zhj rfl ?_|(refine Zhh rfl ?_; (first|refine Zhg (Zaw rfl) ?_|refine Zhg (Zar rfl) ?_))
        first|refine Zhi rfl ?_|refine Zhj rfl ?_|(refine Zhh rfl ?_; (first|refine Zhg (Zcr rfl) ?_|refine Zhg (Zct) ?_|refine Zhg (Zcu rfl) ?_))
        first|refine Zhi rfl ?_|refine Zhj rfl ?_|(refine Zhh rfl ?_; (first|refine Zhg (Zmf rfl rfl) ?_|refine Zhg (Zbn rfl rfl) ?_))
        refine Zhn 62 rfl (decide_eq_false (hC)) ?_
        first|refine Zhg (Zdz rfl rfl) ?_|refine Zhg (Zd0 rfl rfl) ?_|refine Zhg (Za8 rfl rfl) ?_|refine Zhg (Za9 rfl rfl) ?_|refine Zhg (Za6 rfl rfl) ?_|refine Zhg (Za7 rfl rfl) ?_
        refine Zg3 ?_
        repeat (first|refine zA ?_|refine zB ?_|refine zC ?_|refine zD ?_|refine zE ?_|refine zF ?_|refine zG ?_|refine zH ?_|refine zI ?_|refine zJ ?_|refine zK ?_|refine zL ?_|refine zM rfl ?_|refine zN ?_|refine zO ?_|refine zP ?_|refine zQ ?_)
        refine Zgf rfl ?_
        repeat (first|refine zA ?_|refine zB ?_|refine zC ?_|refine zD ?_|refine zE ?_|refine zF ?_|refine zG ?_|refine zH ?_|refine zI ?_|refine zJ ?_|refine zK ?_|refine zL ?_|refine zM rfl ?_|refine zN ?_|refine zO ?_|refine zP ?_|refine zQ ?_)
        rw [uptoT_over 16 sm k (by omega), uptoT_end, hcode]
        repeat (first|refine zA ?_|refine zB ?_|refine zC ?_|refine zD ?_|refine zE ?_|refine zF ?_|refine zG ?_|refine zH ?_|refine zI ?_|refine zJ ?_|refine zK ?_|refine zL ?_|refine zM rfl ?_|refine zN ?_|refine zO ?_|refine zP ?_|refine zQ ?_)
        refine Zgb ?_
        first|refine Zhr rfl (by repeat constructor) (by first|rfl|omega|(rw [szL]; omega)|exact Nat.le_of_ble_eq_true rfl|(simp; done)|(simp; omega)) ?_|refine Zhq rfl (by repeat constructor) (by first|rfl|omega|(rw [szL]; omega)|exact Nat.le_of_ble_eq_true rfl|(simp; done)|(simp; omega)) rfl ?_
        first|refine Zhy rfl rfl (by repeat constructor) (by first|rfl|omega|(rw [szL]; omega)|exact Nat.le_of_ble_eq_true rfl|(simp; done)|(simp; omega)) (by first|rfl|exact oneM_u8 _|exact oneL_u8 _|(simp [oneC]; done)) (by first|rfl|omega|(rw [szL]; omega)|exact Nat.le_of_ble_eq_true rfl|(simp; done)|(simp; omega)) ?_|refine Zhx rfl rfl (by repeat constructor) (by first|rfl|omega|(rw [szL]; omega)|exact Nat.le_of_ble_eq_true rfl|(simp; done)|(simp; omega)) (by first|rfl|exact oneM_u8 _|exact oneL_u8 _|(simp [oneC]; done)) (by first|rfl|omega|(rw [szL]; omega)|exact Nat.le_of_ble_eq_true rfl|(simp; done)|(simp; omega)) rfl ?_
        refine Zg3 ?_
        repeat (first|refine zA ?_|refine zB ?_|refine zC ?_|refine zD ?_|refine zE ?_|refine zF ?_|refine zG ?_|refine zH ?_|refine zI ?_|refine zJ ?_|refine zK ?_|refine zL ?_|refine zM rfl ?_|refine zN ?_|refine zO ?_|refine zP ?_|refine zQ ?_)
        refine rx1 (Zhe rfl (by repeat constructor) (by first|rfl|omega|(rw [szL]; omega)|exact Nat.le_of_ble_eq_true rfl|(simp; done)|(simp; omega)) (Zg7)) ?_
        exact ⟨_, ⟨rfl, rfl⟩, by exact Imp.arr (by repeat (first|exact Arr.nil|exact Arr.stop|refine Arr.cons (by repeat constructor) ?_|refine Arr.skip ?_))⟩
    · repeat (first|refine zA ?_|refine zB ?_|refine zC ?_|refine zD ?_|refine zE ?_|refine zF ?_|refine zG ?_|refine zH ?_|refine zI ?_|refine zJ ?_|refine zK ?_|refine zL ?_|refine zM rfl ?_|refine zN ?_|refine zO ?_|refine zP ?_|refine zQ ?_)
      refine Zgb ?_
      first|refine Zhg (Zat rfl) ?_|refine Zhg (Zar rfl) ?_
      first|refine Zhg (Zmf (b := 16) rfl rfl) ?_|refine Zhg (Zbn rfl rfl) ?_
      refine Zhn 57 rfl (decide_eq_false (hB)) ?_
      first|refine Zhg (Zau rfl) ?_|refine Zhg (Zar rfl) ?_
      first|refine Zhi rfl ?_|refine Zhj rfl ?_|(refine Zhh rfl ?_; (first|refine Zhg (Zat rfl) ?_|refine Zhg (Zar rfl) ?_))
      first|refine Zhi rfl ?_|refine Zhj rfl ?_|(refine Zhh rfl ?_; (first|refine Zhg (Zaw rfl) ?_|refine Zhg (Zar rfl) ?_))
      first|refine Zhi rfl ?_|refine Zhj rfl ?_|(refine Zhh rfl ?_; (first|refine Zhg (Zcr rfl) ?_|refine Zhg (Zct) ?_|refine Zhg (Zcu rfl) ?_))
      first|refine Zhi rfl ?_|refine Zhj rfl ?_|(refine Zhh rfl ?_; (first|refine Zhg (Zmf rfl rfl) ?_|refine Zhg (Zbn rfl rfl) ?_))
      first|refine Zhg (Zdz rfl rfl) ?_|refine Zhg (Zd0 rfl rfl) ?_|refine Zhg (Za8 rfl rfl) ?_|refine Zhg (Za9 rfl rfl) ?_|refine Zhg (Za6 rfl rfl) ?_|refine Zhg (Za7 rfl rfl) ?_
      refine Zg3 ?_
      repeat (first|refine zA ?_|refine zB ?_|refine zC ?_|refine zD ?_|refine zE ?_|refine zF ?_|refine zG ?_|refine zH ?_|refine zI ?_|refine zJ ?_|refine zK ?_|refine zL ?_|refine zM rfl ?_|refine zN ?_|refine zO ?_|refine zP ?_|refine zQ ?_)
      refine Zgf rfl ?_
      repeat (first|refine zA ?_|refine zB ?_|refine zC ?_|refine zD ?_|refine zE ?_|refine zF ?_|refine zG ?_|refine zH ?_|refine zI ?_|refine zJ ?_|refine zK ?_|refine zL ?_|refine zM rfl ?_|refine zN ?_|refine zO ?_|refine zP ?_|refine zQ ?_)
      have e : k = 16 := by omega
      subst e
      rw [uptoT_end, hcode]
      repeat (first|refine zA ?_|refine zB ?_|refine zC ?_|refine zD ?_|refine zE ?_|refine zF ?_|refine zG ?_|refine zH ?_|refine zI ?_|refine zJ ?_|refine zK ?_|refine zL ?_|refine zM rfl ?_|refine zN ?_|refine zO ?_|refine zP ?_|refine zQ ?_)
      refine Zgb ?_
      first|refine Zhr rfl (by repeat constructor) (by first|rfl|omega|(rw [szL]; omega)|exact Nat.le_of_ble_eq_true rfl|(simp; done)|(simp; omega)) ?_|refine Zhq rfl (by repeat constructor) (by first|rfl|omega|(rw [szL]; omega)|exact Nat.le_of_ble_eq_true rfl|(simp; done)|(simp; omega)) rfl ?_
      first|refine Zhy rfl rfl (by repeat constructor) (by first|rfl|omega|(rw [szL]; omega)|exact Nat.le_of_ble_eq_true rfl|(simp; done)|(simp; omega)) (by first|rfl|exact oneM_u8 _|exact oneL_u8 _|(simp [oneC]; done)) (by first|rfl|omega|(rw [szL]; omega)|exact Nat.le_of_ble_eq_true rfl|(simp; done)|(simp; omega)) ?_|refine Zhx rfl rfl (by repeat constructor) (by first|rfl|omega|(rw [szL]; omega)|exact Nat.le_of_ble_eq_true rfl|(simp; done)|(simp; omega)) (by first|rfl|exact oneM_u8 _|exact oneL_u8 _|(simp [oneC]; done)) (by first|rfl|omega|(rw [szL]; omega)|exact Nat.le_of_ble_eq_true rfl|(simp; done)|(simp; omega)) rfl ?_
      refine Zg3 ?_
      repeat (first|refine zA ?_|refine zB ?_|refine zC ?_|refine zD ?_|refine zE ?_|refine zF ?_|refine zG ?_|refine zH ?_|refine zI ?_|refine zJ ?_|refine zK ?_|refine zL ?_|refine zM rfl ?_|refine zN ?_|refine zO ?_|refine zP ?_|refine zQ ?_)
      refine rx1 (Zhe rfl (by repeat constructor) (by first|rfl|omega|(rw [szL]; omega)|exact Nat.le_of_ble_eq_true rfl|(simp; done)|(simp; omega)) (Zg7)) ?_
      exact ⟨_, ⟨rfl, rfl⟩, by exact Imp.arr (by repeat (first|exact Arr.nil|exact Arr.stop|refine Arr.cons (by repeat constructor) ?_|refine Arr.skip ?_))⟩
end Go.Sl
