/- Parts of the proof, joined: HbD, HbF, HbG, HbH, HbI, HbK, OctA, OctB, OctC, BsT, StrA, PgA. -/
import Derived.Test.YthodgeekgpkieaaGreatLawPagerKeepsM0
import Derived.Test.YthodgeekgpkieaaGreatLawPagerKeepsM1
import Derived.Test.YthodgeekgpkieaaGreatLawPagerKeepsM2
/- host: an operation. -/
set_option maxHeartbeats 2000000
set_option linter.unusedVariables false
set_option linter.unusedSimpArgs false
namespace Go.Sl
open Go Go.Proofs
attribute [local irreducible] cl pt own old den denOps denS thenK blockK cutK loopK retK Calls PV
attribute [local irreducible] hostA omap ohole oheld rowsB
theorem tcells_len (t : HostS.Touch) (h : t.head.length = 12) : (tcells t).length = 15 := by simp [tcells, h]
theorem touchOf_len (s : HostS.HS) (op page : Int) (b : HostS.Bytes) : (HostS.touchOf s op page b).head.length = 12 := by
  unfold HostS.touchOf
  split
  · exact headOf_len b
  · split <;> simp
theorem tcells_one (t : HostS.Touch) : (tcells t).all oneC = true := by simp [tcells, oneC, u8b]
theorem before_take (l : List HostS.Fault) (i : Nat) (hi : i < l.length) : HostS.before (l.take (i + 1)) = (HostS.before (l.take i) || l[i].kind == 3) := by
  rw [List.take_succ_eq_append_getElem hi]; simp only [HostS.before, List.any_append, List.any_cons, List.any_nil, Bool.or_false]
theorem behind_take (l : List HostS.Fault) (i : Nat) (hi : i < l.length) : HostS.behind (l.take (i + 1)) = (HostS.behind (l.take i) || l[i].kind == 4) := by
  rw [List.take_succ_eq_append_getElem hi]; simp only [HostS.behind, List.any_append, List.any_cons, List.any_nil, Bool.or_false]
theorem any_take {l : List HostS.Fault} {q : HostS.Fault → Bool} (i : Nat) (h : (l.take (i + 1)).any q = true) : l.any q = true := by
  rw [List.any_eq_true] at h ⊢
  obtain ⟨x, hx, hq⟩ := h
  exact ⟨x, List.mem_of_mem_take hx, hq⟩
theorem ok_taken {s : HostS.HS} (hs : HostS.Ok s) : HostS.Ok (HostS.taken s) :=
  ⟨hs.p0, hs.p1, hs.z0, hs.z1, hs.row, fun p => Nat.le_succ_of_le (hs.many p), Nat.le_succ_of_le hs.log,
    fun k f hf => by
      simp only [HostS.taken, HostS.setF] at hf
      split at hf
      · cases hf
      · exact hs.flt k f hf,
    fun k => by
      simp only [HostS.taken, HostS.setF]
      split
      · simp
      · exact hs.fln k⟩
theorem ok_down {s : HostS.HS} (b : Bool) (hs : HostS.Ok s) : HostS.Ok { s with down := b } := ⟨hs.p0, hs.p1, hs.z0, hs.z1, hs.row, hs.many, hs.log, hs.flt, hs.fln⟩

/-- What an act does. -/
def ActC (w0 : World) (p : Nat) (s1 s2 : HostS.HS) (fl : List HostS.Fault) (F : FuncId) (ca : Array Value) (L L2 : List Asrt) : Prop :=
  ∀ (w : World) (fv : Value), St w0 w (faultsA fv fl :: hostA p s1 :: L) → Calls Tryz.prog F (fv :: ca.toList).toArray w (Ret fun _ w' => St w0 w' (faultsA fv fl :: hostA p s2 :: L2))

theorem does_c {p : Nat} {s : HostS.HS} {w0 w : World} {L L2 : List Asrt} (op page : Int) {bv : Value} {b : HostS.Bytes} {F : FuncId} {ca : Array Value} (act : HostS.HS → HostS.HS) (H : St w0 w (hostA p s :: L)) (hops : s.ops < 3518437208880) (hb : op = 1 → ∀ w', St w0 w' L → SlW w' 1 bv b.length (b.map u8b)) (hbv : ∃ a n k, bv = .slice a n k)
    (hF : callable Tryz.prog F = true)
    (hact : HostS.done s = true → ActC w0 p (HostS.logged s op page b) (act (HostS.logged s op page b)) (s.coming s.ops) F ca L L2)
    (hact2 : HostS.Ok s → HostS.Ok (HostS.logged s op page b) → HostS.Ok (act (HostS.logged s op page b))) (hact3 : ∀ s1, (act s1).down = s1.down) :
    Calls Tryz.prog 214 #[.pointer (some ⟨p, 0, none⟩), .int .i64 op, .int .i64 page, bv, .func (.func F) #[] ca] w
      (Ret fun v w' => v = .int .i64 (HostS.does s op page b act).2 ∧ ((HostS.done s = false ∧ St w0 w' (hostA p (HostS.does s op page b act).1 :: L)) ∨ (HostS.done s = true ∧ St w0 w' (hostA p (HostS.does s op page b act).1 :: L2)))) := by
  obtain ⟨ba, bn, bk, rfl⟩ := hbv
  obtain ⟨bl, bc, logv, hs, Hn⟩ := H.host_get
  clear H
  cases hdn : s.down with
  | true =>
    have H := Hn; clear Hn
    unfold hostB at H
    have hp : powerOf s = 1 := by simp [powerOf, hdn]
    rw [hp] at H
    refine calls_den [_, _, _, _, _] Tryz.func214 rfl rfl rfl Tryz.mixed (by kernel_rfl) ?_
    repeat (first|(refine Zd1 ?_; first|refine Zcx ?_|(refine Zd3 ?_; first|refine Zc0 rfl ?_|refine Zc1 rfl ?_|refine Zc2 rfl ?_)|refine Zcz (by first|exact Zat rfl|exact Zav rfl|exact Zaw rfl|exact Zaz rfl|exact Za2 rfl|exact Za1 rfl|exact Zau rfl|exact Za0 rfl|exact Zba rfl|exact Zce rfl (by omega)|exact Zbn rfl rfl|exact Zbr rfl rfl|exact Zbs rfl rfl|exact Zbq rfl rfl|exact Zbp rfl rfl|exact Zbo rfl rfl|exact Zcr rfl|exact Zbg rfl rfl (by omega)|exact Zbh rfl rfl (by omega)|exact Zbi rfl rfl (by omega)|exact Zco rfl rfl|exact Zdz rfl rfl|exact Zd0 rfl rfl|exact Za8 rfl rfl|exact Za9 rfl rfl|exact Za6 rfl rfl|exact Za7 rfl rfl|exact Zb1 rfl|exact Zca rfl rfl|exact Zcb rfl rfl|exact Zcv rfl rfl|exact Zcw rfl rfl|exact Zax rfl|exact Za3 rfl|exact Zay rfl|exact Zcl rfl rfl|exact Zb0 rfl|exact Zct|exact Zf3|exact Zar rfl|exact Zas rfl) ?_|(refine Zd4 ?_; refine Zc5 H rfl (by repeat constructor) rfl ?_)|(refine Zd5 ?_; (first|refine Zdb H rfl rfl (by repeat constructor) (by first|(simp only [wr_size, Array.size_setIfInBounds, List.size_toArray, List.length_cons, List.length_nil]; omega)|omega|(simp; done)|(simp; omega)) ?_|refine Zde H rfl rfl (by repeat constructor) (by first|(simp only [wr_size, Array.size_setIfInBounds, List.size_toArray, List.length_cons, List.length_nil]; omega)|omega|(simp; done)|(simp; omega)) ?_|refine Zdd H rfl rfl (by repeat constructor) (by first|(simp only [wr_size, Array.size_setIfInBounds, List.size_toArray, List.length_cons, List.length_nil]; omega)|omega|(simp; done)|(simp; omega)) ?_|refine Zdc H rfl rfl (by repeat constructor) (by first|(simp only [wr_size, Array.size_setIfInBounds, List.size_toArray, List.length_cons, List.length_nil]; omega)|omega|(simp; done)|(simp; omega)) ?_|refine Zda H rfl rfl rfl (by repeat constructor) (by first|(simp only [wr_size, Array.size_setIfInBounds, List.size_toArray, List.length_cons, List.length_nil]; omega)|omega|(simp; done)|(simp; omega)) ?_); clear H; intro w H))|(refine Zd6 ?_; first|refine Zd9 ?_|refine Zeb ?_|refine Zeh ?_|refine Zef ?_|refine Zed ?_|refine Zec ?_|refine Zee ?_|refine Zeg ?_|(refine Zd7 ?_; first|refine Zao rfl ?_|refine Zap rfl ?_))|(first|refine Zei ?_|refine Zej ?_|refine Zek ?_|refine Zel ?_|refine Zen ?_|refine Zem ?_|refine Zeo rfl ?_|refine Zep ?_|refine Zeq ?_|refine Zes ?_|refine Zet ?_)|refine Zd8 ?_)
    first|refine Ze6 rfl ?_|refine Ze7 rfl ?_|refine Ze8 rfl ?_|refine Ze9 rfl ?_|refine Zfa rfl rfl ?_|refine Zfb rfl rfl ?_|refine Zfc rfl rfl ?_|refine Ze2 ?_|refine Ze3 ?_
    have e : HostS.does s op page b act = (s, 110) := by simp [HostS.does, hdn]
    rw [e]
    refine ⟨rfl, .inl ⟨by simp [HostS.done, hdn], ?_⟩⟩
    refine St.host_mk (bl := bl) (bc := bc) (logv := logv) hs ?_
    unfold hostB; rw [hp]; exact H
  | false =>
    obtain ⟨fv, H⟩ := ((Hn.pick (.there (.there .here))).omap_open faults_nil s.ops)
    clear Hn
    have hp : powerOf s = 0 := by simp [powerOf, hdn]
    unfold hostB at H
    rw [hp] at H
    generalize hfle : s.coming s.ops = fl at H hact
    have hfll : fl.length ≤ 2932031007401 := by rw [← hfle]; exact hs.fln _
    obtain ⟨fa, fk, rfl⟩ := (St.own_sl H).len
    refine calls_den [_, _, _, _, _] Tryz.func214 rfl rfl rfl Tryz.mixed (by kernel_rfl) ?_
    repeat (first|(refine Zd1 ?_; first|refine Zcx ?_|(refine Zd3 ?_; first|refine Zc0 rfl ?_|refine Zc1 rfl ?_|refine Zc2 rfl ?_)|refine Zcz (by first|exact Zat rfl|exact Zav rfl|exact Zaw rfl|exact Zaz rfl|exact Za2 rfl|exact Za1 rfl|exact Zau rfl|exact Za0 rfl|exact Zba rfl|exact Zce rfl (by omega)|exact Zbn rfl rfl|exact Zbr rfl rfl|exact Zbs rfl rfl|exact Zbq rfl rfl|exact Zbp rfl rfl|exact Zbo rfl rfl|exact Zcr rfl|exact Zbg rfl rfl (by omega)|exact Zbh rfl rfl (by omega)|exact Zbi rfl rfl (by omega)|exact Zco rfl rfl|exact Zdz rfl rfl|exact Zd0 rfl rfl|exact Za8 rfl rfl|exact Za9 rfl rfl|exact Za6 rfl rfl|exact Za7 rfl rfl|exact Zb1 rfl|exact Zca rfl rfl|exact Zcb rfl rfl|exact Zcv rfl rfl|exact Zcw rfl rfl|exact Zax rfl|exact Za3 rfl|exact Zay rfl|exact Zcl rfl rfl|exact Zb0 rfl|exact Zct|exact Zf3|exact Zar rfl|exact Zas rfl) ?_|(refine Zd4 ?_; refine Zc5 H rfl (by repeat constructor) rfl ?_)|(refine Zd5 ?_; (first|refine Zdb H rfl rfl (by repeat constructor) (by first|(simp only [wr_size, Array.size_setIfInBounds, List.size_toArray, List.length_cons, List.length_nil]; omega)|omega|(simp; done)|(simp; omega)) ?_|refine Zde H rfl rfl (by repeat constructor) (by first|(simp only [wr_size, Array.size_setIfInBounds, List.size_toArray, List.length_cons, List.length_nil]; omega)|omega|(simp; done)|(simp; omega)) ?_|refine Zdd H rfl rfl (by repeat constructor) (by first|(simp only [wr_size, Array.size_setIfInBounds, List.size_toArray, List.length_cons, List.length_nil]; omega)|omega|(simp; done)|(simp; omega)) ?_|refine Zdc H rfl rfl (by repeat constructor) (by first|(simp only [wr_size, Array.size_setIfInBounds, List.size_toArray, List.length_cons, List.length_nil]; omega)|omega|(simp; done)|(simp; omega)) ?_|refine Zda H rfl rfl rfl (by repeat constructor) (by first|(simp only [wr_size, Array.size_setIfInBounds, List.size_toArray, List.length_cons, List.length_nil]; omega)|omega|(simp; done)|(simp; omega)) ?_); clear H; intro w H))|(refine Zd6 ?_; first|refine Zd9 ?_|refine Zeb ?_|refine Zeh ?_|refine Zef ?_|refine Zed ?_|refine Zec ?_|refine Zee ?_|refine Zeg ?_|(refine Zd7 ?_; first|refine Zao rfl ?_|refine Zap rfl ?_))|(first|refine Zei ?_|refine Zej ?_|refine Zek ?_|refine Zel ?_|refine Zen ?_|refine Zem ?_|refine Zeo rfl ?_|refine Zep ?_|refine Zeq ?_|refine Zes ?_|refine Zet ?_)|refine Zd8 ?_)
    refine Zez H [(0, true, false), (1, true, false), (2, true, false), (3, true, false), (4, true, false), (5, true, false), (6, true, false), (7, true, false), (8, true, false), (9, true, false)] (by kernel_rfl) ?_
    clear H; intro w HS
    repeat (refine Ze1 ?_; first|refine Zds rfl (by first|exact Zat rfl|exact Zav rfl|exact Zaw rfl|exact Zaz rfl|exact Za2 rfl|exact Za1 rfl|exact Zau rfl|exact Za0 rfl|exact Zba rfl|exact Zce rfl (by omega)|exact Zbn rfl rfl|exact Zbr rfl rfl|exact Zbs rfl rfl|exact Zbq rfl rfl|exact Zbp rfl rfl|exact Zbo rfl rfl|exact Zcr rfl|exact Zbg rfl rfl (by omega)|exact Zbh rfl rfl (by omega)|exact Zbi rfl rfl (by omega)|exact Zco rfl rfl|exact Zdz rfl rfl|exact Zd0 rfl rfl|exact Za8 rfl rfl|exact Za9 rfl rfl|exact Za6 rfl rfl|exact Za7 rfl rfl|exact Zb1 rfl|exact Zca rfl rfl|exact Zcb rfl rfl|exact Zcv rfl rfl|exact Zcw rfl rfl|exact Zax rfl|exact Za3 rfl|exact Zay rfl|exact Zcl rfl rfl|exact Zb0 rfl|exact Zct|exact Zf3|exact Zar rfl|exact Zas rfl) HS ?_|refine Zdt rfl rfl (by first|exact Zat rfl|exact Zav rfl|exact Zaw rfl|exact Zaz rfl|exact Za2 rfl|exact Za1 rfl|exact Zau rfl|exact Za0 rfl|exact Zba rfl|exact Zce rfl (by omega)|exact Zbn rfl rfl|exact Zbr rfl rfl|exact Zbs rfl rfl|exact Zbq rfl rfl|exact Zbp rfl rfl|exact Zbo rfl rfl|exact Zcr rfl|exact Zbg rfl rfl (by omega)|exact Zbh rfl rfl (by omega)|exact Zbi rfl rfl (by omega)|exact Zco rfl rfl|exact Zdz rfl rfl|exact Zd0 rfl rfl|exact Za8 rfl rfl|exact Za9 rfl rfl|exact Za6 rfl rfl|exact Za7 rfl rfl|exact Zb1 rfl|exact Zca rfl rfl|exact Zcb rfl rfl|exact Zcv rfl rfl|exact Zcw rfl rfl|exact Zax rfl|exact Za3 rfl|exact Zay rfl|exact Zcl rfl rfl|exact Zb0 rfl|exact Zct|exact Zf3|exact Zar rfl|exact Zas rfl) HS ?_|refine Zdx rfl rfl rfl (fun _ h => h) (by repeat constructor) rfl HS ?_|refine Zdw rfl rfl (fun _ h => h) (by repeat constructor) rfl HS ?_|refine Zfn rfl rfl rfl (fun _ h => h) (by repeat constructor) HS ?_)
    refine Zdr ?_
    have H := HS; clear HS
    repeat (first|(refine Zd1 ?_; first|refine Zcx ?_|(refine Zd3 ?_; first|refine Zc0 rfl ?_|refine Zc1 rfl ?_|refine Zc2 rfl ?_)|refine Zcz (by first|exact Zat rfl|exact Zav rfl|exact Zaw rfl|exact Zaz rfl|exact Za2 rfl|exact Za1 rfl|exact Zau rfl|exact Za0 rfl|exact Zba rfl|exact Zce rfl (by omega)|exact Zbn rfl rfl|exact Zbr rfl rfl|exact Zbs rfl rfl|exact Zbq rfl rfl|exact Zbp rfl rfl|exact Zbo rfl rfl|exact Zcr rfl|exact Zbg rfl rfl (by omega)|exact Zbh rfl rfl (by omega)|exact Zbi rfl rfl (by omega)|exact Zco rfl rfl|exact Zdz rfl rfl|exact Zd0 rfl rfl|exact Za8 rfl rfl|exact Za9 rfl rfl|exact Za6 rfl rfl|exact Za7 rfl rfl|exact Zb1 rfl|exact Zca rfl rfl|exact Zcb rfl rfl|exact Zcv rfl rfl|exact Zcw rfl rfl|exact Zax rfl|exact Za3 rfl|exact Zay rfl|exact Zcl rfl rfl|exact Zb0 rfl|exact Zct|exact Zf3|exact Zar rfl|exact Zas rfl) ?_|(refine Zd4 ?_; refine Zc5 H rfl (by repeat constructor) rfl ?_)|(refine Zd5 ?_; (first|refine Zdb H rfl rfl (by repeat constructor) (by first|(simp only [wr_size, Array.size_setIfInBounds, List.size_toArray, List.length_cons, List.length_nil]; omega)|omega|(simp; done)|(simp; omega)) ?_|refine Zde H rfl rfl (by repeat constructor) (by first|(simp only [wr_size, Array.size_setIfInBounds, List.size_toArray, List.length_cons, List.length_nil]; omega)|omega|(simp; done)|(simp; omega)) ?_|refine Zdd H rfl rfl (by repeat constructor) (by first|(simp only [wr_size, Array.size_setIfInBounds, List.size_toArray, List.length_cons, List.length_nil]; omega)|omega|(simp; done)|(simp; omega)) ?_|refine Zdc H rfl rfl (by repeat constructor) (by first|(simp only [wr_size, Array.size_setIfInBounds, List.size_toArray, List.length_cons, List.length_nil]; omega)|omega|(simp; done)|(simp; omega)) ?_|refine Zda H rfl rfl rfl (by repeat constructor) (by first|(simp only [wr_size, Array.size_setIfInBounds, List.size_toArray, List.length_cons, List.length_nil]; omega)|omega|(simp; done)|(simp; omega)) ?_); clear H; intro w H))|(refine Zd6 ?_; first|refine Zd9 ?_|refine Zeb ?_|refine Zeh ?_|refine Zef ?_|refine Zed ?_|refine Zec ?_|refine Zee ?_|refine Zeg ?_|(refine Zd7 ?_; first|refine Zao rfl ?_|refine Zap rfl ?_))|(first|refine Zei ?_|refine Zej ?_|refine Zek ?_|refine Zel ?_|refine Zen ?_|refine Zem ?_|refine Zeo rfl ?_|refine Zep ?_|refine Zeq ?_|refine Zes ?_|refine Zet ?_)|refine Zd8 ?_)
    refine Zez H [(0, true, false), (1, true, false), (2, true, false), (3, true, false), (4, true, false), (5, true, false), (6, true, false), (7, true, false), (8, false, false)] (by kernel_rfl) ?_
    clear H; intro w HS
    repeat (refine Ze1 ?_; first|refine Zds rfl (by first|exact Zat rfl|exact Zav rfl|exact Zaw rfl|exact Zaz rfl|exact Za2 rfl|exact Za1 rfl|exact Zau rfl|exact Za0 rfl|exact Zba rfl|exact Zce rfl (by omega)|exact Zbn rfl rfl|exact Zbr rfl rfl|exact Zbs rfl rfl|exact Zbq rfl rfl|exact Zbp rfl rfl|exact Zbo rfl rfl|exact Zcr rfl|exact Zbg rfl rfl (by omega)|exact Zbh rfl rfl (by omega)|exact Zbi rfl rfl (by omega)|exact Zco rfl rfl|exact Zdz rfl rfl|exact Zd0 rfl rfl|exact Za8 rfl rfl|exact Za9 rfl rfl|exact Za6 rfl rfl|exact Za7 rfl rfl|exact Zb1 rfl|exact Zca rfl rfl|exact Zcb rfl rfl|exact Zcv rfl rfl|exact Zcw rfl rfl|exact Zax rfl|exact Za3 rfl|exact Zay rfl|exact Zcl rfl rfl|exact Zb0 rfl|exact Zct|exact Zf3|exact Zar rfl|exact Zas rfl) HS ?_|refine Zdt rfl rfl (by first|exact Zat rfl|exact Zav rfl|exact Zaw rfl|exact Zaz rfl|exact Za2 rfl|exact Za1 rfl|exact Zau rfl|exact Za0 rfl|exact Zba rfl|exact Zce rfl (by omega)|exact Zbn rfl rfl|exact Zbr rfl rfl|exact Zbs rfl rfl|exact Zbq rfl rfl|exact Zbp rfl rfl|exact Zbo rfl rfl|exact Zcr rfl|exact Zbg rfl rfl (by omega)|exact Zbh rfl rfl (by omega)|exact Zbi rfl rfl (by omega)|exact Zco rfl rfl|exact Zdz rfl rfl|exact Zd0 rfl rfl|exact Za8 rfl rfl|exact Za9 rfl rfl|exact Za6 rfl rfl|exact Za7 rfl rfl|exact Zb1 rfl|exact Zca rfl rfl|exact Zcb rfl rfl|exact Zcv rfl rfl|exact Zcw rfl rfl|exact Zax rfl|exact Za3 rfl|exact Zay rfl|exact Zcl rfl rfl|exact Zb0 rfl|exact Zct|exact Zf3|exact Zar rfl|exact Zas rfl) HS ?_|refine Zdx rfl rfl rfl (fun _ h => h) (by repeat constructor) rfl HS ?_|refine Zdw rfl rfl (fun _ h => h) (by repeat constructor) rfl HS ?_|refine Zfn rfl rfl rfl (fun _ h => h) (by repeat constructor) HS ?_)
    refine Zdy rfl ?_
    refine Zfp HS rfl rfl (by repeat constructor) ?_; clear HS; intro w H
    refine Zcx ⟨(fun hh => Bool.noConfusion hh), ?_⟩
    refine Zdr ?_
    repeat (first|(refine Zd1 ?_; first|refine Zcx ?_|(refine Zd3 ?_; first|refine Zc0 rfl ?_|refine Zc1 rfl ?_|refine Zc2 rfl ?_)|refine Zcz (by first|exact Zat rfl|exact Zav rfl|exact Zaw rfl|exact Zaz rfl|exact Za2 rfl|exact Za1 rfl|exact Zau rfl|exact Za0 rfl|exact Zba rfl|exact Zce rfl (by omega)|exact Zbn rfl rfl|exact Zbr rfl rfl|exact Zbs rfl rfl|exact Zbq rfl rfl|exact Zbp rfl rfl|exact Zbo rfl rfl|exact Zcr rfl|exact Zbg rfl rfl (by omega)|exact Zbh rfl rfl (by omega)|exact Zbi rfl rfl (by omega)|exact Zco rfl rfl|exact Zdz rfl rfl|exact Zd0 rfl rfl|exact Za8 rfl rfl|exact Za9 rfl rfl|exact Za6 rfl rfl|exact Za7 rfl rfl|exact Zb1 rfl|exact Zca rfl rfl|exact Zcb rfl rfl|exact Zcv rfl rfl|exact Zcw rfl rfl|exact Zax rfl|exact Za3 rfl|exact Zay rfl|exact Zcl rfl rfl|exact Zb0 rfl|exact Zct|exact Zf3|exact Zar rfl|exact Zas rfl) ?_|(refine Zd4 ?_; refine Zc5 H rfl (by repeat constructor) rfl ?_)|(refine Zd5 ?_; (first|refine Zdb H rfl rfl (by repeat constructor) (by first|(simp only [wr_size, Array.size_setIfInBounds, List.size_toArray, List.length_cons, List.length_nil]; omega)|omega|(simp; done)|(simp; omega)) ?_|refine Zde H rfl rfl (by repeat constructor) (by first|(simp only [wr_size, Array.size_setIfInBounds, List.size_toArray, List.length_cons, List.length_nil]; omega)|omega|(simp; done)|(simp; omega)) ?_|refine Zdd H rfl rfl (by repeat constructor) (by first|(simp only [wr_size, Array.size_setIfInBounds, List.size_toArray, List.length_cons, List.length_nil]; omega)|omega|(simp; done)|(simp; omega)) ?_|refine Zdc H rfl rfl (by repeat constructor) (by first|(simp only [wr_size, Array.size_setIfInBounds, List.size_toArray, List.length_cons, List.length_nil]; omega)|omega|(simp; done)|(simp; omega)) ?_|refine Zda H rfl rfl rfl (by repeat constructor) (by first|(simp only [wr_size, Array.size_setIfInBounds, List.size_toArray, List.length_cons, List.length_nil]; omega)|omega|(simp; done)|(simp; omega)) ?_); clear H; intro w H))|(refine Zd6 ?_; first|refine Zd9 ?_|refine Zeb ?_|refine Zeh ?_|refine Zef ?_|refine Zed ?_|refine Zec ?_|refine Zee ?_|refine Zeg ?_|(refine Zd7 ?_; first|refine Zao rfl ?_|refine Zap rfl ?_))|(first|refine Zei ?_|refine Zej ?_|refine Zek ?_|refine Zel ?_|refine Zen ?_|refine Zem ?_|refine Zeo rfl ?_|refine Zep ?_|refine Zeq ?_|refine Zes ?_|refine Zet ?_)|refine Zd8 ?_)
    have H : St w0 w (faultsA (.slice fa fl.length fk) fl :: hostB p bl bc logv (HostS.taken s) :: omap bl rowsA [] (HostS.taken s).lay :: omap bc faultsA [] (HostS.taken s).coming :: logA logv (HostS.taken s).log :: L) := by
      have e : hostB p bl bc logv (HostS.taken s) = cl p #[.int .i64 s.pages, .int .i64 s.size, .map (some bl), u64b s.reg, .map (some bc), .int .i64 (s.ops + 1), logv, .int .i64 0] 117 := by
        unfold hostB; rw [show powerOf (HostS.taken s) = 0 from hp]; rfl
      rw [e]
      exact H.arr (by repeat (first|exact Arr.nil|exact Arr.stop|refine Arr.cons (by repeat constructor) ?_|refine Arr.skip ?_))
    have hok1 := ok_taken hs
    have hbase : HostS.before fl = true → HostS.does s op page b act = ({ HostS.taken s with down := true }, 110) ∧ HostS.done s = false := fun h => by
      simp [HostS.does, HostS.done, hdn, hfle, h]
    refine Zfr [(10, 10), (13, 13), (47, 57)] (by kernel_rfl) H (fun i : Nat => i ≤ fl.length ∧ HostS.before (fl.take i) = false) (fun i => [(47, .int .i64 i)]) (fun i => fl.length - i) 0 ⟨Nat.zero_le _, rfl⟩ ⟨rfl, trivial⟩ ?_
    clear H; rintro i w u ⟨hi, hbf⟩ H
    repeat (first|(refine Zd1 ?_; first|refine Zcx ?_|(refine Zd3 ?_; first|refine Zc0 rfl ?_|refine Zc1 rfl ?_|refine Zc2 rfl ?_)|refine Zcz (by first|exact Zat rfl|exact Zav rfl|exact Zaw rfl|exact Zaz rfl|exact Za2 rfl|exact Za1 rfl|exact Zau rfl|exact Za0 rfl|exact Zba rfl|exact Zce rfl (by omega)|exact Zbn rfl rfl|exact Zbr rfl rfl|exact Zbs rfl rfl|exact Zbq rfl rfl|exact Zbp rfl rfl|exact Zbo rfl rfl|exact Zcr rfl|exact Zbg rfl rfl (by omega)|exact Zbh rfl rfl (by omega)|exact Zbi rfl rfl (by omega)|exact Zco rfl rfl|exact Zdz rfl rfl|exact Zd0 rfl rfl|exact Za8 rfl rfl|exact Za9 rfl rfl|exact Za6 rfl rfl|exact Za7 rfl rfl|exact Zb1 rfl|exact Zca rfl rfl|exact Zcb rfl rfl|exact Zcv rfl rfl|exact Zcw rfl rfl|exact Zax rfl|exact Za3 rfl|exact Zay rfl|exact Zcl rfl rfl|exact Zb0 rfl|exact Zct|exact Zf3|exact Zar rfl|exact Zas rfl) ?_|(refine Zd4 ?_; refine Zc5 H rfl (by repeat constructor) rfl ?_)|(refine Zd5 ?_; (first|refine Zdb H rfl rfl (by repeat constructor) (by first|(simp only [wr_size, Array.size_setIfInBounds, List.size_toArray, List.length_cons, List.length_nil]; omega)|omega|(simp; done)|(simp; omega)) ?_|refine Zde H rfl rfl (by repeat constructor) (by first|(simp only [wr_size, Array.size_setIfInBounds, List.size_toArray, List.length_cons, List.length_nil]; omega)|omega|(simp; done)|(simp; omega)) ?_|refine Zdd H rfl rfl (by repeat constructor) (by first|(simp only [wr_size, Array.size_setIfInBounds, List.size_toArray, List.length_cons, List.length_nil]; omega)|omega|(simp; done)|(simp; omega)) ?_|refine Zdc H rfl rfl (by repeat constructor) (by first|(simp only [wr_size, Array.size_setIfInBounds, List.size_toArray, List.length_cons, List.length_nil]; omega)|omega|(simp; done)|(simp; omega)) ?_|refine Zda H rfl rfl rfl (by repeat constructor) (by first|(simp only [wr_size, Array.size_setIfInBounds, List.size_toArray, List.length_cons, List.length_nil]; omega)|omega|(simp; done)|(simp; omega)) ?_); clear H; intro w H))|(refine Zd6 ?_; first|refine Zd9 ?_|refine Zeb ?_|refine Zeh ?_|refine Zef ?_|refine Zed ?_|refine Zec ?_|refine Zee ?_|refine Zeg ?_|(refine Zd7 ?_; first|refine Zao rfl ?_|refine Zap rfl ?_))|(first|refine Zei ?_|refine Zej ?_|refine Zek ?_|refine Zel ?_|refine Zen ?_|refine Zem ?_|refine Zeo rfl ?_|refine Zep ?_|refine Zeq ?_|refine Zes ?_|refine Zet ?_)|refine Zd8 ?_)
    refine Zaq rfl (fun hB => ?_) (fun hB => ?_)
    · simp only [Int.ofNat_lt] at hB
      have hlt := hB
      obtain ⟨xb, xo, xk, xc, xE, xfr, hxv, hxb, hxs, hxe⟩ := (St.own_sl H).elemN fcells_len (by omega) (by omega)
      simp only [Value.slice.injEq] at hxv
      obtain ⟨rfl, _, rfl⟩ := hxv
      obtain ⟨hx1, hx2⟩ := hxe i hB
      repeat (first|(refine Zd1 ?_; first|refine Zcx ?_|(refine Zd3 ?_; first|refine Zc0 rfl ?_|refine Zc1 rfl ?_|refine Zc2 rfl ?_)|refine Zcz (by first|exact Zat rfl|exact Zav rfl|exact Zaw rfl|exact Zaz rfl|exact Za2 rfl|exact Za1 rfl|exact Zau rfl|exact Za0 rfl|exact Zba rfl|exact Zce rfl (by omega)|exact Zbn rfl rfl|exact Zbr rfl rfl|exact Zbs rfl rfl|exact Zbq rfl rfl|exact Zbp rfl rfl|exact Zbo rfl rfl|exact Zcr rfl|exact Zbg rfl rfl (by omega)|exact Zbh rfl rfl (by omega)|exact Zbi rfl rfl (by omega)|exact Zco rfl rfl|exact Zdz rfl rfl|exact Zd0 rfl rfl|exact Za8 rfl rfl|exact Za9 rfl rfl|exact Za6 rfl rfl|exact Za7 rfl rfl|exact Zb1 rfl|exact Zca rfl rfl|exact Zcb rfl rfl|exact Zcv rfl rfl|exact Zcw rfl rfl|exact Zax rfl|exact Za3 rfl|exact Zay rfl|exact Zcl rfl rfl|exact Zb0 rfl|exact Zct|exact Zf3|exact Zar rfl|exact Zas rfl) ?_|(refine Zd4 ?_; refine Zc5 H rfl (by repeat constructor) rfl ?_)|(refine Zd5 ?_; (first|refine Zdb H rfl rfl (by repeat constructor) (by first|(simp only [wr_size, Array.size_setIfInBounds, List.size_toArray, List.length_cons, List.length_nil]; omega)|omega|(simp; done)|(simp; omega)) ?_|refine Zde H rfl rfl (by repeat constructor) (by first|(simp only [wr_size, Array.size_setIfInBounds, List.size_toArray, List.length_cons, List.length_nil]; omega)|omega|(simp; done)|(simp; omega)) ?_|refine Zdd H rfl rfl (by repeat constructor) (by first|(simp only [wr_size, Array.size_setIfInBounds, List.size_toArray, List.length_cons, List.length_nil]; omega)|omega|(simp; done)|(simp; omega)) ?_|refine Zdc H rfl rfl (by repeat constructor) (by first|(simp only [wr_size, Array.size_setIfInBounds, List.size_toArray, List.length_cons, List.length_nil]; omega)|omega|(simp; done)|(simp; omega)) ?_|refine Zda H rfl rfl rfl (by repeat constructor) (by first|(simp only [wr_size, Array.size_setIfInBounds, List.size_toArray, List.length_cons, List.length_nil]; omega)|omega|(simp; done)|(simp; omega)) ?_); clear H; intro w H))|(refine Zd6 ?_; first|refine Zd9 ?_|refine Zeb ?_|refine Zeh ?_|refine Zef ?_|refine Zed ?_|refine Zec ?_|refine Zee ?_|refine Zeg ?_|(refine Zd7 ?_; first|refine Zao rfl ?_|refine Zap rfl ?_))|(first|refine Zei ?_|refine Zej ?_|refine Zek ?_|refine Zel ?_|refine Zen ?_|refine Zem ?_|refine Zeo rfl ?_|refine Zep ?_|refine Zeq ?_|refine Zes ?_|refine Zet ?_)|refine Zd8 ?_)
      refine Zcz (Zcg rfl rfl hB) ?_
      refine Zft rfl hxb hx1 hx2 ?_
      refine Zdi H ?_; clear H; intro w fb H
      refine Zdh H rfl rfl ?_ ?_ (by repeat constructor) ?_ ?_; (next => first|rfl|simp); (next => first|rfl|simp [oneC, u8v]); (next => first|rfl|simp); clear H; intro w H
      repeat (first|(refine Zd1 ?_; first|refine Zcx ?_|(refine Zd3 ?_; first|refine Zc0 rfl ?_|refine Zc1 rfl ?_|refine Zc2 rfl ?_)|refine Zcz (by first|exact Zat rfl|exact Zav rfl|exact Zaw rfl|exact Zaz rfl|exact Za2 rfl|exact Za1 rfl|exact Zau rfl|exact Za0 rfl|exact Zba rfl|exact Zce rfl (by omega)|exact Zbn rfl rfl|exact Zbr rfl rfl|exact Zbs rfl rfl|exact Zbq rfl rfl|exact Zbp rfl rfl|exact Zbo rfl rfl|exact Zcr rfl|exact Zbg rfl rfl (by omega)|exact Zbh rfl rfl (by omega)|exact Zbi rfl rfl (by omega)|exact Zco rfl rfl|exact Zdz rfl rfl|exact Zd0 rfl rfl|exact Za8 rfl rfl|exact Za9 rfl rfl|exact Za6 rfl rfl|exact Za7 rfl rfl|exact Zb1 rfl|exact Zca rfl rfl|exact Zcb rfl rfl|exact Zcv rfl rfl|exact Zcw rfl rfl|exact Zax rfl|exact Za3 rfl|exact Zay rfl|exact Zcl rfl rfl|exact Zb0 rfl|exact Zct|exact Zf3|exact Zar rfl|exact Zas rfl) ?_|(refine Zd4 ?_; refine Zc5 H rfl (by repeat constructor) rfl ?_)|(refine Zd5 ?_; (first|refine Zdb H rfl rfl (by repeat constructor) (by first|(simp only [wr_size, Array.size_setIfInBounds, List.size_toArray, List.length_cons, List.length_nil]; omega)|omega|(simp; done)|(simp; omega)) ?_|refine Zde H rfl rfl (by repeat constructor) (by first|(simp only [wr_size, Array.size_setIfInBounds, List.size_toArray, List.length_cons, List.length_nil]; omega)|omega|(simp; done)|(simp; omega)) ?_|refine Zdd H rfl rfl (by repeat constructor) (by first|(simp only [wr_size, Array.size_setIfInBounds, List.size_toArray, List.length_cons, List.length_nil]; omega)|omega|(simp; done)|(simp; omega)) ?_|refine Zdc H rfl rfl (by repeat constructor) (by first|(simp only [wr_size, Array.size_setIfInBounds, List.size_toArray, List.length_cons, List.length_nil]; omega)|omega|(simp; done)|(simp; omega)) ?_|refine Zda H rfl rfl rfl (by repeat constructor) (by first|(simp only [wr_size, Array.size_setIfInBounds, List.size_toArray, List.length_cons, List.length_nil]; omega)|omega|(simp; done)|(simp; omega)) ?_); clear H; intro w H))|(refine Zd6 ?_; first|refine Zd9 ?_|refine Zeb ?_|refine Zeh ?_|refine Zef ?_|refine Zed ?_|refine Zec ?_|refine Zee ?_|refine Zeg ?_|(refine Zd7 ?_; first|refine Zao rfl ?_|refine Zap rfl ?_))|(first|refine Zei ?_|refine Zej ?_|refine Zek ?_|refine Zel ?_|refine Zen ?_|refine Zem ?_|refine Zeo rfl ?_|refine Zep ?_|refine Zeq ?_|refine Zes ?_|refine Zet ?_)|refine Zd8 ?_)
      refine Zaq rfl (fun hB => ?_) (fun hB => ?_)
      · unfold hostB at H
        have htrue : HostS.before fl = true := any_take i (by
          have := before_take fl i hlt
          unfold HostS.before at this
          rw [this]; simp; right; assumption)
        repeat (first|(refine Zd1 ?_; first|refine Zcx ?_|(refine Zd3 ?_; first|refine Zc0 rfl ?_|refine Zc1 rfl ?_|refine Zc2 rfl ?_)|refine Zcz (by first|exact Zat rfl|exact Zav rfl|exact Zaw rfl|exact Zaz rfl|exact Za2 rfl|exact Za1 rfl|exact Zau rfl|exact Za0 rfl|exact Zba rfl|exact Zce rfl (by omega)|exact Zbn rfl rfl|exact Zbr rfl rfl|exact Zbs rfl rfl|exact Zbq rfl rfl|exact Zbp rfl rfl|exact Zbo rfl rfl|exact Zcr rfl|exact Zbg rfl rfl (by omega)|exact Zbh rfl rfl (by omega)|exact Zbi rfl rfl (by omega)|exact Zco rfl rfl|exact Zdz rfl rfl|exact Zd0 rfl rfl|exact Za8 rfl rfl|exact Za9 rfl rfl|exact Za6 rfl rfl|exact Za7 rfl rfl|exact Zb1 rfl|exact Zca rfl rfl|exact Zcb rfl rfl|exact Zcv rfl rfl|exact Zcw rfl rfl|exact Zax rfl|exact Za3 rfl|exact Zay rfl|exact Zcl rfl rfl|exact Zb0 rfl|exact Zct|exact Zf3|exact Zar rfl|exact Zas rfl) ?_|(refine Zd4 ?_; refine Zc5 H rfl (by repeat constructor) rfl ?_)|(refine Zd5 ?_; (first|refine Zdb H rfl rfl (by repeat constructor) (by first|(simp only [wr_size, Array.size_setIfInBounds, List.size_toArray, List.length_cons, List.length_nil]; omega)|omega|(simp; done)|(simp; omega)) ?_|refine Zde H rfl rfl (by repeat constructor) (by first|(simp only [wr_size, Array.size_setIfInBounds, List.size_toArray, List.length_cons, List.length_nil]; omega)|omega|(simp; done)|(simp; omega)) ?_|refine Zdd H rfl rfl (by repeat constructor) (by first|(simp only [wr_size, Array.size_setIfInBounds, List.size_toArray, List.length_cons, List.length_nil]; omega)|omega|(simp; done)|(simp; omega)) ?_|refine Zdc H rfl rfl (by repeat constructor) (by first|(simp only [wr_size, Array.size_setIfInBounds, List.size_toArray, List.length_cons, List.length_nil]; omega)|omega|(simp; done)|(simp; omega)) ?_|refine Zda H rfl rfl rfl (by repeat constructor) (by first|(simp only [wr_size, Array.size_setIfInBounds, List.size_toArray, List.length_cons, List.length_nil]; omega)|omega|(simp; done)|(simp; omega)) ?_); clear H; intro w H))|(refine Zd6 ?_; first|refine Zd9 ?_|refine Zeb ?_|refine Zeh ?_|refine Zef ?_|refine Zed ?_|refine Zec ?_|refine Zee ?_|refine Zeg ?_|(refine Zd7 ?_; first|refine Zao rfl ?_|refine Zap rfl ?_))|(first|refine Zei ?_|refine Zej ?_|refine Zek ?_|refine Zel ?_|refine Zen ?_|refine Zem ?_|refine Zeo rfl ?_|refine Zep ?_|refine Zeq ?_|refine Zes ?_|refine Zet ?_)|refine Zd8 ?_)
        first|refine Ze6 rfl ?_|refine Ze7 rfl ?_|refine Ze8 rfl ?_|refine Ze9 rfl ?_|refine Zfa rfl rfl ?_|refine Zfb rfl rfl ?_|refine Zfc rfl rfl ?_|refine Ze2 ?_|refine Ze3 ?_
        obtain ⟨e1, e2⟩ := hbase htrue
        rw [e1]
        refine ⟨rfl, .inl ⟨e2, ?_⟩⟩
        refine St.host_mk (bl := bl) (bc := bc) (logv := logv) (ok_down true hok1) ?_
        exact H.arr (by repeat (first|exact Arr.nil|exact Arr.stop|refine Arr.cons (by repeat constructor) ?_|refine Arr.skip ?_))
      · repeat (first|(refine Zd1 ?_; first|refine Zcx ?_|(refine Zd3 ?_; first|refine Zc0 rfl ?_|refine Zc1 rfl ?_|refine Zc2 rfl ?_)|refine Zcz (by first|exact Zat rfl|exact Zav rfl|exact Zaw rfl|exact Zaz rfl|exact Za2 rfl|exact Za1 rfl|exact Zau rfl|exact Za0 rfl|exact Zba rfl|exact Zce rfl (by omega)|exact Zbn rfl rfl|exact Zbr rfl rfl|exact Zbs rfl rfl|exact Zbq rfl rfl|exact Zbp rfl rfl|exact Zbo rfl rfl|exact Zcr rfl|exact Zbg rfl rfl (by omega)|exact Zbh rfl rfl (by omega)|exact Zbi rfl rfl (by omega)|exact Zco rfl rfl|exact Zdz rfl rfl|exact Zd0 rfl rfl|exact Za8 rfl rfl|exact Za9 rfl rfl|exact Za6 rfl rfl|exact Za7 rfl rfl|exact Zb1 rfl|exact Zca rfl rfl|exact Zcb rfl rfl|exact Zcv rfl rfl|exact Zcw rfl rfl|exact Zax rfl|exact Za3 rfl|exact Zay rfl|exact Zcl rfl rfl|exact Zb0 rfl|exact Zct|exact Zf3|exact Zar rfl|exact Zas rfl) ?_|(refine Zd4 ?_; refine Zc5 H rfl (by repeat constructor) rfl ?_)|(refine Zd5 ?_; (first|refine Zdb H rfl rfl (by repeat constructor) (by first|(simp only [wr_size, Array.size_setIfInBounds, List.size_toArray, List.length_cons, List.length_nil]; omega)|omega|(simp; done)|(simp; omega)) ?_|refine Zde H rfl rfl (by repeat constructor) (by first|(simp only [wr_size, Array.size_setIfInBounds, List.size_toArray, List.length_cons, List.length_nil]; omega)|omega|(simp; done)|(simp; omega)) ?_|refine Zdd H rfl rfl (by repeat constructor) (by first|(simp only [wr_size, Array.size_setIfInBounds, List.size_toArray, List.length_cons, List.length_nil]; omega)|omega|(simp; done)|(simp; omega)) ?_|refine Zdc H rfl rfl (by repeat constructor) (by first|(simp only [wr_size, Array.size_setIfInBounds, List.size_toArray, List.length_cons, List.length_nil]; omega)|omega|(simp; done)|(simp; omega)) ?_|refine Zda H rfl rfl rfl (by repeat constructor) (by first|(simp only [wr_size, Array.size_setIfInBounds, List.size_toArray, List.length_cons, List.length_nil]; omega)|omega|(simp; done)|(simp; omega)) ?_); clear H; intro w H))|(refine Zd6 ?_; first|refine Zd9 ?_|refine Zeb ?_|refine Zeh ?_|refine Zef ?_|refine Zed ?_|refine Zec ?_|refine Zee ?_|refine Zeg ?_|(refine Zd7 ?_; first|refine Zao rfl ?_|refine Zap rfl ?_))|(first|refine Zei ?_|refine Zej ?_|refine Zek ?_|refine Zel ?_|refine Zen ?_|refine Zem ?_|refine Zeo rfl ?_|refine Zep ?_|refine Zeq ?_|refine Zes ?_|refine Zet ?_)|refine Zd8 ?_)
        refine Zeu (i + 1) (by omega) ⟨⟨by omega, ?_⟩, H.arr (by repeat (first|exact Arr.nil|exact Arr.stop|refine Arr.cons (by repeat constructor) ?_|refine Arr.skip ?_))⟩ ⟨rfl, trivial⟩
        rw [before_take fl i hlt, hbf]; simp; assumption
    · simp only [Int.ofNat_lt] at hB
      have hbf' : HostS.before fl = false := by rwa [List.take_of_length_le (by omega)] at hbf
      repeat (first|(refine Zd1 ?_; first|refine Zcx ?_|(refine Zd3 ?_; first|refine Zc0 rfl ?_|refine Zc1 rfl ?_|refine Zc2 rfl ?_)|refine Zcz (by first|exact Zat rfl|exact Zav rfl|exact Zaw rfl|exact Zaz rfl|exact Za2 rfl|exact Za1 rfl|exact Zau rfl|exact Za0 rfl|exact Zba rfl|exact Zce rfl (by omega)|exact Zbn rfl rfl|exact Zbr rfl rfl|exact Zbs rfl rfl|exact Zbq rfl rfl|exact Zbp rfl rfl|exact Zbo rfl rfl|exact Zcr rfl|exact Zbg rfl rfl (by omega)|exact Zbh rfl rfl (by omega)|exact Zbi rfl rfl (by omega)|exact Zco rfl rfl|exact Zdz rfl rfl|exact Zd0 rfl rfl|exact Za8 rfl rfl|exact Za9 rfl rfl|exact Za6 rfl rfl|exact Za7 rfl rfl|exact Zb1 rfl|exact Zca rfl rfl|exact Zcb rfl rfl|exact Zcv rfl rfl|exact Zcw rfl rfl|exact Zax rfl|exact Za3 rfl|exact Zay rfl|exact Zcl rfl rfl|exact Zb0 rfl|exact Zct|exact Zf3|exact Zar rfl|exact Zas rfl) ?_|(refine Zd4 ?_; refine Zc5 H rfl (by repeat constructor) rfl ?_)|(refine Zd5 ?_; (first|refine Zdb H rfl rfl (by repeat constructor) (by first|(simp only [wr_size, Array.size_setIfInBounds, List.size_toArray, List.length_cons, List.length_nil]; omega)|omega|(simp; done)|(simp; omega)) ?_|refine Zde H rfl rfl (by repeat constructor) (by first|(simp only [wr_size, Array.size_setIfInBounds, List.size_toArray, List.length_cons, List.length_nil]; omega)|omega|(simp; done)|(simp; omega)) ?_|refine Zdd H rfl rfl (by repeat constructor) (by first|(simp only [wr_size, Array.size_setIfInBounds, List.size_toArray, List.length_cons, List.length_nil]; omega)|omega|(simp; done)|(simp; omega)) ?_|refine Zdc H rfl rfl (by repeat constructor) (by first|(simp only [wr_size, Array.size_setIfInBounds, List.size_toArray, List.length_cons, List.length_nil]; omega)|omega|(simp; done)|(simp; omega)) ?_|refine Zda H rfl rfl rfl (by repeat constructor) (by first|(simp only [wr_size, Array.size_setIfInBounds, List.size_toArray, List.length_cons, List.length_nil]; omega)|omega|(simp; done)|(simp; omega)) ?_); clear H; intro w H))|(refine Zd6 ?_; first|refine Zd9 ?_|refine Zeb ?_|refine Zeh ?_|refine Zef ?_|refine Zed ?_|refine Zec ?_|refine Zee ?_|refine Zeg ?_|(refine Zd7 ?_; first|refine Zao rfl ?_|refine Zap rfl ?_))|(first|refine Zei ?_|refine Zej ?_|refine Zek ?_|refine Zel ?_|refine Zen ?_|refine Zem ?_|refine Zeo rfl ?_|refine Zep ?_|refine Zeq ?_|refine Zes ?_|refine Zet ?_)|refine Zd8 ?_)
      refine Ze0 [hostB p bl bc logv (HostS.taken s)] H [(0, true, false), (1, true, false), (2, true, false), (3, true, false), (4, true, false), (5, true, false), (6, true, false), (7, true, false), (8, true, false), (9, false, true), (10, false, true), (11, false, true), (12, true, false), (13, true, false), (14, false, false)] (by kernel_rfl) ?_
      clear H; intro w H
      have HS : St w0 w [hostB p bl bc logv (HostS.taken s)] := H.arr (by repeat (first|exact Arr.nil|exact Arr.stop|refine Arr.cons (by repeat constructor) ?_|refine Arr.skip ?_))
      have hlv := (St.own_sl (H.pick (A := logA logv s.log) (by repeat constructor))).len
      obtain ⟨la, lk, rfl⟩ := hlv
      repeat (refine Ze1 ?_; first|refine Zds rfl (by first|exact Zat rfl|exact Zav rfl|exact Zaw rfl|exact Zaz rfl|exact Za2 rfl|exact Za1 rfl|exact Zau rfl|exact Za0 rfl|exact Zba rfl|exact Zce rfl (by omega)|exact Zbn rfl rfl|exact Zbr rfl rfl|exact Zbs rfl rfl|exact Zbq rfl rfl|exact Zbp rfl rfl|exact Zbo rfl rfl|exact Zcr rfl|exact Zbg rfl rfl (by omega)|exact Zbh rfl rfl (by omega)|exact Zbi rfl rfl (by omega)|exact Zco rfl rfl|exact Zdz rfl rfl|exact Zd0 rfl rfl|exact Za8 rfl rfl|exact Za9 rfl rfl|exact Za6 rfl rfl|exact Za7 rfl rfl|exact Zb1 rfl|exact Zca rfl rfl|exact Zcb rfl rfl|exact Zcv rfl rfl|exact Zcw rfl rfl|exact Zax rfl|exact Za3 rfl|exact Zay rfl|exact Zcl rfl rfl|exact Zb0 rfl|exact Zct|exact Zf3|exact Zar rfl|exact Zas rfl) HS ?_|refine Zdt rfl rfl (by first|exact Zat rfl|exact Zav rfl|exact Zaw rfl|exact Zaz rfl|exact Za2 rfl|exact Za1 rfl|exact Zau rfl|exact Za0 rfl|exact Zba rfl|exact Zce rfl (by omega)|exact Zbn rfl rfl|exact Zbr rfl rfl|exact Zbs rfl rfl|exact Zbq rfl rfl|exact Zbp rfl rfl|exact Zbo rfl rfl|exact Zcr rfl|exact Zbg rfl rfl (by omega)|exact Zbh rfl rfl (by omega)|exact Zbi rfl rfl (by omega)|exact Zco rfl rfl|exact Zdz rfl rfl|exact Zd0 rfl rfl|exact Za8 rfl rfl|exact Za9 rfl rfl|exact Za6 rfl rfl|exact Za7 rfl rfl|exact Zb1 rfl|exact Zca rfl rfl|exact Zcb rfl rfl|exact Zcv rfl rfl|exact Zcw rfl rfl|exact Zax rfl|exact Za3 rfl|exact Zay rfl|exact Zcl rfl rfl|exact Zb0 rfl|exact Zct|exact Zf3|exact Zar rfl|exact Zas rfl) HS ?_|refine Zdx rfl rfl rfl (fun _ h => h) (by repeat constructor) rfl HS ?_|refine Zdw rfl rfl (fun _ h => h) (by repeat constructor) rfl HS ?_|refine Zfn rfl rfl rfl (fun _ h => h) (by repeat constructor) HS ?_)
      have htl : (tcells (HostS.touchOf s op page b)).length = 15 := tcells_len _ (touchOf_len s op page b)
      refine Zdy rfl ?_
      refine Zdp rfl (by kernel_rfl) (touch_c (s := HostS.taken s) (L := faultsA (.slice fa fl.length fk) fl :: omap bl rowsA [] (HostS.taken s).lay :: omap bc faultsA [] (HostS.taken s).coming :: logA (.slice la s.log.length lk) (HostS.taken s).log :: L) (b := b) op page (H.arr (by repeat (first|exact Arr.nil|exact Arr.stop|refine Arr.cons (by repeat constructor) ?_|refine Arr.skip ?_))) (fun h w' H' => hb h w' (H'.arr (by repeat (first|exact Arr.nil|exact Arr.stop|refine Arr.cons (by repeat constructor) ?_|refine Arr.skip ?_)))) ⟨_, _, _, rfl⟩) rfl ?_
      clear H HS; rintro v w ⟨rfl, H⟩
      have HS : St w0 w [hostB p bl bc (.slice la s.log.length lk) (HostS.taken s)] := H.arr (by repeat (first|exact Arr.nil|exact Arr.stop|refine Arr.cons (by repeat constructor) ?_|refine Arr.skip ?_))
      refine Zcx ⟨fun _ => HS, ?_⟩
      refine Zdy rfl ?_
      refine Zdl (cs := (tcells (HostS.touchOf s op page b)).toArray) H ?_ ?_ (fill_one (v := .agg (tcells (HostS.touchOf s op page b)).toArray) ?_ ?_) ?_
      · omega
      · omega
      · show (tcells (HostS.touchOf s op page b)).toArray.size = 15
        simp [htl]
      · rfl
      clear H HS; intro w tb H
      have HS : St w0 w [hostB p bl bc (.slice la s.log.length lk) (HostS.taken s)] := H.arr (by repeat (first|exact Arr.nil|exact Arr.stop|refine Arr.cons (by repeat constructor) ?_|refine Arr.skip ?_))
      refine Zcx ⟨fun _ => HS, ?_⟩
      refine Zdy rfl ?_
      refine Zdo (news := tcells (HostS.touchOf s op page b)) H rfl rfl (by repeat constructor) (by repeat constructor) ?_ ?_ (tcells_one _) ?_ ?_ ?_
      · simp [htl]
      · simp [htl, List.take_of_length_le]
      · omega
      · have := hs.log
        have e : (HostS.taken s).log.length = s.log.length := rfl
        omega
      clear H HS; intro la' lk' w H
      have HS : St w0 w [hostB p bl bc (.slice la s.log.length lk) (HostS.taken s)] := H.arr (by repeat (first|exact Arr.nil|exact Arr.stop|refine Arr.cons (by repeat constructor) ?_|refine Arr.skip ?_))
      refine Zcx ⟨fun _ => HS, ?_⟩
      repeat (refine Ze1 ?_; first|refine Zds rfl (by first|exact Zat rfl|exact Zav rfl|exact Zaw rfl|exact Zaz rfl|exact Za2 rfl|exact Za1 rfl|exact Zau rfl|exact Za0 rfl|exact Zba rfl|exact Zce rfl (by omega)|exact Zbn rfl rfl|exact Zbr rfl rfl|exact Zbs rfl rfl|exact Zbq rfl rfl|exact Zbp rfl rfl|exact Zbo rfl rfl|exact Zcr rfl|exact Zbg rfl rfl (by omega)|exact Zbh rfl rfl (by omega)|exact Zbi rfl rfl (by omega)|exact Zco rfl rfl|exact Zdz rfl rfl|exact Zd0 rfl rfl|exact Za8 rfl rfl|exact Za9 rfl rfl|exact Za6 rfl rfl|exact Za7 rfl rfl|exact Zb1 rfl|exact Zca rfl rfl|exact Zcb rfl rfl|exact Zcv rfl rfl|exact Zcw rfl rfl|exact Zax rfl|exact Za3 rfl|exact Zay rfl|exact Zcl rfl rfl|exact Zb0 rfl|exact Zct|exact Zf3|exact Zar rfl|exact Zas rfl) HS ?_|refine Zdt rfl rfl (by first|exact Zat rfl|exact Zav rfl|exact Zaw rfl|exact Zaz rfl|exact Za2 rfl|exact Za1 rfl|exact Zau rfl|exact Za0 rfl|exact Zba rfl|exact Zce rfl (by omega)|exact Zbn rfl rfl|exact Zbr rfl rfl|exact Zbs rfl rfl|exact Zbq rfl rfl|exact Zbp rfl rfl|exact Zbo rfl rfl|exact Zcr rfl|exact Zbg rfl rfl (by omega)|exact Zbh rfl rfl (by omega)|exact Zbi rfl rfl (by omega)|exact Zco rfl rfl|exact Zdz rfl rfl|exact Zd0 rfl rfl|exact Za8 rfl rfl|exact Za9 rfl rfl|exact Za6 rfl rfl|exact Za7 rfl rfl|exact Zb1 rfl|exact Zca rfl rfl|exact Zcb rfl rfl|exact Zcv rfl rfl|exact Zcw rfl rfl|exact Zax rfl|exact Za3 rfl|exact Zay rfl|exact Zcl rfl rfl|exact Zb0 rfl|exact Zct|exact Zf3|exact Zar rfl|exact Zas rfl) HS ?_|refine Zdx rfl rfl rfl (fun _ h => h) (by repeat constructor) rfl HS ?_|refine Zdw rfl rfl (fun _ h => h) (by repeat constructor) rfl HS ?_|refine Zfn rfl rfl rfl (fun _ h => h) (by repeat constructor) HS ?_)
      refine Zdy rfl ?_
      unfold hostB at H
      refine Zde H rfl rfl (by repeat constructor) (by first|(simp only [wr_size, Array.size_setIfInBounds, List.size_toArray, List.length_cons, List.length_nil]; omega)|omega|(simp; done)|(simp; omega)) ?_; clear H HS; intro w H
      refine Zcx ⟨(fun hh => Bool.noConfusion hh), ?_⟩
      refine Zdr ?_
      have H : St w0 w (faultsA (.slice fa fl.length fk) fl :: hostB p bl bc (.slice la' (s.log.length + 1) lk') (HostS.logged s op page b) :: omap bl rowsA [] (HostS.logged s op page b).lay :: omap bc faultsA [] (HostS.logged s op page b).coming :: logA (.slice la' (s.log.length + 1) lk') (HostS.logged s op page b).log :: L) := by
        have e : logA (.slice la' (s.log.length + 1) lk') (HostS.logged s op page b).log = own 65 15 (.slice la' (s.log.length + 1) lk') (s.log.length + 1) (s.log.flatMap tcells ++ tcells (HostS.touchOf s op page b)) := by
          unfold logA HostS.logged
          simp
        rw [e]
        exact H.arr (by repeat (first|exact Arr.nil|exact Arr.stop|refine Arr.cons (by repeat constructor) ?_|refine Arr.skip ?_))
      have hok2 : HostS.Ok (HostS.logged s op page b) := ⟨hok1.p0, hok1.p1, hok1.z0, hok1.z1, hok1.row, hok1.many, (by simp [HostS.logged, HostS.taken]; exact hs.log), hok1.flt, hok1.fln⟩
      have H := St.host_mk (L := faultsA (.slice fa fl.length fk) fl :: L) hok2 (H.arr (by repeat (first|exact Arr.nil|exact Arr.stop|refine Arr.cons (by repeat constructor) ?_|refine Arr.skip ?_)))
      have hdone : HostS.done s = true := by simp [HostS.done, hdn, hfle, hbf']
      have hres : HostS.does s op page b act = if HostS.behind fl then ({ act (HostS.logged s op page b) with down := true }, 110) else (act (HostS.logged s op page b), 0) := by
        simp [HostS.does, hdn, hfle, hbf']
      repeat (first|(refine Zd1 ?_; first|refine Zcx ?_|(refine Zd3 ?_; first|refine Zc0 rfl ?_|refine Zc1 rfl ?_|refine Zc2 rfl ?_)|refine Zcz (by first|exact Zat rfl|exact Zav rfl|exact Zaw rfl|exact Zaz rfl|exact Za2 rfl|exact Za1 rfl|exact Zau rfl|exact Za0 rfl|exact Zba rfl|exact Zce rfl (by omega)|exact Zbn rfl rfl|exact Zbr rfl rfl|exact Zbs rfl rfl|exact Zbq rfl rfl|exact Zbp rfl rfl|exact Zbo rfl rfl|exact Zcr rfl|exact Zbg rfl rfl (by omega)|exact Zbh rfl rfl (by omega)|exact Zbi rfl rfl (by omega)|exact Zco rfl rfl|exact Zdz rfl rfl|exact Zd0 rfl rfl|exact Za8 rfl rfl|exact Za9 rfl rfl|exact Za6 rfl rfl|exact Za7 rfl rfl|exact Zb1 rfl|exact Zca rfl rfl|exact Zcb rfl rfl|exact Zcv rfl rfl|exact Zcw rfl rfl|exact Zax rfl|exact Za3 rfl|exact Zay rfl|exact Zcl rfl rfl|exact Zb0 rfl|exact Zct|exact Zf3|exact Zar rfl|exact Zas rfl) ?_|(refine Zd4 ?_; refine Zc5 H rfl (by repeat constructor) rfl ?_)|(refine Zd5 ?_; (first|refine Zdb H rfl rfl (by repeat constructor) (by first|(simp only [wr_size, Array.size_setIfInBounds, List.size_toArray, List.length_cons, List.length_nil]; omega)|omega|(simp; done)|(simp; omega)) ?_|refine Zde H rfl rfl (by repeat constructor) (by first|(simp only [wr_size, Array.size_setIfInBounds, List.size_toArray, List.length_cons, List.length_nil]; omega)|omega|(simp; done)|(simp; omega)) ?_|refine Zdd H rfl rfl (by repeat constructor) (by first|(simp only [wr_size, Array.size_setIfInBounds, List.size_toArray, List.length_cons, List.length_nil]; omega)|omega|(simp; done)|(simp; omega)) ?_|refine Zdc H rfl rfl (by repeat constructor) (by first|(simp only [wr_size, Array.size_setIfInBounds, List.size_toArray, List.length_cons, List.length_nil]; omega)|omega|(simp; done)|(simp; omega)) ?_|refine Zda H rfl rfl rfl (by repeat constructor) (by first|(simp only [wr_size, Array.size_setIfInBounds, List.size_toArray, List.length_cons, List.length_nil]; omega)|omega|(simp; done)|(simp; omega)) ?_); clear H; intro w H))|(refine Zd6 ?_; first|refine Zd9 ?_|refine Zeb ?_|refine Zeh ?_|refine Zef ?_|refine Zed ?_|refine Zec ?_|refine Zee ?_|refine Zeg ?_|(refine Zd7 ?_; first|refine Zao rfl ?_|refine Zap rfl ?_))|(first|refine Zei ?_|refine Zej ?_|refine Zek ?_|refine Zel ?_|refine Zen ?_|refine Zem ?_|refine Zeo rfl ?_|refine Zep ?_|refine Zeq ?_|refine Zes ?_|refine Zet ?_)|refine Zd8 ?_)
      refine Zdp rfl hF (hact hdone w (.slice fa fl.length fk) (H.arr (by repeat (first|exact Arr.nil|exact Arr.stop|refine Arr.cons (by repeat constructor) ?_|refine Arr.skip ?_)))) (by simp [argL]; rfl) ?_
      clear H; intro v w H
      have hdn2 : (act (HostS.logged s op page b)).down = false := by rw [hact3]; exact hdn
      have hok3 := hact2 hs hok2
      generalize act (HostS.logged s op page b) = s2 at H hres hdn2 hok3
      obtain ⟨bl2, bc2, logv2, _, H⟩ := (H.swap).host_get
      have hp2 : powerOf s2 = 0 := by simp [powerOf, hdn2]
      have H : St w0 w (faultsA (.slice fa fl.length fk) fl :: hostB p bl2 bc2 logv2 s2 :: omap bl2 rowsA [] s2.lay :: omap bc2 faultsA [] s2.coming :: logA logv2 s2.log :: L2) := H.arr (by repeat (first|exact Arr.nil|exact Arr.stop|refine Arr.cons (by repeat constructor) ?_|refine Arr.skip ?_))
      repeat (first|(refine Zd1 ?_; first|refine Zcx ?_|(refine Zd3 ?_; first|refine Zc0 rfl ?_|refine Zc1 rfl ?_|refine Zc2 rfl ?_)|refine Zcz (by first|exact Zat rfl|exact Zav rfl|exact Zaw rfl|exact Zaz rfl|exact Za2 rfl|exact Za1 rfl|exact Zau rfl|exact Za0 rfl|exact Zba rfl|exact Zce rfl (by omega)|exact Zbn rfl rfl|exact Zbr rfl rfl|exact Zbs rfl rfl|exact Zbq rfl rfl|exact Zbp rfl rfl|exact Zbo rfl rfl|exact Zcr rfl|exact Zbg rfl rfl (by omega)|exact Zbh rfl rfl (by omega)|exact Zbi rfl rfl (by omega)|exact Zco rfl rfl|exact Zdz rfl rfl|exact Zd0 rfl rfl|exact Za8 rfl rfl|exact Za9 rfl rfl|exact Za6 rfl rfl|exact Za7 rfl rfl|exact Zb1 rfl|exact Zca rfl rfl|exact Zcb rfl rfl|exact Zcv rfl rfl|exact Zcw rfl rfl|exact Zax rfl|exact Za3 rfl|exact Zay rfl|exact Zcl rfl rfl|exact Zb0 rfl|exact Zct|exact Zf3|exact Zar rfl|exact Zas rfl) ?_|(refine Zd4 ?_; refine Zc5 H rfl (by repeat constructor) rfl ?_)|(refine Zd5 ?_; (first|refine Zdb H rfl rfl (by repeat constructor) (by first|(simp only [wr_size, Array.size_setIfInBounds, List.size_toArray, List.length_cons, List.length_nil]; omega)|omega|(simp; done)|(simp; omega)) ?_|refine Zde H rfl rfl (by repeat constructor) (by first|(simp only [wr_size, Array.size_setIfInBounds, List.size_toArray, List.length_cons, List.length_nil]; omega)|omega|(simp; done)|(simp; omega)) ?_|refine Zdd H rfl rfl (by repeat constructor) (by first|(simp only [wr_size, Array.size_setIfInBounds, List.size_toArray, List.length_cons, List.length_nil]; omega)|omega|(simp; done)|(simp; omega)) ?_|refine Zdc H rfl rfl (by repeat constructor) (by first|(simp only [wr_size, Array.size_setIfInBounds, List.size_toArray, List.length_cons, List.length_nil]; omega)|omega|(simp; done)|(simp; omega)) ?_|refine Zda H rfl rfl rfl (by repeat constructor) (by first|(simp only [wr_size, Array.size_setIfInBounds, List.size_toArray, List.length_cons, List.length_nil]; omega)|omega|(simp; done)|(simp; omega)) ?_); clear H; intro w H))|(refine Zd6 ?_; first|refine Zd9 ?_|refine Zeb ?_|refine Zeh ?_|refine Zef ?_|refine Zed ?_|refine Zec ?_|refine Zee ?_|refine Zeg ?_|(refine Zd7 ?_; first|refine Zao rfl ?_|refine Zap rfl ?_))|(first|refine Zei ?_|refine Zej ?_|refine Zek ?_|refine Zel ?_|refine Zen ?_|refine Zem ?_|refine Zeo rfl ?_|refine Zep ?_|refine Zeq ?_|refine Zes ?_|refine Zet ?_)|refine Zd8 ?_)
      refine Zfr [(10, 10), (15, 15), (77, 87)] (by kernel_rfl) H (fun i : Nat => i ≤ fl.length ∧ HostS.behind (fl.take i) = false) (fun i => [(77, .int .i64 i)]) (fun i => fl.length - i) 0 ⟨Nat.zero_le _, rfl⟩ ⟨rfl, trivial⟩ ?_
      clear H; rintro i w u ⟨hi, hbh⟩ H
      repeat (first|(refine Zd1 ?_; first|refine Zcx ?_|(refine Zd3 ?_; first|refine Zc0 rfl ?_|refine Zc1 rfl ?_|refine Zc2 rfl ?_)|refine Zcz (by first|exact Zat rfl|exact Zav rfl|exact Zaw rfl|exact Zaz rfl|exact Za2 rfl|exact Za1 rfl|exact Zau rfl|exact Za0 rfl|exact Zba rfl|exact Zce rfl (by omega)|exact Zbn rfl rfl|exact Zbr rfl rfl|exact Zbs rfl rfl|exact Zbq rfl rfl|exact Zbp rfl rfl|exact Zbo rfl rfl|exact Zcr rfl|exact Zbg rfl rfl (by omega)|exact Zbh rfl rfl (by omega)|exact Zbi rfl rfl (by omega)|exact Zco rfl rfl|exact Zdz rfl rfl|exact Zd0 rfl rfl|exact Za8 rfl rfl|exact Za9 rfl rfl|exact Za6 rfl rfl|exact Za7 rfl rfl|exact Zb1 rfl|exact Zca rfl rfl|exact Zcb rfl rfl|exact Zcv rfl rfl|exact Zcw rfl rfl|exact Zax rfl|exact Za3 rfl|exact Zay rfl|exact Zcl rfl rfl|exact Zb0 rfl|exact Zct|exact Zf3|exact Zar rfl|exact Zas rfl) ?_|(refine Zd4 ?_; refine Zc5 H rfl (by repeat constructor) rfl ?_)|(refine Zd5 ?_; (first|refine Zdb H rfl rfl (by repeat constructor) (by first|(simp only [wr_size, Array.size_setIfInBounds, List.size_toArray, List.length_cons, List.length_nil]; omega)|omega|(simp; done)|(simp; omega)) ?_|refine Zde H rfl rfl (by repeat constructor) (by first|(simp only [wr_size, Array.size_setIfInBounds, List.size_toArray, List.length_cons, List.length_nil]; omega)|omega|(simp; done)|(simp; omega)) ?_|refine Zdd H rfl rfl (by repeat constructor) (by first|(simp only [wr_size, Array.size_setIfInBounds, List.size_toArray, List.length_cons, List.length_nil]; omega)|omega|(simp; done)|(simp; omega)) ?_|refine Zdc H rfl rfl (by repeat constructor) (by first|(simp only [wr_size, Array.size_setIfInBounds, List.size_toArray, List.length_cons, List.length_nil]; omega)|omega|(simp; done)|(simp; omega)) ?_|refine Zda H rfl rfl rfl (by repeat constructor) (by first|(simp only [wr_size, Array.size_setIfInBounds, List.size_toArray, List.length_cons, List.length_nil]; omega)|omega|(simp; done)|(simp; omega)) ?_); clear H; intro w H))|(refine Zd6 ?_; first|refine Zd9 ?_|refine Zeb ?_|refine Zeh ?_|refine Zef ?_|refine Zed ?_|refine Zec ?_|refine Zee ?_|refine Zeg ?_|(refine Zd7 ?_; first|refine Zao rfl ?_|refine Zap rfl ?_))|(first|refine Zei ?_|refine Zej ?_|refine Zek ?_|refine Zel ?_|refine Zen ?_|refine Zem ?_|refine Zeo rfl ?_|refine Zep ?_|refine Zeq ?_|refine Zes ?_|refine Zet ?_)|refine Zd8 ?_)
      refine Zaq rfl (fun hB => ?_) (fun hB => ?_)
      · simp only [Int.ofNat_lt] at hB
        have hlt := hB
        obtain ⟨xb, xo, xk, xc, xE, xfr, hxv, hxb, hxs, hxe⟩ := (St.own_sl H).elemN fcells_len (by omega) (by omega)
        simp only [Value.slice.injEq] at hxv
        obtain ⟨rfl, _, rfl⟩ := hxv
        obtain ⟨hx1, hx2⟩ := hxe i hB
        repeat (first|(refine Zd1 ?_; first|refine Zcx ?_|(refine Zd3 ?_; first|refine Zc0 rfl ?_|refine Zc1 rfl ?_|refine Zc2 rfl ?_)|refine Zcz (by first|exact Zat rfl|exact Zav rfl|exact Zaw rfl|exact Zaz rfl|exact Za2 rfl|exact Za1 rfl|exact Zau rfl|exact Za0 rfl|exact Zba rfl|exact Zce rfl (by omega)|exact Zbn rfl rfl|exact Zbr rfl rfl|exact Zbs rfl rfl|exact Zbq rfl rfl|exact Zbp rfl rfl|exact Zbo rfl rfl|exact Zcr rfl|exact Zbg rfl rfl (by omega)|exact Zbh rfl rfl (by omega)|exact Zbi rfl rfl (by omega)|exact Zco rfl rfl|exact Zdz rfl rfl|exact Zd0 rfl rfl|exact Za8 rfl rfl|exact Za9 rfl rfl|exact Za6 rfl rfl|exact Za7 rfl rfl|exact Zb1 rfl|exact Zca rfl rfl|exact Zcb rfl rfl|exact Zcv rfl rfl|exact Zcw rfl rfl|exact Zax rfl|exact Za3 rfl|exact Zay rfl|exact Zcl rfl rfl|exact Zb0 rfl|exact Zct|exact Zf3|exact Zar rfl|exact Zas rfl) ?_|(refine Zd4 ?_; refine Zc5 H rfl (by repeat constructor) rfl ?_)|(refine Zd5 ?_; (first|refine Zdb H rfl rfl (by repeat constructor) (by first|(simp only [wr_size, Array.size_setIfInBounds, List.size_toArray, List.length_cons, List.length_nil]; omega)|omega|(simp; done)|(simp; omega)) ?_|refine Zde H rfl rfl (by repeat constructor) (by first|(simp only [wr_size, Array.size_setIfInBounds, List.size_toArray, List.length_cons, List.length_nil]; omega)|omega|(simp; done)|(simp; omega)) ?_|refine Zdd H rfl rfl (by repeat constructor) (by first|(simp only [wr_size, Array.size_setIfInBounds, List.size_toArray, List.length_cons, List.length_nil]; omega)|omega|(simp; done)|(simp; omega)) ?_|refine Zdc H rfl rfl (by repeat constructor) (by first|(simp only [wr_size, Array.size_setIfInBounds, List.size_toArray, List.length_cons, List.length_nil]; omega)|omega|(simp; done)|(simp; omega)) ?_|refine Zda H rfl rfl rfl (by repeat constructor) (by first|(simp only [wr_size, Array.size_setIfInBounds, List.size_toArray, List.length_cons, List.length_nil]; omega)|omega|(simp; done)|(simp; omega)) ?_); clear H; intro w H))|(refine Zd6 ?_; first|refine Zd9 ?_|refine Zeb ?_|refine Zeh ?_|refine Zef ?_|refine Zed ?_|refine Zec ?_|refine Zee ?_|refine Zeg ?_|(refine Zd7 ?_; first|refine Zao rfl ?_|refine Zap rfl ?_))|(first|refine Zei ?_|refine Zej ?_|refine Zek ?_|refine Zel ?_|refine Zen ?_|refine Zem ?_|refine Zeo rfl ?_|refine Zep ?_|refine Zeq ?_|refine Zes ?_|refine Zet ?_)|refine Zd8 ?_)
        refine Zcz (Zcg rfl rfl hB) ?_
        refine Zft rfl hxb hx1 hx2 ?_
        refine Zdi H ?_; clear H; intro w fb H
        refine Zdh H rfl rfl ?_ ?_ (by repeat constructor) ?_ ?_; (next => first|rfl|simp); (next => first|rfl|simp [oneC, u8v]); (next => first|rfl|simp); clear H; intro w H
        repeat (first|(refine Zd1 ?_; first|refine Zcx ?_|(refine Zd3 ?_; first|refine Zc0 rfl ?_|refine Zc1 rfl ?_|refine Zc2 rfl ?_)|refine Zcz (by first|exact Zat rfl|exact Zav rfl|exact Zaw rfl|exact Zaz rfl|exact Za2 rfl|exact Za1 rfl|exact Zau rfl|exact Za0 rfl|exact Zba rfl|exact Zce rfl (by omega)|exact Zbn rfl rfl|exact Zbr rfl rfl|exact Zbs rfl rfl|exact Zbq rfl rfl|exact Zbp rfl rfl|exact Zbo rfl rfl|exact Zcr rfl|exact Zbg rfl rfl (by omega)|exact Zbh rfl rfl (by omega)|exact Zbi rfl rfl (by omega)|exact Zco rfl rfl|exact Zdz rfl rfl|exact Zd0 rfl rfl|exact Za8 rfl rfl|exact Za9 rfl rfl|exact Za6 rfl rfl|exact Za7 rfl rfl|exact Zb1 rfl|exact Zca rfl rfl|exact Zcb rfl rfl|exact Zcv rfl rfl|exact Zcw rfl rfl|exact Zax rfl|exact Za3 rfl|exact Zay rfl|exact Zcl rfl rfl|exact Zb0 rfl|exact Zct|exact Zf3|exact Zar rfl|exact Zas rfl) ?_|(refine Zd4 ?_; refine Zc5 H rfl (by repeat constructor) rfl ?_)|(refine Zd5 ?_; (first|refine Zdb H rfl rfl (by repeat constructor) (by first|(simp only [wr_size, Array.size_setIfInBounds, List.size_toArray, List.length_cons, List.length_nil]; omega)|omega|(simp; done)|(simp; omega)) ?_|refine Zde H rfl rfl (by repeat constructor) (by first|(simp only [wr_size, Array.size_setIfInBounds, List.size_toArray, List.length_cons, List.length_nil]; omega)|omega|(simp; done)|(simp; omega)) ?_|refine Zdd H rfl rfl (by repeat constructor) (by first|(simp only [wr_size, Array.size_setIfInBounds, List.size_toArray, List.length_cons, List.length_nil]; omega)|omega|(simp; done)|(simp; omega)) ?_|refine Zdc H rfl rfl (by repeat constructor) (by first|(simp only [wr_size, Array.size_setIfInBounds, List.size_toArray, List.length_cons, List.length_nil]; omega)|omega|(simp; done)|(simp; omega)) ?_|refine Zda H rfl rfl rfl (by repeat constructor) (by first|(simp only [wr_size, Array.size_setIfInBounds, List.size_toArray, List.length_cons, List.length_nil]; omega)|omega|(simp; done)|(simp; omega)) ?_); clear H; intro w H))|(refine Zd6 ?_; first|refine Zd9 ?_|refine Zeb ?_|refine Zeh ?_|refine Zef ?_|refine Zed ?_|refine Zec ?_|refine Zee ?_|refine Zeg ?_|(refine Zd7 ?_; first|refine Zao rfl ?_|refine Zap rfl ?_))|(first|refine Zei ?_|refine Zej ?_|refine Zek ?_|refine Zel ?_|refine Zen ?_|refine Zem ?_|refine Zeo rfl ?_|refine Zep ?_|refine Zeq ?_|refine Zes ?_|refine Zet ?_)|refine Zd8 ?_)
        refine Zaq rfl (fun hB => ?_) (fun hB => ?_)
        · unfold hostB at H
          have htrue : HostS.behind fl = true := any_take i (by
            have := behind_take fl i hlt
            unfold HostS.behind at this
            rw [this]; simp; right; assumption)
          repeat (first|(refine Zd1 ?_; first|refine Zcx ?_|(refine Zd3 ?_; first|refine Zc0 rfl ?_|refine Zc1 rfl ?_|refine Zc2 rfl ?_)|refine Zcz (by first|exact Zat rfl|exact Zav rfl|exact Zaw rfl|exact Zaz rfl|exact Za2 rfl|exact Za1 rfl|exact Zau rfl|exact Za0 rfl|exact Zba rfl|exact Zce rfl (by omega)|exact Zbn rfl rfl|exact Zbr rfl rfl|exact Zbs rfl rfl|exact Zbq rfl rfl|exact Zbp rfl rfl|exact Zbo rfl rfl|exact Zcr rfl|exact Zbg rfl rfl (by omega)|exact Zbh rfl rfl (by omega)|exact Zbi rfl rfl (by omega)|exact Zco rfl rfl|exact Zdz rfl rfl|exact Zd0 rfl rfl|exact Za8 rfl rfl|exact Za9 rfl rfl|exact Za6 rfl rfl|exact Za7 rfl rfl|exact Zb1 rfl|exact Zca rfl rfl|exact Zcb rfl rfl|exact Zcv rfl rfl|exact Zcw rfl rfl|exact Zax rfl|exact Za3 rfl|exact Zay rfl|exact Zcl rfl rfl|exact Zb0 rfl|exact Zct|exact Zf3|exact Zar rfl|exact Zas rfl) ?_|(refine Zd4 ?_; refine Zc5 H rfl (by repeat constructor) rfl ?_)|(refine Zd5 ?_; (first|refine Zdb H rfl rfl (by repeat constructor) (by first|(simp only [wr_size, Array.size_setIfInBounds, List.size_toArray, List.length_cons, List.length_nil]; omega)|omega|(simp; done)|(simp; omega)) ?_|refine Zde H rfl rfl (by repeat constructor) (by first|(simp only [wr_size, Array.size_setIfInBounds, List.size_toArray, List.length_cons, List.length_nil]; omega)|omega|(simp; done)|(simp; omega)) ?_|refine Zdd H rfl rfl (by repeat constructor) (by first|(simp only [wr_size, Array.size_setIfInBounds, List.size_toArray, List.length_cons, List.length_nil]; omega)|omega|(simp; done)|(simp; omega)) ?_|refine Zdc H rfl rfl (by repeat constructor) (by first|(simp only [wr_size, Array.size_setIfInBounds, List.size_toArray, List.length_cons, List.length_nil]; omega)|omega|(simp; done)|(simp; omega)) ?_|refine Zda H rfl rfl rfl (by repeat constructor) (by first|(simp only [wr_size, Array.size_setIfInBounds, List.size_toArray, List.length_cons, List.length_nil]; omega)|omega|(simp; done)|(simp; omega)) ?_); clear H; intro w H))|(refine Zd6 ?_; first|refine Zd9 ?_|refine Zeb ?_|refine Zeh ?_|refine Zef ?_|refine Zed ?_|refine Zec ?_|refine Zee ?_|refine Zeg ?_|(refine Zd7 ?_; first|refine Zao rfl ?_|refine Zap rfl ?_))|(first|refine Zei ?_|refine Zej ?_|refine Zek ?_|refine Zel ?_|refine Zen ?_|refine Zem ?_|refine Zeo rfl ?_|refine Zep ?_|refine Zeq ?_|refine Zes ?_|refine Zet ?_)|refine Zd8 ?_)
          first|refine Ze6 rfl ?_|refine Ze7 rfl ?_|refine Ze8 rfl ?_|refine Ze9 rfl ?_|refine Zfa rfl rfl ?_|refine Zfb rfl rfl ?_|refine Zfc rfl rfl ?_|refine Ze2 ?_|refine Ze3 ?_
          rw [hres, htrue]
          refine ⟨rfl, .inr ⟨hdone, ?_⟩⟩
          refine St.host_mk (bl := bl2) (bc := bc2) (logv := logv2) (ok_down true hok3) ?_
          exact H.arr (by repeat (first|exact Arr.nil|exact Arr.stop|refine Arr.cons (by repeat constructor) ?_|refine Arr.skip ?_))
        · repeat (first|(refine Zd1 ?_; first|refine Zcx ?_|(refine Zd3 ?_; first|refine Zc0 rfl ?_|refine Zc1 rfl ?_|refine Zc2 rfl ?_)|refine Zcz (by first|exact Zat rfl|exact Zav rfl|exact Zaw rfl|exact Zaz rfl|exact Za2 rfl|exact Za1 rfl|exact Zau rfl|exact Za0 rfl|exact Zba rfl|exact Zce rfl (by omega)|exact Zbn rfl rfl|exact Zbr rfl rfl|exact Zbs rfl rfl|exact Zbq rfl rfl|exact Zbp rfl rfl|exact Zbo rfl rfl|exact Zcr rfl|exact Zbg rfl rfl (by omega)|exact Zbh rfl rfl (by omega)|exact Zbi rfl rfl (by omega)|exact Zco rfl rfl|exact Zdz rfl rfl|exact Zd0 rfl rfl|exact Za8 rfl rfl|exact Za9 rfl rfl|exact Za6 rfl rfl|exact Za7 rfl rfl|exact Zb1 rfl|exact Zca rfl rfl|exact Zcb rfl rfl|exact Zcv rfl rfl|exact Zcw rfl rfl|exact Zax rfl|exact Za3 rfl|exact Zay rfl|exact Zcl rfl rfl|exact Zb0 rfl|exact Zct|exact Zf3|exact Zar rfl|exact Zas rfl) ?_|(refine Zd4 ?_; refine Zc5 H rfl (by repeat constructor) rfl ?_)|(refine Zd5 ?_; (first|refine Zdb H rfl rfl (by repeat constructor) (by first|(simp only [wr_size, Array.size_setIfInBounds, List.size_toArray, List.length_cons, List.length_nil]; omega)|omega|(simp; done)|(simp; omega)) ?_|refine Zde H rfl rfl (by repeat constructor) (by first|(simp only [wr_size, Array.size_setIfInBounds, List.size_toArray, List.length_cons, List.length_nil]; omega)|omega|(simp; done)|(simp; omega)) ?_|refine Zdd H rfl rfl (by repeat constructor) (by first|(simp only [wr_size, Array.size_setIfInBounds, List.size_toArray, List.length_cons, List.length_nil]; omega)|omega|(simp; done)|(simp; omega)) ?_|refine Zdc H rfl rfl (by repeat constructor) (by first|(simp only [wr_size, Array.size_setIfInBounds, List.size_toArray, List.length_cons, List.length_nil]; omega)|omega|(simp; done)|(simp; omega)) ?_|refine Zda H rfl rfl rfl (by repeat constructor) (by first|(simp only [wr_size, Array.size_setIfInBounds, List.size_toArray, List.length_cons, List.length_nil]; omega)|omega|(simp; done)|(simp; omega)) ?_); clear H; intro w H))|(refine Zd6 ?_; first|refine Zd9 ?_|refine Zeb ?_|refine Zeh ?_|refine Zef ?_|refine Zed ?_|refine Zec ?_|refine Zee ?_|refine Zeg ?_|(refine Zd7 ?_; first|refine Zao rfl ?_|refine Zap rfl ?_))|(first|refine Zei ?_|refine Zej ?_|refine Zek ?_|refine Zel ?_|refine Zen ?_|refine Zem ?_|refine Zeo rfl ?_|refine Zep ?_|refine Zeq ?_|refine Zes ?_|refine Zet ?_)|refine Zd8 ?_)
          refine Zeu (i + 1) (by omega) ⟨⟨by omega, ?_⟩, H.arr (by repeat (first|exact Arr.nil|exact Arr.stop|refine Arr.cons (by repeat constructor) ?_|refine Arr.skip ?_))⟩ ⟨rfl, trivial⟩
          rw [behind_take fl i hlt, hbh]; simp; assumption
      · simp only [Int.ofNat_lt] at hB
        have hbh' : HostS.behind fl = false := by rwa [List.take_of_length_le (by omega)] at hbh
        repeat (first|(refine Zd1 ?_; first|refine Zcx ?_|(refine Zd3 ?_; first|refine Zc0 rfl ?_|refine Zc1 rfl ?_|refine Zc2 rfl ?_)|refine Zcz (by first|exact Zat rfl|exact Zav rfl|exact Zaw rfl|exact Zaz rfl|exact Za2 rfl|exact Za1 rfl|exact Zau rfl|exact Za0 rfl|exact Zba rfl|exact Zce rfl (by omega)|exact Zbn rfl rfl|exact Zbr rfl rfl|exact Zbs rfl rfl|exact Zbq rfl rfl|exact Zbp rfl rfl|exact Zbo rfl rfl|exact Zcr rfl|exact Zbg rfl rfl (by omega)|exact Zbh rfl rfl (by omega)|exact Zbi rfl rfl (by omega)|exact Zco rfl rfl|exact Zdz rfl rfl|exact Zd0 rfl rfl|exact Za8 rfl rfl|exact Za9 rfl rfl|exact Za6 rfl rfl|exact Za7 rfl rfl|exact Zb1 rfl|exact Zca rfl rfl|exact Zcb rfl rfl|exact Zcv rfl rfl|exact Zcw rfl rfl|exact Zax rfl|exact Za3 rfl|exact Zay rfl|exact Zcl rfl rfl|exact Zb0 rfl|exact Zct|exact Zf3|exact Zar rfl|exact Zas rfl) ?_|(refine Zd4 ?_; refine Zc5 H rfl (by repeat constructor) rfl ?_)|(refine Zd5 ?_; (first|refine Zdb H rfl rfl (by repeat constructor) (by first|(simp only [wr_size, Array.size_setIfInBounds, List.size_toArray, List.length_cons, List.length_nil]; omega)|omega|(simp; done)|(simp; omega)) ?_|refine Zde H rfl rfl (by repeat constructor) (by first|(simp only [wr_size, Array.size_setIfInBounds, List.size_toArray, List.length_cons, List.length_nil]; omega)|omega|(simp; done)|(simp; omega)) ?_|refine Zdd H rfl rfl (by repeat constructor) (by first|(simp only [wr_size, Array.size_setIfInBounds, List.size_toArray, List.length_cons, List.length_nil]; omega)|omega|(simp; done)|(simp; omega)) ?_|refine Zdc H rfl rfl (by repeat constructor) (by first|(simp only [wr_size, Array.size_setIfInBounds, List.size_toArray, List.length_cons, List.length_nil]; omega)|omega|(simp; done)|(simp; omega)) ?_|refine Zda H rfl rfl rfl (by repeat constructor) (by first|(simp only [wr_size, Array.size_setIfInBounds, List.size_toArray, List.length_cons, List.length_nil]; omega)|omega|(simp; done)|(simp; omega)) ?_); clear H; intro w H))|(refine Zd6 ?_; first|refine Zd9 ?_|refine Zeb ?_|refine Zeh ?_|refine Zef ?_|refine Zed ?_|refine Zec ?_|refine Zee ?_|refine Zeg ?_|(refine Zd7 ?_; first|refine Zao rfl ?_|refine Zap rfl ?_))|(first|refine Zei ?_|refine Zej ?_|refine Zek ?_|refine Zel ?_|refine Zen ?_|refine Zem ?_|refine Zeo rfl ?_|refine Zep ?_|refine Zeq ?_|refine Zes ?_|refine Zet ?_)|refine Zd8 ?_)
        first|refine Ze6 rfl ?_|refine Ze7 rfl ?_|refine Ze8 rfl ?_|refine Ze9 rfl ?_|refine Zfa rfl rfl ?_|refine Zfb rfl rfl ?_|refine Zfc rfl rfl ?_|refine Ze2 ?_|refine Ze3 ?_
        rw [hres, hbh']
        refine ⟨rfl, .inr ⟨hdone, ?_⟩⟩
        exact St.host_mk (bl := bl2) (bc := bc2) (logv := logv2) hok3 (H.arr (by repeat (first|exact Arr.nil|exact Arr.stop|refine Arr.cons (by repeat constructor) ?_|refine Arr.skip ?_)))
end Go.Sl

/- host: what the acts do. -/
set_option maxHeartbeats 2000000
set_option linter.unusedVariables false
set_option linter.unusedSimpArgs false
namespace Go.Sl
open Go Go.Proofs
attribute [local irreducible] cl pt own old den denOps denS thenK blockK cutK loopK retK Calls PV
attribute [local irreducible] omap ohole oheld rowsB
theorem d_append_nil {P : Program} {ops : Array Oper} {dst : Option Nat} {ty T E : TypeId} {pos : String} {after : Array Edge} {rest : List Oper} {ρ : Env} {w w0 : World} {K : Env → World → Prop} {x y : Operand} {L L' : List Asrt}
    {size by' m T' E' : Nat} {z sv : Value} {news : List Value} [hs : TySlice P T E] [hi : TyI P E size by' z] [ht : TySlice P T' E']
    (H : St w0 w L) (hx : ev ρ x = .slice none 0 0) (hy : ev ρ y = sv) (hm2 : Has L (own E size (.slice none 0 0) 0 []) L') (hsl : SlW w size sv m news)
    (h1 : news.all oneC = true) (hby : by' ≠ 0) (hb : m * by' ≤ 140737488355328)
    (h : ∀ a' c' w', St w0 w' (own E size (.slice a' m c') m news :: L') → denOps P ops rest (put ρ dst (.slice a' m c')) w' K) :
    denOps P ops (⟨dst, .call { callee := .builtin .append, args := #[x, y], argTypes := #[T, T'] }, ty, pos, after, none⟩ :: rest) ρ w K := by
  refine Zfu H hx hy hm2 hsl h1 hby (by rwa [Nat.zero_add]) ?_
  intro a' c' w' H'
  rw [Nat.zero_add, List.nil_append] at H'
  rw [Nat.zero_add]
  exact h a' c' w' H'
theorem St.rows_snoc {w0 w : World} {L : List Asrt} {vs : List Value} {l : List HostS.Bytes} {v : Value} {b : HostS.Bytes} (hl : vs.length = l.length) (H : St w0 w (rowsB vs l :: bytesA v b :: L)) : St w0 w (rowsB (vs ++ [v]) (l ++ [b]) :: L) := by
  unfold rowsB at H ⊢
  rw [List.zip_append hl, List.map_append]
  refine St.all_mk _ ?_
  rw [List.append_assoc]
  exact H.all_get
section
variable {p : Nat} {s : HostS.HS} {w0 w : World} {L : List Asrt}
theorem write1_c (page : Int) (hb pb bb : Nat) {bv : Value} {b : HostS.Bytes} (fv : Value) (hops : s.ops ≤ 3518437208880) (hsz : b.length = s.size) (hth : HostS.Ok (HostS.wrote page b s))
    (hbs : ∀ w', St w0 w' L → SlW w' 1 bv b.length (b.map u8b)) (hbv : ∃ a k, bv = .slice a b.length k)
    (H : St w0 w (hostA p s :: cl hb #[.pointer (some ⟨p, 0, none⟩)] 28 :: cl pb #[.int .i64 page] 3 :: cl bb #[bv] 33 :: L)) :
    Calls Tryz.prog 217 #[fv, .pointer (some ⟨hb, 0, none⟩), .pointer (some ⟨pb, 0, none⟩), .pointer (some ⟨bb, 0, none⟩)] w
      (Ret fun v w' => St w0 w' (hostA p (HostS.wrote page b s) :: cl hb #[.pointer (some ⟨p, 0, none⟩)] 28 :: cl pb #[.int .i64 page] 3 :: cl bb #[bv] 33 :: L)) := by
  obtain ⟨ba, bk, rfl⟩ := hbv
  obtain ⟨bl, bc, logv, hs, Hn⟩ := H.host_get
  clear H
  obtain ⟨v, H⟩ := ((Hn.pick (.there .here)).omap_open rows_nil page)
  clear Hn
  obtain ⟨vs, H⟩ := H.ex_get
  have H := H.all_get
  simp only [List.cons_append, List.nil_append] at H
  obtain ⟨hvl, hv1⟩ := H.pur_get
  have H := H.drop
  obtain ⟨a, k, rfl⟩ := H.own_sl.len
  have hm := hs.many page
  have hz1 := hs.z1
  unfold hostB at H
  refine calls_den [_, _, _, _] Tryz.func217 rfl rfl rfl Tryz.mixed (by kernel_rfl) ?_
  have H := St.own_nil H 5 1
  have hbs' : ∀ w', St w0 w' (own 5 1 (.slice none 0 0) 0 [] :: own 33 1 (.slice a (s.lay page).length k) (s.lay page).length vs :: rowsB vs (s.lay page) :: ohole bl rowsA [] s.lay page (.slice a (s.lay page).length k) :: cl p #[.int .i64 s.pages, .int .i64 s.size, .map (some bl), u64b s.reg, .map (some bc), .int .i64 s.ops, logv, .int .i64 (powerOf s)] 117 :: omap bc faultsA [] s.coming :: logA logv s.log :: cl hb #[.pointer (some ⟨p, 0, none⟩)] 28 :: cl pb #[.int .i64 page] 3 :: cl bb #[.slice ba b.length bk] 33 :: L) → SlW w' 1 (.slice ba b.length bk) b.length (b.map u8b) := fun w' H => hbs w' (H.arr (by repeat (first|exact Arr.nil|exact Arr.stop|refine Arr.cons (by repeat constructor) ?_|refine Arr.skip ?_)))
  refine Ze0 [ohole bl rowsA [] s.lay page (.slice a (s.lay page).length k), cl p #[.int .i64 s.pages, .int .i64 s.size, .map (some bl), u64b s.reg, .map (some bc), .int .i64 s.ops, logv, .int .i64 (powerOf s)] 117, cl hb #[.pointer (some ⟨p, 0, none⟩)] 28, cl pb #[.int .i64 page] 3, cl bb #[.slice ba b.length bk] 33] H [(0, true, false), (1, true, false), (2, true, false), (3, true, false), (4, true, false), (5, true, false), (6, true, false), (7, true, false), (8, true, false), (9, true, false), (10, true, false), (11, true, false), (12, false, true), (13, false, true), (14, false, true), (15, false, false)] (by kernel_rfl) ?_
  clear H; intro w H
  have HS : St w0 w [ohole bl rowsA [] s.lay page (.slice a (s.lay page).length k), cl p #[.int .i64 s.pages, .int .i64 s.size, .map (some bl), u64b s.reg, .map (some bc), .int .i64 s.ops, logv, .int .i64 (powerOf s)] 117, cl hb #[.pointer (some ⟨p, 0, none⟩)] 28, cl pb #[.int .i64 page] 3, cl bb #[.slice ba b.length bk] 33] := H.arr (by repeat (first|exact Arr.nil|exact Arr.stop|refine Arr.cons (by repeat constructor) ?_|refine Arr.skip ?_))
  repeat (refine Ze1 ?_; first|refine Zds rfl (by first|exact Zat rfl|exact Zav rfl|exact Zaw rfl|exact Zaz rfl|exact Za2 rfl|exact Za1 rfl|exact Zau rfl|exact Za0 rfl|exact Zba rfl|exact Zce rfl (by omega)|exact Zbn rfl rfl|exact Zbr rfl rfl|exact Zbs rfl rfl|exact Zbq rfl rfl|exact Zbp rfl rfl|exact Zbo rfl rfl|exact Zcr rfl|exact Zbg rfl rfl (by omega)|exact Zbh rfl rfl (by omega)|exact Zbi rfl rfl (by omega)|exact Zco rfl rfl|exact Zdz rfl rfl|exact Zd0 rfl rfl|exact Za8 rfl rfl|exact Za9 rfl rfl|exact Za6 rfl rfl|exact Za7 rfl rfl|exact Zb1 rfl|exact Zca rfl rfl|exact Zcb rfl rfl|exact Zcv rfl rfl|exact Zcw rfl rfl|exact Zax rfl|exact Za3 rfl|exact Zay rfl|exact Zcl rfl rfl|exact Zb0 rfl|exact Zct|exact Zf3|exact Zar rfl|exact Zas rfl) HS ?_|refine Zdt rfl rfl (by first|exact Zat rfl|exact Zav rfl|exact Zaw rfl|exact Zaz rfl|exact Za2 rfl|exact Za1 rfl|exact Zau rfl|exact Za0 rfl|exact Zba rfl|exact Zce rfl (by omega)|exact Zbn rfl rfl|exact Zbr rfl rfl|exact Zbs rfl rfl|exact Zbq rfl rfl|exact Zbp rfl rfl|exact Zbo rfl rfl|exact Zcr rfl|exact Zbg rfl rfl (by omega)|exact Zbh rfl rfl (by omega)|exact Zbi rfl rfl (by omega)|exact Zco rfl rfl|exact Zdz rfl rfl|exact Zd0 rfl rfl|exact Za8 rfl rfl|exact Za9 rfl rfl|exact Za6 rfl rfl|exact Za7 rfl rfl|exact Zb1 rfl|exact Zca rfl rfl|exact Zcb rfl rfl|exact Zcv rfl rfl|exact Zcw rfl rfl|exact Zax rfl|exact Za3 rfl|exact Zay rfl|exact Zcl rfl rfl|exact Zb0 rfl|exact Zct|exact Zf3|exact Zar rfl|exact Zas rfl) HS ?_|refine Zdx rfl rfl rfl (fun _ h => h) (by repeat constructor) rfl HS ?_|refine Zdw rfl rfl (fun _ h => h) (by repeat constructor) rfl HS ?_|refine Zfn rfl rfl rfl (fun _ h => h) (by repeat constructor) HS ?_)
  refine Zdy rfl ?_
  refine d_append_nil H rfl rfl Has.here (hbs' _ H) (u8_one b) (by omega) (by omega) ?_
  clear H HS; intro a' c' w H
  have HS : St w0 w [ohole bl rowsA [] s.lay page (.slice a (s.lay page).length k), cl p #[.int .i64 s.pages, .int .i64 s.size, .map (some bl), u64b s.reg, .map (some bc), .int .i64 s.ops, logv, .int .i64 (powerOf s)] 117, cl hb #[.pointer (some ⟨p, 0, none⟩)] 28, cl pb #[.int .i64 page] 3, cl bb #[.slice ba b.length bk] 33] := H.arr (by repeat (first|exact Arr.nil|exact Arr.stop|refine Arr.cons (by repeat constructor) ?_|refine Arr.skip ?_))
  refine Zcx ⟨fun _ => HS, ?_⟩
  refine Zdy rfl ?_
  refine Zdl (cs := #[.slice a' b.length c']) H ?_ ?_ (fill_one (v := .slice a' b.length c') ?_ ?_) ?_
  · omega
  · omega
  · rfl
  · rfl
  clear H HS; intro w tb H
  have HS : St w0 w [ohole bl rowsA [] s.lay page (.slice a (s.lay page).length k), cl p #[.int .i64 s.pages, .int .i64 s.size, .map (some bl), u64b s.reg, .map (some bc), .int .i64 s.ops, logv, .int .i64 (powerOf s)] 117, cl hb #[.pointer (some ⟨p, 0, none⟩)] 28, cl pb #[.int .i64 page] 3, cl bb #[.slice ba b.length bk] 33] := H.arr (by repeat (first|exact Arr.nil|exact Arr.stop|refine Arr.cons (by repeat constructor) ?_|refine Arr.skip ?_))
  refine Zcx ⟨fun _ => HS, ?_⟩
  refine Zdy rfl ?_
  refine Zdo (news := [.slice a' b.length c']) H rfl rfl (by repeat constructor) (by repeat constructor) ?_ ?_ ?_ ?_ ?_ ?_
  · simp
  · simp
  · rfl
  · omega
  · omega
  clear H HS; intro la' lk' w H
  have HS : St w0 w [ohole bl rowsA [] s.lay page (.slice a (s.lay page).length k), cl p #[.int .i64 s.pages, .int .i64 s.size, .map (some bl), u64b s.reg, .map (some bc), .int .i64 s.ops, logv, .int .i64 (powerOf s)] 117, cl hb #[.pointer (some ⟨p, 0, none⟩)] 28, cl pb #[.int .i64 page] 3, cl bb #[.slice ba b.length bk] 33] := H.arr (by repeat (first|exact Arr.nil|exact Arr.stop|refine Arr.cons (by repeat constructor) ?_|refine Arr.skip ?_))
  refine Zcx ⟨fun _ => HS, ?_⟩
  refine Zdy rfl ?_
  refine Zfo H rfl rfl rfl (by repeat constructor) ?_
  clear H HS; intro w H
  refine Zcx ⟨(fun hh => Bool.noConfusion hh), ?_⟩
  refine Zdr ?_
  refine Ze3 ?_
  have H1 := St.rows_snoc (v := .slice a' b.length c') (b := b) hvl (H.arr (M := rowsB vs (s.lay page) :: own 5 1 (.slice a' b.length c') b.length (b.map u8b) :: own 33 1 (.slice la' ((s.lay page).length + 1) lk') ((s.lay page).length + 1) (vs ++ [.slice a' b.length c']) :: oheld bl rowsA [] s.lay page (.slice la' ((s.lay page).length + 1) lk') :: hostB p bl bc logv (HostS.wrote page b s) :: omap bc faultsA [] s.coming :: logA logv s.log :: cl hb #[.pointer (some ⟨p, 0, none⟩)] 28 :: cl pb #[.int .i64 page] 3 :: cl bb #[.slice ba b.length bk] 33 :: L) (by repeat (first|exact Arr.nil|exact Arr.stop|refine Arr.cons (by repeat constructor) ?_|refine Arr.skip ?_)))
  have H2 := (H1.arr (M := own 33 1 (.slice la' ((s.lay page).length + 1) lk') ((s.lay page).length + 1) (vs ++ [.slice a' b.length c']) :: rowsB (vs ++ [.slice a' b.length c']) (s.lay page ++ [b]) :: oheld bl rowsA [] s.lay page (.slice la' ((s.lay page).length + 1) lk') :: hostB p bl bc logv (HostS.wrote page b s) :: omap bc faultsA [] s.coming :: logA logv s.log :: cl hb #[.pointer (some ⟨p, 0, none⟩)] 28 :: cl pb #[.int .i64 page] 3 :: cl bb #[.slice ba b.length bk] 33 :: L) (by repeat (first|exact Arr.nil|exact Arr.stop|refine Arr.cons (by repeat constructor) ?_|refine Arr.skip ?_)))
  have hl1 : (s.lay page ++ [b]).length = (s.lay page).length + 1 := by simp
  rw [← hl1] at H2
  have H3 := St.ex_mk (F := fun vs : List Value => all [pur (vs.length = (s.lay page ++ [b]).length ∧ vs.all oneC = true), own 33 1 (.slice la' (s.lay page ++ [b]).length lk') (s.lay page ++ [b]).length vs, rowsB vs (s.lay page ++ [b])]) (vs ++ [.slice a' b.length c']) (St.all_mk _ (H2.pur_mk ⟨by simp [hvl], by simp [hv1, oneC]⟩))
  have H4 := St.oheld_close (A := rowsA) (d := []) (f := s.lay) (k := page) (x := s.lay page ++ [b]) H3
  exact St.host_mk (p := p) (s := HostS.wrote page b s) hth (H4.arr (by repeat (first|exact Arr.nil|exact Arr.stop|refine Arr.cons (by repeat constructor) ?_|refine Arr.skip ?_)))
end
end Go.Sl

/- host: what the acts of reading, raising and asking do. -/
set_option maxHeartbeats 2000000
set_option linter.unusedVariables false
set_option linter.unusedSimpArgs false
namespace Go.Sl
open Go Go.Proofs
attribute [local irreducible] cl pt own old den denOps denS thenK blockK cutK loopK retK Calls PV
attribute [local irreducible] omap ohole oheld rowsB
section
variable {p : Nat} {s : HostS.HS} {w0 w : World} {L : List Asrt}
/-- What the act of reading leaves. -/
def readA (s : HostS.HS) (page : Int) (fl : List HostS.Fault) (bb : Nat) : Asrt :=
  ex fun v : Value => all [pur (∃ a k, v = .slice a s.size k), cl bb #[v] 33, bytesA v (HostS.spoilt s page fl)]
theorem read1_c (page : Int) (hb pb bb : Nat) (fv : Value) (fl : List HostS.Fault) (v0 : Value) (hops : s.ops ≤ 3518437208880) (hfo : ∀ f ∈ fl, HostS.FOk f) (hfl : fl.length ≤ 2932031007401)
    (H : St w0 w (faultsA fv fl :: hostA p s :: cl hb #[.pointer (some ⟨p, 0, none⟩)] 28 :: cl pb #[.int .i64 page] 3 :: cl bb #[v0] 33 :: L)) :
    Calls Tryz.prog 215 #[fv, .pointer (some ⟨hb, 0, none⟩), .pointer (some ⟨pb, 0, none⟩), .pointer (some ⟨bb, 0, none⟩)] w
      (Ret fun v w' => St w0 w' (faultsA fv fl :: hostA p s :: readA s page fl bb :: cl hb #[.pointer (some ⟨p, 0, none⟩)] 28 :: cl pb #[.int .i64 page] 3 :: L)) := by
  obtain ⟨fa, fk, rfl⟩ := (St.own_sl H).len
  refine calls_den [_, _, _, _] Tryz.func215 rfl rfl rfl Tryz.mixed (by kernel_rfl) ?_
  repeat (first|(refine Zd1 ?_; first|refine Zcx ?_|(refine Zd3 ?_; first|refine Zc0 rfl ?_|refine Zc1 rfl ?_|refine Zc2 rfl ?_)|refine Zcz (by first|exact Zat rfl|exact Zav rfl|exact Zaw rfl|exact Zaz rfl|exact Za2 rfl|exact Za1 rfl|exact Zau rfl|exact Za0 rfl|exact Zba rfl|exact Zce rfl (by omega)|exact Zbn rfl rfl|exact Zbr rfl rfl|exact Zbs rfl rfl|exact Zbq rfl rfl|exact Zbp rfl rfl|exact Zbo rfl rfl|exact Zcr rfl|exact Zbg rfl rfl (by omega)|exact Zbh rfl rfl (by omega)|exact Zbi rfl rfl (by omega)|exact Zco rfl rfl|exact Zdz rfl rfl|exact Zd0 rfl rfl|exact Za8 rfl rfl|exact Za9 rfl rfl|exact Za6 rfl rfl|exact Za7 rfl rfl|exact Zb1 rfl|exact Zca rfl rfl|exact Zcb rfl rfl|exact Zcv rfl rfl|exact Zcw rfl rfl|exact Zax rfl|exact Za3 rfl|exact Zay rfl|exact Zcl rfl rfl|exact Zb0 rfl|exact Zct|exact Zf3|exact Zar rfl|exact Zas rfl) ?_|(refine Zd4 ?_; refine Zc5 H rfl (by repeat constructor) rfl ?_)|(refine Zd5 ?_; (first|refine Zdb H rfl rfl (by repeat constructor) (by first|(simp only [wr_size, Array.size_setIfInBounds, List.size_toArray, List.length_cons, List.length_nil]; omega)|omega|(simp; done)|(simp; omega)) ?_|refine Zde H rfl rfl (by repeat constructor) (by first|(simp only [wr_size, Array.size_setIfInBounds, List.size_toArray, List.length_cons, List.length_nil]; omega)|omega|(simp; done)|(simp; omega)) ?_|refine Zdd H rfl rfl (by repeat constructor) (by first|(simp only [wr_size, Array.size_setIfInBounds, List.size_toArray, List.length_cons, List.length_nil]; omega)|omega|(simp; done)|(simp; omega)) ?_|refine Zdc H rfl rfl (by repeat constructor) (by first|(simp only [wr_size, Array.size_setIfInBounds, List.size_toArray, List.length_cons, List.length_nil]; omega)|omega|(simp; done)|(simp; omega)) ?_|refine Zda H rfl rfl rfl (by repeat constructor) (by first|(simp only [wr_size, Array.size_setIfInBounds, List.size_toArray, List.length_cons, List.length_nil]; omega)|omega|(simp; done)|(simp; omega)) ?_); clear H; intro w H))|(refine Zd6 ?_; first|refine Zd9 ?_|refine Zeb ?_|refine Zeh ?_|refine Zef ?_|refine Zed ?_|refine Zec ?_|refine Zee ?_|refine Zeg ?_|(refine Zd7 ?_; first|refine Zao rfl ?_|refine Zap rfl ?_))|(first|refine Zei ?_|refine Zej ?_|refine Zek ?_|refine Zel ?_|refine Zen ?_|refine Zem ?_|refine Zeo rfl ?_|refine Zep ?_|refine Zeq ?_|refine Zes ?_|refine Zet ?_)|refine Zd8 ?_)
  refine Zdp rfl (by kernel_rfl) (spoilt_c (L := faultsA (.slice fa fl.length fk) fl :: cl hb #[.pointer (some ⟨p, 0, none⟩)] 28 :: cl pb #[.int .i64 page] 3 :: cl bb #[v0] 33 :: L) page (H.arr (by repeat (first|exact Arr.nil|exact Arr.stop|refine Arr.cons (by repeat constructor) ?_|refine Arr.skip ?_))) hops (fun w' H' => St.own_sl H') hfo hfl) rfl ?_
  clear H; rintro v w ⟨a, k, rfl, H⟩
  repeat (first|(refine Zd1 ?_; first|refine Zcx ?_|(refine Zd3 ?_; first|refine Zc0 rfl ?_|refine Zc1 rfl ?_|refine Zc2 rfl ?_)|refine Zcz (by first|exact Zat rfl|exact Zav rfl|exact Zaw rfl|exact Zaz rfl|exact Za2 rfl|exact Za1 rfl|exact Zau rfl|exact Za0 rfl|exact Zba rfl|exact Zce rfl (by omega)|exact Zbn rfl rfl|exact Zbr rfl rfl|exact Zbs rfl rfl|exact Zbq rfl rfl|exact Zbp rfl rfl|exact Zbo rfl rfl|exact Zcr rfl|exact Zbg rfl rfl (by omega)|exact Zbh rfl rfl (by omega)|exact Zbi rfl rfl (by omega)|exact Zco rfl rfl|exact Zdz rfl rfl|exact Zd0 rfl rfl|exact Za8 rfl rfl|exact Za9 rfl rfl|exact Za6 rfl rfl|exact Za7 rfl rfl|exact Zb1 rfl|exact Zca rfl rfl|exact Zcb rfl rfl|exact Zcv rfl rfl|exact Zcw rfl rfl|exact Zax rfl|exact Za3 rfl|exact Zay rfl|exact Zcl rfl rfl|exact Zb0 rfl|exact Zct|exact Zf3|exact Zar rfl|exact Zas rfl) ?_|(refine Zd4 ?_; refine Zc5 H rfl (by repeat constructor) rfl ?_)|(refine Zd5 ?_; (first|refine Zdb H rfl rfl (by repeat constructor) (by first|(simp only [wr_size, Array.size_setIfInBounds, List.size_toArray, List.length_cons, List.length_nil]; omega)|omega|(simp; done)|(simp; omega)) ?_|refine Zde H rfl rfl (by repeat constructor) (by first|(simp only [wr_size, Array.size_setIfInBounds, List.size_toArray, List.length_cons, List.length_nil]; omega)|omega|(simp; done)|(simp; omega)) ?_|refine Zdd H rfl rfl (by repeat constructor) (by first|(simp only [wr_size, Array.size_setIfInBounds, List.size_toArray, List.length_cons, List.length_nil]; omega)|omega|(simp; done)|(simp; omega)) ?_|refine Zdc H rfl rfl (by repeat constructor) (by first|(simp only [wr_size, Array.size_setIfInBounds, List.size_toArray, List.length_cons, List.length_nil]; omega)|omega|(simp; done)|(simp; omega)) ?_|refine Zda H rfl rfl rfl (by repeat constructor) (by first|(simp only [wr_size, Array.size_setIfInBounds, List.size_toArray, List.length_cons, List.length_nil]; omega)|omega|(simp; done)|(simp; omega)) ?_); clear H; intro w H))|(refine Zd6 ?_; first|refine Zd9 ?_|refine Zeb ?_|refine Zeh ?_|refine Zef ?_|refine Zed ?_|refine Zec ?_|refine Zee ?_|refine Zeg ?_|(refine Zd7 ?_; first|refine Zao rfl ?_|refine Zap rfl ?_))|(first|refine Zei ?_|refine Zej ?_|refine Zek ?_|refine Zel ?_|refine Zen ?_|refine Zem ?_|refine Zeo rfl ?_|refine Zep ?_|refine Zeq ?_|refine Zes ?_|refine Zet ?_)|refine Zd8 ?_)
  refine Ze3 ?_
  have H2 := St.all_mk [pur (∃ a' k', Value.slice a s.size k = .slice a' s.size k'), cl bb #[.slice a s.size k] 33, bytesA (.slice a s.size k) (HostS.spoilt s page fl)] (St.pur_mk (H.arr (M := cl bb #[.slice a s.size k] 33 :: bytesA (.slice a s.size k) (HostS.spoilt s page fl) :: faultsA (.slice fa fl.length fk) fl :: hostA p s :: cl hb #[.pointer (some ⟨p, 0, none⟩)] 28 :: cl pb #[.int .i64 page] 3 :: L) (by repeat (first|exact Arr.nil|exact Arr.stop|refine Arr.cons (by repeat constructor) ?_|refine Arr.skip ?_))) ⟨a, k, rfl⟩)
  have H3 := St.ex_mk (F := fun v : Value => all [pur (∃ a k, v = .slice a s.size k), cl bb #[v] 33, bytesA v (HostS.spoilt s page fl)]) _ H2
  exact St.arr (L := readA s page fl bb :: _) H3 (by repeat (first|exact Arr.nil|exact Arr.stop|refine Arr.cons (by repeat constructor) ?_|refine Arr.skip ?_))
end
end Go.Sl

/- host: the operations. -/
set_option maxHeartbeats 2000000
set_option linter.unusedVariables false
set_option linter.unusedSimpArgs false
namespace Go.Sl
open Go Go.Proofs
attribute [local irreducible] cl pt own old den denOps denS thenK blockK cutK loopK retK Calls PV
attribute [local irreducible] omap ohole oheld rowsB
theorem ok_wrote {s : HostS.HS} (page op : Int) (b : HostS.Bytes) (hb : b.length = s.size) (h0 : HostS.Ok s) (h : HostS.Ok (HostS.logged s op page b)) : HostS.Ok (HostS.wrote page b (HostS.logged s op page b)) := by
  refine ⟨h.p0, h.p1, h.z0, h.z1, ?_, ?_, h.log, h.flt, h.fln⟩
  · intro q r hr
    by_cases e : q = page
    · simp only [HostS.wrote, HostS.setF, e, if_true, List.mem_append, List.mem_singleton] at hr
      rcases hr with hr|rfl
      · exact h.row _ _ hr
      · exact hb
    · simp only [HostS.wrote, HostS.setF, e, if_false] at hr
      exact h.row _ _ hr
  · intro q
    have := h0.many q
    have e2 : (HostS.wrote page b (HostS.logged s op page b)).ops = s.ops + 1 := rfl
    rw [e2]
    by_cases e : q = page
    · subst e
      have e3 : (HostS.wrote q b (HostS.logged s op q b)).lay q = s.lay q ++ [b] := by simp [HostS.wrote, HostS.setF, HostS.logged, HostS.taken]
      rw [e3]; simp; exact this
    · have e3 : (HostS.wrote page b (HostS.logged s op page b)).lay q = s.lay q := by simp [HostS.wrote, HostS.setF, e, HostS.logged, HostS.taken]
      rw [e3]; omega
theorem does_zero {s : HostS.HS} {op page : Int} {b : HostS.Bytes} {act : HostS.HS → HostS.HS} (h : HostS.done s = false) : (HostS.does s op page b act).2 = 110 := by
  simp only [HostS.done] at h
  simp only [HostS.does]
  cases hd : s.down <;> simp [hd] at h ⊢
  simp [h]
section
variable {p : Nat} {s : HostS.HS} {w0 w : World} {L : List Asrt}
theorem hwrite_c (page : Int) {bv : Value} {b : HostS.Bytes} (hops : s.ops < 3518437208880) (hlen : b.length < 9223372036854775808)
    (hbs : ∀ w', St w0 w' L → SlW w' 1 bv b.length (b.map u8b)) (H : St w0 w (hostA p s :: L)) :
    Calls Tryz.prog 213 #[.pointer (some ⟨p, 0, none⟩), .int .i64 page, bv] w
      (Ret fun v w' => v = .int .i64 (HostS.writeR s page b).1 ∧ St w0 w' (hostA p (HostS.writeR s page b).2 :: L)) := by
  obtain ⟨ba, bk, rfl⟩ := (hbs _ H.drop).len
  have hsok : HostS.Ok s := by obtain ⟨_, _, _, h, _⟩ := H.host_get; exact h
  refine calls_den [_, _, _] Tryz.func213 rfl rfl rfl Tryz.mixed (by kernel_rfl) ?_
  repeat (first|(refine Zd1 ?_; first|refine Zcx ?_|(refine Zd3 ?_; first|refine Zc0 rfl ?_|refine Zc1 rfl ?_|refine Zc2 rfl ?_)|refine Zcz (by first|exact Zat rfl|exact Zav rfl|exact Zaw rfl|exact Zaz rfl|exact Za2 rfl|exact Za1 rfl|exact Zau rfl|exact Za0 rfl|exact Zba rfl|exact Zce rfl (by omega)|exact Zbn rfl rfl|exact Zbr rfl rfl|exact Zbs rfl rfl|exact Zbq rfl rfl|exact Zbp rfl rfl|exact Zbo rfl rfl|exact Zcr rfl|exact Zbg rfl rfl (by omega)|exact Zbh rfl rfl (by omega)|exact Zbi rfl rfl (by omega)|exact Zco rfl rfl|exact Zdz rfl rfl|exact Zd0 rfl rfl|exact Za8 rfl rfl|exact Za9 rfl rfl|exact Za6 rfl rfl|exact Za7 rfl rfl|exact Zb1 rfl|exact Zca rfl rfl|exact Zcb rfl rfl|exact Zcv rfl rfl|exact Zcw rfl rfl|exact Zax rfl|exact Za3 rfl|exact Zay rfl|exact Zcl rfl rfl|exact Zb0 rfl|exact Zct|exact Zf3|exact Zar rfl|exact Zas rfl) ?_|(refine Zd4 ?_; refine Zc5 H rfl (by repeat constructor) rfl ?_)|(refine Zd5 ?_; (first|refine Zdb H rfl rfl (by repeat constructor) (by first|(simp only [wr_size, Array.size_setIfInBounds, List.size_toArray, List.length_cons, List.length_nil]; omega)|omega|(simp; done)|(simp; omega)) ?_|refine Zde H rfl rfl (by repeat constructor) (by first|(simp only [wr_size, Array.size_setIfInBounds, List.size_toArray, List.length_cons, List.length_nil]; omega)|omega|(simp; done)|(simp; omega)) ?_|refine Zdd H rfl rfl (by repeat constructor) (by first|(simp only [wr_size, Array.size_setIfInBounds, List.size_toArray, List.length_cons, List.length_nil]; omega)|omega|(simp; done)|(simp; omega)) ?_|refine Zdc H rfl rfl (by repeat constructor) (by first|(simp only [wr_size, Array.size_setIfInBounds, List.size_toArray, List.length_cons, List.length_nil]; omega)|omega|(simp; done)|(simp; omega)) ?_|refine Zda H rfl rfl rfl (by repeat constructor) (by first|(simp only [wr_size, Array.size_setIfInBounds, List.size_toArray, List.length_cons, List.length_nil]; omega)|omega|(simp; done)|(simp; omega)) ?_); clear H; intro w H))|(refine Zd6 ?_; first|refine Zd9 ?_|refine Zeb ?_|refine Zeh ?_|refine Zef ?_|refine Zed ?_|refine Zec ?_|refine Zee ?_|refine Zeg ?_|(refine Zd7 ?_; first|refine Zao rfl ?_|refine Zap rfl ?_))|(first|refine Zei ?_|refine Zej ?_|refine Zek ?_|refine Zel ?_|refine Zen ?_|refine Zem ?_|refine Zeo rfl ?_|refine Zep ?_|refine Zeq ?_|refine Zes ?_|refine Zet ?_)|refine Zd8 ?_)
  (first|refine Zfw H rfl ?_|refine Zfx H rfl ?_|refine Zfy H rfl ?_|refine Zfz H rfl ?_|refine Zf0 H rfl ?_|refine Zdj H rfl ?_); clear H; intro w xh H
  repeat (first|(refine Zd1 ?_; first|refine Zcx ?_|(refine Zd3 ?_; first|refine Zc0 rfl ?_|refine Zc1 rfl ?_|refine Zc2 rfl ?_)|refine Zcz (by first|exact Zat rfl|exact Zav rfl|exact Zaw rfl|exact Zaz rfl|exact Za2 rfl|exact Za1 rfl|exact Zau rfl|exact Za0 rfl|exact Zba rfl|exact Zce rfl (by omega)|exact Zbn rfl rfl|exact Zbr rfl rfl|exact Zbs rfl rfl|exact Zbq rfl rfl|exact Zbp rfl rfl|exact Zbo rfl rfl|exact Zcr rfl|exact Zbg rfl rfl (by omega)|exact Zbh rfl rfl (by omega)|exact Zbi rfl rfl (by omega)|exact Zco rfl rfl|exact Zdz rfl rfl|exact Zd0 rfl rfl|exact Za8 rfl rfl|exact Za9 rfl rfl|exact Za6 rfl rfl|exact Za7 rfl rfl|exact Zb1 rfl|exact Zca rfl rfl|exact Zcb rfl rfl|exact Zcv rfl rfl|exact Zcw rfl rfl|exact Zax rfl|exact Za3 rfl|exact Zay rfl|exact Zcl rfl rfl|exact Zb0 rfl|exact Zct|exact Zf3|exact Zar rfl|exact Zas rfl) ?_|(refine Zd4 ?_; refine Zc5 H rfl (by repeat constructor) rfl ?_)|(refine Zd5 ?_; (first|refine Zdb H rfl rfl (by repeat constructor) (by first|(simp only [wr_size, Array.size_setIfInBounds, List.size_toArray, List.length_cons, List.length_nil]; omega)|omega|(simp; done)|(simp; omega)) ?_|refine Zde H rfl rfl (by repeat constructor) (by first|(simp only [wr_size, Array.size_setIfInBounds, List.size_toArray, List.length_cons, List.length_nil]; omega)|omega|(simp; done)|(simp; omega)) ?_|refine Zdd H rfl rfl (by repeat constructor) (by first|(simp only [wr_size, Array.size_setIfInBounds, List.size_toArray, List.length_cons, List.length_nil]; omega)|omega|(simp; done)|(simp; omega)) ?_|refine Zdc H rfl rfl (by repeat constructor) (by first|(simp only [wr_size, Array.size_setIfInBounds, List.size_toArray, List.length_cons, List.length_nil]; omega)|omega|(simp; done)|(simp; omega)) ?_|refine Zda H rfl rfl rfl (by repeat constructor) (by first|(simp only [wr_size, Array.size_setIfInBounds, List.size_toArray, List.length_cons, List.length_nil]; omega)|omega|(simp; done)|(simp; omega)) ?_); clear H; intro w H))|(refine Zd6 ?_; first|refine Zd9 ?_|refine Zeb ?_|refine Zeh ?_|refine Zef ?_|refine Zed ?_|refine Zec ?_|refine Zee ?_|refine Zeg ?_|(refine Zd7 ?_; first|refine Zao rfl ?_|refine Zap rfl ?_))|(first|refine Zei ?_|refine Zej ?_|refine Zek ?_|refine Zel ?_|refine Zen ?_|refine Zem ?_|refine Zeo rfl ?_|refine Zep ?_|refine Zeq ?_|refine Zes ?_|refine Zet ?_)|refine Zd8 ?_)
  (first|refine Zfw H rfl ?_|refine Zfx H rfl ?_|refine Zfy H rfl ?_|refine Zfz H rfl ?_|refine Zf0 H rfl ?_|refine Zdj H rfl ?_); clear H; intro w xp H
  repeat (first|(refine Zd1 ?_; first|refine Zcx ?_|(refine Zd3 ?_; first|refine Zc0 rfl ?_|refine Zc1 rfl ?_|refine Zc2 rfl ?_)|refine Zcz (by first|exact Zat rfl|exact Zav rfl|exact Zaw rfl|exact Zaz rfl|exact Za2 rfl|exact Za1 rfl|exact Zau rfl|exact Za0 rfl|exact Zba rfl|exact Zce rfl (by omega)|exact Zbn rfl rfl|exact Zbr rfl rfl|exact Zbs rfl rfl|exact Zbq rfl rfl|exact Zbp rfl rfl|exact Zbo rfl rfl|exact Zcr rfl|exact Zbg rfl rfl (by omega)|exact Zbh rfl rfl (by omega)|exact Zbi rfl rfl (by omega)|exact Zco rfl rfl|exact Zdz rfl rfl|exact Zd0 rfl rfl|exact Za8 rfl rfl|exact Za9 rfl rfl|exact Za6 rfl rfl|exact Za7 rfl rfl|exact Zb1 rfl|exact Zca rfl rfl|exact Zcb rfl rfl|exact Zcv rfl rfl|exact Zcw rfl rfl|exact Zax rfl|exact Za3 rfl|exact Zay rfl|exact Zcl rfl rfl|exact Zb0 rfl|exact Zct|exact Zf3|exact Zar rfl|exact Zas rfl) ?_|(refine Zd4 ?_; refine Zc5 H rfl (by repeat constructor) rfl ?_)|(refine Zd5 ?_; (first|refine Zdb H rfl rfl (by repeat constructor) (by first|(simp only [wr_size, Array.size_setIfInBounds, List.size_toArray, List.length_cons, List.length_nil]; omega)|omega|(simp; done)|(simp; omega)) ?_|refine Zde H rfl rfl (by repeat constructor) (by first|(simp only [wr_size, Array.size_setIfInBounds, List.size_toArray, List.length_cons, List.length_nil]; omega)|omega|(simp; done)|(simp; omega)) ?_|refine Zdd H rfl rfl (by repeat constructor) (by first|(simp only [wr_size, Array.size_setIfInBounds, List.size_toArray, List.length_cons, List.length_nil]; omega)|omega|(simp; done)|(simp; omega)) ?_|refine Zdc H rfl rfl (by repeat constructor) (by first|(simp only [wr_size, Array.size_setIfInBounds, List.size_toArray, List.length_cons, List.length_nil]; omega)|omega|(simp; done)|(simp; omega)) ?_|refine Zda H rfl rfl rfl (by repeat constructor) (by first|(simp only [wr_size, Array.size_setIfInBounds, List.size_toArray, List.length_cons, List.length_nil]; omega)|omega|(simp; done)|(simp; omega)) ?_); clear H; intro w H))|(refine Zd6 ?_; first|refine Zd9 ?_|refine Zeb ?_|refine Zeh ?_|refine Zef ?_|refine Zed ?_|refine Zec ?_|refine Zee ?_|refine Zeg ?_|(refine Zd7 ?_; first|refine Zao rfl ?_|refine Zap rfl ?_))|(first|refine Zei ?_|refine Zej ?_|refine Zek ?_|refine Zel ?_|refine Zen ?_|refine Zem ?_|refine Zeo rfl ?_|refine Zep ?_|refine Zeq ?_|refine Zes ?_|refine Zet ?_)|refine Zd8 ?_)
  (first|refine Zfw H rfl ?_|refine Zfx H rfl ?_|refine Zfy H rfl ?_|refine Zfz H rfl ?_|refine Zf0 H rfl ?_|refine Zdj H rfl ?_); clear H; intro w xb H
  repeat (first|(refine Zd1 ?_; first|refine Zcx ?_|(refine Zd3 ?_; first|refine Zc0 rfl ?_|refine Zc1 rfl ?_|refine Zc2 rfl ?_)|refine Zcz (by first|exact Zat rfl|exact Zav rfl|exact Zaw rfl|exact Zaz rfl|exact Za2 rfl|exact Za1 rfl|exact Zau rfl|exact Za0 rfl|exact Zba rfl|exact Zce rfl (by omega)|exact Zbn rfl rfl|exact Zbr rfl rfl|exact Zbs rfl rfl|exact Zbq rfl rfl|exact Zbp rfl rfl|exact Zbo rfl rfl|exact Zcr rfl|exact Zbg rfl rfl (by omega)|exact Zbh rfl rfl (by omega)|exact Zbi rfl rfl (by omega)|exact Zco rfl rfl|exact Zdz rfl rfl|exact Zd0 rfl rfl|exact Za8 rfl rfl|exact Za9 rfl rfl|exact Za6 rfl rfl|exact Za7 rfl rfl|exact Zb1 rfl|exact Zca rfl rfl|exact Zcb rfl rfl|exact Zcv rfl rfl|exact Zcw rfl rfl|exact Zax rfl|exact Za3 rfl|exact Zay rfl|exact Zcl rfl rfl|exact Zb0 rfl|exact Zct|exact Zf3|exact Zar rfl|exact Zas rfl) ?_|(refine Zd4 ?_; refine Zc5 H rfl (by repeat constructor) rfl ?_)|(refine Zd5 ?_; (first|refine Zdb H rfl rfl (by repeat constructor) (by first|(simp only [wr_size, Array.size_setIfInBounds, List.size_toArray, List.length_cons, List.length_nil]; omega)|omega|(simp; done)|(simp; omega)) ?_|refine Zde H rfl rfl (by repeat constructor) (by first|(simp only [wr_size, Array.size_setIfInBounds, List.size_toArray, List.length_cons, List.length_nil]; omega)|omega|(simp; done)|(simp; omega)) ?_|refine Zdd H rfl rfl (by repeat constructor) (by first|(simp only [wr_size, Array.size_setIfInBounds, List.size_toArray, List.length_cons, List.length_nil]; omega)|omega|(simp; done)|(simp; omega)) ?_|refine Zdc H rfl rfl (by repeat constructor) (by first|(simp only [wr_size, Array.size_setIfInBounds, List.size_toArray, List.length_cons, List.length_nil]; omega)|omega|(simp; done)|(simp; omega)) ?_|refine Zda H rfl rfl rfl (by repeat constructor) (by first|(simp only [wr_size, Array.size_setIfInBounds, List.size_toArray, List.length_cons, List.length_nil]; omega)|omega|(simp; done)|(simp; omega)) ?_); clear H; intro w H))|(refine Zd6 ?_; first|refine Zd9 ?_|refine Zeb ?_|refine Zeh ?_|refine Zef ?_|refine Zed ?_|refine Zec ?_|refine Zee ?_|refine Zeg ?_|(refine Zd7 ?_; first|refine Zao rfl ?_|refine Zap rfl ?_))|(first|refine Zei ?_|refine Zej ?_|refine Zek ?_|refine Zel ?_|refine Zen ?_|refine Zem ?_|refine Zeo rfl ?_|refine Zep ?_|refine Zeq ?_|refine Zes ?_|refine Zet ?_)|refine Zd8 ?_)
  refine Zdp rfl (by kernel_rfl) (there_c page (H.pick (A := hostA p s) (by repeat constructor))) rfl ?_
  rintro v w ⟨rfl, rfl⟩
  repeat (first|(refine Zd1 ?_; first|refine Zcx ?_|(refine Zd3 ?_; first|refine Zc0 rfl ?_|refine Zc1 rfl ?_|refine Zc2 rfl ?_)|refine Zcz (by first|exact Zat rfl|exact Zav rfl|exact Zaw rfl|exact Zaz rfl|exact Za2 rfl|exact Za1 rfl|exact Zau rfl|exact Za0 rfl|exact Zba rfl|exact Zce rfl (by omega)|exact Zbn rfl rfl|exact Zbr rfl rfl|exact Zbs rfl rfl|exact Zbq rfl rfl|exact Zbp rfl rfl|exact Zbo rfl rfl|exact Zcr rfl|exact Zbg rfl rfl (by omega)|exact Zbh rfl rfl (by omega)|exact Zbi rfl rfl (by omega)|exact Zco rfl rfl|exact Zdz rfl rfl|exact Zd0 rfl rfl|exact Za8 rfl rfl|exact Za9 rfl rfl|exact Za6 rfl rfl|exact Za7 rfl rfl|exact Zb1 rfl|exact Zca rfl rfl|exact Zcb rfl rfl|exact Zcv rfl rfl|exact Zcw rfl rfl|exact Zax rfl|exact Za3 rfl|exact Zay rfl|exact Zcl rfl rfl|exact Zb0 rfl|exact Zct|exact Zf3|exact Zar rfl|exact Zas rfl) ?_|(refine Zd4 ?_; refine Zc5 H rfl (by repeat constructor) rfl ?_)|(refine Zd5 ?_; (first|refine Zdb H rfl rfl (by repeat constructor) (by first|(simp only [wr_size, Array.size_setIfInBounds, List.size_toArray, List.length_cons, List.length_nil]; omega)|omega|(simp; done)|(simp; omega)) ?_|refine Zde H rfl rfl (by repeat constructor) (by first|(simp only [wr_size, Array.size_setIfInBounds, List.size_toArray, List.length_cons, List.length_nil]; omega)|omega|(simp; done)|(simp; omega)) ?_|refine Zdd H rfl rfl (by repeat constructor) (by first|(simp only [wr_size, Array.size_setIfInBounds, List.size_toArray, List.length_cons, List.length_nil]; omega)|omega|(simp; done)|(simp; omega)) ?_|refine Zdc H rfl rfl (by repeat constructor) (by first|(simp only [wr_size, Array.size_setIfInBounds, List.size_toArray, List.length_cons, List.length_nil]; omega)|omega|(simp; done)|(simp; omega)) ?_|refine Zda H rfl rfl rfl (by repeat constructor) (by first|(simp only [wr_size, Array.size_setIfInBounds, List.size_toArray, List.length_cons, List.length_nil]; omega)|omega|(simp; done)|(simp; omega)) ?_); clear H; intro w H))|(refine Zd6 ?_; first|refine Zd9 ?_|refine Zeb ?_|refine Zeh ?_|refine Zef ?_|refine Zed ?_|refine Zec ?_|refine Zee ?_|refine Zeg ?_|(refine Zd7 ?_; first|refine Zao rfl ?_|refine Zap rfl ?_))|(first|refine Zei ?_|refine Zej ?_|refine Zek ?_|refine Zel ?_|refine Zen ?_|refine Zem ?_|refine Zeo rfl ?_|refine Zep ?_|refine Zeq ?_|refine Zes ?_|refine Zet ?_)|refine Zd8 ?_)
  refine Zaq rfl (fun hB => ?_) (fun hB => ?_)
  · have hB' : ¬ HostS.there s page := by simpa using hB
    repeat (first|(refine Zd1 ?_; first|refine Zcx ?_|(refine Zd3 ?_; first|refine Zc0 rfl ?_|refine Zc1 rfl ?_|refine Zc2 rfl ?_)|refine Zcz (by first|exact Zat rfl|exact Zav rfl|exact Zaw rfl|exact Zaz rfl|exact Za2 rfl|exact Za1 rfl|exact Zau rfl|exact Za0 rfl|exact Zba rfl|exact Zce rfl (by omega)|exact Zbn rfl rfl|exact Zbr rfl rfl|exact Zbs rfl rfl|exact Zbq rfl rfl|exact Zbp rfl rfl|exact Zbo rfl rfl|exact Zcr rfl|exact Zbg rfl rfl (by omega)|exact Zbh rfl rfl (by omega)|exact Zbi rfl rfl (by omega)|exact Zco rfl rfl|exact Zdz rfl rfl|exact Zd0 rfl rfl|exact Za8 rfl rfl|exact Za9 rfl rfl|exact Za6 rfl rfl|exact Za7 rfl rfl|exact Zb1 rfl|exact Zca rfl rfl|exact Zcb rfl rfl|exact Zcv rfl rfl|exact Zcw rfl rfl|exact Zax rfl|exact Za3 rfl|exact Zay rfl|exact Zcl rfl rfl|exact Zb0 rfl|exact Zct|exact Zf3|exact Zar rfl|exact Zas rfl) ?_|(refine Zd4 ?_; refine Zc5 H rfl (by repeat constructor) rfl ?_)|(refine Zd5 ?_; (first|refine Zdb H rfl rfl (by repeat constructor) (by first|(simp only [wr_size, Array.size_setIfInBounds, List.size_toArray, List.length_cons, List.length_nil]; omega)|omega|(simp; done)|(simp; omega)) ?_|refine Zde H rfl rfl (by repeat constructor) (by first|(simp only [wr_size, Array.size_setIfInBounds, List.size_toArray, List.length_cons, List.length_nil]; omega)|omega|(simp; done)|(simp; omega)) ?_|refine Zdd H rfl rfl (by repeat constructor) (by first|(simp only [wr_size, Array.size_setIfInBounds, List.size_toArray, List.length_cons, List.length_nil]; omega)|omega|(simp; done)|(simp; omega)) ?_|refine Zdc H rfl rfl (by repeat constructor) (by first|(simp only [wr_size, Array.size_setIfInBounds, List.size_toArray, List.length_cons, List.length_nil]; omega)|omega|(simp; done)|(simp; omega)) ?_|refine Zda H rfl rfl rfl (by repeat constructor) (by first|(simp only [wr_size, Array.size_setIfInBounds, List.size_toArray, List.length_cons, List.length_nil]; omega)|omega|(simp; done)|(simp; omega)) ?_); clear H; intro w H))|(refine Zd6 ?_; first|refine Zd9 ?_|refine Zeb ?_|refine Zeh ?_|refine Zef ?_|refine Zed ?_|refine Zec ?_|refine Zee ?_|refine Zeg ?_|(refine Zd7 ?_; first|refine Zao rfl ?_|refine Zap rfl ?_))|(first|refine Zei ?_|refine Zej ?_|refine Zek ?_|refine Zel ?_|refine Zen ?_|refine Zem ?_|refine Zeo rfl ?_|refine Zep ?_|refine Zeq ?_|refine Zes ?_|refine Zet ?_)|refine Zd8 ?_)
    first|refine Ze6 rfl ?_|refine Ze7 rfl ?_|refine Ze8 rfl ?_|refine Ze9 rfl ?_|refine Zfa rfl rfl ?_|refine Zfb rfl rfl ?_|refine Zfc rfl rfl ?_|refine Ze2 ?_|refine Ze3 ?_
    simp only [HostS.writeR, if_neg hB']
    exact ⟨rfl, H.arr (by repeat (first|exact Arr.nil|exact Arr.stop|refine Arr.cons (by repeat constructor) ?_|refine Arr.skip ?_))⟩
  have hB' : HostS.there s page := by simpa using hB
  obtain ⟨bl, bc, logv, _, H1⟩ := (H.pick (A := hostA p s) (by repeat constructor)).host_get
  unfold hostB at H1
  clear H
  repeat (first|(refine Zd1 ?_; first|refine Zcx ?_|(refine Zd3 ?_; first|refine Zc0 rfl ?_|refine Zc1 rfl ?_|refine Zc2 rfl ?_)|refine Zcz (by first|exact Zat rfl|exact Zav rfl|exact Zaw rfl|exact Zaz rfl|exact Za2 rfl|exact Za1 rfl|exact Zau rfl|exact Za0 rfl|exact Zba rfl|exact Zce rfl (by omega)|exact Zbn rfl rfl|exact Zbr rfl rfl|exact Zbs rfl rfl|exact Zbq rfl rfl|exact Zbp rfl rfl|exact Zbo rfl rfl|exact Zcr rfl|exact Zbg rfl rfl (by omega)|exact Zbh rfl rfl (by omega)|exact Zbi rfl rfl (by omega)|exact Zco rfl rfl|exact Zdz rfl rfl|exact Zd0 rfl rfl|exact Za8 rfl rfl|exact Za9 rfl rfl|exact Za6 rfl rfl|exact Za7 rfl rfl|exact Zb1 rfl|exact Zca rfl rfl|exact Zcb rfl rfl|exact Zcv rfl rfl|exact Zcw rfl rfl|exact Zax rfl|exact Za3 rfl|exact Zay rfl|exact Zcl rfl rfl|exact Zb0 rfl|exact Zct|exact Zf3|exact Zar rfl|exact Zas rfl) ?_|(refine Zd4 ?_; refine Zc5 H rfl (by repeat constructor) rfl ?_)|(refine Zd5 ?_; (first|refine Zdb H rfl rfl (by repeat constructor) (by first|(simp only [wr_size, Array.size_setIfInBounds, List.size_toArray, List.length_cons, List.length_nil]; omega)|omega|(simp; done)|(simp; omega)) ?_|refine Zde H rfl rfl (by repeat constructor) (by first|(simp only [wr_size, Array.size_setIfInBounds, List.size_toArray, List.length_cons, List.length_nil]; omega)|omega|(simp; done)|(simp; omega)) ?_|refine Zdd H rfl rfl (by repeat constructor) (by first|(simp only [wr_size, Array.size_setIfInBounds, List.size_toArray, List.length_cons, List.length_nil]; omega)|omega|(simp; done)|(simp; omega)) ?_|refine Zdc H rfl rfl (by repeat constructor) (by first|(simp only [wr_size, Array.size_setIfInBounds, List.size_toArray, List.length_cons, List.length_nil]; omega)|omega|(simp; done)|(simp; omega)) ?_|refine Zda H rfl rfl rfl (by repeat constructor) (by first|(simp only [wr_size, Array.size_setIfInBounds, List.size_toArray, List.length_cons, List.length_nil]; omega)|omega|(simp; done)|(simp; omega)) ?_); clear H; intro w H))|(refine Zd6 ?_; first|refine Zd9 ?_|refine Zeb ?_|refine Zeh ?_|refine Zef ?_|refine Zed ?_|refine Zec ?_|refine Zee ?_|refine Zeg ?_|(refine Zd7 ?_; first|refine Zao rfl ?_|refine Zap rfl ?_))|(first|refine Zei ?_|refine Zej ?_|refine Zek ?_|refine Zel ?_|refine Zen ?_|refine Zem ?_|refine Zeo rfl ?_|refine Zep ?_|refine Zeq ?_|refine Zes ?_|refine Zet ?_)|refine Zd8 ?_)
  refine Zez H1 [(0, true, false), (1, true, false), (2, true, false), (3, true, false), (4, true, false), (5, true, false), (6, true, false), (7, true, false)] (by kernel_rfl) ?_
  clear H1; intro w HS
  repeat (refine Ze1 ?_; first|refine Zds rfl (by first|exact Zat rfl|exact Zav rfl|exact Zaw rfl|exact Zaz rfl|exact Za2 rfl|exact Za1 rfl|exact Zau rfl|exact Za0 rfl|exact Zba rfl|exact Zce rfl (by omega)|exact Zbn rfl rfl|exact Zbr rfl rfl|exact Zbs rfl rfl|exact Zbq rfl rfl|exact Zbp rfl rfl|exact Zbo rfl rfl|exact Zcr rfl|exact Zbg rfl rfl (by omega)|exact Zbh rfl rfl (by omega)|exact Zbi rfl rfl (by omega)|exact Zco rfl rfl|exact Zdz rfl rfl|exact Zd0 rfl rfl|exact Za8 rfl rfl|exact Za9 rfl rfl|exact Za6 rfl rfl|exact Za7 rfl rfl|exact Zb1 rfl|exact Zca rfl rfl|exact Zcb rfl rfl|exact Zcv rfl rfl|exact Zcw rfl rfl|exact Zax rfl|exact Za3 rfl|exact Zay rfl|exact Zcl rfl rfl|exact Zb0 rfl|exact Zct|exact Zf3|exact Zar rfl|exact Zas rfl) HS ?_|refine Zdt rfl rfl (by first|exact Zat rfl|exact Zav rfl|exact Zaw rfl|exact Zaz rfl|exact Za2 rfl|exact Za1 rfl|exact Zau rfl|exact Za0 rfl|exact Zba rfl|exact Zce rfl (by omega)|exact Zbn rfl rfl|exact Zbr rfl rfl|exact Zbs rfl rfl|exact Zbq rfl rfl|exact Zbp rfl rfl|exact Zbo rfl rfl|exact Zcr rfl|exact Zbg rfl rfl (by omega)|exact Zbh rfl rfl (by omega)|exact Zbi rfl rfl (by omega)|exact Zco rfl rfl|exact Zdz rfl rfl|exact Zd0 rfl rfl|exact Za8 rfl rfl|exact Za9 rfl rfl|exact Za6 rfl rfl|exact Za7 rfl rfl|exact Zb1 rfl|exact Zca rfl rfl|exact Zcb rfl rfl|exact Zcv rfl rfl|exact Zcw rfl rfl|exact Zax rfl|exact Za3 rfl|exact Zay rfl|exact Zcl rfl rfl|exact Zb0 rfl|exact Zct|exact Zf3|exact Zar rfl|exact Zas rfl) HS ?_|refine Zdx rfl rfl rfl (fun _ h => h) (by repeat constructor) rfl HS ?_|refine Zdw rfl rfl (fun _ h => h) (by repeat constructor) rfl HS ?_|refine Zfn rfl rfl rfl (fun _ h => h) (by repeat constructor) HS ?_)
  refine Zdr ?_
  have H : St w0 w (hostA p s :: cl xb #[.slice ba b.length bk] 33 :: cl xp #[.int .i64 page] 3 :: cl xh #[.pointer (some ⟨p, 0, none⟩)] 28 :: L) := St.host_mk (bl := bl) (bc := bc) (logv := logv) hsok HS
  clear HS
  repeat (first|(refine Zd1 ?_; first|refine Zcx ?_|(refine Zd3 ?_; first|refine Zc0 rfl ?_|refine Zc1 rfl ?_|refine Zc2 rfl ?_)|refine Zcz (by first|exact Zat rfl|exact Zav rfl|exact Zaw rfl|exact Zaz rfl|exact Za2 rfl|exact Za1 rfl|exact Zau rfl|exact Za0 rfl|exact Zba rfl|exact Zce rfl (by omega)|exact Zbn rfl rfl|exact Zbr rfl rfl|exact Zbs rfl rfl|exact Zbq rfl rfl|exact Zbp rfl rfl|exact Zbo rfl rfl|exact Zcr rfl|exact Zbg rfl rfl (by omega)|exact Zbh rfl rfl (by omega)|exact Zbi rfl rfl (by omega)|exact Zco rfl rfl|exact Zdz rfl rfl|exact Zd0 rfl rfl|exact Za8 rfl rfl|exact Za9 rfl rfl|exact Za6 rfl rfl|exact Za7 rfl rfl|exact Zb1 rfl|exact Zca rfl rfl|exact Zcb rfl rfl|exact Zcv rfl rfl|exact Zcw rfl rfl|exact Zax rfl|exact Za3 rfl|exact Zay rfl|exact Zcl rfl rfl|exact Zb0 rfl|exact Zct|exact Zf3|exact Zar rfl|exact Zas rfl) ?_|(refine Zd4 ?_; refine Zc5 H rfl (by repeat constructor) rfl ?_)|(refine Zd5 ?_; (first|refine Zdb H rfl rfl (by repeat constructor) (by first|(simp only [wr_size, Array.size_setIfInBounds, List.size_toArray, List.length_cons, List.length_nil]; omega)|omega|(simp; done)|(simp; omega)) ?_|refine Zde H rfl rfl (by repeat constructor) (by first|(simp only [wr_size, Array.size_setIfInBounds, List.size_toArray, List.length_cons, List.length_nil]; omega)|omega|(simp; done)|(simp; omega)) ?_|refine Zdd H rfl rfl (by repeat constructor) (by first|(simp only [wr_size, Array.size_setIfInBounds, List.size_toArray, List.length_cons, List.length_nil]; omega)|omega|(simp; done)|(simp; omega)) ?_|refine Zdc H rfl rfl (by repeat constructor) (by first|(simp only [wr_size, Array.size_setIfInBounds, List.size_toArray, List.length_cons, List.length_nil]; omega)|omega|(simp; done)|(simp; omega)) ?_|refine Zda H rfl rfl rfl (by repeat constructor) (by first|(simp only [wr_size, Array.size_setIfInBounds, List.size_toArray, List.length_cons, List.length_nil]; omega)|omega|(simp; done)|(simp; omega)) ?_); clear H; intro w H))|(refine Zd6 ?_; first|refine Zd9 ?_|refine Zeb ?_|refine Zeh ?_|refine Zef ?_|refine Zed ?_|refine Zec ?_|refine Zee ?_|refine Zeg ?_|(refine Zd7 ?_; first|refine Zao rfl ?_|refine Zap rfl ?_))|(first|refine Zei ?_|refine Zej ?_|refine Zek ?_|refine Zel ?_|refine Zen ?_|refine Zem ?_|refine Zeo rfl ?_|refine Zep ?_|refine Zeq ?_|refine Zes ?_|refine Zet ?_)|refine Zd8 ?_)
  refine Zaq rfl (fun hB => ?_) (fun hB => ?_)
  · have hB2 : b.length ≠ s.size := by omega
    repeat (first|(refine Zd1 ?_; first|refine Zcx ?_|(refine Zd3 ?_; first|refine Zc0 rfl ?_|refine Zc1 rfl ?_|refine Zc2 rfl ?_)|refine Zcz (by first|exact Zat rfl|exact Zav rfl|exact Zaw rfl|exact Zaz rfl|exact Za2 rfl|exact Za1 rfl|exact Zau rfl|exact Za0 rfl|exact Zba rfl|exact Zce rfl (by omega)|exact Zbn rfl rfl|exact Zbr rfl rfl|exact Zbs rfl rfl|exact Zbq rfl rfl|exact Zbp rfl rfl|exact Zbo rfl rfl|exact Zcr rfl|exact Zbg rfl rfl (by omega)|exact Zbh rfl rfl (by omega)|exact Zbi rfl rfl (by omega)|exact Zco rfl rfl|exact Zdz rfl rfl|exact Zd0 rfl rfl|exact Za8 rfl rfl|exact Za9 rfl rfl|exact Za6 rfl rfl|exact Za7 rfl rfl|exact Zb1 rfl|exact Zca rfl rfl|exact Zcb rfl rfl|exact Zcv rfl rfl|exact Zcw rfl rfl|exact Zax rfl|exact Za3 rfl|exact Zay rfl|exact Zcl rfl rfl|exact Zb0 rfl|exact Zct|exact Zf3|exact Zar rfl|exact Zas rfl) ?_|(refine Zd4 ?_; refine Zc5 H rfl (by repeat constructor) rfl ?_)|(refine Zd5 ?_; (first|refine Zdb H rfl rfl (by repeat constructor) (by first|(simp only [wr_size, Array.size_setIfInBounds, List.size_toArray, List.length_cons, List.length_nil]; omega)|omega|(simp; done)|(simp; omega)) ?_|refine Zde H rfl rfl (by repeat constructor) (by first|(simp only [wr_size, Array.size_setIfInBounds, List.size_toArray, List.length_cons, List.length_nil]; omega)|omega|(simp; done)|(simp; omega)) ?_|refine Zdd H rfl rfl (by repeat constructor) (by first|(simp only [wr_size, Array.size_setIfInBounds, List.size_toArray, List.length_cons, List.length_nil]; omega)|omega|(simp; done)|(simp; omega)) ?_|refine Zdc H rfl rfl (by repeat constructor) (by first|(simp only [wr_size, Array.size_setIfInBounds, List.size_toArray, List.length_cons, List.length_nil]; omega)|omega|(simp; done)|(simp; omega)) ?_|refine Zda H rfl rfl rfl (by repeat constructor) (by first|(simp only [wr_size, Array.size_setIfInBounds, List.size_toArray, List.length_cons, List.length_nil]; omega)|omega|(simp; done)|(simp; omega)) ?_); clear H; intro w H))|(refine Zd6 ?_; first|refine Zd9 ?_|refine Zeb ?_|refine Zeh ?_|refine Zef ?_|refine Zed ?_|refine Zec ?_|refine Zee ?_|refine Zeg ?_|(refine Zd7 ?_; first|refine Zao rfl ?_|refine Zap rfl ?_))|(first|refine Zei ?_|refine Zej ?_|refine Zek ?_|refine Zel ?_|refine Zen ?_|refine Zem ?_|refine Zeo rfl ?_|refine Zep ?_|refine Zeq ?_|refine Zes ?_|refine Zet ?_)|refine Zd8 ?_)
    first|refine Ze6 rfl ?_|refine Ze7 rfl ?_|refine Ze8 rfl ?_|refine Ze9 rfl ?_|refine Zfa rfl rfl ?_|refine Zfb rfl rfl ?_|refine Zfc rfl rfl ?_|refine Ze2 ?_|refine Ze3 ?_
    simp only [HostS.writeR, if_pos hB', if_neg hB2]
    exact ⟨rfl, H.arr (by repeat (first|exact Arr.nil|exact Arr.stop|refine Arr.cons (by repeat constructor) ?_|refine Arr.skip ?_))⟩
  have hB2 : b.length = s.size := by omega
  have hact : HostS.done s = true → ActC w0 p (HostS.logged s 1 page b) (HostS.wrote page b (HostS.logged s 1 page b)) (s.coming s.ops) 217 #[.pointer (some ⟨xh, 0, none⟩), .pointer (some ⟨xp, 0, none⟩), .pointer (some ⟨xb, 0, none⟩)]
      (cl xb #[.slice ba b.length bk] 33 :: cl xp #[.int .i64 page] 3 :: cl xh #[.pointer (some ⟨p, 0, none⟩)] 28 :: L) (cl xh #[.pointer (some ⟨p, 0, none⟩)] 28 :: cl xp #[.int .i64 page] 3 :: cl xb #[.slice ba b.length bk] 33 :: L) := by
    intro _ w fv H
    have hok2 : HostS.Ok (HostS.logged s 1 page b) := by obtain ⟨_, _, _, h, _⟩ := (H.pick (A := hostA p (HostS.logged s 1 page b)) (by repeat constructor)).host_get; exact h
    exact (write1_c (p := p) (s := HostS.logged s 1 page b) (L := faultsA fv (s.coming s.ops) :: L) page xh xp xb fv (by show s.ops + 1 ≤ _; omega) hB2 (ok_wrote page 1 b hB2 hsok hok2) (fun w' H' => hbs w' H'.drop) ⟨_, _, rfl⟩ (H.arr (by repeat (first|exact Arr.nil|exact Arr.stop|refine Arr.cons (by repeat constructor) ?_|refine Arr.skip ?_)))).mono (Ret.mono fun v w h => h.arr (by repeat (first|exact Arr.nil|exact Arr.stop|refine Arr.cons (by repeat constructor) ?_|refine Arr.skip ?_)))
  repeat (first|(refine Zd1 ?_; first|refine Zcx ?_|(refine Zd3 ?_; first|refine Zc0 rfl ?_|refine Zc1 rfl ?_|refine Zc2 rfl ?_)|refine Zcz (by first|exact Zat rfl|exact Zav rfl|exact Zaw rfl|exact Zaz rfl|exact Za2 rfl|exact Za1 rfl|exact Zau rfl|exact Za0 rfl|exact Zba rfl|exact Zce rfl (by omega)|exact Zbn rfl rfl|exact Zbr rfl rfl|exact Zbs rfl rfl|exact Zbq rfl rfl|exact Zbp rfl rfl|exact Zbo rfl rfl|exact Zcr rfl|exact Zbg rfl rfl (by omega)|exact Zbh rfl rfl (by omega)|exact Zbi rfl rfl (by omega)|exact Zco rfl rfl|exact Zdz rfl rfl|exact Zd0 rfl rfl|exact Za8 rfl rfl|exact Za9 rfl rfl|exact Za6 rfl rfl|exact Za7 rfl rfl|exact Zb1 rfl|exact Zca rfl rfl|exact Zcb rfl rfl|exact Zcv rfl rfl|exact Zcw rfl rfl|exact Zax rfl|exact Za3 rfl|exact Zay rfl|exact Zcl rfl rfl|exact Zb0 rfl|exact Zct|exact Zf3|exact Zar rfl|exact Zas rfl) ?_|(refine Zd4 ?_; refine Zc5 H rfl (by repeat constructor) rfl ?_)|(refine Zd5 ?_; (first|refine Zdb H rfl rfl (by repeat constructor) (by first|(simp only [wr_size, Array.size_setIfInBounds, List.size_toArray, List.length_cons, List.length_nil]; omega)|omega|(simp; done)|(simp; omega)) ?_|refine Zde H rfl rfl (by repeat constructor) (by first|(simp only [wr_size, Array.size_setIfInBounds, List.size_toArray, List.length_cons, List.length_nil]; omega)|omega|(simp; done)|(simp; omega)) ?_|refine Zdd H rfl rfl (by repeat constructor) (by first|(simp only [wr_size, Array.size_setIfInBounds, List.size_toArray, List.length_cons, List.length_nil]; omega)|omega|(simp; done)|(simp; omega)) ?_|refine Zdc H rfl rfl (by repeat constructor) (by first|(simp only [wr_size, Array.size_setIfInBounds, List.size_toArray, List.length_cons, List.length_nil]; omega)|omega|(simp; done)|(simp; omega)) ?_|refine Zda H rfl rfl rfl (by repeat constructor) (by first|(simp only [wr_size, Array.size_setIfInBounds, List.size_toArray, List.length_cons, List.length_nil]; omega)|omega|(simp; done)|(simp; omega)) ?_); clear H; intro w H))|(refine Zd6 ?_; first|refine Zd9 ?_|refine Zeb ?_|refine Zeh ?_|refine Zef ?_|refine Zed ?_|refine Zec ?_|refine Zee ?_|refine Zeg ?_|(refine Zd7 ?_; first|refine Zao rfl ?_|refine Zap rfl ?_))|(first|refine Zei ?_|refine Zej ?_|refine Zek ?_|refine Zel ?_|refine Zen ?_|refine Zem ?_|refine Zeo rfl ?_|refine Zep ?_|refine Zeq ?_|refine Zes ?_|refine Zet ?_)|refine Zd8 ?_)
  refine Zdp rfl (by kernel_rfl) (does_c (L2 := cl xh #[.pointer (some ⟨p, 0, none⟩)] 28 :: cl xp #[.int .i64 page] 3 :: cl xb #[.slice ba b.length bk] 33 :: L) (b := b) 1 page (HostS.wrote page b) H hops (fun _ w' H' => hbs w' (H'.arr (by repeat (first|exact Arr.nil|exact Arr.stop|refine Arr.cons (by repeat constructor) ?_|refine Arr.skip ?_)))) ⟨_, _, _, rfl⟩ (by kernel_rfl) hact (fun h0 h => ok_wrote page 1 b hB2 h0 h) (fun _ => rfl)) rfl ?_
  clear H; rintro v w ⟨rfl, H⟩
  repeat (first|(refine Zd1 ?_; first|refine Zcx ?_|(refine Zd3 ?_; first|refine Zc0 rfl ?_|refine Zc1 rfl ?_|refine Zc2 rfl ?_)|refine Zcz (by first|exact Zat rfl|exact Zav rfl|exact Zaw rfl|exact Zaz rfl|exact Za2 rfl|exact Za1 rfl|exact Zau rfl|exact Za0 rfl|exact Zba rfl|exact Zce rfl (by omega)|exact Zbn rfl rfl|exact Zbr rfl rfl|exact Zbs rfl rfl|exact Zbq rfl rfl|exact Zbp rfl rfl|exact Zbo rfl rfl|exact Zcr rfl|exact Zbg rfl rfl (by omega)|exact Zbh rfl rfl (by omega)|exact Zbi rfl rfl (by omega)|exact Zco rfl rfl|exact Zdz rfl rfl|exact Zd0 rfl rfl|exact Za8 rfl rfl|exact Za9 rfl rfl|exact Za6 rfl rfl|exact Za7 rfl rfl|exact Zb1 rfl|exact Zca rfl rfl|exact Zcb rfl rfl|exact Zcv rfl rfl|exact Zcw rfl rfl|exact Zax rfl|exact Za3 rfl|exact Zay rfl|exact Zcl rfl rfl|exact Zb0 rfl|exact Zct|exact Zf3|exact Zar rfl|exact Zas rfl) ?_|(refine Zd4 ?_; refine Zc5 H rfl (by repeat constructor) rfl ?_)|(refine Zd5 ?_; (first|refine Zdb H rfl rfl (by repeat constructor) (by first|(simp only [wr_size, Array.size_setIfInBounds, List.size_toArray, List.length_cons, List.length_nil]; omega)|omega|(simp; done)|(simp; omega)) ?_|refine Zde H rfl rfl (by repeat constructor) (by first|(simp only [wr_size, Array.size_setIfInBounds, List.size_toArray, List.length_cons, List.length_nil]; omega)|omega|(simp; done)|(simp; omega)) ?_|refine Zdd H rfl rfl (by repeat constructor) (by first|(simp only [wr_size, Array.size_setIfInBounds, List.size_toArray, List.length_cons, List.length_nil]; omega)|omega|(simp; done)|(simp; omega)) ?_|refine Zdc H rfl rfl (by repeat constructor) (by first|(simp only [wr_size, Array.size_setIfInBounds, List.size_toArray, List.length_cons, List.length_nil]; omega)|omega|(simp; done)|(simp; omega)) ?_|refine Zda H rfl rfl rfl (by repeat constructor) (by first|(simp only [wr_size, Array.size_setIfInBounds, List.size_toArray, List.length_cons, List.length_nil]; omega)|omega|(simp; done)|(simp; omega)) ?_); clear H; intro w H))|(refine Zd6 ?_; first|refine Zd9 ?_|refine Zeb ?_|refine Zeh ?_|refine Zef ?_|refine Zed ?_|refine Zec ?_|refine Zee ?_|refine Zeg ?_|(refine Zd7 ?_; first|refine Zao rfl ?_|refine Zap rfl ?_))|(first|refine Zei ?_|refine Zej ?_|refine Zek ?_|refine Zel ?_|refine Zen ?_|refine Zem ?_|refine Zeo rfl ?_|refine Zep ?_|refine Zeq ?_|refine Zes ?_|refine Zet ?_)|refine Zd8 ?_)
  first|refine Ze6 rfl ?_|refine Ze7 rfl ?_|refine Ze8 rfl ?_|refine Ze9 rfl ?_|refine Zfa rfl rfl ?_|refine Zfb rfl rfl ?_|refine Zfc rfl rfl ?_|refine Ze2 ?_|refine Ze3 ?_
  simp only [HostS.writeR, if_pos hB', if_pos hB2]
  refine ⟨trivial, ?_⟩
  rcases H with ⟨_, H⟩|⟨_, H⟩
  · exact H.arr (by repeat (first|exact Arr.nil|exact Arr.stop|refine Arr.cons (by repeat constructor) ?_|refine Arr.skip ?_))
  · exact H.arr (by repeat (first|exact Arr.nil|exact Arr.stop|refine Arr.cons (by repeat constructor) ?_|refine Arr.skip ?_))
theorem read_c (page : Int) (hops : s.ops < 3518437208880) (H : St w0 w (hostA p s :: L)) :
    Calls Tryz.prog 210 #[.pointer (some ⟨p, 0, none⟩), .int .i64 page] w
      (Ret fun v w' => ∃ bv, v = .tuple #[bv, .int .i64 (HostS.readR s page).2.1] ∧ St w0 w' (bytesA bv (HostS.readR s page).1 :: hostA p (HostS.readR s page).2.2 :: L)) := by
  have hsok : HostS.Ok s := by obtain ⟨_, _, _, h, _⟩ := H.host_get; exact h
  refine calls_den [_, _] Tryz.func210 rfl rfl rfl Tryz.mixed (by kernel_rfl) ?_
  repeat (first|(refine Zd1 ?_; first|refine Zcx ?_|(refine Zd3 ?_; first|refine Zc0 rfl ?_|refine Zc1 rfl ?_|refine Zc2 rfl ?_)|refine Zcz (by first|exact Zat rfl|exact Zav rfl|exact Zaw rfl|exact Zaz rfl|exact Za2 rfl|exact Za1 rfl|exact Zau rfl|exact Za0 rfl|exact Zba rfl|exact Zce rfl (by omega)|exact Zbn rfl rfl|exact Zbr rfl rfl|exact Zbs rfl rfl|exact Zbq rfl rfl|exact Zbp rfl rfl|exact Zbo rfl rfl|exact Zcr rfl|exact Zbg rfl rfl (by omega)|exact Zbh rfl rfl (by omega)|exact Zbi rfl rfl (by omega)|exact Zco rfl rfl|exact Zdz rfl rfl|exact Zd0 rfl rfl|exact Za8 rfl rfl|exact Za9 rfl rfl|exact Za6 rfl rfl|exact Za7 rfl rfl|exact Zb1 rfl|exact Zca rfl rfl|exact Zcb rfl rfl|exact Zcv rfl rfl|exact Zcw rfl rfl|exact Zax rfl|exact Za3 rfl|exact Zay rfl|exact Zcl rfl rfl|exact Zb0 rfl|exact Zct|exact Zf3|exact Zar rfl|exact Zas rfl) ?_|(refine Zd4 ?_; refine Zc5 H rfl (by repeat constructor) rfl ?_)|(refine Zd5 ?_; (first|refine Zdb H rfl rfl (by repeat constructor) (by first|(simp only [wr_size, Array.size_setIfInBounds, List.size_toArray, List.length_cons, List.length_nil]; omega)|omega|(simp; done)|(simp; omega)) ?_|refine Zde H rfl rfl (by repeat constructor) (by first|(simp only [wr_size, Array.size_setIfInBounds, List.size_toArray, List.length_cons, List.length_nil]; omega)|omega|(simp; done)|(simp; omega)) ?_|refine Zdd H rfl rfl (by repeat constructor) (by first|(simp only [wr_size, Array.size_setIfInBounds, List.size_toArray, List.length_cons, List.length_nil]; omega)|omega|(simp; done)|(simp; omega)) ?_|refine Zdc H rfl rfl (by repeat constructor) (by first|(simp only [wr_size, Array.size_setIfInBounds, List.size_toArray, List.length_cons, List.length_nil]; omega)|omega|(simp; done)|(simp; omega)) ?_|refine Zda H rfl rfl rfl (by repeat constructor) (by first|(simp only [wr_size, Array.size_setIfInBounds, List.size_toArray, List.length_cons, List.length_nil]; omega)|omega|(simp; done)|(simp; omega)) ?_); clear H; intro w H))|(refine Zd6 ?_; first|refine Zd9 ?_|refine Zeb ?_|refine Zeh ?_|refine Zef ?_|refine Zed ?_|refine Zec ?_|refine Zee ?_|refine Zeg ?_|(refine Zd7 ?_; first|refine Zao rfl ?_|refine Zap rfl ?_))|(first|refine Zei ?_|refine Zej ?_|refine Zek ?_|refine Zel ?_|refine Zen ?_|refine Zem ?_|refine Zeo rfl ?_|refine Zep ?_|refine Zeq ?_|refine Zes ?_|refine Zet ?_)|refine Zd8 ?_)
  (first|refine Zfw H rfl ?_|refine Zfx H rfl ?_|refine Zfy H rfl ?_|refine Zfz H rfl ?_|refine Zf0 H rfl ?_|refine Zdj H rfl ?_); clear H; intro w xh H
  repeat (first|(refine Zd1 ?_; first|refine Zcx ?_|(refine Zd3 ?_; first|refine Zc0 rfl ?_|refine Zc1 rfl ?_|refine Zc2 rfl ?_)|refine Zcz (by first|exact Zat rfl|exact Zav rfl|exact Zaw rfl|exact Zaz rfl|exact Za2 rfl|exact Za1 rfl|exact Zau rfl|exact Za0 rfl|exact Zba rfl|exact Zce rfl (by omega)|exact Zbn rfl rfl|exact Zbr rfl rfl|exact Zbs rfl rfl|exact Zbq rfl rfl|exact Zbp rfl rfl|exact Zbo rfl rfl|exact Zcr rfl|exact Zbg rfl rfl (by omega)|exact Zbh rfl rfl (by omega)|exact Zbi rfl rfl (by omega)|exact Zco rfl rfl|exact Zdz rfl rfl|exact Zd0 rfl rfl|exact Za8 rfl rfl|exact Za9 rfl rfl|exact Za6 rfl rfl|exact Za7 rfl rfl|exact Zb1 rfl|exact Zca rfl rfl|exact Zcb rfl rfl|exact Zcv rfl rfl|exact Zcw rfl rfl|exact Zax rfl|exact Za3 rfl|exact Zay rfl|exact Zcl rfl rfl|exact Zb0 rfl|exact Zct|exact Zf3|exact Zar rfl|exact Zas rfl) ?_|(refine Zd4 ?_; refine Zc5 H rfl (by repeat constructor) rfl ?_)|(refine Zd5 ?_; (first|refine Zdb H rfl rfl (by repeat constructor) (by first|(simp only [wr_size, Array.size_setIfInBounds, List.size_toArray, List.length_cons, List.length_nil]; omega)|omega|(simp; done)|(simp; omega)) ?_|refine Zde H rfl rfl (by repeat constructor) (by first|(simp only [wr_size, Array.size_setIfInBounds, List.size_toArray, List.length_cons, List.length_nil]; omega)|omega|(simp; done)|(simp; omega)) ?_|refine Zdd H rfl rfl (by repeat constructor) (by first|(simp only [wr_size, Array.size_setIfInBounds, List.size_toArray, List.length_cons, List.length_nil]; omega)|omega|(simp; done)|(simp; omega)) ?_|refine Zdc H rfl rfl (by repeat constructor) (by first|(simp only [wr_size, Array.size_setIfInBounds, List.size_toArray, List.length_cons, List.length_nil]; omega)|omega|(simp; done)|(simp; omega)) ?_|refine Zda H rfl rfl rfl (by repeat constructor) (by first|(simp only [wr_size, Array.size_setIfInBounds, List.size_toArray, List.length_cons, List.length_nil]; omega)|omega|(simp; done)|(simp; omega)) ?_); clear H; intro w H))|(refine Zd6 ?_; first|refine Zd9 ?_|refine Zeb ?_|refine Zeh ?_|refine Zef ?_|refine Zed ?_|refine Zec ?_|refine Zee ?_|refine Zeg ?_|(refine Zd7 ?_; first|refine Zao rfl ?_|refine Zap rfl ?_))|(first|refine Zei ?_|refine Zej ?_|refine Zek ?_|refine Zel ?_|refine Zen ?_|refine Zem ?_|refine Zeo rfl ?_|refine Zep ?_|refine Zeq ?_|refine Zes ?_|refine Zet ?_)|refine Zd8 ?_)
  (first|refine Zfw H rfl ?_|refine Zfx H rfl ?_|refine Zfy H rfl ?_|refine Zfz H rfl ?_|refine Zf0 H rfl ?_|refine Zdj H rfl ?_); clear H; intro w xp H
  repeat (first|(refine Zd1 ?_; first|refine Zcx ?_|(refine Zd3 ?_; first|refine Zc0 rfl ?_|refine Zc1 rfl ?_|refine Zc2 rfl ?_)|refine Zcz (by first|exact Zat rfl|exact Zav rfl|exact Zaw rfl|exact Zaz rfl|exact Za2 rfl|exact Za1 rfl|exact Zau rfl|exact Za0 rfl|exact Zba rfl|exact Zce rfl (by omega)|exact Zbn rfl rfl|exact Zbr rfl rfl|exact Zbs rfl rfl|exact Zbq rfl rfl|exact Zbp rfl rfl|exact Zbo rfl rfl|exact Zcr rfl|exact Zbg rfl rfl (by omega)|exact Zbh rfl rfl (by omega)|exact Zbi rfl rfl (by omega)|exact Zco rfl rfl|exact Zdz rfl rfl|exact Zd0 rfl rfl|exact Za8 rfl rfl|exact Za9 rfl rfl|exact Za6 rfl rfl|exact Za7 rfl rfl|exact Zb1 rfl|exact Zca rfl rfl|exact Zcb rfl rfl|exact Zcv rfl rfl|exact Zcw rfl rfl|exact Zax rfl|exact Za3 rfl|exact Zay rfl|exact Zcl rfl rfl|exact Zb0 rfl|exact Zct|exact Zf3|exact Zar rfl|exact Zas rfl) ?_|(refine Zd4 ?_; refine Zc5 H rfl (by repeat constructor) rfl ?_)|(refine Zd5 ?_; (first|refine Zdb H rfl rfl (by repeat constructor) (by first|(simp only [wr_size, Array.size_setIfInBounds, List.size_toArray, List.length_cons, List.length_nil]; omega)|omega|(simp; done)|(simp; omega)) ?_|refine Zde H rfl rfl (by repeat constructor) (by first|(simp only [wr_size, Array.size_setIfInBounds, List.size_toArray, List.length_cons, List.length_nil]; omega)|omega|(simp; done)|(simp; omega)) ?_|refine Zdd H rfl rfl (by repeat constructor) (by first|(simp only [wr_size, Array.size_setIfInBounds, List.size_toArray, List.length_cons, List.length_nil]; omega)|omega|(simp; done)|(simp; omega)) ?_|refine Zdc H rfl rfl (by repeat constructor) (by first|(simp only [wr_size, Array.size_setIfInBounds, List.size_toArray, List.length_cons, List.length_nil]; omega)|omega|(simp; done)|(simp; omega)) ?_|refine Zda H rfl rfl rfl (by repeat constructor) (by first|(simp only [wr_size, Array.size_setIfInBounds, List.size_toArray, List.length_cons, List.length_nil]; omega)|omega|(simp; done)|(simp; omega)) ?_); clear H; intro w H))|(refine Zd6 ?_; first|refine Zd9 ?_|refine Zeb ?_|refine Zeh ?_|refine Zef ?_|refine Zed ?_|refine Zec ?_|refine Zee ?_|refine Zeg ?_|(refine Zd7 ?_; first|refine Zao rfl ?_|refine Zap rfl ?_))|(first|refine Zei ?_|refine Zej ?_|refine Zek ?_|refine Zel ?_|refine Zen ?_|refine Zem ?_|refine Zeo rfl ?_|refine Zep ?_|refine Zeq ?_|refine Zes ?_|refine Zet ?_)|refine Zd8 ?_)
  refine Zdp rfl (by kernel_rfl) (there_c page (H.pick (A := hostA p s) (by repeat constructor))) rfl ?_
  rintro v w ⟨rfl, rfl⟩
  repeat (first|(refine Zd1 ?_; first|refine Zcx ?_|(refine Zd3 ?_; first|refine Zc0 rfl ?_|refine Zc1 rfl ?_|refine Zc2 rfl ?_)|refine Zcz (by first|exact Zat rfl|exact Zav rfl|exact Zaw rfl|exact Zaz rfl|exact Za2 rfl|exact Za1 rfl|exact Zau rfl|exact Za0 rfl|exact Zba rfl|exact Zce rfl (by omega)|exact Zbn rfl rfl|exact Zbr rfl rfl|exact Zbs rfl rfl|exact Zbq rfl rfl|exact Zbp rfl rfl|exact Zbo rfl rfl|exact Zcr rfl|exact Zbg rfl rfl (by omega)|exact Zbh rfl rfl (by omega)|exact Zbi rfl rfl (by omega)|exact Zco rfl rfl|exact Zdz rfl rfl|exact Zd0 rfl rfl|exact Za8 rfl rfl|exact Za9 rfl rfl|exact Za6 rfl rfl|exact Za7 rfl rfl|exact Zb1 rfl|exact Zca rfl rfl|exact Zcb rfl rfl|exact Zcv rfl rfl|exact Zcw rfl rfl|exact Zax rfl|exact Za3 rfl|exact Zay rfl|exact Zcl rfl rfl|exact Zb0 rfl|exact Zct|exact Zf3|exact Zar rfl|exact Zas rfl) ?_|(refine Zd4 ?_; refine Zc5 H rfl (by repeat constructor) rfl ?_)|(refine Zd5 ?_; (first|refine Zdb H rfl rfl (by repeat constructor) (by first|(simp only [wr_size, Array.size_setIfInBounds, List.size_toArray, List.length_cons, List.length_nil]; omega)|omega|(simp; done)|(simp; omega)) ?_|refine Zde H rfl rfl (by repeat constructor) (by first|(simp only [wr_size, Array.size_setIfInBounds, List.size_toArray, List.length_cons, List.length_nil]; omega)|omega|(simp; done)|(simp; omega)) ?_|refine Zdd H rfl rfl (by repeat constructor) (by first|(simp only [wr_size, Array.size_setIfInBounds, List.size_toArray, List.length_cons, List.length_nil]; omega)|omega|(simp; done)|(simp; omega)) ?_|refine Zdc H rfl rfl (by repeat constructor) (by first|(simp only [wr_size, Array.size_setIfInBounds, List.size_toArray, List.length_cons, List.length_nil]; omega)|omega|(simp; done)|(simp; omega)) ?_|refine Zda H rfl rfl rfl (by repeat constructor) (by first|(simp only [wr_size, Array.size_setIfInBounds, List.size_toArray, List.length_cons, List.length_nil]; omega)|omega|(simp; done)|(simp; omega)) ?_); clear H; intro w H))|(refine Zd6 ?_; first|refine Zd9 ?_|refine Zeb ?_|refine Zeh ?_|refine Zef ?_|refine Zed ?_|refine Zec ?_|refine Zee ?_|refine Zeg ?_|(refine Zd7 ?_; first|refine Zao rfl ?_|refine Zap rfl ?_))|(first|refine Zei ?_|refine Zej ?_|refine Zek ?_|refine Zel ?_|refine Zen ?_|refine Zem ?_|refine Zeo rfl ?_|refine Zep ?_|refine Zeq ?_|refine Zes ?_|refine Zet ?_)|refine Zd8 ?_)
  refine Zaq rfl (fun hB => ?_) (fun hB => ?_)
  · have hB' : ¬ HostS.there s page := by simpa using hB
    repeat (first|(refine Zd1 ?_; first|refine Zcx ?_|(refine Zd3 ?_; first|refine Zc0 rfl ?_|refine Zc1 rfl ?_|refine Zc2 rfl ?_)|refine Zcz (by first|exact Zat rfl|exact Zav rfl|exact Zaw rfl|exact Zaz rfl|exact Za2 rfl|exact Za1 rfl|exact Zau rfl|exact Za0 rfl|exact Zba rfl|exact Zce rfl (by omega)|exact Zbn rfl rfl|exact Zbr rfl rfl|exact Zbs rfl rfl|exact Zbq rfl rfl|exact Zbp rfl rfl|exact Zbo rfl rfl|exact Zcr rfl|exact Zbg rfl rfl (by omega)|exact Zbh rfl rfl (by omega)|exact Zbi rfl rfl (by omega)|exact Zco rfl rfl|exact Zdz rfl rfl|exact Zd0 rfl rfl|exact Za8 rfl rfl|exact Za9 rfl rfl|exact Za6 rfl rfl|exact Za7 rfl rfl|exact Zb1 rfl|exact Zca rfl rfl|exact Zcb rfl rfl|exact Zcv rfl rfl|exact Zcw rfl rfl|exact Zax rfl|exact Za3 rfl|exact Zay rfl|exact Zcl rfl rfl|exact Zb0 rfl|exact Zct|exact Zf3|exact Zar rfl|exact Zas rfl) ?_|(refine Zd4 ?_; refine Zc5 H rfl (by repeat constructor) rfl ?_)|(refine Zd5 ?_; (first|refine Zdb H rfl rfl (by repeat constructor) (by first|(simp only [wr_size, Array.size_setIfInBounds, List.size_toArray, List.length_cons, List.length_nil]; omega)|omega|(simp; done)|(simp; omega)) ?_|refine Zde H rfl rfl (by repeat constructor) (by first|(simp only [wr_size, Array.size_setIfInBounds, List.size_toArray, List.length_cons, List.length_nil]; omega)|omega|(simp; done)|(simp; omega)) ?_|refine Zdd H rfl rfl (by repeat constructor) (by first|(simp only [wr_size, Array.size_setIfInBounds, List.size_toArray, List.length_cons, List.length_nil]; omega)|omega|(simp; done)|(simp; omega)) ?_|refine Zdc H rfl rfl (by repeat constructor) (by first|(simp only [wr_size, Array.size_setIfInBounds, List.size_toArray, List.length_cons, List.length_nil]; omega)|omega|(simp; done)|(simp; omega)) ?_|refine Zda H rfl rfl rfl (by repeat constructor) (by first|(simp only [wr_size, Array.size_setIfInBounds, List.size_toArray, List.length_cons, List.length_nil]; omega)|omega|(simp; done)|(simp; omega)) ?_); clear H; intro w H))|(refine Zd6 ?_; first|refine Zd9 ?_|refine Zeb ?_|refine Zeh ?_|refine Zef ?_|refine Zed ?_|refine Zec ?_|refine Zee ?_|refine Zeg ?_|(refine Zd7 ?_; first|refine Zao rfl ?_|refine Zap rfl ?_))|(first|refine Zei ?_|refine Zej ?_|refine Zek ?_|refine Zel ?_|refine Zen ?_|refine Zem ?_|refine Zeo rfl ?_|refine Zep ?_|refine Zeq ?_|refine Zes ?_|refine Zet ?_)|refine Zd8 ?_)
    first|refine Ze6 rfl ?_|refine Ze7 rfl ?_|refine Ze8 rfl ?_|refine Ze9 rfl ?_|refine Zfa rfl rfl ?_|refine Zfb rfl rfl ?_|refine Zfc rfl rfl ?_|refine Ze2 ?_|refine Ze3 ?_
    simp only [HostS.readR, if_neg hB']
    exact ⟨_, rfl, St.own_nil (H.arr (by repeat (first|exact Arr.nil|exact Arr.stop|refine Arr.cons (by repeat constructor) ?_|refine Arr.skip ?_))) 5 1⟩
  have hB' : HostS.there s page := by simpa using hB
  repeat (first|(refine Zd1 ?_; first|refine Zcx ?_|(refine Zd3 ?_; first|refine Zc0 rfl ?_|refine Zc1 rfl ?_|refine Zc2 rfl ?_)|refine Zcz (by first|exact Zat rfl|exact Zav rfl|exact Zaw rfl|exact Zaz rfl|exact Za2 rfl|exact Za1 rfl|exact Zau rfl|exact Za0 rfl|exact Zba rfl|exact Zce rfl (by omega)|exact Zbn rfl rfl|exact Zbr rfl rfl|exact Zbs rfl rfl|exact Zbq rfl rfl|exact Zbp rfl rfl|exact Zbo rfl rfl|exact Zcr rfl|exact Zbg rfl rfl (by omega)|exact Zbh rfl rfl (by omega)|exact Zbi rfl rfl (by omega)|exact Zco rfl rfl|exact Zdz rfl rfl|exact Zd0 rfl rfl|exact Za8 rfl rfl|exact Za9 rfl rfl|exact Za6 rfl rfl|exact Za7 rfl rfl|exact Zb1 rfl|exact Zca rfl rfl|exact Zcb rfl rfl|exact Zcv rfl rfl|exact Zcw rfl rfl|exact Zax rfl|exact Za3 rfl|exact Zay rfl|exact Zcl rfl rfl|exact Zb0 rfl|exact Zct|exact Zf3|exact Zar rfl|exact Zas rfl) ?_|(refine Zd4 ?_; refine Zc5 H rfl (by repeat constructor) rfl ?_)|(refine Zd5 ?_; (first|refine Zdb H rfl rfl (by repeat constructor) (by first|(simp only [wr_size, Array.size_setIfInBounds, List.size_toArray, List.length_cons, List.length_nil]; omega)|omega|(simp; done)|(simp; omega)) ?_|refine Zde H rfl rfl (by repeat constructor) (by first|(simp only [wr_size, Array.size_setIfInBounds, List.size_toArray, List.length_cons, List.length_nil]; omega)|omega|(simp; done)|(simp; omega)) ?_|refine Zdd H rfl rfl (by repeat constructor) (by first|(simp only [wr_size, Array.size_setIfInBounds, List.size_toArray, List.length_cons, List.length_nil]; omega)|omega|(simp; done)|(simp; omega)) ?_|refine Zdc H rfl rfl (by repeat constructor) (by first|(simp only [wr_size, Array.size_setIfInBounds, List.size_toArray, List.length_cons, List.length_nil]; omega)|omega|(simp; done)|(simp; omega)) ?_|refine Zda H rfl rfl rfl (by repeat constructor) (by first|(simp only [wr_size, Array.size_setIfInBounds, List.size_toArray, List.length_cons, List.length_nil]; omega)|omega|(simp; done)|(simp; omega)) ?_); clear H; intro w H))|(refine Zd6 ?_; first|refine Zd9 ?_|refine Zeb ?_|refine Zeh ?_|refine Zef ?_|refine Zed ?_|refine Zec ?_|refine Zee ?_|refine Zeg ?_|(refine Zd7 ?_; first|refine Zao rfl ?_|refine Zap rfl ?_))|(first|refine Zei ?_|refine Zej ?_|refine Zek ?_|refine Zel ?_|refine Zen ?_|refine Zem ?_|refine Zeo rfl ?_|refine Zep ?_|refine Zeq ?_|refine Zes ?_|refine Zet ?_)|refine Zd8 ?_)
  refine Zf1 H rfl ?_; clear H; intro w xb H
  have hact : HostS.done s = true → ActC w0 p (HostS.logged s 0 page []) (id (HostS.logged s 0 page [])) (s.coming s.ops) 215 #[.pointer (some ⟨xh, 0, none⟩), .pointer (some ⟨xp, 0, none⟩), .pointer (some ⟨xb, 0, none⟩)]
      (cl xb #[.slice none 0 0] 33 :: cl xp #[.int .i64 page] 3 :: cl xh #[.pointer (some ⟨p, 0, none⟩)] 28 :: L) (readA (HostS.logged s 0 page []) page (s.coming s.ops) xb :: cl xh #[.pointer (some ⟨p, 0, none⟩)] 28 :: cl xp #[.int .i64 page] 3 :: L) := by
    intro _ w fv H
    exact (read1_c (p := p) (s := HostS.logged s 0 page []) (L := L) page xh xp xb fv (s.coming s.ops) (.slice none 0 0) (by show s.ops + 1 ≤ _; omega) (hsok.flt _) (hsok.fln _) (H.arr (by repeat (first|exact Arr.nil|exact Arr.stop|refine Arr.cons (by repeat constructor) ?_|refine Arr.skip ?_))))
  repeat (first|(refine Zd1 ?_; first|refine Zcx ?_|(refine Zd3 ?_; first|refine Zc0 rfl ?_|refine Zc1 rfl ?_|refine Zc2 rfl ?_)|refine Zcz (by first|exact Zat rfl|exact Zav rfl|exact Zaw rfl|exact Zaz rfl|exact Za2 rfl|exact Za1 rfl|exact Zau rfl|exact Za0 rfl|exact Zba rfl|exact Zce rfl (by omega)|exact Zbn rfl rfl|exact Zbr rfl rfl|exact Zbs rfl rfl|exact Zbq rfl rfl|exact Zbp rfl rfl|exact Zbo rfl rfl|exact Zcr rfl|exact Zbg rfl rfl (by omega)|exact Zbh rfl rfl (by omega)|exact Zbi rfl rfl (by omega)|exact Zco rfl rfl|exact Zdz rfl rfl|exact Zd0 rfl rfl|exact Za8 rfl rfl|exact Za9 rfl rfl|exact Za6 rfl rfl|exact Za7 rfl rfl|exact Zb1 rfl|exact Zca rfl rfl|exact Zcb rfl rfl|exact Zcv rfl rfl|exact Zcw rfl rfl|exact Zax rfl|exact Za3 rfl|exact Zay rfl|exact Zcl rfl rfl|exact Zb0 rfl|exact Zct|exact Zf3|exact Zar rfl|exact Zas rfl) ?_|(refine Zd4 ?_; refine Zc5 H rfl (by repeat constructor) rfl ?_)|(refine Zd5 ?_; (first|refine Zdb H rfl rfl (by repeat constructor) (by first|(simp only [wr_size, Array.size_setIfInBounds, List.size_toArray, List.length_cons, List.length_nil]; omega)|omega|(simp; done)|(simp; omega)) ?_|refine Zde H rfl rfl (by repeat constructor) (by first|(simp only [wr_size, Array.size_setIfInBounds, List.size_toArray, List.length_cons, List.length_nil]; omega)|omega|(simp; done)|(simp; omega)) ?_|refine Zdd H rfl rfl (by repeat constructor) (by first|(simp only [wr_size, Array.size_setIfInBounds, List.size_toArray, List.length_cons, List.length_nil]; omega)|omega|(simp; done)|(simp; omega)) ?_|refine Zdc H rfl rfl (by repeat constructor) (by first|(simp only [wr_size, Array.size_setIfInBounds, List.size_toArray, List.length_cons, List.length_nil]; omega)|omega|(simp; done)|(simp; omega)) ?_|refine Zda H rfl rfl rfl (by repeat constructor) (by first|(simp only [wr_size, Array.size_setIfInBounds, List.size_toArray, List.length_cons, List.length_nil]; omega)|omega|(simp; done)|(simp; omega)) ?_); clear H; intro w H))|(refine Zd6 ?_; first|refine Zd9 ?_|refine Zeb ?_|refine Zeh ?_|refine Zef ?_|refine Zed ?_|refine Zec ?_|refine Zee ?_|refine Zeg ?_|(refine Zd7 ?_; first|refine Zao rfl ?_|refine Zap rfl ?_))|(first|refine Zei ?_|refine Zej ?_|refine Zek ?_|refine Zel ?_|refine Zen ?_|refine Zem ?_|refine Zeo rfl ?_|refine Zep ?_|refine Zeq ?_|refine Zes ?_|refine Zet ?_)|refine Zd8 ?_)
  refine Zdp rfl (by kernel_rfl) (does_c (L := cl xb #[.slice none 0 0] 33 :: cl xp #[.int .i64 page] 3 :: cl xh #[.pointer (some ⟨p, 0, none⟩)] 28 :: L) (L2 := readA (HostS.logged s 0 page []) page (s.coming s.ops) xb :: cl xh #[.pointer (some ⟨p, 0, none⟩)] 28 :: cl xp #[.int .i64 page] 3 :: L) (b := []) 0 page id (H.arr (by repeat (first|exact Arr.nil|exact Arr.stop|refine Arr.cons (by repeat constructor) ?_|refine Arr.skip ?_))) hops (fun h => absurd h (by decide)) ⟨_, _, _, rfl⟩ (by kernel_rfl) hact (fun h0 h => h) (fun _ => rfl)) rfl ?_
  clear H hact; rintro v w ⟨rfl, H⟩
  have h0 : HostS.done s = false → (HostS.does s 0 page [] id).2 = 110 := does_zero
  have e1 : (HostS.does s 0 page [] id).2 ≠ 0 → HostS.readR s page = ([], (HostS.does s 0 page [] id).2, (HostS.does s 0 page [] id).1) := fun h => by
    simp only [HostS.readR, if_pos hB']; rw [if_neg h]
  have e2 : (HostS.does s 0 page [] id).2 = 0 → HostS.readR s page = (HostS.spoilt s page (s.coming s.ops), 0, (HostS.does s 0 page [] id).1) := fun h => by
    simp only [HostS.readR, if_pos hB']; rw [if_pos h]
  generalize HostS.does s 0 page [] id = r at H h0 e1 e2 ⊢
  repeat (first|(refine Zd1 ?_; first|refine Zcx ?_|(refine Zd3 ?_; first|refine Zc0 rfl ?_|refine Zc1 rfl ?_|refine Zc2 rfl ?_)|refine Zcz (by first|exact Zat rfl|exact Zav rfl|exact Zaw rfl|exact Zaz rfl|exact Za2 rfl|exact Za1 rfl|exact Zau rfl|exact Za0 rfl|exact Zba rfl|exact Zce rfl (by omega)|exact Zbn rfl rfl|exact Zbr rfl rfl|exact Zbs rfl rfl|exact Zbq rfl rfl|exact Zbp rfl rfl|exact Zbo rfl rfl|exact Zcr rfl|exact Zbg rfl rfl (by omega)|exact Zbh rfl rfl (by omega)|exact Zbi rfl rfl (by omega)|exact Zco rfl rfl|exact Zdz rfl rfl|exact Zd0 rfl rfl|exact Za8 rfl rfl|exact Za9 rfl rfl|exact Za6 rfl rfl|exact Za7 rfl rfl|exact Zb1 rfl|exact Zca rfl rfl|exact Zcb rfl rfl|exact Zcv rfl rfl|exact Zcw rfl rfl|exact Zax rfl|exact Za3 rfl|exact Zay rfl|exact Zcl rfl rfl|exact Zb0 rfl|exact Zct|exact Zf3|exact Zar rfl|exact Zas rfl) ?_|(refine Zd4 ?_; refine Zc5 H rfl (by repeat constructor) rfl ?_)|(refine Zd5 ?_; (first|refine Zdb H rfl rfl (by repeat constructor) (by first|(simp only [wr_size, Array.size_setIfInBounds, List.size_toArray, List.length_cons, List.length_nil]; omega)|omega|(simp; done)|(simp; omega)) ?_|refine Zde H rfl rfl (by repeat constructor) (by first|(simp only [wr_size, Array.size_setIfInBounds, List.size_toArray, List.length_cons, List.length_nil]; omega)|omega|(simp; done)|(simp; omega)) ?_|refine Zdd H rfl rfl (by repeat constructor) (by first|(simp only [wr_size, Array.size_setIfInBounds, List.size_toArray, List.length_cons, List.length_nil]; omega)|omega|(simp; done)|(simp; omega)) ?_|refine Zdc H rfl rfl (by repeat constructor) (by first|(simp only [wr_size, Array.size_setIfInBounds, List.size_toArray, List.length_cons, List.length_nil]; omega)|omega|(simp; done)|(simp; omega)) ?_|refine Zda H rfl rfl rfl (by repeat constructor) (by first|(simp only [wr_size, Array.size_setIfInBounds, List.size_toArray, List.length_cons, List.length_nil]; omega)|omega|(simp; done)|(simp; omega)) ?_); clear H; intro w H))|(refine Zd6 ?_; first|refine Zd9 ?_|refine Zeb ?_|refine Zeh ?_|refine Zef ?_|refine Zed ?_|refine Zec ?_|refine Zee ?_|refine Zeg ?_|(refine Zd7 ?_; first|refine Zao rfl ?_|refine Zap rfl ?_))|(first|refine Zei ?_|refine Zej ?_|refine Zek ?_|refine Zel ?_|refine Zen ?_|refine Zem ?_|refine Zeo rfl ?_|refine Zep ?_|refine Zeq ?_|refine Zes ?_|refine Zet ?_)|refine Zd8 ?_)
  refine Zaq rfl (fun hB => ?_) (fun hB => ?_)
  · have H : St w0 w (hostA p r.1 :: L) := by
      rcases H with ⟨_, H⟩|⟨_, H⟩
      · exact H.arr (by repeat (first|exact Arr.nil|exact Arr.stop|refine Arr.cons (by repeat constructor) ?_|refine Arr.skip ?_))
      · exact H.arr (by repeat (first|exact Arr.nil|exact Arr.stop|refine Arr.cons (by repeat constructor) ?_|refine Arr.skip ?_))
    repeat (first|(refine Zd1 ?_; first|refine Zcx ?_|(refine Zd3 ?_; first|refine Zc0 rfl ?_|refine Zc1 rfl ?_|refine Zc2 rfl ?_)|refine Zcz (by first|exact Zat rfl|exact Zav rfl|exact Zaw rfl|exact Zaz rfl|exact Za2 rfl|exact Za1 rfl|exact Zau rfl|exact Za0 rfl|exact Zba rfl|exact Zce rfl (by omega)|exact Zbn rfl rfl|exact Zbr rfl rfl|exact Zbs rfl rfl|exact Zbq rfl rfl|exact Zbp rfl rfl|exact Zbo rfl rfl|exact Zcr rfl|exact Zbg rfl rfl (by omega)|exact Zbh rfl rfl (by omega)|exact Zbi rfl rfl (by omega)|exact Zco rfl rfl|exact Zdz rfl rfl|exact Zd0 rfl rfl|exact Za8 rfl rfl|exact Za9 rfl rfl|exact Za6 rfl rfl|exact Za7 rfl rfl|exact Zb1 rfl|exact Zca rfl rfl|exact Zcb rfl rfl|exact Zcv rfl rfl|exact Zcw rfl rfl|exact Zax rfl|exact Za3 rfl|exact Zay rfl|exact Zcl rfl rfl|exact Zb0 rfl|exact Zct|exact Zf3|exact Zar rfl|exact Zas rfl) ?_|(refine Zd4 ?_; refine Zc5 H rfl (by repeat constructor) rfl ?_)|(refine Zd5 ?_; (first|refine Zdb H rfl rfl (by repeat constructor) (by first|(simp only [wr_size, Array.size_setIfInBounds, List.size_toArray, List.length_cons, List.length_nil]; omega)|omega|(simp; done)|(simp; omega)) ?_|refine Zde H rfl rfl (by repeat constructor) (by first|(simp only [wr_size, Array.size_setIfInBounds, List.size_toArray, List.length_cons, List.length_nil]; omega)|omega|(simp; done)|(simp; omega)) ?_|refine Zdd H rfl rfl (by repeat constructor) (by first|(simp only [wr_size, Array.size_setIfInBounds, List.size_toArray, List.length_cons, List.length_nil]; omega)|omega|(simp; done)|(simp; omega)) ?_|refine Zdc H rfl rfl (by repeat constructor) (by first|(simp only [wr_size, Array.size_setIfInBounds, List.size_toArray, List.length_cons, List.length_nil]; omega)|omega|(simp; done)|(simp; omega)) ?_|refine Zda H rfl rfl rfl (by repeat constructor) (by first|(simp only [wr_size, Array.size_setIfInBounds, List.size_toArray, List.length_cons, List.length_nil]; omega)|omega|(simp; done)|(simp; omega)) ?_); clear H; intro w H))|(refine Zd6 ?_; first|refine Zd9 ?_|refine Zeb ?_|refine Zeh ?_|refine Zef ?_|refine Zed ?_|refine Zec ?_|refine Zee ?_|refine Zeg ?_|(refine Zd7 ?_; first|refine Zao rfl ?_|refine Zap rfl ?_))|(first|refine Zei ?_|refine Zej ?_|refine Zek ?_|refine Zel ?_|refine Zen ?_|refine Zem ?_|refine Zeo rfl ?_|refine Zep ?_|refine Zeq ?_|refine Zes ?_|refine Zet ?_)|refine Zd8 ?_)
    first|refine Ze6 rfl ?_|refine Ze7 rfl ?_|refine Ze8 rfl ?_|refine Ze9 rfl ?_|refine Zfa rfl rfl ?_|refine Zfb rfl rfl ?_|refine Zfc rfl rfl ?_|refine Ze2 ?_|refine Ze3 ?_
    rw [e1 (by omega)]
    exact ⟨_, rfl, St.own_nil H 5 1⟩
  · have hB2 : r.2 = 0 := by omega
    rcases H with ⟨h, H⟩|⟨_, H⟩
    · rw [h0 h] at hB2; omega
    · unfold readA at H
      obtain ⟨v, H⟩ := (H.swap).ex_get
      have H := H.all_get
      obtain ⟨a, k, rfl⟩ := H.pur_get
      have H := H.drop
      repeat (first|(refine Zd1 ?_; first|refine Zcx ?_|(refine Zd3 ?_; first|refine Zc0 rfl ?_|refine Zc1 rfl ?_|refine Zc2 rfl ?_)|refine Zcz (by first|exact Zat rfl|exact Zav rfl|exact Zaw rfl|exact Zaz rfl|exact Za2 rfl|exact Za1 rfl|exact Zau rfl|exact Za0 rfl|exact Zba rfl|exact Zce rfl (by omega)|exact Zbn rfl rfl|exact Zbr rfl rfl|exact Zbs rfl rfl|exact Zbq rfl rfl|exact Zbp rfl rfl|exact Zbo rfl rfl|exact Zcr rfl|exact Zbg rfl rfl (by omega)|exact Zbh rfl rfl (by omega)|exact Zbi rfl rfl (by omega)|exact Zco rfl rfl|exact Zdz rfl rfl|exact Zd0 rfl rfl|exact Za8 rfl rfl|exact Za9 rfl rfl|exact Za6 rfl rfl|exact Za7 rfl rfl|exact Zb1 rfl|exact Zca rfl rfl|exact Zcb rfl rfl|exact Zcv rfl rfl|exact Zcw rfl rfl|exact Zax rfl|exact Za3 rfl|exact Zay rfl|exact Zcl rfl rfl|exact Zb0 rfl|exact Zct|exact Zf3|exact Zar rfl|exact Zas rfl) ?_|(refine Zd4 ?_; refine Zc5 H rfl (by repeat constructor) rfl ?_)|(refine Zd5 ?_; (first|refine Zdb H rfl rfl (by repeat constructor) (by first|(simp only [wr_size, Array.size_setIfInBounds, List.size_toArray, List.length_cons, List.length_nil]; omega)|omega|(simp; done)|(simp; omega)) ?_|refine Zde H rfl rfl (by repeat constructor) (by first|(simp only [wr_size, Array.size_setIfInBounds, List.size_toArray, List.length_cons, List.length_nil]; omega)|omega|(simp; done)|(simp; omega)) ?_|refine Zdd H rfl rfl (by repeat constructor) (by first|(simp only [wr_size, Array.size_setIfInBounds, List.size_toArray, List.length_cons, List.length_nil]; omega)|omega|(simp; done)|(simp; omega)) ?_|refine Zdc H rfl rfl (by repeat constructor) (by first|(simp only [wr_size, Array.size_setIfInBounds, List.size_toArray, List.length_cons, List.length_nil]; omega)|omega|(simp; done)|(simp; omega)) ?_|refine Zda H rfl rfl rfl (by repeat constructor) (by first|(simp only [wr_size, Array.size_setIfInBounds, List.size_toArray, List.length_cons, List.length_nil]; omega)|omega|(simp; done)|(simp; omega)) ?_); clear H; intro w H))|(refine Zd6 ?_; first|refine Zd9 ?_|refine Zeb ?_|refine Zeh ?_|refine Zef ?_|refine Zed ?_|refine Zec ?_|refine Zee ?_|refine Zeg ?_|(refine Zd7 ?_; first|refine Zao rfl ?_|refine Zap rfl ?_))|(first|refine Zei ?_|refine Zej ?_|refine Zek ?_|refine Zel ?_|refine Zen ?_|refine Zem ?_|refine Zeo rfl ?_|refine Zep ?_|refine Zeq ?_|refine Zes ?_|refine Zet ?_)|refine Zd8 ?_)
      first|refine Ze6 rfl ?_|refine Ze7 rfl ?_|refine Ze8 rfl ?_|refine Ze9 rfl ?_|refine Zfa rfl rfl ?_|refine Zfb rfl rfl ?_|refine Zfc rfl rfl ?_|refine Ze2 ?_|refine Ze3 ?_
      rw [e2 hB2]
      exact ⟨_, rfl, H.arr (by repeat (first|exact Arr.nil|exact Arr.stop|refine Arr.cons (by repeat constructor) ?_|refine Arr.skip ?_))⟩
end
end Go.Sl

/- host: a new host. -/
set_option maxHeartbeats 2000000
set_option linter.unusedVariables false
set_option linter.unusedSimpArgs false
namespace Go.Sl
open Go Go.Proofs
attribute [local irreducible] cl pt own old den denOps denS thenK blockK cutK loopK retK Calls PV
attribute [local irreducible] omap ohole oheld rowsB
theorem comes_take (fl : List HostS.Fault) (i : Nat) (hi : i < fl.length) : upd (HostS.comes (fl.take i)) fl[i].at_ (HostS.comes (fl.take i) fl[i].at_ ++ [fl[i]]) = HostS.comes (fl.take (i + 1)) := by
  funext k
  have h2 : fl.take (i + 1) = fl.take i ++ [fl[i]] := by rw [List.take_succ_eq_append_getElem hi]
  unfold upd HostS.comes
  rw [h2, List.filter_append]
  by_cases e : k = fl[i].at_
  · subst e
    simp
  · have e2 : (fl[i].at_ == k) = false := by simp; omega
    simp [e, e2]
theorem kindly_take (fl : List HostS.Fault) (i : Nat) (hi : i < fl.length) : (fl.take (i + 1)).all HostS.kindly = ((fl.take i).all HostS.kindly && HostS.kindly fl[i]) := by
  rw [List.take_succ_eq_append_getElem hi, List.all_append]; simp
theorem kindly_no {fl : List HostS.Fault} (i : Nat) (hi : i < fl.length) (h : HostS.kindly fl[i] = false) : fl.all HostS.kindly = false := by
  rw [Bool.eq_false_iff, Ne, List.all_eq_true]
  intro hh
  have := hh _ (List.getElem_mem hi)
  rw [h] at this; cases this
theorem ok_fresh (pages : Int) (size : Nat) (fl : List HostS.Fault) (hp : 0 ≤ pages ∧ pages ≤ 65536 ∧ 1 ≤ (size : Int) ∧ (size : Int) ≤ 4124) (hfo : ∀ f ∈ fl, HostS.FOk f) (hfl : fl.length ≤ 2932031007401) : HostS.Ok (HostS.fresh pages size fl) := by
  refine ⟨hp.1, hp.2.1, by simp [HostS.fresh]; omega, by simp [HostS.fresh]; omega, fun p r hr => by simp [HostS.fresh] at hr, fun p => by simp [HostS.fresh], by simp [HostS.fresh], ?_, ?_⟩
  · intro k f hf
    exact hfo f (List.mem_filter.1 hf).1
  · intro k
    exact Nat.le_trans (List.length_filter_le _ _) hfl
theorem hnew_c {w0 w : World} {L : List Asrt} (pages size : Int) {fv : Value} {fl : List HostS.Fault} (hfl : fl.length ≤ 2932031007401) (hfo : ∀ f ∈ fl, HostS.FOk f)
    (hf : ∀ w', St w0 w' L → SlW w' 6 fv fl.length (fl.flatMap fcells)) (H : St w0 w L) :
    Calls Tryz.prog 36 #[.int .i64 pages, .int .i64 size, fv] w
      (Ret fun v w' => (HostS.mayBe pages size fl ∧ ∃ p, v = .tuple #[.pointer (some ⟨p, 0, none⟩), .int .i64 0] ∧ St w0 w' (hostA p (HostS.fresh pages size.toNat fl) :: L)) ∨
        (¬ HostS.mayBe pages size fl ∧ v = .tuple #[.pointer none, .int .i64 2] ∧ St w0 w' L)) := by
  obtain ⟨fa, fk, rfl⟩ := (hf _ H).len
  refine calls_den [_, _, _] Tryz.func36 rfl rfl rfl Tryz.mixed (by kernel_rfl) ?_
  have bad : ¬ HostS.mayBe pages size fl → ∀ w, St w0 w L → ((HostS.mayBe pages size fl ∧ ∃ p, Value.tuple #[.pointer none, .int .i64 2] = .tuple #[.pointer (some ⟨p, 0, none⟩), .int .i64 0] ∧ St w0 w (hostA p (HostS.fresh pages size.toNat fl) :: L)) ∨ (¬ HostS.mayBe pages size fl ∧ Value.tuple #[.pointer none, .int .i64 2] = .tuple #[.pointer none, .int .i64 2] ∧ St w0 w L)) := fun h w H => .inr ⟨h, rfl, H⟩
  repeat (first|(refine Zd1 ?_; first|refine Zcx ?_|(refine Zd3 ?_; first|refine Zc0 rfl ?_|refine Zc1 rfl ?_|refine Zc2 rfl ?_)|refine Zcz (by first|exact Zat rfl|exact Zav rfl|exact Zaw rfl|exact Zaz rfl|exact Za2 rfl|exact Za1 rfl|exact Zau rfl|exact Za0 rfl|exact Zba rfl|exact Zce rfl (by omega)|exact Zbn rfl rfl|exact Zbr rfl rfl|exact Zbs rfl rfl|exact Zbq rfl rfl|exact Zbp rfl rfl|exact Zbo rfl rfl|exact Zcr rfl|exact Zbg rfl rfl (by omega)|exact Zbh rfl rfl (by omega)|exact Zbi rfl rfl (by omega)|exact Zco rfl rfl|exact Zdz rfl rfl|exact Zd0 rfl rfl|exact Za8 rfl rfl|exact Za9 rfl rfl|exact Za6 rfl rfl|exact Za7 rfl rfl|exact Zb1 rfl|exact Zca rfl rfl|exact Zcb rfl rfl|exact Zcv rfl rfl|exact Zcw rfl rfl|exact Zax rfl|exact Za3 rfl|exact Zay rfl|exact Zcl rfl rfl|exact Zb0 rfl|exact Zct|exact Zf3|exact Zar rfl|exact Zas rfl) ?_|(refine Zd4 ?_; refine Zc5 H rfl (by repeat constructor) rfl ?_)|(refine Zd5 ?_; (first|refine Zdb H rfl rfl (by repeat constructor) (by first|(simp only [wr_size, Array.size_setIfInBounds, List.size_toArray, List.length_cons, List.length_nil]; omega)|omega|(simp; done)|(simp; omega)) ?_|refine Zde H rfl rfl (by repeat constructor) (by first|(simp only [wr_size, Array.size_setIfInBounds, List.size_toArray, List.length_cons, List.length_nil]; omega)|omega|(simp; done)|(simp; omega)) ?_|refine Zdd H rfl rfl (by repeat constructor) (by first|(simp only [wr_size, Array.size_setIfInBounds, List.size_toArray, List.length_cons, List.length_nil]; omega)|omega|(simp; done)|(simp; omega)) ?_|refine Zdc H rfl rfl (by repeat constructor) (by first|(simp only [wr_size, Array.size_setIfInBounds, List.size_toArray, List.length_cons, List.length_nil]; omega)|omega|(simp; done)|(simp; omega)) ?_|refine Zda H rfl rfl rfl (by repeat constructor) (by first|(simp only [wr_size, Array.size_setIfInBounds, List.size_toArray, List.length_cons, List.length_nil]; omega)|omega|(simp; done)|(simp; omega)) ?_); clear H; intro w H))|(refine Zd6 ?_; first|refine Zd9 ?_|refine Zeb ?_|refine Zeh ?_|refine Zef ?_|refine Zed ?_|refine Zec ?_|refine Zee ?_|refine Zeg ?_|(refine Zd7 ?_; first|refine Zao rfl ?_|refine Zap rfl ?_))|(first|refine Zei ?_|refine Zej ?_|refine Zek ?_|refine Zel ?_|refine Zen ?_|refine Zem ?_|refine Zeo rfl ?_|refine Zep ?_|refine Zeq ?_|refine Zes ?_|refine Zet ?_)|refine Zd8 ?_)
  refine Zex rfl rfl (fun hG => ?_) (fun hG => ?_)
  · repeat (first|(refine Zd1 ?_; first|refine Zcx ?_|(refine Zd3 ?_; first|refine Zc0 rfl ?_|refine Zc1 rfl ?_|refine Zc2 rfl ?_)|refine Zcz (by first|exact Zat rfl|exact Zav rfl|exact Zaw rfl|exact Zaz rfl|exact Za2 rfl|exact Za1 rfl|exact Zau rfl|exact Za0 rfl|exact Zba rfl|exact Zce rfl (by omega)|exact Zbn rfl rfl|exact Zbr rfl rfl|exact Zbs rfl rfl|exact Zbq rfl rfl|exact Zbp rfl rfl|exact Zbo rfl rfl|exact Zcr rfl|exact Zbg rfl rfl (by omega)|exact Zbh rfl rfl (by omega)|exact Zbi rfl rfl (by omega)|exact Zco rfl rfl|exact Zdz rfl rfl|exact Zd0 rfl rfl|exact Za8 rfl rfl|exact Za9 rfl rfl|exact Za6 rfl rfl|exact Za7 rfl rfl|exact Zb1 rfl|exact Zca rfl rfl|exact Zcb rfl rfl|exact Zcv rfl rfl|exact Zcw rfl rfl|exact Zax rfl|exact Za3 rfl|exact Zay rfl|exact Zcl rfl rfl|exact Zb0 rfl|exact Zct|exact Zf3|exact Zar rfl|exact Zas rfl) ?_|(refine Zd4 ?_; refine Zc5 H rfl (by repeat constructor) rfl ?_)|(refine Zd5 ?_; (first|refine Zdb H rfl rfl (by repeat constructor) (by first|(simp only [wr_size, Array.size_setIfInBounds, List.size_toArray, List.length_cons, List.length_nil]; omega)|omega|(simp; done)|(simp; omega)) ?_|refine Zde H rfl rfl (by repeat constructor) (by first|(simp only [wr_size, Array.size_setIfInBounds, List.size_toArray, List.length_cons, List.length_nil]; omega)|omega|(simp; done)|(simp; omega)) ?_|refine Zdd H rfl rfl (by repeat constructor) (by first|(simp only [wr_size, Array.size_setIfInBounds, List.size_toArray, List.length_cons, List.length_nil]; omega)|omega|(simp; done)|(simp; omega)) ?_|refine Zdc H rfl rfl (by repeat constructor) (by first|(simp only [wr_size, Array.size_setIfInBounds, List.size_toArray, List.length_cons, List.length_nil]; omega)|omega|(simp; done)|(simp; omega)) ?_|refine Zda H rfl rfl rfl (by repeat constructor) (by first|(simp only [wr_size, Array.size_setIfInBounds, List.size_toArray, List.length_cons, List.length_nil]; omega)|omega|(simp; done)|(simp; omega)) ?_); clear H; intro w H))|(refine Zd6 ?_; first|refine Zd9 ?_|refine Zeb ?_|refine Zeh ?_|refine Zef ?_|refine Zed ?_|refine Zec ?_|refine Zee ?_|refine Zeg ?_|(refine Zd7 ?_; first|refine Zao rfl ?_|refine Zap rfl ?_))|(first|refine Zei ?_|refine Zej ?_|refine Zek ?_|refine Zel ?_|refine Zen ?_|refine Zem ?_|refine Zeo rfl ?_|refine Zep ?_|refine Zeq ?_|refine Zes ?_|refine Zet ?_)|refine Zd8 ?_)
    first|refine Ze6 rfl ?_|refine Ze7 rfl ?_|refine Ze8 rfl ?_|refine Ze9 rfl ?_|refine Zfa rfl rfl ?_|refine Zfb rfl rfl ?_|refine Zfc rfl rfl ?_|refine Ze2 ?_|refine Ze3 ?_
    exact bad (fun h => by have := h.1; omega) _ H
  repeat (first|(refine Zd1 ?_; first|refine Zcx ?_|(refine Zd3 ?_; first|refine Zc0 rfl ?_|refine Zc1 rfl ?_|refine Zc2 rfl ?_)|refine Zcz (by first|exact Zat rfl|exact Zav rfl|exact Zaw rfl|exact Zaz rfl|exact Za2 rfl|exact Za1 rfl|exact Zau rfl|exact Za0 rfl|exact Zba rfl|exact Zce rfl (by omega)|exact Zbn rfl rfl|exact Zbr rfl rfl|exact Zbs rfl rfl|exact Zbq rfl rfl|exact Zbp rfl rfl|exact Zbo rfl rfl|exact Zcr rfl|exact Zbg rfl rfl (by omega)|exact Zbh rfl rfl (by omega)|exact Zbi rfl rfl (by omega)|exact Zco rfl rfl|exact Zdz rfl rfl|exact Zd0 rfl rfl|exact Za8 rfl rfl|exact Za9 rfl rfl|exact Za6 rfl rfl|exact Za7 rfl rfl|exact Zb1 rfl|exact Zca rfl rfl|exact Zcb rfl rfl|exact Zcv rfl rfl|exact Zcw rfl rfl|exact Zax rfl|exact Za3 rfl|exact Zay rfl|exact Zcl rfl rfl|exact Zb0 rfl|exact Zct|exact Zf3|exact Zar rfl|exact Zas rfl) ?_|(refine Zd4 ?_; refine Zc5 H rfl (by repeat constructor) rfl ?_)|(refine Zd5 ?_; (first|refine Zdb H rfl rfl (by repeat constructor) (by first|(simp only [wr_size, Array.size_setIfInBounds, List.size_toArray, List.length_cons, List.length_nil]; omega)|omega|(simp; done)|(simp; omega)) ?_|refine Zde H rfl rfl (by repeat constructor) (by first|(simp only [wr_size, Array.size_setIfInBounds, List.size_toArray, List.length_cons, List.length_nil]; omega)|omega|(simp; done)|(simp; omega)) ?_|refine Zdd H rfl rfl (by repeat constructor) (by first|(simp only [wr_size, Array.size_setIfInBounds, List.size_toArray, List.length_cons, List.length_nil]; omega)|omega|(simp; done)|(simp; omega)) ?_|refine Zdc H rfl rfl (by repeat constructor) (by first|(simp only [wr_size, Array.size_setIfInBounds, List.size_toArray, List.length_cons, List.length_nil]; omega)|omega|(simp; done)|(simp; omega)) ?_|refine Zda H rfl rfl rfl (by repeat constructor) (by first|(simp only [wr_size, Array.size_setIfInBounds, List.size_toArray, List.length_cons, List.length_nil]; omega)|omega|(simp; done)|(simp; omega)) ?_); clear H; intro w H))|(refine Zd6 ?_; first|refine Zd9 ?_|refine Zeb ?_|refine Zeh ?_|refine Zef ?_|refine Zed ?_|refine Zec ?_|refine Zee ?_|refine Zeg ?_|(refine Zd7 ?_; first|refine Zao rfl ?_|refine Zap rfl ?_))|(first|refine Zei ?_|refine Zej ?_|refine Zek ?_|refine Zel ?_|refine Zen ?_|refine Zem ?_|refine Zeo rfl ?_|refine Zep ?_|refine Zeq ?_|refine Zes ?_|refine Zet ?_)|refine Zd8 ?_)
  refine Zex rfl rfl (fun hG => ?_) (fun hG => ?_)
  · repeat (first|(refine Zd1 ?_; first|refine Zcx ?_|(refine Zd3 ?_; first|refine Zc0 rfl ?_|refine Zc1 rfl ?_|refine Zc2 rfl ?_)|refine Zcz (by first|exact Zat rfl|exact Zav rfl|exact Zaw rfl|exact Zaz rfl|exact Za2 rfl|exact Za1 rfl|exact Zau rfl|exact Za0 rfl|exact Zba rfl|exact Zce rfl (by omega)|exact Zbn rfl rfl|exact Zbr rfl rfl|exact Zbs rfl rfl|exact Zbq rfl rfl|exact Zbp rfl rfl|exact Zbo rfl rfl|exact Zcr rfl|exact Zbg rfl rfl (by omega)|exact Zbh rfl rfl (by omega)|exact Zbi rfl rfl (by omega)|exact Zco rfl rfl|exact Zdz rfl rfl|exact Zd0 rfl rfl|exact Za8 rfl rfl|exact Za9 rfl rfl|exact Za6 rfl rfl|exact Za7 rfl rfl|exact Zb1 rfl|exact Zca rfl rfl|exact Zcb rfl rfl|exact Zcv rfl rfl|exact Zcw rfl rfl|exact Zax rfl|exact Za3 rfl|exact Zay rfl|exact Zcl rfl rfl|exact Zb0 rfl|exact Zct|exact Zf3|exact Zar rfl|exact Zas rfl) ?_|(refine Zd4 ?_; refine Zc5 H rfl (by repeat constructor) rfl ?_)|(refine Zd5 ?_; (first|refine Zdb H rfl rfl (by repeat constructor) (by first|(simp only [wr_size, Array.size_setIfInBounds, List.size_toArray, List.length_cons, List.length_nil]; omega)|omega|(simp; done)|(simp; omega)) ?_|refine Zde H rfl rfl (by repeat constructor) (by first|(simp only [wr_size, Array.size_setIfInBounds, List.size_toArray, List.length_cons, List.length_nil]; omega)|omega|(simp; done)|(simp; omega)) ?_|refine Zdd H rfl rfl (by repeat constructor) (by first|(simp only [wr_size, Array.size_setIfInBounds, List.size_toArray, List.length_cons, List.length_nil]; omega)|omega|(simp; done)|(simp; omega)) ?_|refine Zdc H rfl rfl (by repeat constructor) (by first|(simp only [wr_size, Array.size_setIfInBounds, List.size_toArray, List.length_cons, List.length_nil]; omega)|omega|(simp; done)|(simp; omega)) ?_|refine Zda H rfl rfl rfl (by repeat constructor) (by first|(simp only [wr_size, Array.size_setIfInBounds, List.size_toArray, List.length_cons, List.length_nil]; omega)|omega|(simp; done)|(simp; omega)) ?_); clear H; intro w H))|(refine Zd6 ?_; first|refine Zd9 ?_|refine Zeb ?_|refine Zeh ?_|refine Zef ?_|refine Zed ?_|refine Zec ?_|refine Zee ?_|refine Zeg ?_|(refine Zd7 ?_; first|refine Zao rfl ?_|refine Zap rfl ?_))|(first|refine Zei ?_|refine Zej ?_|refine Zek ?_|refine Zel ?_|refine Zen ?_|refine Zem ?_|refine Zeo rfl ?_|refine Zep ?_|refine Zeq ?_|refine Zes ?_|refine Zet ?_)|refine Zd8 ?_)
    first|refine Ze6 rfl ?_|refine Ze7 rfl ?_|refine Ze8 rfl ?_|refine Ze9 rfl ?_|refine Zfa rfl rfl ?_|refine Zfb rfl rfl ?_|refine Zfc rfl rfl ?_|refine Ze2 ?_|refine Ze3 ?_
    exact bad (fun h => by have := h.1; omega) _ H
  repeat (first|(refine Zd1 ?_; first|refine Zcx ?_|(refine Zd3 ?_; first|refine Zc0 rfl ?_|refine Zc1 rfl ?_|refine Zc2 rfl ?_)|refine Zcz (by first|exact Zat rfl|exact Zav rfl|exact Zaw rfl|exact Zaz rfl|exact Za2 rfl|exact Za1 rfl|exact Zau rfl|exact Za0 rfl|exact Zba rfl|exact Zce rfl (by omega)|exact Zbn rfl rfl|exact Zbr rfl rfl|exact Zbs rfl rfl|exact Zbq rfl rfl|exact Zbp rfl rfl|exact Zbo rfl rfl|exact Zcr rfl|exact Zbg rfl rfl (by omega)|exact Zbh rfl rfl (by omega)|exact Zbi rfl rfl (by omega)|exact Zco rfl rfl|exact Zdz rfl rfl|exact Zd0 rfl rfl|exact Za8 rfl rfl|exact Za9 rfl rfl|exact Za6 rfl rfl|exact Za7 rfl rfl|exact Zb1 rfl|exact Zca rfl rfl|exact Zcb rfl rfl|exact Zcv rfl rfl|exact Zcw rfl rfl|exact Zax rfl|exact Za3 rfl|exact Zay rfl|exact Zcl rfl rfl|exact Zb0 rfl|exact Zct|exact Zf3|exact Zar rfl|exact Zas rfl) ?_|(refine Zd4 ?_; refine Zc5 H rfl (by repeat constructor) rfl ?_)|(refine Zd5 ?_; (first|refine Zdb H rfl rfl (by repeat constructor) (by first|(simp only [wr_size, Array.size_setIfInBounds, List.size_toArray, List.length_cons, List.length_nil]; omega)|omega|(simp; done)|(simp; omega)) ?_|refine Zde H rfl rfl (by repeat constructor) (by first|(simp only [wr_size, Array.size_setIfInBounds, List.size_toArray, List.length_cons, List.length_nil]; omega)|omega|(simp; done)|(simp; omega)) ?_|refine Zdd H rfl rfl (by repeat constructor) (by first|(simp only [wr_size, Array.size_setIfInBounds, List.size_toArray, List.length_cons, List.length_nil]; omega)|omega|(simp; done)|(simp; omega)) ?_|refine Zdc H rfl rfl (by repeat constructor) (by first|(simp only [wr_size, Array.size_setIfInBounds, List.size_toArray, List.length_cons, List.length_nil]; omega)|omega|(simp; done)|(simp; omega)) ?_|refine Zda H rfl rfl rfl (by repeat constructor) (by first|(simp only [wr_size, Array.size_setIfInBounds, List.size_toArray, List.length_cons, List.length_nil]; omega)|omega|(simp; done)|(simp; omega)) ?_); clear H; intro w H))|(refine Zd6 ?_; first|refine Zd9 ?_|refine Zeb ?_|refine Zeh ?_|refine Zef ?_|refine Zed ?_|refine Zec ?_|refine Zee ?_|refine Zeg ?_|(refine Zd7 ?_; first|refine Zao rfl ?_|refine Zap rfl ?_))|(first|refine Zei ?_|refine Zej ?_|refine Zek ?_|refine Zel ?_|refine Zen ?_|refine Zem ?_|refine Zeo rfl ?_|refine Zep ?_|refine Zeq ?_|refine Zes ?_|refine Zet ?_)|refine Zd8 ?_)
  refine Zex rfl rfl (fun hG => ?_) (fun hG => ?_)
  · repeat (first|(refine Zd1 ?_; first|refine Zcx ?_|(refine Zd3 ?_; first|refine Zc0 rfl ?_|refine Zc1 rfl ?_|refine Zc2 rfl ?_)|refine Zcz (by first|exact Zat rfl|exact Zav rfl|exact Zaw rfl|exact Zaz rfl|exact Za2 rfl|exact Za1 rfl|exact Zau rfl|exact Za0 rfl|exact Zba rfl|exact Zce rfl (by omega)|exact Zbn rfl rfl|exact Zbr rfl rfl|exact Zbs rfl rfl|exact Zbq rfl rfl|exact Zbp rfl rfl|exact Zbo rfl rfl|exact Zcr rfl|exact Zbg rfl rfl (by omega)|exact Zbh rfl rfl (by omega)|exact Zbi rfl rfl (by omega)|exact Zco rfl rfl|exact Zdz rfl rfl|exact Zd0 rfl rfl|exact Za8 rfl rfl|exact Za9 rfl rfl|exact Za6 rfl rfl|exact Za7 rfl rfl|exact Zb1 rfl|exact Zca rfl rfl|exact Zcb rfl rfl|exact Zcv rfl rfl|exact Zcw rfl rfl|exact Zax rfl|exact Za3 rfl|exact Zay rfl|exact Zcl rfl rfl|exact Zb0 rfl|exact Zct|exact Zf3|exact Zar rfl|exact Zas rfl) ?_|(refine Zd4 ?_; refine Zc5 H rfl (by repeat constructor) rfl ?_)|(refine Zd5 ?_; (first|refine Zdb H rfl rfl (by repeat constructor) (by first|(simp only [wr_size, Array.size_setIfInBounds, List.size_toArray, List.length_cons, List.length_nil]; omega)|omega|(simp; done)|(simp; omega)) ?_|refine Zde H rfl rfl (by repeat constructor) (by first|(simp only [wr_size, Array.size_setIfInBounds, List.size_toArray, List.length_cons, List.length_nil]; omega)|omega|(simp; done)|(simp; omega)) ?_|refine Zdd H rfl rfl (by repeat constructor) (by first|(simp only [wr_size, Array.size_setIfInBounds, List.size_toArray, List.length_cons, List.length_nil]; omega)|omega|(simp; done)|(simp; omega)) ?_|refine Zdc H rfl rfl (by repeat constructor) (by first|(simp only [wr_size, Array.size_setIfInBounds, List.size_toArray, List.length_cons, List.length_nil]; omega)|omega|(simp; done)|(simp; omega)) ?_|refine Zda H rfl rfl rfl (by repeat constructor) (by first|(simp only [wr_size, Array.size_setIfInBounds, List.size_toArray, List.length_cons, List.length_nil]; omega)|omega|(simp; done)|(simp; omega)) ?_); clear H; intro w H))|(refine Zd6 ?_; first|refine Zd9 ?_|refine Zeb ?_|refine Zeh ?_|refine Zef ?_|refine Zed ?_|refine Zec ?_|refine Zee ?_|refine Zeg ?_|(refine Zd7 ?_; first|refine Zao rfl ?_|refine Zap rfl ?_))|(first|refine Zei ?_|refine Zej ?_|refine Zek ?_|refine Zel ?_|refine Zen ?_|refine Zem ?_|refine Zeo rfl ?_|refine Zep ?_|refine Zeq ?_|refine Zes ?_|refine Zet ?_)|refine Zd8 ?_)
    first|refine Ze6 rfl ?_|refine Ze7 rfl ?_|refine Ze8 rfl ?_|refine Ze9 rfl ?_|refine Zfa rfl rfl ?_|refine Zfb rfl rfl ?_|refine Zfc rfl rfl ?_|refine Ze2 ?_|refine Ze3 ?_
    exact bad (fun h => by have := h.1; omega) _ H
  repeat (first|(refine Zd1 ?_; first|refine Zcx ?_|(refine Zd3 ?_; first|refine Zc0 rfl ?_|refine Zc1 rfl ?_|refine Zc2 rfl ?_)|refine Zcz (by first|exact Zat rfl|exact Zav rfl|exact Zaw rfl|exact Zaz rfl|exact Za2 rfl|exact Za1 rfl|exact Zau rfl|exact Za0 rfl|exact Zba rfl|exact Zce rfl (by omega)|exact Zbn rfl rfl|exact Zbr rfl rfl|exact Zbs rfl rfl|exact Zbq rfl rfl|exact Zbp rfl rfl|exact Zbo rfl rfl|exact Zcr rfl|exact Zbg rfl rfl (by omega)|exact Zbh rfl rfl (by omega)|exact Zbi rfl rfl (by omega)|exact Zco rfl rfl|exact Zdz rfl rfl|exact Zd0 rfl rfl|exact Za8 rfl rfl|exact Za9 rfl rfl|exact Za6 rfl rfl|exact Za7 rfl rfl|exact Zb1 rfl|exact Zca rfl rfl|exact Zcb rfl rfl|exact Zcv rfl rfl|exact Zcw rfl rfl|exact Zax rfl|exact Za3 rfl|exact Zay rfl|exact Zcl rfl rfl|exact Zb0 rfl|exact Zct|exact Zf3|exact Zar rfl|exact Zas rfl) ?_|(refine Zd4 ?_; refine Zc5 H rfl (by repeat constructor) rfl ?_)|(refine Zd5 ?_; (first|refine Zdb H rfl rfl (by repeat constructor) (by first|(simp only [wr_size, Array.size_setIfInBounds, List.size_toArray, List.length_cons, List.length_nil]; omega)|omega|(simp; done)|(simp; omega)) ?_|refine Zde H rfl rfl (by repeat constructor) (by first|(simp only [wr_size, Array.size_setIfInBounds, List.size_toArray, List.length_cons, List.length_nil]; omega)|omega|(simp; done)|(simp; omega)) ?_|refine Zdd H rfl rfl (by repeat constructor) (by first|(simp only [wr_size, Array.size_setIfInBounds, List.size_toArray, List.length_cons, List.length_nil]; omega)|omega|(simp; done)|(simp; omega)) ?_|refine Zdc H rfl rfl (by repeat constructor) (by first|(simp only [wr_size, Array.size_setIfInBounds, List.size_toArray, List.length_cons, List.length_nil]; omega)|omega|(simp; done)|(simp; omega)) ?_|refine Zda H rfl rfl rfl (by repeat constructor) (by first|(simp only [wr_size, Array.size_setIfInBounds, List.size_toArray, List.length_cons, List.length_nil]; omega)|omega|(simp; done)|(simp; omega)) ?_); clear H; intro w H))|(refine Zd6 ?_; first|refine Zd9 ?_|refine Zeb ?_|refine Zeh ?_|refine Zef ?_|refine Zed ?_|refine Zec ?_|refine Zee ?_|refine Zeg ?_|(refine Zd7 ?_; first|refine Zao rfl ?_|refine Zap rfl ?_))|(first|refine Zei ?_|refine Zej ?_|refine Zek ?_|refine Zel ?_|refine Zen ?_|refine Zem ?_|refine Zeo rfl ?_|refine Zep ?_|refine Zeq ?_|refine Zes ?_|refine Zet ?_)|refine Zd8 ?_)
  refine Zaq rfl (fun hB => ?_) (fun hB => ?_)
  · repeat (first|(refine Zd1 ?_; first|refine Zcx ?_|(refine Zd3 ?_; first|refine Zc0 rfl ?_|refine Zc1 rfl ?_|refine Zc2 rfl ?_)|refine Zcz (by first|exact Zat rfl|exact Zav rfl|exact Zaw rfl|exact Zaz rfl|exact Za2 rfl|exact Za1 rfl|exact Zau rfl|exact Za0 rfl|exact Zba rfl|exact Zce rfl (by omega)|exact Zbn rfl rfl|exact Zbr rfl rfl|exact Zbs rfl rfl|exact Zbq rfl rfl|exact Zbp rfl rfl|exact Zbo rfl rfl|exact Zcr rfl|exact Zbg rfl rfl (by omega)|exact Zbh rfl rfl (by omega)|exact Zbi rfl rfl (by omega)|exact Zco rfl rfl|exact Zdz rfl rfl|exact Zd0 rfl rfl|exact Za8 rfl rfl|exact Za9 rfl rfl|exact Za6 rfl rfl|exact Za7 rfl rfl|exact Zb1 rfl|exact Zca rfl rfl|exact Zcb rfl rfl|exact Zcv rfl rfl|exact Zcw rfl rfl|exact Zax rfl|exact Za3 rfl|exact Zay rfl|exact Zcl rfl rfl|exact Zb0 rfl|exact Zct|exact Zf3|exact Zar rfl|exact Zas rfl) ?_|(refine Zd4 ?_; refine Zc5 H rfl (by repeat constructor) rfl ?_)|(refine Zd5 ?_; (first|refine Zdb H rfl rfl (by repeat constructor) (by first|(simp only [wr_size, Array.size_setIfInBounds, List.size_toArray, List.length_cons, List.length_nil]; omega)|omega|(simp; done)|(simp; omega)) ?_|refine Zde H rfl rfl (by repeat constructor) (by first|(simp only [wr_size, Array.size_setIfInBounds, List.size_toArray, List.length_cons, List.length_nil]; omega)|omega|(simp; done)|(simp; omega)) ?_|refine Zdd H rfl rfl (by repeat constructor) (by first|(simp only [wr_size, Array.size_setIfInBounds, List.size_toArray, List.length_cons, List.length_nil]; omega)|omega|(simp; done)|(simp; omega)) ?_|refine Zdc H rfl rfl (by repeat constructor) (by first|(simp only [wr_size, Array.size_setIfInBounds, List.size_toArray, List.length_cons, List.length_nil]; omega)|omega|(simp; done)|(simp; omega)) ?_|refine Zda H rfl rfl rfl (by repeat constructor) (by first|(simp only [wr_size, Array.size_setIfInBounds, List.size_toArray, List.length_cons, List.length_nil]; omega)|omega|(simp; done)|(simp; omega)) ?_); clear H; intro w H))|(refine Zd6 ?_; first|refine Zd9 ?_|refine Zeb ?_|refine Zeh ?_|refine Zef ?_|refine Zed ?_|refine Zec ?_|refine Zee ?_|refine Zeg ?_|(refine Zd7 ?_; first|refine Zao rfl ?_|refine Zap rfl ?_))|(first|refine Zei ?_|refine Zej ?_|refine Zek ?_|refine Zel ?_|refine Zen ?_|refine Zem ?_|refine Zeo rfl ?_|refine Zep ?_|refine Zeq ?_|refine Zes ?_|refine Zet ?_)|refine Zd8 ?_)
    first|refine Ze6 rfl ?_|refine Ze7 rfl ?_|refine Ze8 rfl ?_|refine Ze9 rfl ?_|refine Zfa rfl rfl ?_|refine Zfb rfl rfl ?_|refine Zfc rfl rfl ?_|refine Ze2 ?_|refine Ze3 ?_
    exact bad (fun h => by have := h.1; omega) _ H
  have hfit : 0 ≤ pages ∧ pages ≤ 65536 ∧ 1 ≤ size ∧ size ≤ 4124 := by omega
  obtain ⟨sz, rfl⟩ : ∃ sz : Nat, size = (sz : Int) := ⟨size.toNat, by omega⟩
  repeat (first|(refine Zd1 ?_; first|refine Zcx ?_|(refine Zd3 ?_; first|refine Zc0 rfl ?_|refine Zc1 rfl ?_|refine Zc2 rfl ?_)|refine Zcz (by first|exact Zat rfl|exact Zav rfl|exact Zaw rfl|exact Zaz rfl|exact Za2 rfl|exact Za1 rfl|exact Zau rfl|exact Za0 rfl|exact Zba rfl|exact Zce rfl (by omega)|exact Zbn rfl rfl|exact Zbr rfl rfl|exact Zbs rfl rfl|exact Zbq rfl rfl|exact Zbp rfl rfl|exact Zbo rfl rfl|exact Zcr rfl|exact Zbg rfl rfl (by omega)|exact Zbh rfl rfl (by omega)|exact Zbi rfl rfl (by omega)|exact Zco rfl rfl|exact Zdz rfl rfl|exact Zd0 rfl rfl|exact Za8 rfl rfl|exact Za9 rfl rfl|exact Za6 rfl rfl|exact Za7 rfl rfl|exact Zb1 rfl|exact Zca rfl rfl|exact Zcb rfl rfl|exact Zcv rfl rfl|exact Zcw rfl rfl|exact Zax rfl|exact Za3 rfl|exact Zay rfl|exact Zcl rfl rfl|exact Zb0 rfl|exact Zct|exact Zf3|exact Zar rfl|exact Zas rfl) ?_|(refine Zd4 ?_; refine Zc5 H rfl (by repeat constructor) rfl ?_)|(refine Zd5 ?_; (first|refine Zdb H rfl rfl (by repeat constructor) (by first|(simp only [wr_size, Array.size_setIfInBounds, List.size_toArray, List.length_cons, List.length_nil]; omega)|omega|(simp; done)|(simp; omega)) ?_|refine Zde H rfl rfl (by repeat constructor) (by first|(simp only [wr_size, Array.size_setIfInBounds, List.size_toArray, List.length_cons, List.length_nil]; omega)|omega|(simp; done)|(simp; omega)) ?_|refine Zdd H rfl rfl (by repeat constructor) (by first|(simp only [wr_size, Array.size_setIfInBounds, List.size_toArray, List.length_cons, List.length_nil]; omega)|omega|(simp; done)|(simp; omega)) ?_|refine Zdc H rfl rfl (by repeat constructor) (by first|(simp only [wr_size, Array.size_setIfInBounds, List.size_toArray, List.length_cons, List.length_nil]; omega)|omega|(simp; done)|(simp; omega)) ?_|refine Zda H rfl rfl rfl (by repeat constructor) (by first|(simp only [wr_size, Array.size_setIfInBounds, List.size_toArray, List.length_cons, List.length_nil]; omega)|omega|(simp; done)|(simp; omega)) ?_); clear H; intro w H))|(refine Zd6 ?_; first|refine Zd9 ?_|refine Zeb ?_|refine Zeh ?_|refine Zef ?_|refine Zed ?_|refine Zec ?_|refine Zee ?_|refine Zeg ?_|(refine Zd7 ?_; first|refine Zao rfl ?_|refine Zap rfl ?_))|(first|refine Zei ?_|refine Zej ?_|refine Zek ?_|refine Zel ?_|refine Zen ?_|refine Zem ?_|refine Zeo rfl ?_|refine Zep ?_|refine Zeq ?_|refine Zes ?_|refine Zet ?_)|refine Zd8 ?_)
  refine Zfl H rowsA [] ?_; clear H; intro w bl H
  repeat (first|(refine Zd1 ?_; first|refine Zcx ?_|(refine Zd3 ?_; first|refine Zc0 rfl ?_|refine Zc1 rfl ?_|refine Zc2 rfl ?_)|refine Zcz (by first|exact Zat rfl|exact Zav rfl|exact Zaw rfl|exact Zaz rfl|exact Za2 rfl|exact Za1 rfl|exact Zau rfl|exact Za0 rfl|exact Zba rfl|exact Zce rfl (by omega)|exact Zbn rfl rfl|exact Zbr rfl rfl|exact Zbs rfl rfl|exact Zbq rfl rfl|exact Zbp rfl rfl|exact Zbo rfl rfl|exact Zcr rfl|exact Zbg rfl rfl (by omega)|exact Zbh rfl rfl (by omega)|exact Zbi rfl rfl (by omega)|exact Zco rfl rfl|exact Zdz rfl rfl|exact Zd0 rfl rfl|exact Za8 rfl rfl|exact Za9 rfl rfl|exact Za6 rfl rfl|exact Za7 rfl rfl|exact Zb1 rfl|exact Zca rfl rfl|exact Zcb rfl rfl|exact Zcv rfl rfl|exact Zcw rfl rfl|exact Zax rfl|exact Za3 rfl|exact Zay rfl|exact Zcl rfl rfl|exact Zb0 rfl|exact Zct|exact Zf3|exact Zar rfl|exact Zas rfl) ?_|(refine Zd4 ?_; refine Zc5 H rfl (by repeat constructor) rfl ?_)|(refine Zd5 ?_; (first|refine Zdb H rfl rfl (by repeat constructor) (by first|(simp only [wr_size, Array.size_setIfInBounds, List.size_toArray, List.length_cons, List.length_nil]; omega)|omega|(simp; done)|(simp; omega)) ?_|refine Zde H rfl rfl (by repeat constructor) (by first|(simp only [wr_size, Array.size_setIfInBounds, List.size_toArray, List.length_cons, List.length_nil]; omega)|omega|(simp; done)|(simp; omega)) ?_|refine Zdd H rfl rfl (by repeat constructor) (by first|(simp only [wr_size, Array.size_setIfInBounds, List.size_toArray, List.length_cons, List.length_nil]; omega)|omega|(simp; done)|(simp; omega)) ?_|refine Zdc H rfl rfl (by repeat constructor) (by first|(simp only [wr_size, Array.size_setIfInBounds, List.size_toArray, List.length_cons, List.length_nil]; omega)|omega|(simp; done)|(simp; omega)) ?_|refine Zda H rfl rfl rfl (by repeat constructor) (by first|(simp only [wr_size, Array.size_setIfInBounds, List.size_toArray, List.length_cons, List.length_nil]; omega)|omega|(simp; done)|(simp; omega)) ?_); clear H; intro w H))|(refine Zd6 ?_; first|refine Zd9 ?_|refine Zeb ?_|refine Zeh ?_|refine Zef ?_|refine Zed ?_|refine Zec ?_|refine Zee ?_|refine Zeg ?_|(refine Zd7 ?_; first|refine Zao rfl ?_|refine Zap rfl ?_))|(first|refine Zei ?_|refine Zej ?_|refine Zek ?_|refine Zel ?_|refine Zen ?_|refine Zem ?_|refine Zeo rfl ?_|refine Zep ?_|refine Zeq ?_|refine Zes ?_|refine Zet ?_)|refine Zd8 ?_)
  refine Zfl H faultsA [] ?_; clear H; intro w bc H
  repeat (first|(refine Zd1 ?_; first|refine Zcx ?_|(refine Zd3 ?_; first|refine Zc0 rfl ?_|refine Zc1 rfl ?_|refine Zc2 rfl ?_)|refine Zcz (by first|exact Zat rfl|exact Zav rfl|exact Zaw rfl|exact Zaz rfl|exact Za2 rfl|exact Za1 rfl|exact Zau rfl|exact Za0 rfl|exact Zba rfl|exact Zce rfl (by omega)|exact Zbn rfl rfl|exact Zbr rfl rfl|exact Zbs rfl rfl|exact Zbq rfl rfl|exact Zbp rfl rfl|exact Zbo rfl rfl|exact Zcr rfl|exact Zbg rfl rfl (by omega)|exact Zbh rfl rfl (by omega)|exact Zbi rfl rfl (by omega)|exact Zco rfl rfl|exact Zdz rfl rfl|exact Zd0 rfl rfl|exact Za8 rfl rfl|exact Za9 rfl rfl|exact Za6 rfl rfl|exact Za7 rfl rfl|exact Zb1 rfl|exact Zca rfl rfl|exact Zcb rfl rfl|exact Zcv rfl rfl|exact Zcw rfl rfl|exact Zax rfl|exact Za3 rfl|exact Zay rfl|exact Zcl rfl rfl|exact Zb0 rfl|exact Zct|exact Zf3|exact Zar rfl|exact Zas rfl) ?_|(refine Zd4 ?_; refine Zc5 H rfl (by repeat constructor) rfl ?_)|(refine Zd5 ?_; (first|refine Zdb H rfl rfl (by repeat constructor) (by first|(simp only [wr_size, Array.size_setIfInBounds, List.size_toArray, List.length_cons, List.length_nil]; omega)|omega|(simp; done)|(simp; omega)) ?_|refine Zde H rfl rfl (by repeat constructor) (by first|(simp only [wr_size, Array.size_setIfInBounds, List.size_toArray, List.length_cons, List.length_nil]; omega)|omega|(simp; done)|(simp; omega)) ?_|refine Zdd H rfl rfl (by repeat constructor) (by first|(simp only [wr_size, Array.size_setIfInBounds, List.size_toArray, List.length_cons, List.length_nil]; omega)|omega|(simp; done)|(simp; omega)) ?_|refine Zdc H rfl rfl (by repeat constructor) (by first|(simp only [wr_size, Array.size_setIfInBounds, List.size_toArray, List.length_cons, List.length_nil]; omega)|omega|(simp; done)|(simp; omega)) ?_|refine Zda H rfl rfl rfl (by repeat constructor) (by first|(simp only [wr_size, Array.size_setIfInBounds, List.size_toArray, List.length_cons, List.length_nil]; omega)|omega|(simp; done)|(simp; omega)) ?_); clear H; intro w H))|(refine Zd6 ?_; first|refine Zd9 ?_|refine Zeb ?_|refine Zeh ?_|refine Zef ?_|refine Zed ?_|refine Zec ?_|refine Zee ?_|refine Zeg ?_|(refine Zd7 ?_; first|refine Zao rfl ?_|refine Zap rfl ?_))|(first|refine Zei ?_|refine Zej ?_|refine Zek ?_|refine Zel ?_|refine Zen ?_|refine Zem ?_|refine Zeo rfl ?_|refine Zep ?_|refine Zeq ?_|refine Zes ?_|refine Zet ?_)|refine Zd8 ?_)
  refine Zcz (Zdm (cs := #[.int .i64 pages, .int .i64 sz, .map (some bl), u64b 0#64, .map (some bc), .int .i64 0, .slice none 0 0, .int .i64 0]) rfl) ?_
  (first|refine Zfw H rfl ?_|refine Zfx H rfl ?_|refine Zfy H rfl ?_|refine Zfz H rfl ?_|refine Zf0 H rfl ?_|refine Zdj H rfl ?_); clear H; intro w p H
  repeat (first|(refine Zd1 ?_; first|refine Zcx ?_|(refine Zd3 ?_; first|refine Zc0 rfl ?_|refine Zc1 rfl ?_|refine Zc2 rfl ?_)|refine Zcz (by first|exact Zat rfl|exact Zav rfl|exact Zaw rfl|exact Zaz rfl|exact Za2 rfl|exact Za1 rfl|exact Zau rfl|exact Za0 rfl|exact Zba rfl|exact Zce rfl (by omega)|exact Zbn rfl rfl|exact Zbr rfl rfl|exact Zbs rfl rfl|exact Zbq rfl rfl|exact Zbp rfl rfl|exact Zbo rfl rfl|exact Zcr rfl|exact Zbg rfl rfl (by omega)|exact Zbh rfl rfl (by omega)|exact Zbi rfl rfl (by omega)|exact Zco rfl rfl|exact Zdz rfl rfl|exact Zd0 rfl rfl|exact Za8 rfl rfl|exact Za9 rfl rfl|exact Za6 rfl rfl|exact Za7 rfl rfl|exact Zb1 rfl|exact Zca rfl rfl|exact Zcb rfl rfl|exact Zcv rfl rfl|exact Zcw rfl rfl|exact Zax rfl|exact Za3 rfl|exact Zay rfl|exact Zcl rfl rfl|exact Zb0 rfl|exact Zct|exact Zf3|exact Zar rfl|exact Zas rfl) ?_|(refine Zd4 ?_; refine Zc5 H rfl (by repeat constructor) rfl ?_)|(refine Zd5 ?_; (first|refine Zdb H rfl rfl (by repeat constructor) (by first|(simp only [wr_size, Array.size_setIfInBounds, List.size_toArray, List.length_cons, List.length_nil]; omega)|omega|(simp; done)|(simp; omega)) ?_|refine Zde H rfl rfl (by repeat constructor) (by first|(simp only [wr_size, Array.size_setIfInBounds, List.size_toArray, List.length_cons, List.length_nil]; omega)|omega|(simp; done)|(simp; omega)) ?_|refine Zdd H rfl rfl (by repeat constructor) (by first|(simp only [wr_size, Array.size_setIfInBounds, List.size_toArray, List.length_cons, List.length_nil]; omega)|omega|(simp; done)|(simp; omega)) ?_|refine Zdc H rfl rfl (by repeat constructor) (by first|(simp only [wr_size, Array.size_setIfInBounds, List.size_toArray, List.length_cons, List.length_nil]; omega)|omega|(simp; done)|(simp; omega)) ?_|refine Zda H rfl rfl rfl (by repeat constructor) (by first|(simp only [wr_size, Array.size_setIfInBounds, List.size_toArray, List.length_cons, List.length_nil]; omega)|omega|(simp; done)|(simp; omega)) ?_); clear H; intro w H))|(refine Zd6 ?_; first|refine Zd9 ?_|refine Zeb ?_|refine Zeh ?_|refine Zef ?_|refine Zed ?_|refine Zec ?_|refine Zee ?_|refine Zeg ?_|(refine Zd7 ?_; first|refine Zao rfl ?_|refine Zap rfl ?_))|(first|refine Zei ?_|refine Zej ?_|refine Zek ?_|refine Zel ?_|refine Zen ?_|refine Zem ?_|refine Zeo rfl ?_|refine Zep ?_|refine Zeq ?_|refine Zes ?_|refine Zet ?_)|refine Zd8 ?_)
  refine Zew [(6, 7), (10, 10), (33, 61)] (by kernel_rfl)
    (fun i w' => i ≤ fl.length ∧ (fl.take i).all HostS.kindly = true ∧ St w0 w' (omap bc faultsA [] (HostS.comes (fl.take i)) :: cl p #[.int .i64 pages, .int .i64 sz, .map (some bl), u64b 0#64, .map (some bc), .int .i64 0, .slice none 0 0, .int .i64 0] 117 :: omap bl rowsA [] (fun _ => []) :: L))
    (fun i : Nat => [(33, .int .i64 i)]) (fun i => fl.length - i) 0 ⟨Nat.zero_le _, rfl, H.arr (by repeat (first|exact Arr.nil|exact Arr.stop|refine Arr.cons (by repeat constructor) ?_|refine Arr.skip ?_))⟩ ⟨rfl, trivial⟩ ?_
  clear H; rintro i w u ⟨hi, hk, H⟩
  repeat (first|(refine Zd1 ?_; first|refine Zcx ?_|(refine Zd3 ?_; first|refine Zc0 rfl ?_|refine Zc1 rfl ?_|refine Zc2 rfl ?_)|refine Zcz (by first|exact Zat rfl|exact Zav rfl|exact Zaw rfl|exact Zaz rfl|exact Za2 rfl|exact Za1 rfl|exact Zau rfl|exact Za0 rfl|exact Zba rfl|exact Zce rfl (by omega)|exact Zbn rfl rfl|exact Zbr rfl rfl|exact Zbs rfl rfl|exact Zbq rfl rfl|exact Zbp rfl rfl|exact Zbo rfl rfl|exact Zcr rfl|exact Zbg rfl rfl (by omega)|exact Zbh rfl rfl (by omega)|exact Zbi rfl rfl (by omega)|exact Zco rfl rfl|exact Zdz rfl rfl|exact Zd0 rfl rfl|exact Za8 rfl rfl|exact Za9 rfl rfl|exact Za6 rfl rfl|exact Za7 rfl rfl|exact Zb1 rfl|exact Zca rfl rfl|exact Zcb rfl rfl|exact Zcv rfl rfl|exact Zcw rfl rfl|exact Zax rfl|exact Za3 rfl|exact Zay rfl|exact Zcl rfl rfl|exact Zb0 rfl|exact Zct|exact Zf3|exact Zar rfl|exact Zas rfl) ?_|(refine Zd4 ?_; refine Zc5 H rfl (by repeat constructor) rfl ?_)|(refine Zd5 ?_; (first|refine Zdb H rfl rfl (by repeat constructor) (by first|(simp only [wr_size, Array.size_setIfInBounds, List.size_toArray, List.length_cons, List.length_nil]; omega)|omega|(simp; done)|(simp; omega)) ?_|refine Zde H rfl rfl (by repeat constructor) (by first|(simp only [wr_size, Array.size_setIfInBounds, List.size_toArray, List.length_cons, List.length_nil]; omega)|omega|(simp; done)|(simp; omega)) ?_|refine Zdd H rfl rfl (by repeat constructor) (by first|(simp only [wr_size, Array.size_setIfInBounds, List.size_toArray, List.length_cons, List.length_nil]; omega)|omega|(simp; done)|(simp; omega)) ?_|refine Zdc H rfl rfl (by repeat constructor) (by first|(simp only [wr_size, Array.size_setIfInBounds, List.size_toArray, List.length_cons, List.length_nil]; omega)|omega|(simp; done)|(simp; omega)) ?_|refine Zda H rfl rfl rfl (by repeat constructor) (by first|(simp only [wr_size, Array.size_setIfInBounds, List.size_toArray, List.length_cons, List.length_nil]; omega)|omega|(simp; done)|(simp; omega)) ?_); clear H; intro w H))|(refine Zd6 ?_; first|refine Zd9 ?_|refine Zeb ?_|refine Zeh ?_|refine Zef ?_|refine Zed ?_|refine Zec ?_|refine Zee ?_|refine Zeg ?_|(refine Zd7 ?_; first|refine Zao rfl ?_|refine Zap rfl ?_))|(first|refine Zei ?_|refine Zej ?_|refine Zek ?_|refine Zel ?_|refine Zen ?_|refine Zem ?_|refine Zeo rfl ?_|refine Zep ?_|refine Zeq ?_|refine Zes ?_|refine Zet ?_)|refine Zd8 ?_)
  refine Zaq rfl (fun hB => ?_) (fun hB => ?_)
  · simp only [Int.ofNat_lt] at hB
    obtain ⟨xb, xo, xk, xc, xE, xfr, hxv, hxb, hxs, hxe⟩ := (hf _ H.drop.drop.drop).elemN fcells_len (by omega) (by omega)
    simp only [Value.slice.injEq] at hxv
    obtain ⟨rfl, _, rfl⟩ := hxv
    obtain ⟨hx1, hx2⟩ := hxe i hB
    have hnext := comes_take fl i hB
    have hkn := kindly_take fl i hB
    have hno := kindly_no i hB
    generalize fl[i] = f at hx2 hnext hkn hno
    repeat (first|(refine Zd1 ?_; first|refine Zcx ?_|(refine Zd3 ?_; first|refine Zc0 rfl ?_|refine Zc1 rfl ?_|refine Zc2 rfl ?_)|refine Zcz (by first|exact Zat rfl|exact Zav rfl|exact Zaw rfl|exact Zaz rfl|exact Za2 rfl|exact Za1 rfl|exact Zau rfl|exact Za0 rfl|exact Zba rfl|exact Zce rfl (by omega)|exact Zbn rfl rfl|exact Zbr rfl rfl|exact Zbs rfl rfl|exact Zbq rfl rfl|exact Zbp rfl rfl|exact Zbo rfl rfl|exact Zcr rfl|exact Zbg rfl rfl (by omega)|exact Zbh rfl rfl (by omega)|exact Zbi rfl rfl (by omega)|exact Zco rfl rfl|exact Zdz rfl rfl|exact Zd0 rfl rfl|exact Za8 rfl rfl|exact Za9 rfl rfl|exact Za6 rfl rfl|exact Za7 rfl rfl|exact Zb1 rfl|exact Zca rfl rfl|exact Zcb rfl rfl|exact Zcv rfl rfl|exact Zcw rfl rfl|exact Zax rfl|exact Za3 rfl|exact Zay rfl|exact Zcl rfl rfl|exact Zb0 rfl|exact Zct|exact Zf3|exact Zar rfl|exact Zas rfl) ?_|(refine Zd4 ?_; refine Zc5 H rfl (by repeat constructor) rfl ?_)|(refine Zd5 ?_; (first|refine Zdb H rfl rfl (by repeat constructor) (by first|(simp only [wr_size, Array.size_setIfInBounds, List.size_toArray, List.length_cons, List.length_nil]; omega)|omega|(simp; done)|(simp; omega)) ?_|refine Zde H rfl rfl (by repeat constructor) (by first|(simp only [wr_size, Array.size_setIfInBounds, List.size_toArray, List.length_cons, List.length_nil]; omega)|omega|(simp; done)|(simp; omega)) ?_|refine Zdd H rfl rfl (by repeat constructor) (by first|(simp only [wr_size, Array.size_setIfInBounds, List.size_toArray, List.length_cons, List.length_nil]; omega)|omega|(simp; done)|(simp; omega)) ?_|refine Zdc H rfl rfl (by repeat constructor) (by first|(simp only [wr_size, Array.size_setIfInBounds, List.size_toArray, List.length_cons, List.length_nil]; omega)|omega|(simp; done)|(simp; omega)) ?_|refine Zda H rfl rfl rfl (by repeat constructor) (by first|(simp only [wr_size, Array.size_setIfInBounds, List.size_toArray, List.length_cons, List.length_nil]; omega)|omega|(simp; done)|(simp; omega)) ?_); clear H; intro w H))|(refine Zd6 ?_; first|refine Zd9 ?_|refine Zeb ?_|refine Zeh ?_|refine Zef ?_|refine Zed ?_|refine Zec ?_|refine Zee ?_|refine Zeg ?_|(refine Zd7 ?_; first|refine Zao rfl ?_|refine Zap rfl ?_))|(first|refine Zei ?_|refine Zej ?_|refine Zek ?_|refine Zel ?_|refine Zen ?_|refine Zem ?_|refine Zeo rfl ?_|refine Zep ?_|refine Zeq ?_|refine Zes ?_|refine Zet ?_)|refine Zd8 ?_)
    refine Zcz (Zcg rfl rfl hB) ?_
    refine Zft rfl hxb hx1 hx2 ?_
    refine Zdi H ?_; clear H; intro w fb H
    refine Zdh H rfl rfl ?_ ?_ (by repeat constructor) ?_ ?_; (next => first|rfl|simp); (next => first|rfl|simp [oneC, u8v]); (next => first|rfl|simp); clear H; intro w H
    repeat (first|(refine Zd1 ?_; first|refine Zcx ?_|(refine Zd3 ?_; first|refine Zc0 rfl ?_|refine Zc1 rfl ?_|refine Zc2 rfl ?_)|refine Zcz (by first|exact Zat rfl|exact Zav rfl|exact Zaw rfl|exact Zaz rfl|exact Za2 rfl|exact Za1 rfl|exact Zau rfl|exact Za0 rfl|exact Zba rfl|exact Zce rfl (by omega)|exact Zbn rfl rfl|exact Zbr rfl rfl|exact Zbs rfl rfl|exact Zbq rfl rfl|exact Zbp rfl rfl|exact Zbo rfl rfl|exact Zcr rfl|exact Zbg rfl rfl (by omega)|exact Zbh rfl rfl (by omega)|exact Zbi rfl rfl (by omega)|exact Zco rfl rfl|exact Zdz rfl rfl|exact Zd0 rfl rfl|exact Za8 rfl rfl|exact Za9 rfl rfl|exact Za6 rfl rfl|exact Za7 rfl rfl|exact Zb1 rfl|exact Zca rfl rfl|exact Zcb rfl rfl|exact Zcv rfl rfl|exact Zcw rfl rfl|exact Zax rfl|exact Za3 rfl|exact Zay rfl|exact Zcl rfl rfl|exact Zb0 rfl|exact Zct|exact Zf3|exact Zar rfl|exact Zas rfl) ?_|(refine Zd4 ?_; refine Zc5 H rfl (by repeat constructor) rfl ?_)|(refine Zd5 ?_; (first|refine Zdb H rfl rfl (by repeat constructor) (by first|(simp only [wr_size, Array.size_setIfInBounds, List.size_toArray, List.length_cons, List.length_nil]; omega)|omega|(simp; done)|(simp; omega)) ?_|refine Zde H rfl rfl (by repeat constructor) (by first|(simp only [wr_size, Array.size_setIfInBounds, List.size_toArray, List.length_cons, List.length_nil]; omega)|omega|(simp; done)|(simp; omega)) ?_|refine Zdd H rfl rfl (by repeat constructor) (by first|(simp only [wr_size, Array.size_setIfInBounds, List.size_toArray, List.length_cons, List.length_nil]; omega)|omega|(simp; done)|(simp; omega)) ?_|refine Zdc H rfl rfl (by repeat constructor) (by first|(simp only [wr_size, Array.size_setIfInBounds, List.size_toArray, List.length_cons, List.length_nil]; omega)|omega|(simp; done)|(simp; omega)) ?_|refine Zda H rfl rfl rfl (by repeat constructor) (by first|(simp only [wr_size, Array.size_setIfInBounds, List.size_toArray, List.length_cons, List.length_nil]; omega)|omega|(simp; done)|(simp; omega)) ?_); clear H; intro w H))|(refine Zd6 ?_; first|refine Zd9 ?_|refine Zeb ?_|refine Zeh ?_|refine Zef ?_|refine Zed ?_|refine Zec ?_|refine Zee ?_|refine Zeg ?_|(refine Zd7 ?_; first|refine Zao rfl ?_|refine Zap rfl ?_))|(first|refine Zei ?_|refine Zej ?_|refine Zek ?_|refine Zel ?_|refine Zen ?_|refine Zem ?_|refine Zeo rfl ?_|refine Zep ?_|refine Zeq ?_|refine Zes ?_|refine Zet ?_)|refine Zd8 ?_)
    refine Zex rfl rfl (fun hG => ?_) (fun hG => ?_)
    · repeat (first|(refine Zd1 ?_; first|refine Zcx ?_|(refine Zd3 ?_; first|refine Zc0 rfl ?_|refine Zc1 rfl ?_|refine Zc2 rfl ?_)|refine Zcz (by first|exact Zat rfl|exact Zav rfl|exact Zaw rfl|exact Zaz rfl|exact Za2 rfl|exact Za1 rfl|exact Zau rfl|exact Za0 rfl|exact Zba rfl|exact Zce rfl (by omega)|exact Zbn rfl rfl|exact Zbr rfl rfl|exact Zbs rfl rfl|exact Zbq rfl rfl|exact Zbp rfl rfl|exact Zbo rfl rfl|exact Zcr rfl|exact Zbg rfl rfl (by omega)|exact Zbh rfl rfl (by omega)|exact Zbi rfl rfl (by omega)|exact Zco rfl rfl|exact Zdz rfl rfl|exact Zd0 rfl rfl|exact Za8 rfl rfl|exact Za9 rfl rfl|exact Za6 rfl rfl|exact Za7 rfl rfl|exact Zb1 rfl|exact Zca rfl rfl|exact Zcb rfl rfl|exact Zcv rfl rfl|exact Zcw rfl rfl|exact Zax rfl|exact Za3 rfl|exact Zay rfl|exact Zcl rfl rfl|exact Zb0 rfl|exact Zct|exact Zf3|exact Zar rfl|exact Zas rfl) ?_|(refine Zd4 ?_; refine Zc5 H rfl (by repeat constructor) rfl ?_)|(refine Zd5 ?_; (first|refine Zdb H rfl rfl (by repeat constructor) (by first|(simp only [wr_size, Array.size_setIfInBounds, List.size_toArray, List.length_cons, List.length_nil]; omega)|omega|(simp; done)|(simp; omega)) ?_|refine Zde H rfl rfl (by repeat constructor) (by first|(simp only [wr_size, Array.size_setIfInBounds, List.size_toArray, List.length_cons, List.length_nil]; omega)|omega|(simp; done)|(simp; omega)) ?_|refine Zdd H rfl rfl (by repeat constructor) (by first|(simp only [wr_size, Array.size_setIfInBounds, List.size_toArray, List.length_cons, List.length_nil]; omega)|omega|(simp; done)|(simp; omega)) ?_|refine Zdc H rfl rfl (by repeat constructor) (by first|(simp only [wr_size, Array.size_setIfInBounds, List.size_toArray, List.length_cons, List.length_nil]; omega)|omega|(simp; done)|(simp; omega)) ?_|refine Zda H rfl rfl rfl (by repeat constructor) (by first|(simp only [wr_size, Array.size_setIfInBounds, List.size_toArray, List.length_cons, List.length_nil]; omega)|omega|(simp; done)|(simp; omega)) ?_); clear H; intro w H))|(refine Zd6 ?_; first|refine Zd9 ?_|refine Zeb ?_|refine Zeh ?_|refine Zef ?_|refine Zed ?_|refine Zec ?_|refine Zee ?_|refine Zeg ?_|(refine Zd7 ?_; first|refine Zao rfl ?_|refine Zap rfl ?_))|(first|refine Zei ?_|refine Zej ?_|refine Zek ?_|refine Zel ?_|refine Zen ?_|refine Zem ?_|refine Zeo rfl ?_|refine Zep ?_|refine Zeq ?_|refine Zes ?_|refine Zet ?_)|refine Zd8 ?_)
      first|refine Ze6 rfl ?_|refine Ze7 rfl ?_|refine Ze8 rfl ?_|refine Ze9 rfl ?_|refine Zfa rfl rfl ?_|refine Zfb rfl rfl ?_|refine Zfc rfl rfl ?_|refine Ze2 ?_|refine Ze3 ?_
      exact bad (fun h => by have := h.2; rw [hno (by simp [HostS.kindly]; omega)] at this; cases this) _ (H.arr (by repeat (first|exact Arr.nil|exact Arr.stop|refine Arr.cons (by repeat constructor) ?_|refine Arr.skip ?_)))
    repeat (first|(refine Zd1 ?_; first|refine Zcx ?_|(refine Zd3 ?_; first|refine Zc0 rfl ?_|refine Zc1 rfl ?_|refine Zc2 rfl ?_)|refine Zcz (by first|exact Zat rfl|exact Zav rfl|exact Zaw rfl|exact Zaz rfl|exact Za2 rfl|exact Za1 rfl|exact Zau rfl|exact Za0 rfl|exact Zba rfl|exact Zce rfl (by omega)|exact Zbn rfl rfl|exact Zbr rfl rfl|exact Zbs rfl rfl|exact Zbq rfl rfl|exact Zbp rfl rfl|exact Zbo rfl rfl|exact Zcr rfl|exact Zbg rfl rfl (by omega)|exact Zbh rfl rfl (by omega)|exact Zbi rfl rfl (by omega)|exact Zco rfl rfl|exact Zdz rfl rfl|exact Zd0 rfl rfl|exact Za8 rfl rfl|exact Za9 rfl rfl|exact Za6 rfl rfl|exact Za7 rfl rfl|exact Zb1 rfl|exact Zca rfl rfl|exact Zcb rfl rfl|exact Zcv rfl rfl|exact Zcw rfl rfl|exact Zax rfl|exact Za3 rfl|exact Zay rfl|exact Zcl rfl rfl|exact Zb0 rfl|exact Zct|exact Zf3|exact Zar rfl|exact Zas rfl) ?_|(refine Zd4 ?_; refine Zc5 H rfl (by repeat constructor) rfl ?_)|(refine Zd5 ?_; (first|refine Zdb H rfl rfl (by repeat constructor) (by first|(simp only [wr_size, Array.size_setIfInBounds, List.size_toArray, List.length_cons, List.length_nil]; omega)|omega|(simp; done)|(simp; omega)) ?_|refine Zde H rfl rfl (by repeat constructor) (by first|(simp only [wr_size, Array.size_setIfInBounds, List.size_toArray, List.length_cons, List.length_nil]; omega)|omega|(simp; done)|(simp; omega)) ?_|refine Zdd H rfl rfl (by repeat constructor) (by first|(simp only [wr_size, Array.size_setIfInBounds, List.size_toArray, List.length_cons, List.length_nil]; omega)|omega|(simp; done)|(simp; omega)) ?_|refine Zdc H rfl rfl (by repeat constructor) (by first|(simp only [wr_size, Array.size_setIfInBounds, List.size_toArray, List.length_cons, List.length_nil]; omega)|omega|(simp; done)|(simp; omega)) ?_|refine Zda H rfl rfl rfl (by repeat constructor) (by first|(simp only [wr_size, Array.size_setIfInBounds, List.size_toArray, List.length_cons, List.length_nil]; omega)|omega|(simp; done)|(simp; omega)) ?_); clear H; intro w H))|(refine Zd6 ?_; first|refine Zd9 ?_|refine Zeb ?_|refine Zeh ?_|refine Zef ?_|refine Zed ?_|refine Zec ?_|refine Zee ?_|refine Zeg ?_|(refine Zd7 ?_; first|refine Zao rfl ?_|refine Zap rfl ?_))|(first|refine Zei ?_|refine Zej ?_|refine Zek ?_|refine Zel ?_|refine Zen ?_|refine Zem ?_|refine Zeo rfl ?_|refine Zep ?_|refine Zeq ?_|refine Zes ?_|refine Zet ?_)|refine Zd8 ?_)
    refine Zaq rfl (fun hB => ?_) (fun hB => ?_)
    · repeat (first|(refine Zd1 ?_; first|refine Zcx ?_|(refine Zd3 ?_; first|refine Zc0 rfl ?_|refine Zc1 rfl ?_|refine Zc2 rfl ?_)|refine Zcz (by first|exact Zat rfl|exact Zav rfl|exact Zaw rfl|exact Zaz rfl|exact Za2 rfl|exact Za1 rfl|exact Zau rfl|exact Za0 rfl|exact Zba rfl|exact Zce rfl (by omega)|exact Zbn rfl rfl|exact Zbr rfl rfl|exact Zbs rfl rfl|exact Zbq rfl rfl|exact Zbp rfl rfl|exact Zbo rfl rfl|exact Zcr rfl|exact Zbg rfl rfl (by omega)|exact Zbh rfl rfl (by omega)|exact Zbi rfl rfl (by omega)|exact Zco rfl rfl|exact Zdz rfl rfl|exact Zd0 rfl rfl|exact Za8 rfl rfl|exact Za9 rfl rfl|exact Za6 rfl rfl|exact Za7 rfl rfl|exact Zb1 rfl|exact Zca rfl rfl|exact Zcb rfl rfl|exact Zcv rfl rfl|exact Zcw rfl rfl|exact Zax rfl|exact Za3 rfl|exact Zay rfl|exact Zcl rfl rfl|exact Zb0 rfl|exact Zct|exact Zf3|exact Zar rfl|exact Zas rfl) ?_|(refine Zd4 ?_; refine Zc5 H rfl (by repeat constructor) rfl ?_)|(refine Zd5 ?_; (first|refine Zdb H rfl rfl (by repeat constructor) (by first|(simp only [wr_size, Array.size_setIfInBounds, List.size_toArray, List.length_cons, List.length_nil]; omega)|omega|(simp; done)|(simp; omega)) ?_|refine Zde H rfl rfl (by repeat constructor) (by first|(simp only [wr_size, Array.size_setIfInBounds, List.size_toArray, List.length_cons, List.length_nil]; omega)|omega|(simp; done)|(simp; omega)) ?_|refine Zdd H rfl rfl (by repeat constructor) (by first|(simp only [wr_size, Array.size_setIfInBounds, List.size_toArray, List.length_cons, List.length_nil]; omega)|omega|(simp; done)|(simp; omega)) ?_|refine Zdc H rfl rfl (by repeat constructor) (by first|(simp only [wr_size, Array.size_setIfInBounds, List.size_toArray, List.length_cons, List.length_nil]; omega)|omega|(simp; done)|(simp; omega)) ?_|refine Zda H rfl rfl rfl (by repeat constructor) (by first|(simp only [wr_size, Array.size_setIfInBounds, List.size_toArray, List.length_cons, List.length_nil]; omega)|omega|(simp; done)|(simp; omega)) ?_); clear H; intro w H))|(refine Zd6 ?_; first|refine Zd9 ?_|refine Zeb ?_|refine Zeh ?_|refine Zef ?_|refine Zed ?_|refine Zec ?_|refine Zee ?_|refine Zeg ?_|(refine Zd7 ?_; first|refine Zao rfl ?_|refine Zap rfl ?_))|(first|refine Zei ?_|refine Zej ?_|refine Zek ?_|refine Zel ?_|refine Zen ?_|refine Zem ?_|refine Zeo rfl ?_|refine Zep ?_|refine Zeq ?_|refine Zes ?_|refine Zet ?_)|refine Zd8 ?_)
      first|refine Ze6 rfl ?_|refine Ze7 rfl ?_|refine Ze8 rfl ?_|refine Ze9 rfl ?_|refine Zfa rfl rfl ?_|refine Zfb rfl rfl ?_|refine Zfc rfl rfl ?_|refine Ze2 ?_|refine Ze3 ?_
      exact bad (fun h => by have := h.2; rw [hno (by simp [HostS.kindly]; omega)] at this; cases this) _ (H.arr (by repeat (first|exact Arr.nil|exact Arr.stop|refine Arr.cons (by repeat constructor) ?_|refine Arr.skip ?_)))
    have hkf : HostS.kindly f = true := by simp [HostS.kindly]; omega
    obtain ⟨v, H⟩ := (H.pick (A := omap bc faultsA [] (HostS.comes (fl.take i))) (by repeat constructor)).omap_open faults_nil f.at_
    generalize hcm : HostS.comes (fl.take i) = cm at H hnext
    have hcl : (cm f.at_).length ≤ 2932031007401 := by
      rw [← hcm]
      have := List.length_filter_le (fun g : HostS.Fault => g.at_ == f.at_) (fl.take i)
      have h2 := List.length_take_le i fl
      simp only [HostS.comes]; omega
    obtain ⟨ca, ck, rfl⟩ := (St.own_sl H).len
    repeat (first|(refine Zd1 ?_; first|refine Zcx ?_|(refine Zd3 ?_; first|refine Zc0 rfl ?_|refine Zc1 rfl ?_|refine Zc2 rfl ?_)|refine Zcz (by first|exact Zat rfl|exact Zav rfl|exact Zaw rfl|exact Zaz rfl|exact Za2 rfl|exact Za1 rfl|exact Zau rfl|exact Za0 rfl|exact Zba rfl|exact Zce rfl (by omega)|exact Zbn rfl rfl|exact Zbr rfl rfl|exact Zbs rfl rfl|exact Zbq rfl rfl|exact Zbp rfl rfl|exact Zbo rfl rfl|exact Zcr rfl|exact Zbg rfl rfl (by omega)|exact Zbh rfl rfl (by omega)|exact Zbi rfl rfl (by omega)|exact Zco rfl rfl|exact Zdz rfl rfl|exact Zd0 rfl rfl|exact Za8 rfl rfl|exact Za9 rfl rfl|exact Za6 rfl rfl|exact Za7 rfl rfl|exact Zb1 rfl|exact Zca rfl rfl|exact Zcb rfl rfl|exact Zcv rfl rfl|exact Zcw rfl rfl|exact Zax rfl|exact Za3 rfl|exact Zay rfl|exact Zcl rfl rfl|exact Zb0 rfl|exact Zct|exact Zf3|exact Zar rfl|exact Zas rfl) ?_|(refine Zd4 ?_; refine Zc5 H rfl (by repeat constructor) rfl ?_)|(refine Zd5 ?_; (first|refine Zdb H rfl rfl (by repeat constructor) (by first|(simp only [wr_size, Array.size_setIfInBounds, List.size_toArray, List.length_cons, List.length_nil]; omega)|omega|(simp; done)|(simp; omega)) ?_|refine Zde H rfl rfl (by repeat constructor) (by first|(simp only [wr_size, Array.size_setIfInBounds, List.size_toArray, List.length_cons, List.length_nil]; omega)|omega|(simp; done)|(simp; omega)) ?_|refine Zdd H rfl rfl (by repeat constructor) (by first|(simp only [wr_size, Array.size_setIfInBounds, List.size_toArray, List.length_cons, List.length_nil]; omega)|omega|(simp; done)|(simp; omega)) ?_|refine Zdc H rfl rfl (by repeat constructor) (by first|(simp only [wr_size, Array.size_setIfInBounds, List.size_toArray, List.length_cons, List.length_nil]; omega)|omega|(simp; done)|(simp; omega)) ?_|refine Zda H rfl rfl rfl (by repeat constructor) (by first|(simp only [wr_size, Array.size_setIfInBounds, List.size_toArray, List.length_cons, List.length_nil]; omega)|omega|(simp; done)|(simp; omega)) ?_); clear H; intro w H))|(refine Zd6 ?_; first|refine Zd9 ?_|refine Zeb ?_|refine Zeh ?_|refine Zef ?_|refine Zed ?_|refine Zec ?_|refine Zee ?_|refine Zeg ?_|(refine Zd7 ?_; first|refine Zao rfl ?_|refine Zap rfl ?_))|(first|refine Zei ?_|refine Zej ?_|refine Zek ?_|refine Zel ?_|refine Zen ?_|refine Zem ?_|refine Zeo rfl ?_|refine Zep ?_|refine Zeq ?_|refine Zes ?_|refine Zet ?_)|refine Zd8 ?_)
    refine Ze0 [ohole bc faultsA [] cm f.at_ (.slice ca (cm f.at_).length ck), cl fb (fcells f).toArray 70, cl p #[.int .i64 pages, .int .i64 sz, .map (some bl), u64b 0#64, .map (some bc), .int .i64 0, .slice none 0 0, .int .i64 0] 117] H [(0, true, false), (1, true, false), (2, true, false), (3, true, false), (4, true, false), (5, true, false), (6, true, false), (7, true, false), (8, true, false), (9, true, false), (10, true, false), (11, true, false), (12, true, false), (13, true, false), (14, false, true), (15, false, true), (16, false, false)] (by kernel_rfl) ?_
    clear H; intro w H
    have HS : St w0 w [ohole bc faultsA [] cm f.at_ (.slice ca (cm f.at_).length ck), cl fb (fcells f).toArray 70, cl p #[.int .i64 pages, .int .i64 sz, .map (some bl), u64b 0#64, .map (some bc), .int .i64 0, .slice none 0 0, .int .i64 0] 117] := H.arr (by repeat (first|exact Arr.nil|exact Arr.stop|refine Arr.cons (by repeat constructor) ?_|refine Arr.skip ?_))
    repeat (refine Ze1 ?_; first|refine Zds rfl (by first|exact Zat rfl|exact Zav rfl|exact Zaw rfl|exact Zaz rfl|exact Za2 rfl|exact Za1 rfl|exact Zau rfl|exact Za0 rfl|exact Zba rfl|exact Zce rfl (by omega)|exact Zbn rfl rfl|exact Zbr rfl rfl|exact Zbs rfl rfl|exact Zbq rfl rfl|exact Zbp rfl rfl|exact Zbo rfl rfl|exact Zcr rfl|exact Zbg rfl rfl (by omega)|exact Zbh rfl rfl (by omega)|exact Zbi rfl rfl (by omega)|exact Zco rfl rfl|exact Zdz rfl rfl|exact Zd0 rfl rfl|exact Za8 rfl rfl|exact Za9 rfl rfl|exact Za6 rfl rfl|exact Za7 rfl rfl|exact Zb1 rfl|exact Zca rfl rfl|exact Zcb rfl rfl|exact Zcv rfl rfl|exact Zcw rfl rfl|exact Zax rfl|exact Za3 rfl|exact Zay rfl|exact Zcl rfl rfl|exact Zb0 rfl|exact Zct|exact Zf3|exact Zar rfl|exact Zas rfl) HS ?_|refine Zdt rfl rfl (by first|exact Zat rfl|exact Zav rfl|exact Zaw rfl|exact Zaz rfl|exact Za2 rfl|exact Za1 rfl|exact Zau rfl|exact Za0 rfl|exact Zba rfl|exact Zce rfl (by omega)|exact Zbn rfl rfl|exact Zbr rfl rfl|exact Zbs rfl rfl|exact Zbq rfl rfl|exact Zbp rfl rfl|exact Zbo rfl rfl|exact Zcr rfl|exact Zbg rfl rfl (by omega)|exact Zbh rfl rfl (by omega)|exact Zbi rfl rfl (by omega)|exact Zco rfl rfl|exact Zdz rfl rfl|exact Zd0 rfl rfl|exact Za8 rfl rfl|exact Za9 rfl rfl|exact Za6 rfl rfl|exact Za7 rfl rfl|exact Zb1 rfl|exact Zca rfl rfl|exact Zcb rfl rfl|exact Zcv rfl rfl|exact Zcw rfl rfl|exact Zax rfl|exact Za3 rfl|exact Zay rfl|exact Zcl rfl rfl|exact Zb0 rfl|exact Zct|exact Zf3|exact Zar rfl|exact Zas rfl) HS ?_|refine Zdx rfl rfl rfl (fun _ h => h) (by repeat constructor) rfl HS ?_|refine Zdw rfl rfl (fun _ h => h) (by repeat constructor) rfl HS ?_|refine Zfn rfl rfl rfl (fun _ h => h) (by repeat constructor) HS ?_)
    refine Ze1 ?_
    refine Zf2 rfl rfl (fun _ h => h) (by repeat constructor) ?_ HS ?_; (next => rfl)
    refine Zdy rfl ?_
    refine Zdl (cs := (fcells f).toArray) H ?_ ?_ (fill_one (v := .agg (fcells f).toArray) ?_ ?_) ?_
    · omega
    · omega
    · rfl
    · rfl
    clear H HS; intro w tb H
    have HS : St w0 w [ohole bc faultsA [] cm f.at_ (.slice ca (cm f.at_).length ck), cl fb (fcells f).toArray 70, cl p #[.int .i64 pages, .int .i64 sz, .map (some bl), u64b 0#64, .map (some bc), .int .i64 0, .slice none 0 0, .int .i64 0] 117] := H.arr (by repeat (first|exact Arr.nil|exact Arr.stop|refine Arr.cons (by repeat constructor) ?_|refine Arr.skip ?_))
    refine Zcx ⟨fun _ => HS, ?_⟩
    refine Zdy rfl ?_
    refine Zdo (news := fcells f) H rfl rfl (by repeat constructor) (by repeat constructor) ?_ ?_ ?_ ?_ ?_ ?_
    · simp [fcells]
    · simp [fcells]
    · rfl
    · omega
    · omega
    clear H HS; intro a' c' w H
    have HS : St w0 w [ohole bc faultsA [] cm f.at_ (.slice ca (cm f.at_).length ck), cl fb (fcells f).toArray 70, cl p #[.int .i64 pages, .int .i64 sz, .map (some bl), u64b 0#64, .map (some bc), .int .i64 0, .slice none 0 0, .int .i64 0] 117] := H.arr (by repeat (first|exact Arr.nil|exact Arr.stop|refine Arr.cons (by repeat constructor) ?_|refine Arr.skip ?_))
    refine Zcx ⟨fun _ => HS, ?_⟩
    refine Zdy rfl ?_
    refine Zfo H rfl rfl rfl (by repeat constructor) ?_
    clear H HS; intro w H
    refine Zcx ⟨(fun hh => Bool.noConfusion hh), ?_⟩
    refine Zdr ?_
    have el : (cm f.at_ ++ [f]).length = (cm f.at_).length + 1 := by simp
    have ef : (cm f.at_ ++ [f]).flatMap fcells = (cm f.at_).flatMap fcells ++ fcells f := by simp
    have H2 := St.oheld_close (A := faultsA) (d := []) (f := cm) (k := f.at_) (x := cm f.at_ ++ [f]) (v := .slice a' ((cm f.at_).length + 1) c') (by
      unfold faultsA; rw [el, ef]
      exact H.arr (M := own 70 6 (.slice a' ((cm f.at_).length + 1) c') ((cm f.at_).length + 1) ((cm f.at_).flatMap fcells ++ fcells f) :: oheld bc (fun v l => own 70 6 v l.length (l.flatMap fcells)) [] cm f.at_ (.slice a' ((cm f.at_).length + 1) c') :: cl p #[.int .i64 pages, .int .i64 sz, .map (some bl), u64b 0#64, .map (some bc), .int .i64 0, .slice none 0 0, .int .i64 0] 117 :: omap bl rowsA [] (fun _ => []) :: L) (by repeat (first|exact Arr.nil|exact Arr.stop|refine Arr.cons (by repeat constructor) ?_|refine Arr.skip ?_)))
    repeat (first|(refine Zd1 ?_; first|refine Zcx ?_|(refine Zd3 ?_; first|refine Zc0 rfl ?_|refine Zc1 rfl ?_|refine Zc2 rfl ?_)|refine Zcz (by first|exact Zat rfl|exact Zav rfl|exact Zaw rfl|exact Zaz rfl|exact Za2 rfl|exact Za1 rfl|exact Zau rfl|exact Za0 rfl|exact Zba rfl|exact Zce rfl (by omega)|exact Zbn rfl rfl|exact Zbr rfl rfl|exact Zbs rfl rfl|exact Zbq rfl rfl|exact Zbp rfl rfl|exact Zbo rfl rfl|exact Zcr rfl|exact Zbg rfl rfl (by omega)|exact Zbh rfl rfl (by omega)|exact Zbi rfl rfl (by omega)|exact Zco rfl rfl|exact Zdz rfl rfl|exact Zd0 rfl rfl|exact Za8 rfl rfl|exact Za9 rfl rfl|exact Za6 rfl rfl|exact Za7 rfl rfl|exact Zb1 rfl|exact Zca rfl rfl|exact Zcb rfl rfl|exact Zcv rfl rfl|exact Zcw rfl rfl|exact Zax rfl|exact Za3 rfl|exact Zay rfl|exact Zcl rfl rfl|exact Zb0 rfl|exact Zct|exact Zf3|exact Zar rfl|exact Zas rfl) ?_|(refine Zd4 ?_; refine Zc5 H rfl (by repeat constructor) rfl ?_)|(refine Zd5 ?_; (first|refine Zdb H rfl rfl (by repeat constructor) (by first|(simp only [wr_size, Array.size_setIfInBounds, List.size_toArray, List.length_cons, List.length_nil]; omega)|omega|(simp; done)|(simp; omega)) ?_|refine Zde H rfl rfl (by repeat constructor) (by first|(simp only [wr_size, Array.size_setIfInBounds, List.size_toArray, List.length_cons, List.length_nil]; omega)|omega|(simp; done)|(simp; omega)) ?_|refine Zdd H rfl rfl (by repeat constructor) (by first|(simp only [wr_size, Array.size_setIfInBounds, List.size_toArray, List.length_cons, List.length_nil]; omega)|omega|(simp; done)|(simp; omega)) ?_|refine Zdc H rfl rfl (by repeat constructor) (by first|(simp only [wr_size, Array.size_setIfInBounds, List.size_toArray, List.length_cons, List.length_nil]; omega)|omega|(simp; done)|(simp; omega)) ?_|refine Zda H rfl rfl rfl (by repeat constructor) (by first|(simp only [wr_size, Array.size_setIfInBounds, List.size_toArray, List.length_cons, List.length_nil]; omega)|omega|(simp; done)|(simp; omega)) ?_); clear H; intro w H))|(refine Zd6 ?_; first|refine Zd9 ?_|refine Zeb ?_|refine Zeh ?_|refine Zef ?_|refine Zed ?_|refine Zec ?_|refine Zee ?_|refine Zeg ?_|(refine Zd7 ?_; first|refine Zao rfl ?_|refine Zap rfl ?_))|(first|refine Zei ?_|refine Zej ?_|refine Zek ?_|refine Zel ?_|refine Zen ?_|refine Zem ?_|refine Zeo rfl ?_|refine Zep ?_|refine Zeq ?_|refine Zes ?_|refine Zet ?_)|refine Zd8 ?_)
    refine Zeu (i + 1) (by omega) ⟨by omega, by rw [hkn, hk, hkf]; rfl, ?_⟩ ⟨rfl, trivial⟩
    rw [← hnext]
    exact H2
  · simp only [Int.ofNat_lt] at hB
    repeat (first|(refine Zd1 ?_; first|refine Zcx ?_|(refine Zd3 ?_; first|refine Zc0 rfl ?_|refine Zc1 rfl ?_|refine Zc2 rfl ?_)|refine Zcz (by first|exact Zat rfl|exact Zav rfl|exact Zaw rfl|exact Zaz rfl|exact Za2 rfl|exact Za1 rfl|exact Zau rfl|exact Za0 rfl|exact Zba rfl|exact Zce rfl (by omega)|exact Zbn rfl rfl|exact Zbr rfl rfl|exact Zbs rfl rfl|exact Zbq rfl rfl|exact Zbp rfl rfl|exact Zbo rfl rfl|exact Zcr rfl|exact Zbg rfl rfl (by omega)|exact Zbh rfl rfl (by omega)|exact Zbi rfl rfl (by omega)|exact Zco rfl rfl|exact Zdz rfl rfl|exact Zd0 rfl rfl|exact Za8 rfl rfl|exact Za9 rfl rfl|exact Za6 rfl rfl|exact Za7 rfl rfl|exact Zb1 rfl|exact Zca rfl rfl|exact Zcb rfl rfl|exact Zcv rfl rfl|exact Zcw rfl rfl|exact Zax rfl|exact Za3 rfl|exact Zay rfl|exact Zcl rfl rfl|exact Zb0 rfl|exact Zct|exact Zf3|exact Zar rfl|exact Zas rfl) ?_|(refine Zd4 ?_; refine Zc5 H rfl (by repeat constructor) rfl ?_)|(refine Zd5 ?_; (first|refine Zdb H rfl rfl (by repeat constructor) (by first|(simp only [wr_size, Array.size_setIfInBounds, List.size_toArray, List.length_cons, List.length_nil]; omega)|omega|(simp; done)|(simp; omega)) ?_|refine Zde H rfl rfl (by repeat constructor) (by first|(simp only [wr_size, Array.size_setIfInBounds, List.size_toArray, List.length_cons, List.length_nil]; omega)|omega|(simp; done)|(simp; omega)) ?_|refine Zdd H rfl rfl (by repeat constructor) (by first|(simp only [wr_size, Array.size_setIfInBounds, List.size_toArray, List.length_cons, List.length_nil]; omega)|omega|(simp; done)|(simp; omega)) ?_|refine Zdc H rfl rfl (by repeat constructor) (by first|(simp only [wr_size, Array.size_setIfInBounds, List.size_toArray, List.length_cons, List.length_nil]; omega)|omega|(simp; done)|(simp; omega)) ?_|refine Zda H rfl rfl rfl (by repeat constructor) (by first|(simp only [wr_size, Array.size_setIfInBounds, List.size_toArray, List.length_cons, List.length_nil]; omega)|omega|(simp; done)|(simp; omega)) ?_); clear H; intro w H))|(refine Zd6 ?_; first|refine Zd9 ?_|refine Zeb ?_|refine Zeh ?_|refine Zef ?_|refine Zed ?_|refine Zec ?_|refine Zee ?_|refine Zeg ?_|(refine Zd7 ?_; first|refine Zao rfl ?_|refine Zap rfl ?_))|(first|refine Zei ?_|refine Zej ?_|refine Zek ?_|refine Zel ?_|refine Zen ?_|refine Zem ?_|refine Zeo rfl ?_|refine Zep ?_|refine Zeq ?_|refine Zes ?_|refine Zet ?_)|refine Zd8 ?_)
    first|refine Ze6 rfl ?_|refine Ze7 rfl ?_|refine Ze8 rfl ?_|refine Ze9 rfl ?_|refine Zfa rfl rfl ?_|refine Zfb rfl rfl ?_|refine Zfc rfl rfl ?_|refine Ze2 ?_|refine Ze3 ?_
    refine .inl ⟨⟨hfit, by rwa [List.take_of_length_le (by omega)] at hk⟩, p, rfl, ?_⟩
    rw [List.take_of_length_le (by omega)] at H
    have hok : HostS.Ok (HostS.fresh pages (Int.toNat sz) fl) := ok_fresh pages sz fl hfit hfo hfl
    refine St.host_mk (p := p) (s := HostS.fresh pages (Int.toNat sz) fl) (bl := bl) (bc := bc) (logv := .slice none 0 0) hok ?_
    have H := St.own_nil H 65 15
    exact H.arr (by repeat (first|exact Arr.nil|exact Arr.stop|refine Arr.cons (by repeat constructor) ?_|refine Arr.skip ?_))
end Go.Sl

/- host: its contracts, as pieces in and pieces out. -/
set_option maxHeartbeats 2000000
set_option linter.unusedVariables false
set_option linter.unusedSimpArgs false
namespace Go.Sl
open Go Go.Proofs
attribute [local irreducible] cl pt own old den denOps denS thenK blockK cutK loopK retK Calls PV hostA
abbrev hp (p : Nat) : Value := .pointer (some ⟨p, 0, none⟩)
abbrev ownB (a : Option Addr) (c : Nat) (b : List Byte) : Asrt := own 5 1 (.slice a b.length c) b.length (b.map u8b)
abbrev ownLog (a : Option Addr) (c : Nat) (l : List HostS.Touch) : Asrt := own 65 15 (.slice a l.length c) l.length (l.flatMap tcells)
theorem Rd.app {L N : List Asrt} {size n : Nat} {v : Value} {xs : List Value} (h : Rd L size v n xs) {w0 w : World} (H : St w0 w (L ++ N)) : SlW w size v n xs := h _ _ _ (H.ent (Imp.comm.trans Imp.app))
theorem bytes_own {v : Value} {b : List Byte} {w0 w : World} {L : List Asrt} (H : St w0 w (bytesA v b :: L)) : ∃ a c, v = .slice a b.length c ∧ St w0 w (ownB a c b :: L) := by
  obtain ⟨a, c, rfl, _, _⟩ := own_shape H
  exact ⟨a, c, rfl, H⟩
theorem Con.same {F : FuncId} {args : List Value} {A : Asrt} {u : Value} (h : ∀ w0 w L, St w0 w (A :: L) → Calls Tryz.prog F args.toArray w (Ret fun v w' => v = u ∧ w' = w)) : Con Tryz.prog F args [A] (fun v M => v = u ∧ M = [A]) :=
  Con.of fun w0 w L H => (h w0 w L H).mono (Ret.mono fun v w' ⟨hv, hw⟩ => ⟨[A], by rw [hw]; exact H, hv, rfl⟩)
section
variable {p : Nat} {s : HostS.HS}
theorem down_x : Con Tryz.prog 35 [hp p] [hostA p s] (fun v M => v = .bool s.down ∧ M = [hostA p s]) := Con.same fun w0 w L H => down_c H
theorem pages_x : Con Tryz.prog 209 [hp p] [hostA p s] (fun v M => v = .int .i64 s.pages ∧ M = [hostA p s]) := Con.same fun w0 w L H => pages_c H
theorem size_x : Con Tryz.prog 212 [hp p] [hostA p s] (fun v M => v = nvv s.size ∧ M = [hostA p s]) := Con.same fun w0 w L H => size_c H
theorem log_x (hops : s.ops ≤ 3518437208880) : Con Tryz.prog 20 [hp p] [hostA p s] (fun v M => ∃ a c, v = .slice a s.log.length c ∧ M = [ownLog a c s.log, hostA p s]) :=
  Con.of fun w0 w L H => (log_c H hops).mono (Ret.mono fun v w' h => by
    obtain ⟨a, c, rfl, _, _⟩ := own_shape h
    exact ⟨[ownLog a c s.log, hostA p s], h, a, c, rfl, rfl⟩)
theorem write_x {L : List Asrt} (page : Int) {bv : Value} {b : List Byte} (hb : Bs L bv b) (hops : s.ops < 3518437208880) (hlen : b.length < 9223372036854775808) :
    Con Tryz.prog 213 [hp p, .int .i64 page, bv] (hostA p s :: L) (fun v M => v = nvv (HostS.writeR s page b).1 ∧ M = hostA p (HostS.writeR s page b).2 :: L) :=
  Con.of fun w0 w N H => (hwrite_c page hops hlen (fun w' H' => hb.rd.app H') H).mono (Ret.mono fun v w' ⟨hv, h⟩ => ⟨hostA p (HostS.writeR s page b).2 :: L, h, hv, rfl⟩)
theorem read_x (page : Int) (hops : s.ops < 3518437208880) :
    Con Tryz.prog 210 [hp p, .int .i64 page] [hostA p s] (fun v M => ∃ a c, v = .tuple #[.slice a (HostS.readR s page).1.length c, nvv (HostS.readR s page).2.1] ∧ M = [ownB a c (HostS.readR s page).1, hostA p (HostS.readR s page).2.2]) :=
  Con.of fun w0 w N H => (read_c page hops H).mono (Ret.mono fun v w' ⟨bv, hv, h⟩ => by
    obtain ⟨a, c, rfl, h⟩ := bytes_own h
    exact ⟨[ownB a c (HostS.readR s page).1, hostA p (HostS.readR s page).2.2], h, a, c, hv, rfl⟩)
end
theorem new_ok {L : List Asrt} (pages size : Int) {fv : Value} {fl : List HostS.Fault} (hfl : fl.length ≤ 2932031007401) (hfo : ∀ f ∈ fl, HostS.FOk f) (hf : Rd L 6 fv fl.length (fl.flatMap fcells)) (h : HostS.mayBe pages size fl) :
    Con Tryz.prog 36 [.int .i64 pages, .int .i64 size, fv] L (fun v M => ∃ p, v = .tuple #[hp p, nvv 0] ∧ M = hostA p (HostS.fresh pages size.toNat fl) :: L) :=
  Con.of fun w0 w N H => (hnew_c pages size hfl hfo (fun w' H' => hf.app H') H).mono (Ret.mono fun v w' hh => by
    rcases hh with ⟨_, p, hv, h2⟩|⟨hn, _⟩
    · exact ⟨hostA p (HostS.fresh pages size.toNat fl) :: L, h2, p, hv, rfl⟩
    · exact absurd h hn)
theorem new_no {L : List Asrt} (pages size : Int) {fv : Value} {fl : List HostS.Fault} (hfl : fl.length ≤ 2932031007401) (hfo : ∀ f ∈ fl, HostS.FOk f) (hf : Rd L 6 fv fl.length (fl.flatMap fcells)) (h : ¬ HostS.mayBe pages size fl) :
    Con Tryz.prog 36 [.int .i64 pages, .int .i64 size, fv] L (fun v M => v = .tuple #[.pointer none, nvv 2] ∧ M = L) :=
  Con.of fun w0 w N H => (hnew_c pages size hfl hfo (fun w' H' => hf.app H') H).mono (Ret.mono fun v w' hh => by
    rcases hh with ⟨hy, _⟩|⟨_, hv, h2⟩
    · exact absurd hy h
    · exact ⟨L, h2, hv, rfl⟩)
end Go.Sl

/- octet: numbers of uint32 as bytes: width, PutLittle. -/
set_option maxHeartbeats 4000000
set_option maxRecDepth 10000
set_option linter.unusedVariables false
set_option linter.unusedSimpArgs false
namespace Go.Sl
open Go Go.Proofs
attribute [local irreducible] cl pt own old pur ex all den denOps denS xOps xC cX CX xthen xblk xcut xloop xgo xng retX resX Calls PV Rd Con
theorem width32_x : Con Tryz.prog 122 [] [] (fun r M => r = nvv 4 ∧ M = []) := by
  refine fn_x Tryz.func122 rfl rfl rfl Tryz.mixed (by kernel_rfl) ?_
  intro w0
  refine Y4 ?_
  refine Zhg (Zk6 rfl) ?_
  refine Zhg (Zkw rfl) ?_
  refine V5 ?_
  refine Zgo [(1, 2), (5, 12)] (by kernel_rfl) (fun i : Nat => i ≤ 4) (fun _ => []) (fun i => [(1, u32b ((~~~ (BitVec.ofInt 32 0)) >>> (8 * i))), (2, nvv i)]) (fun i => 4 - i) 0 (by omega) qI ⟨rfl, rfl, trivial⟩ ?_
  intro i u hi
  have hz : ∀ j : Fin (4 + 1), (~~~ (BitVec.ofInt 32 0)) >>> (8 * j.val) = 0#32 ↔ j.val = 4 := by decide
  have hs : ∀ j : Fin 4, (~~~ (BitVec.ofInt 32 0)) >>> (8 * j.val) >>> 7 >>> 1 = (~~~ (BitVec.ofInt 32 0)) >>> (8 * (j.val + 1)) := by decide
  by_cases hB : i = 4
  · subst hB
    refine Y2 ?_
    refine Zhg (Zkz (y := 0#32) rfl rfl) ?_
    refine Zhn 6 rfl (decide_eq_false ((fun h => h ((hz ⟨4, by omega⟩).2 rfl)))) ?_
    refine V6 ?_
    refine rx1 (Zg9 rfl (Zg7)) ?_
    exact ⟨_, ⟨rfl, rfl⟩, by exact Imp.arr (by repeat (first|exact Arr.nil|exact Arr.stop|refine Arr.cons (by repeat constructor) ?_|refine Arr.skip ?_))⟩
  · refine Y2 ?_
    refine Zhg (Zkz (y := 0#32) rfl rfl) ?_
    refine Zhm 6 rfl (decide_eq_true ((fun h => hB ((hz ⟨i, by omega⟩).1 h)))) ?_
    refine Y4 ?_
    refine Zhg (Zkv (m := 7) rfl rfl) ?_
    refine Y4 ?_
    refine Zhg (Zkv (m := 1) rfl rfl) ?_
    refine V7 ?_
    have e := hs ⟨i, by omega⟩
    dsimp only at e
    exact Zgl (i + 1) qO (by omega) qI ⟨by rw [← e]; rfl, rfl, trivial⟩
theorem put32_x {L : List Asrt} {v : Value} {b : List Byte} (x : BitVec 32) (h : Bs L v b) (hb : b.length ≤ 140737488355000) :
    Con Tryz.prog 105 [v, u32b x] L (fun r M => ∃ a c, r = .slice a (b ++ leB x 4).length c ∧ M = own 5 1 r (b ++ leB x 4).length ((b ++ leB x 4).map u8b) :: L) := by
  refine Con.get (fun w0 w F H => h.sh _ _ _ H) ?_
  rintro ⟨va, vc, rfl, hvc, hvcm⟩
  refine fn_x Tryz.func105 rfl rfl rfl Tryz.mixed (by kernel_rfl) ?_
  intro w0
  refine Y4 ?_
  refine Zh8 rfl (by kernel_rfl) (width32_x) rfl qT ?_
  rintro _ _ ⟨rfl, rfl⟩
  refine Y10 ?_
  refine Zm3 (f := u8b) (a := 0#8) rfl rfl rfl qS qS qS ?_; intro b15
  refine Y5 ?_
  refine Zib rfl rfl (h.rd.imp Imp.tail) qR qZ qN (copy_pre b 4) ?_
  refine V1 ?_
  refine Zgp (Imp.own_mk (n := b.length) (cap := b.length + 4) (size := 1) (xs := b.map u8b) (by omega) (by omega) (by simp) (by simp)) ?_
  refine V4 ?_
  refine Zgo [(6, 7), (20, 31)] (by kernel_rfl) (fun s : Nat × Option Addr × Nat => s.1 ≤ 4) (fun s => own 5 1 (.slice s.2.1 (b ++ leB x s.1).length s.2.2) (b ++ leB x s.1).length ((b ++ leB x s.1).map u8b) :: L)
    (fun s => [(20, nvv s.1), (6, .slice s.2.1 (b ++ leB x s.1).length s.2.2)]) (fun s => 4 - s.1) (0, some ⟨b15, 0, none⟩, b.length + 4) (by show 0 ≤ _; omega) (by show Imp _ (own _ _ (.slice _ (b ++ []).length _) (b ++ []).length ((b ++ []).map u8b) :: L); rw [List.append_nil]; exact qI) ⟨rfl, by show _ = Value.slice _ (b ++ []).length _; rw [List.append_nil]; rfl, trivial⟩ ?_
  rintro ⟨i, a, c⟩ u hi
  dsimp only at hi ⊢
  have hll : (b ++ leB x i).length = b.length + i := by simp [leB_len]
  refine V3 ?_
  refine Zgg rfl (fun hB => ?_) (fun hB => ?_)
  · refine Y8 ?_
    first|refine Zhg (Zmc (a := 8) rfl rfl) ?_|refine Zhg (Zbi rfl rfl) ?_
    refine Zhg (Zkv rfl rfl) ?_
    refine Zhg (Zk8 rfl) ?_
    refine Zh7 (cs := #[.int .u8 _]) (by omega) (by omega) rfl ?_; intro b29
    refine Zia rfl rfl qH (Rd.cl (xs := [u8b ((x >>> (8 * i)).setWidth 8)]) qH rfl qZ rfl) qN (by omega) qS ?_; intro a3 c3
    refine V6 ?_
    have e : (b ++ leB x i) ++ [(x >>> (8 * i)).setWidth 8] = b ++ leB x (i + 1) := by rw [leB_succ, List.append_assoc]
    have e2 : (b ++ leB x i).map u8b ++ [u8b ((x >>> (8 * i)).setWidth 8)] = (b ++ leB x (i + 1)).map u8b := by rw [← e]; simp only [List.map_append, List.map_cons, List.map_nil]
    have e3 : (b ++ leB x i).length + 1 = (b ++ leB x (i + 1)).length := by rw [← e]; simp only [List.length_append, List.length_cons, List.length_nil]
    rw [e2, e3]
    exact Zgl (i + 1, a3, c3) qO qO qI ⟨rfl, rfl, trivial⟩
  · have hie : i = 4 := by omega
    subst hie
    refine V4 ?_
    refine rx1 (Zhc rfl (Zg7)) ?_
    exact ⟨_, ⟨a, c, rfl, rfl⟩, by exact Imp.arr (by repeat (first|exact Arr.nil|exact Arr.stop|refine Arr.cons (by repeat constructor) ?_|refine Arr.skip ?_))⟩
end Go.Sl

/- octet: numbers of uint64 as bytes: width, PutLittle. -/
set_option maxHeartbeats 4000000
set_option maxRecDepth 10000
set_option linter.unusedVariables false
set_option linter.unusedSimpArgs false
namespace Go.Sl
open Go Go.Proofs
attribute [local irreducible] cl pt own old pur ex all den denOps denS xOps xC cX CX xthen xblk xcut xloop xgo xng retX resX Calls PV Rd Con
theorem width64_x : Con Tryz.prog 121 [] [] (fun r M => r = nvv 8 ∧ M = []) := by
  refine fn_x Tryz.func121 rfl rfl rfl Tryz.mixed (by kernel_rfl) ?_
  intro w0
  refine Y4 ?_
  refine Zhg (Zlv rfl) ?_
  refine Zhg (Zll rfl) ?_
  refine V5 ?_
  refine Zgo [(1, 2), (5, 12)] (by kernel_rfl) (fun i : Nat => i ≤ 8) (fun _ => []) (fun i => [(1, u64b ((~~~ (BitVec.ofInt 64 0)) >>> (8 * i))), (2, nvv i)]) (fun i => 8 - i) 0 (by omega) qI ⟨rfl, rfl, trivial⟩ ?_
  intro i u hi
  have hz : ∀ j : Fin (8 + 1), (~~~ (BitVec.ofInt 64 0)) >>> (8 * j.val) = 0#64 ↔ j.val = 8 := by decide
  have hs : ∀ j : Fin 8, (~~~ (BitVec.ofInt 64 0)) >>> (8 * j.val) >>> 7 >>> 1 = (~~~ (BitVec.ofInt 64 0)) >>> (8 * (j.val + 1)) := by decide
  by_cases hB : i = 8
  · subst hB
    refine Y2 ?_
    refine Zhg (Zlo (y := 0#64) rfl rfl) ?_
    refine Zhn 6 rfl (decide_eq_false ((fun h => h ((hz ⟨8, by omega⟩).2 rfl)))) ?_
    refine V6 ?_
    refine rx1 (Zg9 rfl (Zg7)) ?_
    exact ⟨_, ⟨rfl, rfl⟩, by exact Imp.arr (by repeat (first|exact Arr.nil|exact Arr.stop|refine Arr.cons (by repeat constructor) ?_|refine Arr.skip ?_))⟩
  · refine Y2 ?_
    refine Zhg (Zlo (y := 0#64) rfl rfl) ?_
    refine Zhm 6 rfl (decide_eq_true ((fun h => hB ((hz ⟨i, by omega⟩).1 h)))) ?_
    refine Y4 ?_
    refine Zhg (Zlk (m := 7) rfl rfl) ?_
    refine Y4 ?_
    refine Zhg (Zlk (m := 1) rfl rfl) ?_
    refine V7 ?_
    have e := hs ⟨i, by omega⟩
    dsimp only at e
    exact Zgl (i + 1) qO (by omega) qI ⟨by rw [← e]; rfl, rfl, trivial⟩
theorem put64_x {L : List Asrt} {v : Value} {b : List Byte} (x : BitVec 64) (h : Bs L v b) (hb : b.length ≤ 140737488355000) :
    Con Tryz.prog 104 [v, u64b x] L (fun r M => ∃ a c, r = .slice a (b ++ leB x 8).length c ∧ M = own 5 1 r (b ++ leB x 8).length ((b ++ leB x 8).map u8b) :: L) := by
  refine Con.get (fun w0 w F H => h.sh _ _ _ H) ?_
  rintro ⟨va, vc, rfl, hvc, hvcm⟩
  refine fn_x Tryz.func104 rfl rfl rfl Tryz.mixed (by kernel_rfl) ?_
  intro w0
  refine Y4 ?_
  refine Zh8 rfl (by kernel_rfl) (width64_x) rfl qT ?_
  rintro _ _ ⟨rfl, rfl⟩
  refine Y10 ?_
  refine Zm3 (f := u8b) (a := 0#8) rfl rfl rfl qS qS qS ?_; intro b15
  refine Y5 ?_
  refine Zib rfl rfl (h.rd.imp Imp.tail) qR qZ qN (copy_pre b 8) ?_
  refine V1 ?_
  refine Zgp (Imp.own_mk (n := b.length) (cap := b.length + 8) (size := 1) (xs := b.map u8b) (by omega) (by omega) (by simp) (by simp)) ?_
  refine V4 ?_
  refine Zgo [(6, 7), (20, 31)] (by kernel_rfl) (fun s : Nat × Option Addr × Nat => s.1 ≤ 8) (fun s => own 5 1 (.slice s.2.1 (b ++ leB x s.1).length s.2.2) (b ++ leB x s.1).length ((b ++ leB x s.1).map u8b) :: L)
    (fun s => [(20, nvv s.1), (6, .slice s.2.1 (b ++ leB x s.1).length s.2.2)]) (fun s => 8 - s.1) (0, some ⟨b15, 0, none⟩, b.length + 8) (by show 0 ≤ _; omega) (by show Imp _ (own _ _ (.slice _ (b ++ []).length _) (b ++ []).length ((b ++ []).map u8b) :: L); rw [List.append_nil]; exact qI) ⟨rfl, by show _ = Value.slice _ (b ++ []).length _; rw [List.append_nil]; rfl, trivial⟩ ?_
  rintro ⟨i, a, c⟩ u hi
  dsimp only at hi ⊢
  have hll : (b ++ leB x i).length = b.length + i := by simp [leB_len]
  refine V3 ?_
  refine Zgg rfl (fun hB => ?_) (fun hB => ?_)
  · refine Y8 ?_
    first|refine Zhg (Zmc (a := 8) rfl rfl) ?_|refine Zhg (Zbi rfl rfl) ?_
    refine Zhg (Zlk rfl rfl) ?_
    refine Zhg (Zlx rfl) ?_
    refine Zh7 (cs := #[.int .u8 _]) (by omega) (by omega) rfl ?_; intro b29
    refine Zia rfl rfl qH (Rd.cl (xs := [u8b ((x >>> (8 * i)).setWidth 8)]) qH rfl qZ rfl) qN (by omega) qS ?_; intro a3 c3
    refine V6 ?_
    have e : (b ++ leB x i) ++ [(x >>> (8 * i)).setWidth 8] = b ++ leB x (i + 1) := by rw [leB_succ, List.append_assoc]
    have e2 : (b ++ leB x i).map u8b ++ [u8b ((x >>> (8 * i)).setWidth 8)] = (b ++ leB x (i + 1)).map u8b := by rw [← e]; simp only [List.map_append, List.map_cons, List.map_nil]
    have e3 : (b ++ leB x i).length + 1 = (b ++ leB x (i + 1)).length := by rw [← e]; simp only [List.length_append, List.length_cons, List.length_nil]
    rw [e2, e3]
    exact Zgl (i + 1, a3, c3) qO qO qI ⟨rfl, rfl, trivial⟩
  · have hie : i = 8 := by omega
    subst hie
    refine V4 ?_
    refine rx1 (Zhc rfl (Zg7)) ?_
    exact ⟨_, ⟨a, c, rfl, rfl⟩, by exact Imp.arr (by repeat (first|exact Arr.nil|exact Arr.stop|refine Arr.cons (by repeat constructor) ?_|refine Arr.skip ?_))⟩
end Go.Sl

/- octet: a number of uint32 out of its bytes; mask: Bit, Zero, Same; bits: RotateLeft32. -/
set_option maxHeartbeats 4000000
set_option maxRecDepth 10000
set_option linter.unusedVariables false
set_option linter.unusedSimpArgs false
namespace Go.Sl
open Go Go.Proofs
attribute [local irreducible] cl pt own old pur ex all den denOps denS xOps xC cX CX xthen xblk xcut xloop xgo xng retX resX Calls PV Rd Con
theorem fits32_x {L : List Asrt} {v : Value} {b : List Byte} (h : Bs L v b) (hb : b.length = 4) : Con Tryz.prog 190 [v] L (fun r M => r = nvv 0 ∧ L = M) := by
  refine Con.get (fun w0 w F H => h.sh _ _ _ H) ?_
  rintro ⟨va, vc, rfl, hvc, hvcm⟩
  refine fn_x Tryz.func190 rfl rfl rfl Tryz.mixed (by kernel_rfl) ?_
  intro w0
  refine Y4 ?_
  refine Zh8 rfl (by kernel_rfl) (width32_x) rfl qT ?_
  rintro _ _ ⟨rfl, rfl⟩
  refine Y8 ?_
  refine Zhn 8 rfl (decide_eq_false (by omega)) ?_
  refine Y7 ?_
  refine Zhn 12 rfl (decide_eq_false (by omega)) ?_
  refine V5 ?_
  refine rx1 (Zg9 rfl (Zg7)) ?_
  exact ⟨_, ⟨rfl, rfl⟩, by exact Imp.arr (by repeat (first|exact Arr.nil|exact Arr.stop|refine Arr.cons (by repeat constructor) ?_|refine Arr.skip ?_))⟩
theorem low32_x {L : List Asrt} {v : Value} {b : List Byte} (h : Bs L v b) (hb : b.length ≤ 140737488355000) : Con Tryz.prog 117 [v] L (fun r M => r = u32b (lowB 32 b) ∧ L = M) := by
  refine Con.get (fun w0 w F H => h.sh _ _ _ H) ?_
  rintro ⟨va, vc, rfl, hvc, hvcm⟩
  refine fn_x Tryz.func117 rfl rfl rfl Tryz.mixed (by kernel_rfl) ?_
  intro w0
  refine V11 ?_
  refine Zgo [(3, 5), (8, 20)] (by kernel_rfl) (fun i : Nat => i ≤ b.length) (fun _ => L) (fun i => [(3, u32b (lowB 32 (b.take i))), (8, nvv i)]) (fun i => b.length - i) 0 (by omega) qI ⟨by rw [List.take_zero]; rfl, rfl, trivial⟩ ?_
  intro i u hi
  refine V3 ?_
  refine Zgg rfl (fun hB => ?_) (fun hB => ?_)
  · refine Zgt (fun F w H => h.some (by omega) H) ?_
    rintro ⟨a1, a2, rfl⟩
    refine Y3 ?_
    refine Zff rfl (h.rd.at hB (getM hB)) ?_
    refine Y6 ?_
    refine Zhg (Zjw rfl) ?_
    refine Y1 ?_
    first|refine Zhg (Zmc (a := 8) rfl rfl) ?_|refine Zhg (Zbi rfl rfl) ?_
    refine Zhg (Zku rfl rfl) ?_
    refine V7 ?_
    have e : lowB 32 (b.take (i + 1)) = lowB 32 (b.take i) ||| (b[i].setWidth 32) <<< (8 * i) := by
      rw [List.take_succ_eq_append_getElem hB, lowB_snoc, List.length_take, Nat.min_eq_left hi]
    exact Zgl (i + 1) qO (by omega) qI ⟨by rw [e]; rfl, rfl, trivial⟩
  · have hie : i = b.length := by omega
    subst hie
    rw [List.take_length]
    refine V4 ?_
    refine rx1 (Zg9 rfl (Zg7)) ?_
    exact ⟨_, ⟨rfl, rfl⟩, by exact Imp.arr (by repeat (first|exact Arr.nil|exact Arr.stop|refine Arr.cons (by repeat constructor) ?_|refine Arr.skip ?_))⟩
theorem little32_x {L : List Asrt} {v : Value} {b : List Byte} (h : Bs L v b) (hb : b.length = 4) : Con Tryz.prog 184 [v] L (fun r M => r = .tuple #[u32b (lowB 32 b), nvv 0] ∧ L = M) := by
  refine Con.get (fun w0 w F H => h.sh _ _ _ H) ?_
  rintro ⟨va, vc, rfl, hvc, hvcm⟩
  refine fn_x Tryz.func184 rfl rfl rfl Tryz.mixed (by kernel_rfl) ?_
  intro w0
  refine Y6 ?_
  refine Zh8 rfl (by kernel_rfl) (fits32_x h hb) rfl qT ?_
  rintro _ _ ⟨rfl, rfl⟩
  refine Y6 ?_
  refine Zhn 8 rfl (rfl) ?_
  refine Y4 ?_
  refine Zh8 rfl (by kernel_rfl) (low32_x h (by omega)) rfl qT ?_
  rintro _ _ ⟨rfl, rfl⟩
  refine V4 ?_
  refine rx2 (Zg9 rfl (Zg9 rfl (Zg7))) ?_
  exact ⟨_, ⟨rfl, rfl⟩, by exact Imp.arr (by repeat (first|exact Arr.nil|exact Arr.stop|refine Arr.cons (by repeat constructor) ?_|refine Arr.skip ?_))⟩
theorem bit_x (x : BitVec 64) : Con Tryz.prog 164 [u64b x] [] (fun r M => r = u64b (0#64 - (x &&& 1#64)) ∧ M = []) := by
  refine fn_x Tryz.func164 rfl rfl rfl Tryz.mixed (by kernel_rfl) ?_
  intro w0
  refine Y5 ?_
  refine Zhg (Zlf (y := 1#64) rfl rfl) ?_
  refine Zhg (Zld (x := 0#64) rfl rfl) ?_
  refine V2 ?_
  refine rx1 (Zg9 rfl (Zg7)) ?_
  exact ⟨_, ⟨rfl, rfl⟩, by exact Imp.arr (by repeat (first|exact Arr.nil|exact Arr.stop|refine Arr.cons (by repeat constructor) ?_|refine Arr.skip ?_))⟩
def zeroB (x : BitVec 64) : BitVec 64 := 0#64 - ((((x ||| (0#64 - x)) >>> 63) ^^^ 1#64) &&& 1#64)
theorem zero_x (x : BitVec 64) : Con Tryz.prog 144 [u64b x] [] (fun r M => r = u64b (zeroB x) ∧ M = []) := by
  refine fn_x Tryz.func144 rfl rfl rfl Tryz.mixed (by kernel_rfl) ?_
  intro w0
  refine Y6 ?_
  refine Zhg (Zld (x := 0#64) rfl rfl) ?_
  refine Y1 ?_
  refine Zhg (Zlk (m := 63) rfl rfl) ?_
  refine Zhg (Zlh (y := 1#64) rfl rfl) ?_
  refine Zh8 rfl (by kernel_rfl) (bit_x _) rfl qT ?_
  rintro _ _ ⟨rfl, rfl⟩
  refine V3 ?_
  refine rx1 (Zg9 rfl (Zg7)) ?_
  exact ⟨_, ⟨rfl, rfl⟩, by exact Imp.arr (by repeat (first|exact Arr.nil|exact Arr.stop|refine Arr.cons (by repeat constructor) ?_|refine Arr.skip ?_))⟩
/-- All unlike bits of two lists of bytes. -/
def offB (a b : List Byte) : BitVec 64 := (List.zip a b).foldl (fun (d : BitVec 64) (x : Byte × Byte) => d ||| (x.1 ^^^ x.2).setWidth 64) 0#64
theorem offB_take {a b : List Byte} {i : Nat} (ha : i < a.length) (hb : i < b.length) : offB (a.take (i + 1)) (b.take (i + 1)) = offB (a.take i) (b.take i) ||| (a[i] ^^^ b[i]).setWidth 64 := by
  unfold offB
  rw [List.take_succ_eq_append_getElem ha, List.take_succ_eq_append_getElem hb, List.zip_append (by simp; omega), List.foldl_append]
  rfl
theorem zeroB_byte (x : Byte) : zeroB (x.setWidth 64) = if x = 0#8 then 18446744073709551615#64 else 0#64 := by
  have h : ∀ n : Fin 256, zeroB ((BitVec.ofFin n : Byte).setWidth 64) = if (BitVec.ofFin n : Byte) = 0#8 then 18446744073709551615#64 else 0#64 := by decide +kernel
  exact h x.toFin
theorem offB_byte : ∀ (a b : List Byte) (d : Byte), ∃ e : Byte, (List.zip a b).foldl (fun (d : BitVec 64) (x : Byte × Byte) => d ||| (x.1 ^^^ x.2).setWidth 64) (d.setWidth 64) = e.setWidth 64 ∧ (e = 0#8 ↔ d = 0#8 ∧ ∀ x ∈ List.zip a b, x.1 = x.2)
  | [], b, d => ⟨d, by simp, by simp⟩
  | x :: a, [], d => ⟨d, by simp, by simp⟩
  | x :: a, y :: b, d => by
    obtain ⟨e, h1, h2⟩ := offB_byte a b (d ||| (x ^^^ y))
    refine ⟨e, ?_, ?_⟩
    · rw [List.zip_cons_cons, List.foldl_cons, ← h1, BitVec.setWidth_or]
    · rw [h2]
      have e1 : (d ||| (x ^^^ y)) = 0#8 ↔ d = 0#8 ∧ x = y := by
        constructor
        · intro h
          have hd : d = 0#8 := by
            apply BitVec.eq_of_getLsbD_eq
            intro i hi
            have := congrArg (fun z => z.getLsbD i) h
            simp only [BitVec.getLsbD_or, BitVec.getLsbD_zero, Bool.or_eq_false_iff] at this
            rw [this.1]; simp
          rw [hd, BitVec.zero_or] at h
          refine ⟨hd, ?_⟩
          have := congrArg (fun z => z ^^^ y) h
          simp only [BitVec.xor_assoc, BitVec.xor_self, BitVec.xor_zero, BitVec.zero_xor] at this
          exact this
        · rintro ⟨rfl, rfl⟩; simp
      rw [e1, List.zip_cons_cons]
      simp only [List.mem_cons, forall_eq_or_imp]
      constructor
      · rintro ⟨⟨h1, h2⟩, h3⟩; exact ⟨h1, h2, h3⟩
      · rintro ⟨h1, h2, h3⟩; exact ⟨⟨h1, h2⟩, h3⟩
theorem zip_all_eq : ∀ (a b : List Byte), a.length = b.length → ((∀ x ∈ List.zip a b, x.1 = x.2) ↔ a = b)
  | [], [], _ => by simp
  | x :: a, y :: b, h => by
    have ih := zip_all_eq a b (by simpa using h)
    rw [List.zip_cons_cons]
    simp only [List.mem_cons, forall_eq_or_imp, ih, List.cons.injEq]
  | [], _ :: _, h => by simp at h
  | _ :: _, [], h => by simp at h
theorem same_val (a b : List Byte) (h : a.length = b.length) : zeroB (offB a b) = if a = b then 18446744073709551615#64 else 0#64 := by
  obtain ⟨e, h1, h2⟩ := offB_byte a b 0#8
  unfold offB
  rw [show (0#64 : BitVec 64) = (0#8 : Byte).setWidth 64 by decide, h1, zeroB_byte]
  have : e = 0#8 ↔ a = b := by rw [h2, zip_all_eq a b h]; simp
  by_cases hab : a = b
  · rw [if_pos hab, if_pos (this.2 hab)]
  · rw [if_neg hab, if_neg (fun h => hab (this.1 h))]; decide
theorem same_x {L : List Asrt} {va vb : Value} {a b : List Byte} (ha : Bs L va a) (hb : Bs L vb b) (hl : a.length = b.length) : Con Tryz.prog 119 [va, vb] L (fun r M => r = u64b (if a = b then 18446744073709551615#64 else 0#64) ∧ L = M) := by
  rw [← same_val a b hl]
  refine Con.get (fun w0 w F H => ha.sh _ _ _ H) ?_
  rintro ⟨aa, ac, rfl, hac, hacm⟩
  refine Con.get (fun w0 w F H => hb.sh _ _ _ H) ?_
  rintro ⟨ba, bc, rfl, hbc, hbcm⟩
  refine fn_x Tryz.func119 rfl rfl rfl Tryz.mixed (by kernel_rfl) ?_
  intro w0
  refine Y9 ?_
  refine Zhn 11 rfl (decide_eq_false ((fun h => h hl))) ?_
  refine V10 ?_
  refine Zgo [(5, 6), (14, 29)] (by kernel_rfl) (fun i : Nat => i ≤ a.length) (fun _ => L) (fun i => [(5, u64b (offB (a.take i) (b.take i))), (14, nvv i)]) (fun i => a.length - i) 0 (by omega) qI ⟨by rw [List.take_zero, List.take_zero]; rfl, rfl, trivial⟩ ?_
  intro i u hi
  refine V3 ?_
  refine Zgg rfl (fun hB => ?_) (fun hB => ?_)
  · refine Zgt (fun F w H => ha.some (by omega) H) ?_
    rintro ⟨a1, a2, rfl⟩
    refine Zgt (fun F w H => hb.some (by omega) H) ?_
    rintro ⟨a3, a4, rfl⟩
    have hB2 : i < b.length := by omega
    refine V4 ?_
    refine Zij (_) [8] (.q 0 (.q 1 (.q 2 (.q 3 (.q 5 (.q 6 (.q 7 (.r 4 (.r 8 (.q 9 (.q 10 (.q 11 (.q 12 .nil))))))))))))) (by kernel_rfl) (by kernel_rfl) (Imp.refl _) ?_
    refine W7 ?_
    refine Zfh rfl rfl (ha.rd.at hB (getM hB)) ?_
    refine Zfh rfl rfl (hb.rd.at hB2 (getM hB2)) ?_
    refine W1 ?_
    refine Zim rfl (Zjx rfl) ?_
    refine W3 ?_
    refine V4 ?_
    exact Zgl (i + 1) qO (by omega) qI ⟨by rw [offB_take hB hB2]; rfl, rfl, trivial⟩
  · have hie : i = a.length := by omega
    rw [List.take_of_length_le (by omega), List.take_of_length_le (by omega)]
    refine Y2 ?_
    refine Zh8 rfl (by kernel_rfl) (zero_x _) rfl qT ?_
    rintro _ _ ⟨rfl, rfl⟩
    refine V3 ?_
    refine rx1 (Zg9 rfl (Zg7)) ?_
    exact ⟨_, ⟨rfl, rfl⟩, by exact Imp.arr (by repeat (first|exact Arr.nil|exact Arr.stop|refine Arr.cons (by repeat constructor) ?_|refine Arr.skip ?_))⟩
theorem rotl_x (x : Wd) (n : Nat) (hn : n = 7 ∨ n = 8 ∨ n = 12 ∨ n = 16) : Con Tryz.prog 185 [u32b x, nvv n] [] (fun r M => r = u32b (rotW x n) ∧ M = []) := by
  refine fn_x Tryz.func185 rfl rfl rfl Tryz.mixed (by kernel_rfl) ?_
  intro w0
  refine Y5 ?_
  refine Zhg (Zlv rfl) ?_
  refine Zhg (Zlf (y := 31#64) rfl rfl) ?_
  refine Y5 ?_
  refine Zhg (Zku rfl rfl) ?_
  refine Y2 ?_
  refine Zhg (Zld (x := 32#64) rfl rfl) ?_
  refine Zhg (Zkv rfl rfl) ?_
  refine V3 ?_
  refine rx1 (Zg9 rfl (Zg7)) ?_
  rcases hn with rfl|rfl|rfl|rfl <;> exact ⟨_, ⟨rfl, rfl⟩, qI⟩
end Go.Sl

/- slices of bytes read: a piece of a block, its front, the whole; a slice with its room. -/
set_option maxHeartbeats 4000000
set_option maxRecDepth 10000
set_option linter.unusedVariables false
set_option linter.unusedSimpArgs false
namespace Go.Sl
open Go Go.Proofs
attribute [local irreducible] cl pt own old pur ex all den denOps denS xOps xC cX CX xthen xblk xcut xloop xgo xng retX resX Calls PV Rd Con
theorem bs_piece {M M' : List Asrt} {b E : Nat} {l : List Byte} {o n c : Nat} (hm : Has M (cl b (l.map u8b).toArray E) M') (hl : o + n ≤ l.length) (hc : n ≤ c) (hcm : c ≤ 9223372036854775807) : Bs M (.slice (some ⟨b, o, none⟩) n c) ((l.drop o).take n) := by
  have hn : ((l.drop o).take n).length = n := by simp; omega
  have := Bs.cl (M := M) (b := b) (o := o) (c := c) (l := (l.drop o).take n) hm (by simp [hn]; omega) (by
    rw [hn]; simp only [Array.toList_extract, List.extract_eq_take_drop, Nat.add_sub_cancel_left]
    rw [List.map_take, List.map_drop]) (by omega) hcm
  rwa [hn] at this
theorem bs_full {M M' : List Asrt} {b E : Nat} {l : List Byte} {n : Nat} (hm : Has M (cl b (l.map u8b).toArray E) M') (hn : l.length = n) (hc : n ≤ 9223372036854775807) : Bs M (.slice (some ⟨b, 0, none⟩) n n) l := by
  have := bs_piece (o := 0) (n := n) (c := n) hm (by omega) (by omega) hc
  rwa [List.drop_zero, List.take_of_length_le (by omega)] at this
end Go.Sl

/- stream: the quarter round, words, the state, two rounds, walked. -/
set_option maxHeartbeats 4000000
set_option maxRecDepth 10000
set_option linter.unusedVariables false
set_option linter.unusedSimpArgs false
namespace Go.Sl
open Go Go.Proofs
attribute [local irreducible] cl pt own old pur ex all den denOps denS xOps xC cX CX xthen xblk xcut xloop xgo xng retX resX Calls PV Rd Con
theorem quarter_x (a b c d : Wd) : Con Tryz.prog 177 [u32b a, u32b b, u32b c, u32b d] [] (fun r M => r = .tuple #[u32b (quarterW a b c d).1, u32b (quarterW a b c d).2.1, u32b (quarterW a b c d).2.2.1, u32b (quarterW a b c d).2.2.2] ∧ M = []) := by
  refine fn_x Tryz.func177 rfl rfl rfl Tryz.mixed (by kernel_rfl) ?_
  intro w0
  refine Y20 ?_
  refine Zh8 rfl (by kernel_rfl) (rotl_x _ 16 (by omega)) rfl qT ?_
  rintro _ _ ⟨rfl, rfl⟩
  refine Y17 ?_
  refine Zh8 rfl (by kernel_rfl) (rotl_x _ 12 (by omega)) rfl qT ?_
  rintro _ _ ⟨rfl, rfl⟩
  refine Y17 ?_
  refine Zh8 rfl (by kernel_rfl) (rotl_x _ 8 (by omega)) rfl qT ?_
  rintro _ _ ⟨rfl, rfl⟩
  refine Y17 ?_
  refine Zh8 rfl (by kernel_rfl) (rotl_x _ 7 (by omega)) rfl qT ?_
  rintro _ _ ⟨rfl, rfl⟩
  refine V13 ?_
  refine rx4 (Zg9 rfl (Zg9 rfl (Zg9 rfl (Zg9 rfl (Zg7))))) ?_
  exact ⟨_, ⟨rfl, rfl⟩, by exact Imp.arr (by repeat (first|exact Arr.nil|exact Arr.stop|refine Arr.cons (by repeat constructor) ?_|refine Arr.skip ?_))⟩
theorem word_x {L : List Asrt} {v : Value} {b : List Byte} (h : Bs L v b) (hb : b.length = 4) : Con Tryz.prog 176 [v] L (fun r M => r = u32b (lowB 32 b) ∧ L = M) := by
  refine Con.get (fun w0 w F H => h.sh _ _ _ H) ?_
  rintro ⟨va, vc, rfl, hvc, hvcm⟩
  refine fn_x Tryz.func176 rfl rfl rfl Tryz.mixed (by kernel_rfl) ?_
  intro w0
  refine Y5 ?_
  refine Zh8 rfl (by kernel_rfl) (little32_x h hb) rfl qT ?_
  rintro _ _ ⟨rfl, rfl⟩
  refine V11 ?_
  refine rx1 (Zg9 rfl (Zg7)) ?_
  exact ⟨_, ⟨rfl, rfl⟩, by exact Imp.arr (by repeat (first|exact Arr.nil|exact Arr.stop|refine Arr.cons (by repeat constructor) ?_|refine Arr.skip ?_))⟩
def st0 : List Wd := [1634760805#32, 857760878#32, 2036477234#32, 1797285236#32]
/-- The state while it is filled. -/
def stK (key : List Byte) (n : Nat) : List Wd := st0 ++ ((List.range n).map (fun i => lowB 32 ((key.drop (4 * i)).take 4)) ++ List.replicate (12 - n) 0#32)
def stN (key : List Byte) (ctr : Wd) (nonce : List Byte) (n : Nat) : List Wd := st0 ++ ((List.range 8).map (fun i => lowB 32 ((key.drop (4 * i)).take 4)) ++ (ctr :: ((List.range n).map (fun i => lowB 32 ((nonce.drop (4 * i)).take 4)) ++ List.replicate (3 - n) 0#32)))
theorem stK_len (key : List Byte) (n : Nat) (h : n ≤ 8) : (stK key n).length = 16 := by simp [stK, st0]; omega
theorem stN_len (key : List Byte) (ctr : Wd) (nonce : List Byte) (n : Nat) (h : n ≤ 3) : (stN key ctr nonce n).length = 16 := by simp [stN, st0]; omega
theorem stK_set (key : List Byte) (n : Nat) (h : n < 8) : (stK key n).set (4 + n) (lowB 32 ((key.drop (4 * n)).take 4)) = stK key (n + 1) := by
  unfold stK
  rw [List.set_append_right _ _ (by simp [st0]), List.set_append_right _ _ (by simp [st0])]
  simp only [st0, List.length_cons, List.length_nil, List.length_map, List.length_range]
  rw [show 4 + n - (0 + 1 + 1 + 1 + 1) - n = 0 by omega, show 12 - n = (12 - (n + 1)) + 1 by omega, List.replicate_succ, List.set_cons_zero, List.range_succ, List.map_append, List.append_assoc]
  rfl
theorem stK_ctr (key : List Byte) (ctr : Wd) (nonce : List Byte) : (stK key 8).set 12 ctr = stN key ctr nonce 0 := rfl
theorem stN_set (key : List Byte) (ctr : Wd) (nonce : List Byte) (n : Nat) (h : n < 3) : (stN key ctr nonce n).set (13 + n) (lowB 32 ((nonce.drop (4 * n)).take 4)) = stN key ctr nonce (n + 1) := by
  match n, h with
  | 0, _ => rfl
  | 1, _ => rfl
  | 2, _ => rfl
theorem stN_end (key : List Byte) (ctr : Wd) (nonce : List Byte) : stN key ctr nonce 3 = stateW key ctr nonce := rfl
attribute [local irreducible] lowB stK stN
theorem state_x (key : List Byte) (ctr : Wd) (nonce : List Byte) (hk : key.length = 32) (hn : nonce.length = 12) : Con Tryz.prog 158 [.agg (key.map u8b).toArray, u32b ctr, .agg (nonce.map u8b).toArray] [] (fun r M => r = .agg ((stateW key ctr nonce).map u32b).toArray ∧ M = []) := by
  have hk0 : stK key 0 = [1634760805#32, 857760878#32, 2036477234#32, 1797285236#32, 0#32, 0#32, 0#32, 0#32, 0#32, 0#32, 0#32, 0#32, 0#32, 0#32, 0#32, 0#32] := by unfold stK; rfl
  refine fn_x Tryz.func158 rfl rfl rfl Tryz.mixed (by kernel_rfl) ?_
  intro w0
  refine Y1 ?_
  refine Zh5 rfl ?_; intro b3
  refine Zh5 rfl ?_; intro b5
  refine Zhz (cs := ((List.replicate 16 0#32).map u32b).toArray) rfl ?_; intro b6
  refine Y2 ?_
  refine Zhg (Zdn (cs := #[u32b 1634760805#32, u32b 857760878#32, u32b 2036477234#32, u32b 1797285236#32, u32b 0#32, u32b 0#32, u32b 0#32, u32b 0#32, u32b 0#32, u32b 0#32, u32b 0#32, u32b 0#32, u32b 0#32, u32b 0#32, u32b 0#32, u32b 0#32]) (by kernel_rfl)) ?_
  refine Zhz (cs := ((List.replicate 16 0#32).map u32b).toArray) rfl ?_; intro b7
  first|refine Zhy rfl rfl qR qZ qN qZ ?_|refine Zhx rfl rfl qR qZ qN qZ rfl ?_
  refine V4 ?_
  refine Zgo [(8, 8), (11, 24)] (by kernel_rfl) (fun i : Nat => i ≤ 8) (fun i => [cl b7 ((stK key i).map u32b).toArray 229, cl b6 ((List.replicate 16 0#32).map u32b).toArray 229, cl b5 (nonce.map u8b).toArray 63, cl b3 (key.map u8b).toArray 23])
    (fun i => [(11, nvv i)]) (fun i => 8 - i) 0 (by omega) (by rw [hk0]; exact qI) ⟨rfl, trivial⟩ ?_
  intro i u hi
  have hkl := stK_len key i hi
  refine V3 ?_
  refine Zgg rfl (fun hB => ?_) (fun hB => ?_)
  · refine Y6 ?_
    first|refine Zhg (Zma (a := 4) rfl rfl) ?_|refine Zhg (Zbg rfl rfl) ?_
    refine Y1 ?_
    first|refine Zhg (Zmc (a := 4) rfl rfl) ?_|refine Zhg (Zbi rfl rfl) ?_
    refine Y1 ?_
    first|refine Zhg (Zmc (a := 4) rfl rfl) ?_|refine Zhg (Zbi rfl rfl) ?_
    refine Y1 ?_
    first|refine Zhg (Zm9 (l := 4 * i) (h := 4 * i + 4) rfl qB qB) ?_|refine Zhg (Zmx (l := 4 * i) (h := 4 * i + 4) rfl qB qB) ?_
    refine Zh8 rfl (by kernel_rfl) (word_x (L := [cl b3 (key.map u8b).toArray 23]) (b := (key.drop (4 * i)).take (4 * i + 4 - 4 * i)) (bs_piece (o := 4 * i) (n := 4 * i + 4 - 4 * i) (c := 32 - 4 * i) qH (by omega) (by omega) (by omega)) (by simp; omega)) rfl qT ?_
    rintro _ _ ⟨rfl, rfl⟩
    refine Y1 ?_
    first|refine Zhg (Zl5 (n := 4 + i) rfl (int_eq (by push_cast; omega))) ?_|refine Zhg (Zl3 (n := 4 + i) rfl (int_eq (by push_cast; omega))) ?_
    refine Zht rfl rfl qR qZ (setL (f := u32b) (l := stK key i)) ?_
    refine V1 ?_
    rw [show 4 * i + 4 - 4 * i = 4 by omega, stK_set key i hB]
    refine V4 ?_
    exact Zgl (i + 1) qO (by omega) qI ⟨rfl, trivial⟩
  · have hie : i = 8 := by omega
    subst hie
    refine Y2 ?_
    first|refine Zhg (Zl5 (n := 12) rfl rfl) ?_|refine Zhg (Zl3 (n := 12) rfl rfl) ?_
    refine Zht rfl rfl qR qZ (setL (f := u32b) (l := stK key 8)) ?_
    refine V1 ?_
    rw [stK_ctr key ctr nonce]
    refine V3 ?_
    refine Zgo [(9, 9), (27, 40)] (by kernel_rfl) (fun i : Nat => i ≤ 3) (fun i => [cl b7 ((stN key ctr nonce i).map u32b).toArray 229, cl b6 ((List.replicate 16 0#32).map u32b).toArray 229, cl b5 (nonce.map u8b).toArray 63, cl b3 (key.map u8b).toArray 23])
      (fun i => [(27, nvv i)]) (fun i => 3 - i) 0 (by omega) qI ⟨rfl, trivial⟩ ?_
    intro i u2 hi
    have hkl := stN_len key ctr nonce i hi
    refine V3 ?_
    refine Zgg rfl (fun hB => ?_) (fun hB => ?_)
    · refine Y6 ?_
      first|refine Zhg (Zma (a := 13) rfl rfl) ?_|refine Zhg (Zbg rfl rfl) ?_
      refine Y1 ?_
      first|refine Zhg (Zmc (a := 4) rfl rfl) ?_|refine Zhg (Zbi rfl rfl) ?_
      refine Y1 ?_
      first|refine Zhg (Zmc (a := 4) rfl rfl) ?_|refine Zhg (Zbi rfl rfl) ?_
      refine Y1 ?_
      first|refine Zhg (Zm9 (l := 4 * i) (h := 4 * i + 4) rfl qB qB) ?_|refine Zhg (Zmx (l := 4 * i) (h := 4 * i + 4) rfl qB qB) ?_
      refine Zh8 rfl (by kernel_rfl) (word_x (L := [cl b5 (nonce.map u8b).toArray 63]) (b := (nonce.drop (4 * i)).take (4 * i + 4 - 4 * i)) (bs_piece (o := 4 * i) (n := 4 * i + 4 - 4 * i) (c := 12 - 4 * i) qH (by omega) (by omega) (by omega)) (by simp; omega)) rfl qT ?_
      rintro _ _ ⟨rfl, rfl⟩
      refine Y1 ?_
      first|refine Zhg (Zl5 (n := 13 + i) rfl (int_eq (by push_cast; omega))) ?_|refine Zhg (Zl3 (n := 13 + i) rfl (int_eq (by push_cast; omega))) ?_
      refine Zht rfl rfl qR qZ (setL (f := u32b) (l := stN key ctr nonce i)) ?_
      refine V1 ?_
      rw [show 4 * i + 4 - 4 * i = 4 by omega, stN_set key ctr nonce i hB]
      refine V4 ?_
      exact Zgl (i + 1) qO (by omega) qI ⟨rfl, trivial⟩
    · have hie : i = 3 := by omega
      subst hie
      rw [stN_end]
      have hsl := stateW_len key ctr nonce
      refine Y2 ?_
      first|refine Zhy rfl rfl qR qZ qN qZ ?_|refine Zhx rfl rfl qR qZ qN qZ rfl ?_
      refine V1 ?_
      refine rx1 (Zhe rfl qH qZ (Zg7)) ?_
      exact ⟨_, ⟨rfl, rfl⟩, by exact Imp.arr (by repeat (first|exact Arr.nil|exact Arr.stop|refine Arr.cons (by repeat constructor) ?_|refine Arr.skip ?_))⟩
end Go.Sl

/- octet: a reader of bytes: NewReader, take, U64, U32, Err, walked; low of uint64. -/
set_option maxHeartbeats 4000000
set_option maxRecDepth 10000
set_option linter.unusedVariables false
set_option linter.unusedSimpArgs false
namespace Go.Sl
open Go Go.Proofs
attribute [local irreducible] cl pt own old pur ex all den denOps denS xOps xC cX CX xthen xblk xcut xloop xgo xng retX resX Calls PV Rd Con
theorem low64_x {L : List Asrt} {v : Value} {b : List Byte} (h : Bs L v b) (hb : b.length ≤ 140737488355000) : Con Tryz.prog 115 [v] L (fun r M => r = u64b (lowB 64 b) ∧ L = M) := by
  refine Con.get (fun w0 w F H => h.sh _ _ _ H) ?_
  rintro ⟨va, vc, rfl, hvc, hvcm⟩
  refine fn_x Tryz.func115 rfl rfl rfl Tryz.mixed (by kernel_rfl) ?_
  intro w0
  refine V11 ?_
  refine Zgo [(3, 5), (8, 20)] (by kernel_rfl) (fun i : Nat => i ≤ b.length) (fun _ => L) (fun i => [(3, u64b (lowB 64 (b.take i))), (8, nvv i)]) (fun i => b.length - i) 0 (by omega) qI ⟨by rw [List.take_zero]; rfl, rfl, trivial⟩ ?_
  intro i u hi
  refine V3 ?_
  refine Zgg rfl (fun hB => ?_) (fun hB => ?_)
  · refine Zgt (fun F w H => h.some (by omega) H) ?_
    rintro ⟨a1, a2, rfl⟩
    refine Y3 ?_
    refine Zff rfl (h.rd.at hB (getM hB)) ?_
    refine Y6 ?_
    refine Zhg (Zjx rfl) ?_
    refine Y1 ?_
    first|refine Zhg (Zmc (a := 8) rfl rfl) ?_|refine Zhg (Zbi rfl rfl) ?_
    refine Zhg (Zlj rfl rfl) ?_
    refine V7 ?_
    have e : lowB 64 (b.take (i + 1)) = lowB 64 (b.take i) ||| (b[i].setWidth 64) <<< (8 * i) := by
      rw [List.take_succ_eq_append_getElem hB, lowB_snoc, List.length_take, Nat.min_eq_left hi]
    exact Zgl (i + 1) qO (by omega) qI ⟨by rw [e]; rfl, rfl, trivial⟩
  · have hie : i = b.length := by omega
    subst hie
    rw [List.take_length]
    refine V4 ?_
    refine rx1 (Zg9 rfl (Zg7)) ?_
    exact ⟨_, ⟨rfl, rfl⟩, by exact Imp.arr (by repeat (first|exact Arr.nil|exact Arr.stop|refine Arr.cons (by repeat constructor) ?_|refine Arr.skip ?_))⟩
/-- A reader's cells. -/
abbrev rdc (g o len c : Nat) : Array Value := #[.slice (some ⟨g, o, none⟩) len c, nvv 0]
theorem newReader_x {L : List Asrt} {v : Value} {b : List Byte} (h : Bs L v b) (hb : b.length ≤ 140737488351232) :
    Con Tryz.prog 99 [v] L (fun r M => ∃ p g, r = .pointer (some ⟨p, 0, none⟩) ∧ M = cl p (rdc g 0 b.length b.length) 174 :: cl g (b.map u8b).toArray 5 :: L) := by
  refine Con.get (fun w0 w F H => h.sh _ _ _ H) ?_
  rintro ⟨va, vc, rfl, hvc, hvcm⟩
  refine fn_x Tryz.func99 rfl rfl rfl Tryz.mixed (by kernel_rfl) ?_
  intro w0
  refine Y6 ?_
  refine Zm3 (f := u8b) (a := 0#8) rfl rfl rfl qS qS qS ?_; intro b6
  refine Y5 ?_
  refine Zib rfl rfl (h.rd.imp Imp.tail) qR qZ qN ((by have := copy_pre b 0; simpa using this)) ?_
  refine Y3 ?_
  refine Zhg (Zdm (cs := #[.slice _ _ _, .int .i64 0]) rfl) ?_
  refine Zh5 rfl ?_; intro b12
  refine V2 ?_
  refine rx1 (Zhb rfl (Zg7)) ?_
  exact ⟨_, ⟨b12, b6, rfl, rfl⟩, qI⟩
theorem take_x {p g o len c n : Nat} (hn : n ≤ len) (hc : n < c) (h0 : 0 < n) (hcm : c ≤ 9223372036854775807) (hlc : len ≤ c) :
    Con Tryz.prog 116 [.pointer (some ⟨p, 0, none⟩), nvv n] [cl p (rdc g o len c) 174] (fun r M => r = .slice (some ⟨g, o, none⟩) n n ∧ M = [cl p (rdc g (o + n) (len - n) (c - n)) 174]) := by
  refine fn_x Tryz.func116 rfl rfl rfl Tryz.mixed (by kernel_rfl) ?_
  intro w0
  refine Y12 ?_
  refine Zhn 13 rfl (decide_eq_false (by decide)) ?_
  refine Y6 ?_
  refine Zhn 17 rfl (decide_eq_false (by omega)) ?_
  refine Y11 ?_
  refine Zhn 28 rfl (decide_eq_false (by omega)) ?_
  refine Y9 ?_
  refine Zhn 36 rfl (decide_eq_false (by decide)) ?_
  refine Y9 ?_
  refine Zhg (Zns (h := n) rfl rfl rfl (by omega) h0) ?_
  refine Y9 ?_
  first|refine Zhg (Zna (l := n) (h := len) rfl qB qB) ?_|refine Zhg (Zmz (l := n) (h := len) rfl qB qB) ?_
  refine V8 ?_
  refine rx1 (Zhc rfl (Zg7)) ?_
  exact ⟨_, ⟨rfl, rfl⟩, qI⟩
theorem u64_x {p g o len c : Nat} (l : List Byte) (hl : o + 8 ≤ l.length) (hn : 8 ≤ len) (hc : 8 < c) (hcm : c ≤ 9223372036854775807) (hlc : len ≤ c) :
    Con Tryz.prog 100 [.pointer (some ⟨p, 0, none⟩)] [cl p (rdc g o len c) 174, cl g (l.map u8b).toArray 5] (fun r M => r = u64b (lowB 64 ((l.drop o).take 8)) ∧ M = [cl p (rdc g (o + 8) (len - 8) (c - 8)) 174, cl g (l.map u8b).toArray 5]) := by
  have hll : ((l.drop o).take 8).length = 8 := by simp; omega
  refine fn_x Tryz.func100 rfl rfl rfl Tryz.mixed (by kernel_rfl) ?_
  intro w0
  refine Y5 ?_
  refine Zh8 rfl (by kernel_rfl) (take_x (n := 8) hn hc (by omega) hcm hlc) rfl qT ?_
  rintro _ _ ⟨rfl, rfl⟩
  refine Y1 ?_
  refine Zh8 rfl (by kernel_rfl) (low64_x (L := [cl g (l.map u8b).toArray 5]) (b := (l.drop o).take 8) (bs_piece (o := o) (n := 8) (c := 8) .here hl (by omega) (by omega)) (by omega)) rfl qT ?_
  rintro _ _ ⟨rfl, rfl⟩
  refine V3 ?_
  refine rx1 (Zg9 rfl (Zg7)) ?_
  exact ⟨_, ⟨rfl, rfl⟩, qI⟩
theorem u32_x {p g o len c : Nat} (l : List Byte) (hl : o + 4 ≤ l.length) (hn : 4 ≤ len) (hc : 4 < c) (hcm : c ≤ 9223372036854775807) (hlc : len ≤ c) :
    Con Tryz.prog 101 [.pointer (some ⟨p, 0, none⟩)] [cl p (rdc g o len c) 174, cl g (l.map u8b).toArray 5] (fun r M => r = u32b (lowB 32 ((l.drop o).take 4)) ∧ M = [cl p (rdc g (o + 4) (len - 4) (c - 4)) 174, cl g (l.map u8b).toArray 5]) := by
  have hll : ((l.drop o).take 4).length = 4 := by simp; omega
  refine fn_x Tryz.func101 rfl rfl rfl Tryz.mixed (by kernel_rfl) ?_
  intro w0
  refine Y5 ?_
  refine Zh8 rfl (by kernel_rfl) (take_x (n := 4) hn hc (by omega) hcm hlc) rfl qT ?_
  rintro _ _ ⟨rfl, rfl⟩
  refine Y1 ?_
  refine Zh8 rfl (by kernel_rfl) (low32_x (L := [cl g (l.map u8b).toArray 5]) (b := (l.drop o).take 4) (bs_piece (o := o) (n := 4) (c := 4) .here hl (by omega) (by omega)) (by omega)) rfl qT ?_
  rintro _ _ ⟨rfl, rfl⟩
  refine V3 ?_
  refine rx1 (Zg9 rfl (Zg7)) ?_
  exact ⟨_, ⟨rfl, rfl⟩, qI⟩
theorem rerr_x {p g o len c : Nat} : Con Tryz.prog 102 [.pointer (some ⟨p, 0, none⟩)] [cl p (rdc g o len c) 174] (fun r M => r = nvv 0 ∧ M = [cl p (rdc g o len c) 174]) := by
  refine fn_x Tryz.func102 rfl rfl rfl Tryz.mixed (by kernel_rfl) ?_
  intro w0
  refine Y6 ?_
  refine Zhn 4 rfl (rfl) ?_
  refine V9 ?_
  refine rx1 (Zg9 rfl (Zg7)) ?_
  exact ⟨_, ⟨rfl, rfl⟩, qI⟩
end Go.Sl
