/- Parts of the proof, joined: HbH, HbI, TyB, EngAa, OctN, HbK, RefA, HbL. -/
import Derived.Test.YthodgeekgpkieaaLawHostPlaysM0
import Derived.Test.YthodgeekgpkieaaLawHostPlaysM1
import Derived.Test.YthodgeekgpkieaaLawHostPlaysM2
import Derived.Stop.Asserts
import Derived.Stop.IfaceNil
import Derived.Lib.IfaceEq
import Derived.Laws.Externs
/- host: the operations. -/
set_option maxHeartbeats 2000000
set_option linter.unusedVariables false
set_option linter.unusedSimpArgs false
namespace Go.Sl
open Go Go.Proofs
attribute [local irreducible] cl pt own old den denOps denS thenK blockK cutK loopK retK Calls PV
attribute [local irreducible] omap ohole oheld rowsB

theorem ok_wrote {s : HostS.HS} (page op : Int) (b : HostS.Bytes) (hb : b.length = s.size) (h0 : HostS.Ok s) (h : HostS.Ok (HostS.logged s op page b)) : HostS.Ok (HostS.wrote page b (HostS.logged s op page b)) := by
  refine ⟨h.p0, h.p1, h.z0, h.z1, ?_, ?_, h.log, h.flt, h.fln⟩
  · intro q r hr
    by_cases e : q = page
    · simp only [HostS.wrote, HostS.setF, e, if_true, List.mem_append, List.mem_singleton] at hr
      rcases hr with hr|rfl
      · exact h.row _ _ hr
      · exact hb
    · simp only [HostS.wrote, HostS.setF, e, if_false] at hr
      exact h.row _ _ hr
  · intro q
    have := h0.many q
    have e2 : (HostS.wrote page b (HostS.logged s op page b)).ops = s.ops + 1 := rfl
    rw [e2]
    by_cases e : q = page
    · subst e
      have e3 : (HostS.wrote q b (HostS.logged s op q b)).lay q = s.lay q ++ [b] := by simp [HostS.wrote, HostS.setF, HostS.logged, HostS.taken]
      rw [e3]; simp; exact this
    · have e3 : (HostS.wrote page b (HostS.logged s op page b)).lay q = s.lay q := by simp [HostS.wrote, HostS.setF, e, HostS.logged, HostS.taken]
      rw [e3]; omega
theorem ok_raised {s : HostS.HS} (v : BitVec 64) (h : HostS.Ok s) : HostS.Ok (HostS.raised v s) := ⟨h.p0, h.p1, h.z0, h.z1, h.row, h.many, h.log, h.flt, h.fln⟩
theorem does_zero {s : HostS.HS} {op page : Int} {b : HostS.Bytes} {act : HostS.HS → HostS.HS} (h : HostS.done s = false) : (HostS.does s op page b act).2 = 110 := by
  simp only [HostS.done] at h
  simp only [HostS.does]
  cases hd : s.down <;> simp [hd] at h ⊢
  simp [h]
section
variable {p : Nat} {s : HostS.HS} {w0 w : World} {L : List Asrt}
theorem write_c (page : Int) {bv : Value} {b : HostS.Bytes} (hops : s.ops < 3298534883328) (hlen : b.length < 9223372036854775808)
    (hbs : ∀ w', St w0 w' L → SlW w' 1 bv b.length (b.map u8b)) (H : St w0 w (hostA p s :: L)) :
    Calls Try.prog 26 #[.pointer (some ⟨p, 0, none⟩), .int .i64 page, bv] w
      (Ret fun v w' => v = .int .i64 (HostS.writeR s page b).1 ∧ St w0 w' (hostA p (HostS.writeR s page b).2 :: L)) := by
  obtain ⟨ba, bk, rfl⟩ := (hbs _ H.drop).len
  have hsok : HostS.Ok s := by obtain ⟨_, _, _, h, _⟩ := H.host_get; exact h
  refine calls_den [_, _, _] Try.func26 rfl rfl rfl Try.mixed (by kernel_rfl) ?_
  repeat (first|(refine Zd1 ?_; first|refine Zcx ?_|(refine Zd3 ?_; first|refine Zc0 rfl ?_|refine Zc1 rfl ?_|refine Zc2 rfl ?_)|refine Zcz (by first|exact Zat rfl|exact Zav rfl|exact Zaw rfl|exact Zaz rfl|exact Za2 rfl|exact Za1 rfl|exact Zau rfl|exact Za0 rfl|exact Zba rfl|exact Zce rfl (by omega)|exact Zbn rfl rfl|exact Zbr rfl rfl|exact Zbs rfl rfl|exact Zbq rfl rfl|exact Zbp rfl rfl|exact Zbo rfl rfl|exact Zcr rfl|exact Zbg rfl rfl (by omega)|exact Zbh rfl rfl (by omega)|exact Zbi rfl rfl (by omega)|exact Zco rfl rfl|exact Zdz rfl rfl|exact Zd0 rfl rfl|exact Za8 rfl rfl|exact Za9 rfl rfl|exact Za6 rfl rfl|exact Za7 rfl rfl|exact Zb1 rfl|exact Zca rfl rfl|exact Zcb rfl rfl|exact Zcv rfl rfl|exact Zcw rfl rfl|exact Zax rfl|exact Za3 rfl|exact Zay rfl|exact Zcl rfl rfl|exact Zb0 rfl|exact Zct|exact Zf3|exact Zar rfl|exact Zas rfl) ?_|(refine Zd4 ?_; refine Zc5 H rfl (by repeat constructor) rfl ?_)|(refine Zd5 ?_; (first|refine Zdb H rfl rfl (by repeat constructor) (by first|(simp only [wr_size, Array.size_setIfInBounds, List.size_toArray, List.length_cons, List.length_nil]; omega)|omega|(simp; done)|(simp; omega)) ?_|refine Zde H rfl rfl (by repeat constructor) (by first|(simp only [wr_size, Array.size_setIfInBounds, List.size_toArray, List.length_cons, List.length_nil]; omega)|omega|(simp; done)|(simp; omega)) ?_|refine Zdd H rfl rfl (by repeat constructor) (by first|(simp only [wr_size, Array.size_setIfInBounds, List.size_toArray, List.length_cons, List.length_nil]; omega)|omega|(simp; done)|(simp; omega)) ?_|refine Zdc H rfl rfl (by repeat constructor) (by first|(simp only [wr_size, Array.size_setIfInBounds, List.size_toArray, List.length_cons, List.length_nil]; omega)|omega|(simp; done)|(simp; omega)) ?_|refine Zda H rfl rfl rfl (by repeat constructor) (by first|(simp only [wr_size, Array.size_setIfInBounds, List.size_toArray, List.length_cons, List.length_nil]; omega)|omega|(simp; done)|(simp; omega)) ?_); clear H; intro w H))|(refine Zd6 ?_; first|refine Zd9 ?_|refine Zeb ?_|refine Zeh ?_|refine Zef ?_|refine Zed ?_|refine Zec ?_|refine Zee ?_|refine Zeg ?_|(refine Zd7 ?_; first|refine Zao rfl ?_|refine Zap rfl ?_))|(first|refine Zei ?_|refine Zej ?_|refine Zek ?_|refine Zel ?_|refine Zen ?_|refine Zem ?_|refine Zeo rfl ?_|refine Zep ?_|refine Zeq ?_|refine Zes ?_|refine Zet ?_)|refine Zd8 ?_)
  (first|refine Zfw H rfl ?_|refine Zfx H rfl ?_|refine Zfy H rfl ?_|refine Zfz H rfl ?_|refine Zf0 H rfl ?_|refine Zdj H rfl ?_); clear H; intro w xh H
  repeat (first|(refine Zd1 ?_; first|refine Zcx ?_|(refine Zd3 ?_; first|refine Zc0 rfl ?_|refine Zc1 rfl ?_|refine Zc2 rfl ?_)|refine Zcz (by first|exact Zat rfl|exact Zav rfl|exact Zaw rfl|exact Zaz rfl|exact Za2 rfl|exact Za1 rfl|exact Zau rfl|exact Za0 rfl|exact Zba rfl|exact Zce rfl (by omega)|exact Zbn rfl rfl|exact Zbr rfl rfl|exact Zbs rfl rfl|exact Zbq rfl rfl|exact Zbp rfl rfl|exact Zbo rfl rfl|exact Zcr rfl|exact Zbg rfl rfl (by omega)|exact Zbh rfl rfl (by omega)|exact Zbi rfl rfl (by omega)|exact Zco rfl rfl|exact Zdz rfl rfl|exact Zd0 rfl rfl|exact Za8 rfl rfl|exact Za9 rfl rfl|exact Za6 rfl rfl|exact Za7 rfl rfl|exact Zb1 rfl|exact Zca rfl rfl|exact Zcb rfl rfl|exact Zcv rfl rfl|exact Zcw rfl rfl|exact Zax rfl|exact Za3 rfl|exact Zay rfl|exact Zcl rfl rfl|exact Zb0 rfl|exact Zct|exact Zf3|exact Zar rfl|exact Zas rfl) ?_|(refine Zd4 ?_; refine Zc5 H rfl (by repeat constructor) rfl ?_)|(refine Zd5 ?_; (first|refine Zdb H rfl rfl (by repeat constructor) (by first|(simp only [wr_size, Array.size_setIfInBounds, List.size_toArray, List.length_cons, List.length_nil]; omega)|omega|(simp; done)|(simp; omega)) ?_|refine Zde H rfl rfl (by repeat constructor) (by first|(simp only [wr_size, Array.size_setIfInBounds, List.size_toArray, List.length_cons, List.length_nil]; omega)|omega|(simp; done)|(simp; omega)) ?_|refine Zdd H rfl rfl (by repeat constructor) (by first|(simp only [wr_size, Array.size_setIfInBounds, List.size_toArray, List.length_cons, List.length_nil]; omega)|omega|(simp; done)|(simp; omega)) ?_|refine Zdc H rfl rfl (by repeat constructor) (by first|(simp only [wr_size, Array.size_setIfInBounds, List.size_toArray, List.length_cons, List.length_nil]; omega)|omega|(simp; done)|(simp; omega)) ?_|refine Zda H rfl rfl rfl (by repeat constructor) (by first|(simp only [wr_size, Array.size_setIfInBounds, List.size_toArray, List.length_cons, List.length_nil]; omega)|omega|(simp; done)|(simp; omega)) ?_); clear H; intro w H))|(refine Zd6 ?_; first|refine Zd9 ?_|refine Zeb ?_|refine Zeh ?_|refine Zef ?_|refine Zed ?_|refine Zec ?_|refine Zee ?_|refine Zeg ?_|(refine Zd7 ?_; first|refine Zao rfl ?_|refine Zap rfl ?_))|(first|refine Zei ?_|refine Zej ?_|refine Zek ?_|refine Zel ?_|refine Zen ?_|refine Zem ?_|refine Zeo rfl ?_|refine Zep ?_|refine Zeq ?_|refine Zes ?_|refine Zet ?_)|refine Zd8 ?_)
  (first|refine Zfw H rfl ?_|refine Zfx H rfl ?_|refine Zfy H rfl ?_|refine Zfz H rfl ?_|refine Zf0 H rfl ?_|refine Zdj H rfl ?_); clear H; intro w xp H
  repeat (first|(refine Zd1 ?_; first|refine Zcx ?_|(refine Zd3 ?_; first|refine Zc0 rfl ?_|refine Zc1 rfl ?_|refine Zc2 rfl ?_)|refine Zcz (by first|exact Zat rfl|exact Zav rfl|exact Zaw rfl|exact Zaz rfl|exact Za2 rfl|exact Za1 rfl|exact Zau rfl|exact Za0 rfl|exact Zba rfl|exact Zce rfl (by omega)|exact Zbn rfl rfl|exact Zbr rfl rfl|exact Zbs rfl rfl|exact Zbq rfl rfl|exact Zbp rfl rfl|exact Zbo rfl rfl|exact Zcr rfl|exact Zbg rfl rfl (by omega)|exact Zbh rfl rfl (by omega)|exact Zbi rfl rfl (by omega)|exact Zco rfl rfl|exact Zdz rfl rfl|exact Zd0 rfl rfl|exact Za8 rfl rfl|exact Za9 rfl rfl|exact Za6 rfl rfl|exact Za7 rfl rfl|exact Zb1 rfl|exact Zca rfl rfl|exact Zcb rfl rfl|exact Zcv rfl rfl|exact Zcw rfl rfl|exact Zax rfl|exact Za3 rfl|exact Zay rfl|exact Zcl rfl rfl|exact Zb0 rfl|exact Zct|exact Zf3|exact Zar rfl|exact Zas rfl) ?_|(refine Zd4 ?_; refine Zc5 H rfl (by repeat constructor) rfl ?_)|(refine Zd5 ?_; (first|refine Zdb H rfl rfl (by repeat constructor) (by first|(simp only [wr_size, Array.size_setIfInBounds, List.size_toArray, List.length_cons, List.length_nil]; omega)|omega|(simp; done)|(simp; omega)) ?_|refine Zde H rfl rfl (by repeat constructor) (by first|(simp only [wr_size, Array.size_setIfInBounds, List.size_toArray, List.length_cons, List.length_nil]; omega)|omega|(simp; done)|(simp; omega)) ?_|refine Zdd H rfl rfl (by repeat constructor) (by first|(simp only [wr_size, Array.size_setIfInBounds, List.size_toArray, List.length_cons, List.length_nil]; omega)|omega|(simp; done)|(simp; omega)) ?_|refine Zdc H rfl rfl (by repeat constructor) (by first|(simp only [wr_size, Array.size_setIfInBounds, List.size_toArray, List.length_cons, List.length_nil]; omega)|omega|(simp; done)|(simp; omega)) ?_|refine Zda H rfl rfl rfl (by repeat constructor) (by first|(simp only [wr_size, Array.size_setIfInBounds, List.size_toArray, List.length_cons, List.length_nil]; omega)|omega|(simp; done)|(simp; omega)) ?_); clear H; intro w H))|(refine Zd6 ?_; first|refine Zd9 ?_|refine Zeb ?_|refine Zeh ?_|refine Zef ?_|refine Zed ?_|refine Zec ?_|refine Zee ?_|refine Zeg ?_|(refine Zd7 ?_; first|refine Zao rfl ?_|refine Zap rfl ?_))|(first|refine Zei ?_|refine Zej ?_|refine Zek ?_|refine Zel ?_|refine Zen ?_|refine Zem ?_|refine Zeo rfl ?_|refine Zep ?_|refine Zeq ?_|refine Zes ?_|refine Zet ?_)|refine Zd8 ?_)
  (first|refine Zfw H rfl ?_|refine Zfx H rfl ?_|refine Zfy H rfl ?_|refine Zfz H rfl ?_|refine Zf0 H rfl ?_|refine Zdj H rfl ?_); clear H; intro w xb H
  repeat (first|(refine Zd1 ?_; first|refine Zcx ?_|(refine Zd3 ?_; first|refine Zc0 rfl ?_|refine Zc1 rfl ?_|refine Zc2 rfl ?_)|refine Zcz (by first|exact Zat rfl|exact Zav rfl|exact Zaw rfl|exact Zaz rfl|exact Za2 rfl|exact Za1 rfl|exact Zau rfl|exact Za0 rfl|exact Zba rfl|exact Zce rfl (by omega)|exact Zbn rfl rfl|exact Zbr rfl rfl|exact Zbs rfl rfl|exact Zbq rfl rfl|exact Zbp rfl rfl|exact Zbo rfl rfl|exact Zcr rfl|exact Zbg rfl rfl (by omega)|exact Zbh rfl rfl (by omega)|exact Zbi rfl rfl (by omega)|exact Zco rfl rfl|exact Zdz rfl rfl|exact Zd0 rfl rfl|exact Za8 rfl rfl|exact Za9 rfl rfl|exact Za6 rfl rfl|exact Za7 rfl rfl|exact Zb1 rfl|exact Zca rfl rfl|exact Zcb rfl rfl|exact Zcv rfl rfl|exact Zcw rfl rfl|exact Zax rfl|exact Za3 rfl|exact Zay rfl|exact Zcl rfl rfl|exact Zb0 rfl|exact Zct|exact Zf3|exact Zar rfl|exact Zas rfl) ?_|(refine Zd4 ?_; refine Zc5 H rfl (by repeat constructor) rfl ?_)|(refine Zd5 ?_; (first|refine Zdb H rfl rfl (by repeat constructor) (by first|(simp only [wr_size, Array.size_setIfInBounds, List.size_toArray, List.length_cons, List.length_nil]; omega)|omega|(simp; done)|(simp; omega)) ?_|refine Zde H rfl rfl (by repeat constructor) (by first|(simp only [wr_size, Array.size_setIfInBounds, List.size_toArray, List.length_cons, List.length_nil]; omega)|omega|(simp; done)|(simp; omega)) ?_|refine Zdd H rfl rfl (by repeat constructor) (by first|(simp only [wr_size, Array.size_setIfInBounds, List.size_toArray, List.length_cons, List.length_nil]; omega)|omega|(simp; done)|(simp; omega)) ?_|refine Zdc H rfl rfl (by repeat constructor) (by first|(simp only [wr_size, Array.size_setIfInBounds, List.size_toArray, List.length_cons, List.length_nil]; omega)|omega|(simp; done)|(simp; omega)) ?_|refine Zda H rfl rfl rfl (by repeat constructor) (by first|(simp only [wr_size, Array.size_setIfInBounds, List.size_toArray, List.length_cons, List.length_nil]; omega)|omega|(simp; done)|(simp; omega)) ?_); clear H; intro w H))|(refine Zd6 ?_; first|refine Zd9 ?_|refine Zeb ?_|refine Zeh ?_|refine Zef ?_|refine Zed ?_|refine Zec ?_|refine Zee ?_|refine Zeg ?_|(refine Zd7 ?_; first|refine Zao rfl ?_|refine Zap rfl ?_))|(first|refine Zei ?_|refine Zej ?_|refine Zek ?_|refine Zel ?_|refine Zen ?_|refine Zem ?_|refine Zeo rfl ?_|refine Zep ?_|refine Zeq ?_|refine Zes ?_|refine Zet ?_)|refine Zd8 ?_)
  refine Zdp rfl (by kernel_rfl) (there_c page (H.pick (A := hostA p s) (by repeat constructor))) rfl ?_
  rintro v w ⟨rfl, rfl⟩
  repeat (first|(refine Zd1 ?_; first|refine Zcx ?_|(refine Zd3 ?_; first|refine Zc0 rfl ?_|refine Zc1 rfl ?_|refine Zc2 rfl ?_)|refine Zcz (by first|exact Zat rfl|exact Zav rfl|exact Zaw rfl|exact Zaz rfl|exact Za2 rfl|exact Za1 rfl|exact Zau rfl|exact Za0 rfl|exact Zba rfl|exact Zce rfl (by omega)|exact Zbn rfl rfl|exact Zbr rfl rfl|exact Zbs rfl rfl|exact Zbq rfl rfl|exact Zbp rfl rfl|exact Zbo rfl rfl|exact Zcr rfl|exact Zbg rfl rfl (by omega)|exact Zbh rfl rfl (by omega)|exact Zbi rfl rfl (by omega)|exact Zco rfl rfl|exact Zdz rfl rfl|exact Zd0 rfl rfl|exact Za8 rfl rfl|exact Za9 rfl rfl|exact Za6 rfl rfl|exact Za7 rfl rfl|exact Zb1 rfl|exact Zca rfl rfl|exact Zcb rfl rfl|exact Zcv rfl rfl|exact Zcw rfl rfl|exact Zax rfl|exact Za3 rfl|exact Zay rfl|exact Zcl rfl rfl|exact Zb0 rfl|exact Zct|exact Zf3|exact Zar rfl|exact Zas rfl) ?_|(refine Zd4 ?_; refine Zc5 H rfl (by repeat constructor) rfl ?_)|(refine Zd5 ?_; (first|refine Zdb H rfl rfl (by repeat constructor) (by first|(simp only [wr_size, Array.size_setIfInBounds, List.size_toArray, List.length_cons, List.length_nil]; omega)|omega|(simp; done)|(simp; omega)) ?_|refine Zde H rfl rfl (by repeat constructor) (by first|(simp only [wr_size, Array.size_setIfInBounds, List.size_toArray, List.length_cons, List.length_nil]; omega)|omega|(simp; done)|(simp; omega)) ?_|refine Zdd H rfl rfl (by repeat constructor) (by first|(simp only [wr_size, Array.size_setIfInBounds, List.size_toArray, List.length_cons, List.length_nil]; omega)|omega|(simp; done)|(simp; omega)) ?_|refine Zdc H rfl rfl (by repeat constructor) (by first|(simp only [wr_size, Array.size_setIfInBounds, List.size_toArray, List.length_cons, List.length_nil]; omega)|omega|(simp; done)|(simp; omega)) ?_|refine Zda H rfl rfl rfl (by repeat constructor) (by first|(simp only [wr_size, Array.size_setIfInBounds, List.size_toArray, List.length_cons, List.length_nil]; omega)|omega|(simp; done)|(simp; omega)) ?_); clear H; intro w H))|(refine Zd6 ?_; first|refine Zd9 ?_|refine Zeb ?_|refine Zeh ?_|refine Zef ?_|refine Zed ?_|refine Zec ?_|refine Zee ?_|refine Zeg ?_|(refine Zd7 ?_; first|refine Zao rfl ?_|refine Zap rfl ?_))|(first|refine Zei ?_|refine Zej ?_|refine Zek ?_|refine Zel ?_|refine Zen ?_|refine Zem ?_|refine Zeo rfl ?_|refine Zep ?_|refine Zeq ?_|refine Zes ?_|refine Zet ?_)|refine Zd8 ?_)
  refine Zaq rfl (fun hB => ?_) (fun hB => ?_)
  · have hB' : ¬ HostS.there s page := by simpa using hB
    repeat (first|(refine Zd1 ?_; first|refine Zcx ?_|(refine Zd3 ?_; first|refine Zc0 rfl ?_|refine Zc1 rfl ?_|refine Zc2 rfl ?_)|refine Zcz (by first|exact Zat rfl|exact Zav rfl|exact Zaw rfl|exact Zaz rfl|exact Za2 rfl|exact Za1 rfl|exact Zau rfl|exact Za0 rfl|exact Zba rfl|exact Zce rfl (by omega)|exact Zbn rfl rfl|exact Zbr rfl rfl|exact Zbs rfl rfl|exact Zbq rfl rfl|exact Zbp rfl rfl|exact Zbo rfl rfl|exact Zcr rfl|exact Zbg rfl rfl (by omega)|exact Zbh rfl rfl (by omega)|exact Zbi rfl rfl (by omega)|exact Zco rfl rfl|exact Zdz rfl rfl|exact Zd0 rfl rfl|exact Za8 rfl rfl|exact Za9 rfl rfl|exact Za6 rfl rfl|exact Za7 rfl rfl|exact Zb1 rfl|exact Zca rfl rfl|exact Zcb rfl rfl|exact Zcv rfl rfl|exact Zcw rfl rfl|exact Zax rfl|exact Za3 rfl|exact Zay rfl|exact Zcl rfl rfl|exact Zb0 rfl|exact Zct|exact Zf3|exact Zar rfl|exact Zas rfl) ?_|(refine Zd4 ?_; refine Zc5 H rfl (by repeat constructor) rfl ?_)|(refine Zd5 ?_; (first|refine Zdb H rfl rfl (by repeat constructor) (by first|(simp only [wr_size, Array.size_setIfInBounds, List.size_toArray, List.length_cons, List.length_nil]; omega)|omega|(simp; done)|(simp; omega)) ?_|refine Zde H rfl rfl (by repeat constructor) (by first|(simp only [wr_size, Array.size_setIfInBounds, List.size_toArray, List.length_cons, List.length_nil]; omega)|omega|(simp; done)|(simp; omega)) ?_|refine Zdd H rfl rfl (by repeat constructor) (by first|(simp only [wr_size, Array.size_setIfInBounds, List.size_toArray, List.length_cons, List.length_nil]; omega)|omega|(simp; done)|(simp; omega)) ?_|refine Zdc H rfl rfl (by repeat constructor) (by first|(simp only [wr_size, Array.size_setIfInBounds, List.size_toArray, List.length_cons, List.length_nil]; omega)|omega|(simp; done)|(simp; omega)) ?_|refine Zda H rfl rfl rfl (by repeat constructor) (by first|(simp only [wr_size, Array.size_setIfInBounds, List.size_toArray, List.length_cons, List.length_nil]; omega)|omega|(simp; done)|(simp; omega)) ?_); clear H; intro w H))|(refine Zd6 ?_; first|refine Zd9 ?_|refine Zeb ?_|refine Zeh ?_|refine Zef ?_|refine Zed ?_|refine Zec ?_|refine Zee ?_|refine Zeg ?_|(refine Zd7 ?_; first|refine Zao rfl ?_|refine Zap rfl ?_))|(first|refine Zei ?_|refine Zej ?_|refine Zek ?_|refine Zel ?_|refine Zen ?_|refine Zem ?_|refine Zeo rfl ?_|refine Zep ?_|refine Zeq ?_|refine Zes ?_|refine Zet ?_)|refine Zd8 ?_)
    first|refine Ze6 rfl ?_|refine Ze7 rfl ?_|refine Ze8 rfl ?_|refine Ze9 rfl ?_|refine Zfa rfl rfl ?_|refine Zfb rfl rfl ?_|refine Zfc rfl rfl ?_|refine Ze2 ?_|refine Ze3 ?_
    simp only [HostS.writeR, if_neg hB']
    exact ⟨rfl, H.arr (by repeat (first|exact Arr.nil|exact Arr.stop|refine Arr.cons (by repeat constructor) ?_|refine Arr.skip ?_))⟩
  have hB' : HostS.there s page := by simpa using hB
  obtain ⟨bl, bc, logv, _, H1⟩ := (H.pick (A := hostA p s) (by repeat constructor)).host_get
  unfold hostB at H1
  clear H
  repeat (first|(refine Zd1 ?_; first|refine Zcx ?_|(refine Zd3 ?_; first|refine Zc0 rfl ?_|refine Zc1 rfl ?_|refine Zc2 rfl ?_)|refine Zcz (by first|exact Zat rfl|exact Zav rfl|exact Zaw rfl|exact Zaz rfl|exact Za2 rfl|exact Za1 rfl|exact Zau rfl|exact Za0 rfl|exact Zba rfl|exact Zce rfl (by omega)|exact Zbn rfl rfl|exact Zbr rfl rfl|exact Zbs rfl rfl|exact Zbq rfl rfl|exact Zbp rfl rfl|exact Zbo rfl rfl|exact Zcr rfl|exact Zbg rfl rfl (by omega)|exact Zbh rfl rfl (by omega)|exact Zbi rfl rfl (by omega)|exact Zco rfl rfl|exact Zdz rfl rfl|exact Zd0 rfl rfl|exact Za8 rfl rfl|exact Za9 rfl rfl|exact Za6 rfl rfl|exact Za7 rfl rfl|exact Zb1 rfl|exact Zca rfl rfl|exact Zcb rfl rfl|exact Zcv rfl rfl|exact Zcw rfl rfl|exact Zax rfl|exact Za3 rfl|exact Zay rfl|exact Zcl rfl rfl|exact Zb0 rfl|exact Zct|exact Zf3|exact Zar rfl|exact Zas rfl) ?_|(refine Zd4 ?_; refine Zc5 H rfl (by repeat constructor) rfl ?_)|(refine Zd5 ?_; (first|refine Zdb H rfl rfl (by repeat constructor) (by first|(simp only [wr_size, Array.size_setIfInBounds, List.size_toArray, List.length_cons, List.length_nil]; omega)|omega|(simp; done)|(simp; omega)) ?_|refine Zde H rfl rfl (by repeat constructor) (by first|(simp only [wr_size, Array.size_setIfInBounds, List.size_toArray, List.length_cons, List.length_nil]; omega)|omega|(simp; done)|(simp; omega)) ?_|refine Zdd H rfl rfl (by repeat constructor) (by first|(simp only [wr_size, Array.size_setIfInBounds, List.size_toArray, List.length_cons, List.length_nil]; omega)|omega|(simp; done)|(simp; omega)) ?_|refine Zdc H rfl rfl (by repeat constructor) (by first|(simp only [wr_size, Array.size_setIfInBounds, List.size_toArray, List.length_cons, List.length_nil]; omega)|omega|(simp; done)|(simp; omega)) ?_|refine Zda H rfl rfl rfl (by repeat constructor) (by first|(simp only [wr_size, Array.size_setIfInBounds, List.size_toArray, List.length_cons, List.length_nil]; omega)|omega|(simp; done)|(simp; omega)) ?_); clear H; intro w H))|(refine Zd6 ?_; first|refine Zd9 ?_|refine Zeb ?_|refine Zeh ?_|refine Zef ?_|refine Zed ?_|refine Zec ?_|refine Zee ?_|refine Zeg ?_|(refine Zd7 ?_; first|refine Zao rfl ?_|refine Zap rfl ?_))|(first|refine Zei ?_|refine Zej ?_|refine Zek ?_|refine Zel ?_|refine Zen ?_|refine Zem ?_|refine Zeo rfl ?_|refine Zep ?_|refine Zeq ?_|refine Zes ?_|refine Zet ?_)|refine Zd8 ?_)
  refine Zez H1 [(0, true, false), (1, true, false), (2, true, false), (3, true, false), (4, true, false), (5, true, false), (6, true, false), (7, true, false)] (by kernel_rfl) ?_
  clear H1; intro w HS
  repeat (refine Ze1 ?_; first|refine Zds rfl (by first|exact Zat rfl|exact Zav rfl|exact Zaw rfl|exact Zaz rfl|exact Za2 rfl|exact Za1 rfl|exact Zau rfl|exact Za0 rfl|exact Zba rfl|exact Zce rfl (by omega)|exact Zbn rfl rfl|exact Zbr rfl rfl|exact Zbs rfl rfl|exact Zbq rfl rfl|exact Zbp rfl rfl|exact Zbo rfl rfl|exact Zcr rfl|exact Zbg rfl rfl (by omega)|exact Zbh rfl rfl (by omega)|exact Zbi rfl rfl (by omega)|exact Zco rfl rfl|exact Zdz rfl rfl|exact Zd0 rfl rfl|exact Za8 rfl rfl|exact Za9 rfl rfl|exact Za6 rfl rfl|exact Za7 rfl rfl|exact Zb1 rfl|exact Zca rfl rfl|exact Zcb rfl rfl|exact Zcv rfl rfl|exact Zcw rfl rfl|exact Zax rfl|exact Za3 rfl|exact Zay rfl|exact Zcl rfl rfl|exact Zb0 rfl|exact Zct|exact Zf3|exact Zar rfl|exact Zas rfl) HS ?_|refine Zdt rfl rfl (by first|exact Zat rfl|exact Zav rfl|exact Zaw rfl|exact Zaz rfl|exact Za2 rfl|exact Za1 rfl|exact Zau rfl|exact Za0 rfl|exact Zba rfl|exact Zce rfl (by omega)|exact Zbn rfl rfl|exact Zbr rfl rfl|exact Zbs rfl rfl|exact Zbq rfl rfl|exact Zbp rfl rfl|exact Zbo rfl rfl|exact Zcr rfl|exact Zbg rfl rfl (by omega)|exact Zbh rfl rfl (by omega)|exact Zbi rfl rfl (by omega)|exact Zco rfl rfl|exact Zdz rfl rfl|exact Zd0 rfl rfl|exact Za8 rfl rfl|exact Za9 rfl rfl|exact Za6 rfl rfl|exact Za7 rfl rfl|exact Zb1 rfl|exact Zca rfl rfl|exact Zcb rfl rfl|exact Zcv rfl rfl|exact Zcw rfl rfl|exact Zax rfl|exact Za3 rfl|exact Zay rfl|exact Zcl rfl rfl|exact Zb0 rfl|exact Zct|exact Zf3|exact Zar rfl|exact Zas rfl) HS ?_|refine Zdx rfl rfl rfl (fun _ h => h) (by repeat constructor) rfl HS ?_|refine Zdw rfl rfl (fun _ h => h) (by repeat constructor) rfl HS ?_|refine Zfn rfl rfl rfl (fun _ h => h) (by repeat constructor) HS ?_)
  refine Zdr ?_
  have H : St w0 w (hostA p s :: cl xb #[.slice ba b.length bk] 37 :: cl xp #[.int .i64 page] 3 :: cl xh #[.pointer (some ⟨p, 0, none⟩)] 30 :: L) := St.host_mk (bl := bl) (bc := bc) (logv := logv) hsok HS
  clear HS
  repeat (first|(refine Zd1 ?_; first|refine Zcx ?_|(refine Zd3 ?_; first|refine Zc0 rfl ?_|refine Zc1 rfl ?_|refine Zc2 rfl ?_)|refine Zcz (by first|exact Zat rfl|exact Zav rfl|exact Zaw rfl|exact Zaz rfl|exact Za2 rfl|exact Za1 rfl|exact Zau rfl|exact Za0 rfl|exact Zba rfl|exact Zce rfl (by omega)|exact Zbn rfl rfl|exact Zbr rfl rfl|exact Zbs rfl rfl|exact Zbq rfl rfl|exact Zbp rfl rfl|exact Zbo rfl rfl|exact Zcr rfl|exact Zbg rfl rfl (by omega)|exact Zbh rfl rfl (by omega)|exact Zbi rfl rfl (by omega)|exact Zco rfl rfl|exact Zdz rfl rfl|exact Zd0 rfl rfl|exact Za8 rfl rfl|exact Za9 rfl rfl|exact Za6 rfl rfl|exact Za7 rfl rfl|exact Zb1 rfl|exact Zca rfl rfl|exact Zcb rfl rfl|exact Zcv rfl rfl|exact Zcw rfl rfl|exact Zax rfl|exact Za3 rfl|exact Zay rfl|exact Zcl rfl rfl|exact Zb0 rfl|exact Zct|exact Zf3|exact Zar rfl|exact Zas rfl) ?_|(refine Zd4 ?_; refine Zc5 H rfl (by repeat constructor) rfl ?_)|(refine Zd5 ?_; (first|refine Zdb H rfl rfl (by repeat constructor) (by first|(simp only [wr_size, Array.size_setIfInBounds, List.size_toArray, List.length_cons, List.length_nil]; omega)|omega|(simp; done)|(simp; omega)) ?_|refine Zde H rfl rfl (by repeat constructor) (by first|(simp only [wr_size, Array.size_setIfInBounds, List.size_toArray, List.length_cons, List.length_nil]; omega)|omega|(simp; done)|(simp; omega)) ?_|refine Zdd H rfl rfl (by repeat constructor) (by first|(simp only [wr_size, Array.size_setIfInBounds, List.size_toArray, List.length_cons, List.length_nil]; omega)|omega|(simp; done)|(simp; omega)) ?_|refine Zdc H rfl rfl (by repeat constructor) (by first|(simp only [wr_size, Array.size_setIfInBounds, List.size_toArray, List.length_cons, List.length_nil]; omega)|omega|(simp; done)|(simp; omega)) ?_|refine Zda H rfl rfl rfl (by repeat constructor) (by first|(simp only [wr_size, Array.size_setIfInBounds, List.size_toArray, List.length_cons, List.length_nil]; omega)|omega|(simp; done)|(simp; omega)) ?_); clear H; intro w H))|(refine Zd6 ?_; first|refine Zd9 ?_|refine Zeb ?_|refine Zeh ?_|refine Zef ?_|refine Zed ?_|refine Zec ?_|refine Zee ?_|refine Zeg ?_|(refine Zd7 ?_; first|refine Zao rfl ?_|refine Zap rfl ?_))|(first|refine Zei ?_|refine Zej ?_|refine Zek ?_|refine Zel ?_|refine Zen ?_|refine Zem ?_|refine Zeo rfl ?_|refine Zep ?_|refine Zeq ?_|refine Zes ?_|refine Zet ?_)|refine Zd8 ?_)
  refine Zaq rfl (fun hB => ?_) (fun hB => ?_)
  · have hB2 : b.length ≠ s.size := by omega
    repeat (first|(refine Zd1 ?_; first|refine Zcx ?_|(refine Zd3 ?_; first|refine Zc0 rfl ?_|refine Zc1 rfl ?_|refine Zc2 rfl ?_)|refine Zcz (by first|exact Zat rfl|exact Zav rfl|exact Zaw rfl|exact Zaz rfl|exact Za2 rfl|exact Za1 rfl|exact Zau rfl|exact Za0 rfl|exact Zba rfl|exact Zce rfl (by omega)|exact Zbn rfl rfl|exact Zbr rfl rfl|exact Zbs rfl rfl|exact Zbq rfl rfl|exact Zbp rfl rfl|exact Zbo rfl rfl|exact Zcr rfl|exact Zbg rfl rfl (by omega)|exact Zbh rfl rfl (by omega)|exact Zbi rfl rfl (by omega)|exact Zco rfl rfl|exact Zdz rfl rfl|exact Zd0 rfl rfl|exact Za8 rfl rfl|exact Za9 rfl rfl|exact Za6 rfl rfl|exact Za7 rfl rfl|exact Zb1 rfl|exact Zca rfl rfl|exact Zcb rfl rfl|exact Zcv rfl rfl|exact Zcw rfl rfl|exact Zax rfl|exact Za3 rfl|exact Zay rfl|exact Zcl rfl rfl|exact Zb0 rfl|exact Zct|exact Zf3|exact Zar rfl|exact Zas rfl) ?_|(refine Zd4 ?_; refine Zc5 H rfl (by repeat constructor) rfl ?_)|(refine Zd5 ?_; (first|refine Zdb H rfl rfl (by repeat constructor) (by first|(simp only [wr_size, Array.size_setIfInBounds, List.size_toArray, List.length_cons, List.length_nil]; omega)|omega|(simp; done)|(simp; omega)) ?_|refine Zde H rfl rfl (by repeat constructor) (by first|(simp only [wr_size, Array.size_setIfInBounds, List.size_toArray, List.length_cons, List.length_nil]; omega)|omega|(simp; done)|(simp; omega)) ?_|refine Zdd H rfl rfl (by repeat constructor) (by first|(simp only [wr_size, Array.size_setIfInBounds, List.size_toArray, List.length_cons, List.length_nil]; omega)|omega|(simp; done)|(simp; omega)) ?_|refine Zdc H rfl rfl (by repeat constructor) (by first|(simp only [wr_size, Array.size_setIfInBounds, List.size_toArray, List.length_cons, List.length_nil]; omega)|omega|(simp; done)|(simp; omega)) ?_|refine Zda H rfl rfl rfl (by repeat constructor) (by first|(simp only [wr_size, Array.size_setIfInBounds, List.size_toArray, List.length_cons, List.length_nil]; omega)|omega|(simp; done)|(simp; omega)) ?_); clear H; intro w H))|(refine Zd6 ?_; first|refine Zd9 ?_|refine Zeb ?_|refine Zeh ?_|refine Zef ?_|refine Zed ?_|refine Zec ?_|refine Zee ?_|refine Zeg ?_|(refine Zd7 ?_; first|refine Zao rfl ?_|refine Zap rfl ?_))|(first|refine Zei ?_|refine Zej ?_|refine Zek ?_|refine Zel ?_|refine Zen ?_|refine Zem ?_|refine Zeo rfl ?_|refine Zep ?_|refine Zeq ?_|refine Zes ?_|refine Zet ?_)|refine Zd8 ?_)
    first|refine Ze6 rfl ?_|refine Ze7 rfl ?_|refine Ze8 rfl ?_|refine Ze9 rfl ?_|refine Zfa rfl rfl ?_|refine Zfb rfl rfl ?_|refine Zfc rfl rfl ?_|refine Ze2 ?_|refine Ze3 ?_
    simp only [HostS.writeR, if_pos hB', if_neg hB2]
    exact ⟨rfl, H.arr (by repeat (first|exact Arr.nil|exact Arr.stop|refine Arr.cons (by repeat constructor) ?_|refine Arr.skip ?_))⟩
  have hB2 : b.length = s.size := by omega
  have hact : HostS.done s = true → ActC w0 p (HostS.logged s 1 page b) (HostS.wrote page b (HostS.logged s 1 page b)) (s.coming s.ops) 48 #[.pointer (some ⟨xh, 0, none⟩), .pointer (some ⟨xp, 0, none⟩), .pointer (some ⟨xb, 0, none⟩)]
      (cl xb #[.slice ba b.length bk] 37 :: cl xp #[.int .i64 page] 3 :: cl xh #[.pointer (some ⟨p, 0, none⟩)] 30 :: L) (cl xh #[.pointer (some ⟨p, 0, none⟩)] 30 :: cl xp #[.int .i64 page] 3 :: cl xb #[.slice ba b.length bk] 37 :: L) := by
    intro _ w fv H
    have hok2 : HostS.Ok (HostS.logged s 1 page b) := by obtain ⟨_, _, _, h, _⟩ := (H.pick (A := hostA p (HostS.logged s 1 page b)) (by repeat constructor)).host_get; exact h
    exact (write1_c (p := p) (s := HostS.logged s 1 page b) (L := faultsA fv (s.coming s.ops) :: L) page xh xp xb fv (by show s.ops + 1 ≤ _; omega) hB2 (ok_wrote page 1 b hB2 hsok hok2) (fun w' H' => hbs w' H'.drop) ⟨_, _, rfl⟩ (H.arr (by repeat (first|exact Arr.nil|exact Arr.stop|refine Arr.cons (by repeat constructor) ?_|refine Arr.skip ?_)))).mono (Ret.mono fun v w h => h.arr (by repeat (first|exact Arr.nil|exact Arr.stop|refine Arr.cons (by repeat constructor) ?_|refine Arr.skip ?_)))
  repeat (first|(refine Zd1 ?_; first|refine Zcx ?_|(refine Zd3 ?_; first|refine Zc0 rfl ?_|refine Zc1 rfl ?_|refine Zc2 rfl ?_)|refine Zcz (by first|exact Zat rfl|exact Zav rfl|exact Zaw rfl|exact Zaz rfl|exact Za2 rfl|exact Za1 rfl|exact Zau rfl|exact Za0 rfl|exact Zba rfl|exact Zce rfl (by omega)|exact Zbn rfl rfl|exact Zbr rfl rfl|exact Zbs rfl rfl|exact Zbq rfl rfl|exact Zbp rfl rfl|exact Zbo rfl rfl|exact Zcr rfl|exact Zbg rfl rfl (by omega)|exact Zbh rfl rfl (by omega)|exact Zbi rfl rfl (by omega)|exact Zco rfl rfl|exact Zdz rfl rfl|exact Zd0 rfl rfl|exact Za8 rfl rfl|exact Za9 rfl rfl|exact Za6 rfl rfl|exact Za7 rfl rfl|exact Zb1 rfl|exact Zca rfl rfl|exact Zcb rfl rfl|exact Zcv rfl rfl|exact Zcw rfl rfl|exact Zax rfl|exact Za3 rfl|exact Zay rfl|exact Zcl rfl rfl|exact Zb0 rfl|exact Zct|exact Zf3|exact Zar rfl|exact Zas rfl) ?_|(refine Zd4 ?_; refine Zc5 H rfl (by repeat constructor) rfl ?_)|(refine Zd5 ?_; (first|refine Zdb H rfl rfl (by repeat constructor) (by first|(simp only [wr_size, Array.size_setIfInBounds, List.size_toArray, List.length_cons, List.length_nil]; omega)|omega|(simp; done)|(simp; omega)) ?_|refine Zde H rfl rfl (by repeat constructor) (by first|(simp only [wr_size, Array.size_setIfInBounds, List.size_toArray, List.length_cons, List.length_nil]; omega)|omega|(simp; done)|(simp; omega)) ?_|refine Zdd H rfl rfl (by repeat constructor) (by first|(simp only [wr_size, Array.size_setIfInBounds, List.size_toArray, List.length_cons, List.length_nil]; omega)|omega|(simp; done)|(simp; omega)) ?_|refine Zdc H rfl rfl (by repeat constructor) (by first|(simp only [wr_size, Array.size_setIfInBounds, List.size_toArray, List.length_cons, List.length_nil]; omega)|omega|(simp; done)|(simp; omega)) ?_|refine Zda H rfl rfl rfl (by repeat constructor) (by first|(simp only [wr_size, Array.size_setIfInBounds, List.size_toArray, List.length_cons, List.length_nil]; omega)|omega|(simp; done)|(simp; omega)) ?_); clear H; intro w H))|(refine Zd6 ?_; first|refine Zd9 ?_|refine Zeb ?_|refine Zeh ?_|refine Zef ?_|refine Zed ?_|refine Zec ?_|refine Zee ?_|refine Zeg ?_|(refine Zd7 ?_; first|refine Zao rfl ?_|refine Zap rfl ?_))|(first|refine Zei ?_|refine Zej ?_|refine Zek ?_|refine Zel ?_|refine Zen ?_|refine Zem ?_|refine Zeo rfl ?_|refine Zep ?_|refine Zeq ?_|refine Zes ?_|refine Zet ?_)|refine Zd8 ?_)
  refine Zdp rfl (by kernel_rfl) (does_c (L2 := cl xh #[.pointer (some ⟨p, 0, none⟩)] 30 :: cl xp #[.int .i64 page] 3 :: cl xb #[.slice ba b.length bk] 37 :: L) (b := b) 1 page (HostS.wrote page b) H hops (fun _ w' H' => hbs w' (H'.arr (by repeat (first|exact Arr.nil|exact Arr.stop|refine Arr.cons (by repeat constructor) ?_|refine Arr.skip ?_)))) ⟨_, _, _, rfl⟩ (by kernel_rfl) hact (fun h0 h => ok_wrote page 1 b hB2 h0 h) (fun _ => rfl)) rfl ?_
  clear H; rintro v w ⟨rfl, H⟩
  repeat (first|(refine Zd1 ?_; first|refine Zcx ?_|(refine Zd3 ?_; first|refine Zc0 rfl ?_|refine Zc1 rfl ?_|refine Zc2 rfl ?_)|refine Zcz (by first|exact Zat rfl|exact Zav rfl|exact Zaw rfl|exact Zaz rfl|exact Za2 rfl|exact Za1 rfl|exact Zau rfl|exact Za0 rfl|exact Zba rfl|exact Zce rfl (by omega)|exact Zbn rfl rfl|exact Zbr rfl rfl|exact Zbs rfl rfl|exact Zbq rfl rfl|exact Zbp rfl rfl|exact Zbo rfl rfl|exact Zcr rfl|exact Zbg rfl rfl (by omega)|exact Zbh rfl rfl (by omega)|exact Zbi rfl rfl (by omega)|exact Zco rfl rfl|exact Zdz rfl rfl|exact Zd0 rfl rfl|exact Za8 rfl rfl|exact Za9 rfl rfl|exact Za6 rfl rfl|exact Za7 rfl rfl|exact Zb1 rfl|exact Zca rfl rfl|exact Zcb rfl rfl|exact Zcv rfl rfl|exact Zcw rfl rfl|exact Zax rfl|exact Za3 rfl|exact Zay rfl|exact Zcl rfl rfl|exact Zb0 rfl|exact Zct|exact Zf3|exact Zar rfl|exact Zas rfl) ?_|(refine Zd4 ?_; refine Zc5 H rfl (by repeat constructor) rfl ?_)|(refine Zd5 ?_; (first|refine Zdb H rfl rfl (by repeat constructor) (by first|(simp only [wr_size, Array.size_setIfInBounds, List.size_toArray, List.length_cons, List.length_nil]; omega)|omega|(simp; done)|(simp; omega)) ?_|refine Zde H rfl rfl (by repeat constructor) (by first|(simp only [wr_size, Array.size_setIfInBounds, List.size_toArray, List.length_cons, List.length_nil]; omega)|omega|(simp; done)|(simp; omega)) ?_|refine Zdd H rfl rfl (by repeat constructor) (by first|(simp only [wr_size, Array.size_setIfInBounds, List.size_toArray, List.length_cons, List.length_nil]; omega)|omega|(simp; done)|(simp; omega)) ?_|refine Zdc H rfl rfl (by repeat constructor) (by first|(simp only [wr_size, Array.size_setIfInBounds, List.size_toArray, List.length_cons, List.length_nil]; omega)|omega|(simp; done)|(simp; omega)) ?_|refine Zda H rfl rfl rfl (by repeat constructor) (by first|(simp only [wr_size, Array.size_setIfInBounds, List.size_toArray, List.length_cons, List.length_nil]; omega)|omega|(simp; done)|(simp; omega)) ?_); clear H; intro w H))|(refine Zd6 ?_; first|refine Zd9 ?_|refine Zeb ?_|refine Zeh ?_|refine Zef ?_|refine Zed ?_|refine Zec ?_|refine Zee ?_|refine Zeg ?_|(refine Zd7 ?_; first|refine Zao rfl ?_|refine Zap rfl ?_))|(first|refine Zei ?_|refine Zej ?_|refine Zek ?_|refine Zel ?_|refine Zen ?_|refine Zem ?_|refine Zeo rfl ?_|refine Zep ?_|refine Zeq ?_|refine Zes ?_|refine Zet ?_)|refine Zd8 ?_)
  first|refine Ze6 rfl ?_|refine Ze7 rfl ?_|refine Ze8 rfl ?_|refine Ze9 rfl ?_|refine Zfa rfl rfl ?_|refine Zfb rfl rfl ?_|refine Zfc rfl rfl ?_|refine Ze2 ?_|refine Ze3 ?_
  simp only [HostS.writeR, if_pos hB', if_pos hB2]
  refine ⟨trivial, ?_⟩
  rcases H with ⟨_, H⟩|⟨_, H⟩
  · exact H.arr (by repeat (first|exact Arr.nil|exact Arr.stop|refine Arr.cons (by repeat constructor) ?_|refine Arr.skip ?_))
  · exact H.arr (by repeat (first|exact Arr.nil|exact Arr.stop|refine Arr.cons (by repeat constructor) ?_|refine Arr.skip ?_))
theorem spoilt_logged (op page : Int) (b : HostS.Bytes) (q : Int) (fl : List HostS.Fault) : HostS.spoilt (HostS.logged s op page b) q fl = HostS.spoilt s q fl := rfl
theorem read_c (page : Int) (hops : s.ops < 3298534883328) (H : St w0 w (hostA p s :: L)) :
    Calls Try.prog 22 #[.pointer (some ⟨p, 0, none⟩), .int .i64 page] w
      (Ret fun v w' => ∃ bv, v = .tuple #[bv, .int .i64 (HostS.readR s page).2.1] ∧ St w0 w' (bytesA bv (HostS.readR s page).1 :: hostA p (HostS.readR s page).2.2 :: L)) := by
  have hsok : HostS.Ok s := by obtain ⟨_, _, _, h, _⟩ := H.host_get; exact h
  refine calls_den [_, _] Try.func22 rfl rfl rfl Try.mixed (by kernel_rfl) ?_
  repeat (first|(refine Zd1 ?_; first|refine Zcx ?_|(refine Zd3 ?_; first|refine Zc0 rfl ?_|refine Zc1 rfl ?_|refine Zc2 rfl ?_)|refine Zcz (by first|exact Zat rfl|exact Zav rfl|exact Zaw rfl|exact Zaz rfl|exact Za2 rfl|exact Za1 rfl|exact Zau rfl|exact Za0 rfl|exact Zba rfl|exact Zce rfl (by omega)|exact Zbn rfl rfl|exact Zbr rfl rfl|exact Zbs rfl rfl|exact Zbq rfl rfl|exact Zbp rfl rfl|exact Zbo rfl rfl|exact Zcr rfl|exact Zbg rfl rfl (by omega)|exact Zbh rfl rfl (by omega)|exact Zbi rfl rfl (by omega)|exact Zco rfl rfl|exact Zdz rfl rfl|exact Zd0 rfl rfl|exact Za8 rfl rfl|exact Za9 rfl rfl|exact Za6 rfl rfl|exact Za7 rfl rfl|exact Zb1 rfl|exact Zca rfl rfl|exact Zcb rfl rfl|exact Zcv rfl rfl|exact Zcw rfl rfl|exact Zax rfl|exact Za3 rfl|exact Zay rfl|exact Zcl rfl rfl|exact Zb0 rfl|exact Zct|exact Zf3|exact Zar rfl|exact Zas rfl) ?_|(refine Zd4 ?_; refine Zc5 H rfl (by repeat constructor) rfl ?_)|(refine Zd5 ?_; (first|refine Zdb H rfl rfl (by repeat constructor) (by first|(simp only [wr_size, Array.size_setIfInBounds, List.size_toArray, List.length_cons, List.length_nil]; omega)|omega|(simp; done)|(simp; omega)) ?_|refine Zde H rfl rfl (by repeat constructor) (by first|(simp only [wr_size, Array.size_setIfInBounds, List.size_toArray, List.length_cons, List.length_nil]; omega)|omega|(simp; done)|(simp; omega)) ?_|refine Zdd H rfl rfl (by repeat constructor) (by first|(simp only [wr_size, Array.size_setIfInBounds, List.size_toArray, List.length_cons, List.length_nil]; omega)|omega|(simp; done)|(simp; omega)) ?_|refine Zdc H rfl rfl (by repeat constructor) (by first|(simp only [wr_size, Array.size_setIfInBounds, List.size_toArray, List.length_cons, List.length_nil]; omega)|omega|(simp; done)|(simp; omega)) ?_|refine Zda H rfl rfl rfl (by repeat constructor) (by first|(simp only [wr_size, Array.size_setIfInBounds, List.size_toArray, List.length_cons, List.length_nil]; omega)|omega|(simp; done)|(simp; omega)) ?_); clear H; intro w H))|(refine Zd6 ?_; first|refine Zd9 ?_|refine Zeb ?_|refine Zeh ?_|refine Zef ?_|refine Zed ?_|refine Zec ?_|refine Zee ?_|refine Zeg ?_|(refine Zd7 ?_; first|refine Zao rfl ?_|refine Zap rfl ?_))|(first|refine Zei ?_|refine Zej ?_|refine Zek ?_|refine Zel ?_|refine Zen ?_|refine Zem ?_|refine Zeo rfl ?_|refine Zep ?_|refine Zeq ?_|refine Zes ?_|refine Zet ?_)|refine Zd8 ?_)
  (first|refine Zfw H rfl ?_|refine Zfx H rfl ?_|refine Zfy H rfl ?_|refine Zfz H rfl ?_|refine Zf0 H rfl ?_|refine Zdj H rfl ?_); clear H; intro w xh H
  repeat (first|(refine Zd1 ?_; first|refine Zcx ?_|(refine Zd3 ?_; first|refine Zc0 rfl ?_|refine Zc1 rfl ?_|refine Zc2 rfl ?_)|refine Zcz (by first|exact Zat rfl|exact Zav rfl|exact Zaw rfl|exact Zaz rfl|exact Za2 rfl|exact Za1 rfl|exact Zau rfl|exact Za0 rfl|exact Zba rfl|exact Zce rfl (by omega)|exact Zbn rfl rfl|exact Zbr rfl rfl|exact Zbs rfl rfl|exact Zbq rfl rfl|exact Zbp rfl rfl|exact Zbo rfl rfl|exact Zcr rfl|exact Zbg rfl rfl (by omega)|exact Zbh rfl rfl (by omega)|exact Zbi rfl rfl (by omega)|exact Zco rfl rfl|exact Zdz rfl rfl|exact Zd0 rfl rfl|exact Za8 rfl rfl|exact Za9 rfl rfl|exact Za6 rfl rfl|exact Za7 rfl rfl|exact Zb1 rfl|exact Zca rfl rfl|exact Zcb rfl rfl|exact Zcv rfl rfl|exact Zcw rfl rfl|exact Zax rfl|exact Za3 rfl|exact Zay rfl|exact Zcl rfl rfl|exact Zb0 rfl|exact Zct|exact Zf3|exact Zar rfl|exact Zas rfl) ?_|(refine Zd4 ?_; refine Zc5 H rfl (by repeat constructor) rfl ?_)|(refine Zd5 ?_; (first|refine Zdb H rfl rfl (by repeat constructor) (by first|(simp only [wr_size, Array.size_setIfInBounds, List.size_toArray, List.length_cons, List.length_nil]; omega)|omega|(simp; done)|(simp; omega)) ?_|refine Zde H rfl rfl (by repeat constructor) (by first|(simp only [wr_size, Array.size_setIfInBounds, List.size_toArray, List.length_cons, List.length_nil]; omega)|omega|(simp; done)|(simp; omega)) ?_|refine Zdd H rfl rfl (by repeat constructor) (by first|(simp only [wr_size, Array.size_setIfInBounds, List.size_toArray, List.length_cons, List.length_nil]; omega)|omega|(simp; done)|(simp; omega)) ?_|refine Zdc H rfl rfl (by repeat constructor) (by first|(simp only [wr_size, Array.size_setIfInBounds, List.size_toArray, List.length_cons, List.length_nil]; omega)|omega|(simp; done)|(simp; omega)) ?_|refine Zda H rfl rfl rfl (by repeat constructor) (by first|(simp only [wr_size, Array.size_setIfInBounds, List.size_toArray, List.length_cons, List.length_nil]; omega)|omega|(simp; done)|(simp; omega)) ?_); clear H; intro w H))|(refine Zd6 ?_; first|refine Zd9 ?_|refine Zeb ?_|refine Zeh ?_|refine Zef ?_|refine Zed ?_|refine Zec ?_|refine Zee ?_|refine Zeg ?_|(refine Zd7 ?_; first|refine Zao rfl ?_|refine Zap rfl ?_))|(first|refine Zei ?_|refine Zej ?_|refine Zek ?_|refine Zel ?_|refine Zen ?_|refine Zem ?_|refine Zeo rfl ?_|refine Zep ?_|refine Zeq ?_|refine Zes ?_|refine Zet ?_)|refine Zd8 ?_)
  (first|refine Zfw H rfl ?_|refine Zfx H rfl ?_|refine Zfy H rfl ?_|refine Zfz H rfl ?_|refine Zf0 H rfl ?_|refine Zdj H rfl ?_); clear H; intro w xp H
  repeat (first|(refine Zd1 ?_; first|refine Zcx ?_|(refine Zd3 ?_; first|refine Zc0 rfl ?_|refine Zc1 rfl ?_|refine Zc2 rfl ?_)|refine Zcz (by first|exact Zat rfl|exact Zav rfl|exact Zaw rfl|exact Zaz rfl|exact Za2 rfl|exact Za1 rfl|exact Zau rfl|exact Za0 rfl|exact Zba rfl|exact Zce rfl (by omega)|exact Zbn rfl rfl|exact Zbr rfl rfl|exact Zbs rfl rfl|exact Zbq rfl rfl|exact Zbp rfl rfl|exact Zbo rfl rfl|exact Zcr rfl|exact Zbg rfl rfl (by omega)|exact Zbh rfl rfl (by omega)|exact Zbi rfl rfl (by omega)|exact Zco rfl rfl|exact Zdz rfl rfl|exact Zd0 rfl rfl|exact Za8 rfl rfl|exact Za9 rfl rfl|exact Za6 rfl rfl|exact Za7 rfl rfl|exact Zb1 rfl|exact Zca rfl rfl|exact Zcb rfl rfl|exact Zcv rfl rfl|exact Zcw rfl rfl|exact Zax rfl|exact Za3 rfl|exact Zay rfl|exact Zcl rfl rfl|exact Zb0 rfl|exact Zct|exact Zf3|exact Zar rfl|exact Zas rfl) ?_|(refine Zd4 ?_; refine Zc5 H rfl (by repeat constructor) rfl ?_)|(refine Zd5 ?_; (first|refine Zdb H rfl rfl (by repeat constructor) (by first|(simp only [wr_size, Array.size_setIfInBounds, List.size_toArray, List.length_cons, List.length_nil]; omega)|omega|(simp; done)|(simp; omega)) ?_|refine Zde H rfl rfl (by repeat constructor) (by first|(simp only [wr_size, Array.size_setIfInBounds, List.size_toArray, List.length_cons, List.length_nil]; omega)|omega|(simp; done)|(simp; omega)) ?_|refine Zdd H rfl rfl (by repeat constructor) (by first|(simp only [wr_size, Array.size_setIfInBounds, List.size_toArray, List.length_cons, List.length_nil]; omega)|omega|(simp; done)|(simp; omega)) ?_|refine Zdc H rfl rfl (by repeat constructor) (by first|(simp only [wr_size, Array.size_setIfInBounds, List.size_toArray, List.length_cons, List.length_nil]; omega)|omega|(simp; done)|(simp; omega)) ?_|refine Zda H rfl rfl rfl (by repeat constructor) (by first|(simp only [wr_size, Array.size_setIfInBounds, List.size_toArray, List.length_cons, List.length_nil]; omega)|omega|(simp; done)|(simp; omega)) ?_); clear H; intro w H))|(refine Zd6 ?_; first|refine Zd9 ?_|refine Zeb ?_|refine Zeh ?_|refine Zef ?_|refine Zed ?_|refine Zec ?_|refine Zee ?_|refine Zeg ?_|(refine Zd7 ?_; first|refine Zao rfl ?_|refine Zap rfl ?_))|(first|refine Zei ?_|refine Zej ?_|refine Zek ?_|refine Zel ?_|refine Zen ?_|refine Zem ?_|refine Zeo rfl ?_|refine Zep ?_|refine Zeq ?_|refine Zes ?_|refine Zet ?_)|refine Zd8 ?_)
  refine Zdp rfl (by kernel_rfl) (there_c page (H.pick (A := hostA p s) (by repeat constructor))) rfl ?_
  rintro v w ⟨rfl, rfl⟩
  repeat (first|(refine Zd1 ?_; first|refine Zcx ?_|(refine Zd3 ?_; first|refine Zc0 rfl ?_|refine Zc1 rfl ?_|refine Zc2 rfl ?_)|refine Zcz (by first|exact Zat rfl|exact Zav rfl|exact Zaw rfl|exact Zaz rfl|exact Za2 rfl|exact Za1 rfl|exact Zau rfl|exact Za0 rfl|exact Zba rfl|exact Zce rfl (by omega)|exact Zbn rfl rfl|exact Zbr rfl rfl|exact Zbs rfl rfl|exact Zbq rfl rfl|exact Zbp rfl rfl|exact Zbo rfl rfl|exact Zcr rfl|exact Zbg rfl rfl (by omega)|exact Zbh rfl rfl (by omega)|exact Zbi rfl rfl (by omega)|exact Zco rfl rfl|exact Zdz rfl rfl|exact Zd0 rfl rfl|exact Za8 rfl rfl|exact Za9 rfl rfl|exact Za6 rfl rfl|exact Za7 rfl rfl|exact Zb1 rfl|exact Zca rfl rfl|exact Zcb rfl rfl|exact Zcv rfl rfl|exact Zcw rfl rfl|exact Zax rfl|exact Za3 rfl|exact Zay rfl|exact Zcl rfl rfl|exact Zb0 rfl|exact Zct|exact Zf3|exact Zar rfl|exact Zas rfl) ?_|(refine Zd4 ?_; refine Zc5 H rfl (by repeat constructor) rfl ?_)|(refine Zd5 ?_; (first|refine Zdb H rfl rfl (by repeat constructor) (by first|(simp only [wr_size, Array.size_setIfInBounds, List.size_toArray, List.length_cons, List.length_nil]; omega)|omega|(simp; done)|(simp; omega)) ?_|refine Zde H rfl rfl (by repeat constructor) (by first|(simp only [wr_size, Array.size_setIfInBounds, List.size_toArray, List.length_cons, List.length_nil]; omega)|omega|(simp; done)|(simp; omega)) ?_|refine Zdd H rfl rfl (by repeat constructor) (by first|(simp only [wr_size, Array.size_setIfInBounds, List.size_toArray, List.length_cons, List.length_nil]; omega)|omega|(simp; done)|(simp; omega)) ?_|refine Zdc H rfl rfl (by repeat constructor) (by first|(simp only [wr_size, Array.size_setIfInBounds, List.size_toArray, List.length_cons, List.length_nil]; omega)|omega|(simp; done)|(simp; omega)) ?_|refine Zda H rfl rfl rfl (by repeat constructor) (by first|(simp only [wr_size, Array.size_setIfInBounds, List.size_toArray, List.length_cons, List.length_nil]; omega)|omega|(simp; done)|(simp; omega)) ?_); clear H; intro w H))|(refine Zd6 ?_; first|refine Zd9 ?_|refine Zeb ?_|refine Zeh ?_|refine Zef ?_|refine Zed ?_|refine Zec ?_|refine Zee ?_|refine Zeg ?_|(refine Zd7 ?_; first|refine Zao rfl ?_|refine Zap rfl ?_))|(first|refine Zei ?_|refine Zej ?_|refine Zek ?_|refine Zel ?_|refine Zen ?_|refine Zem ?_|refine Zeo rfl ?_|refine Zep ?_|refine Zeq ?_|refine Zes ?_|refine Zet ?_)|refine Zd8 ?_)
  refine Zaq rfl (fun hB => ?_) (fun hB => ?_)
  · have hB' : ¬ HostS.there s page := by simpa using hB
    repeat (first|(refine Zd1 ?_; first|refine Zcx ?_|(refine Zd3 ?_; first|refine Zc0 rfl ?_|refine Zc1 rfl ?_|refine Zc2 rfl ?_)|refine Zcz (by first|exact Zat rfl|exact Zav rfl|exact Zaw rfl|exact Zaz rfl|exact Za2 rfl|exact Za1 rfl|exact Zau rfl|exact Za0 rfl|exact Zba rfl|exact Zce rfl (by omega)|exact Zbn rfl rfl|exact Zbr rfl rfl|exact Zbs rfl rfl|exact Zbq rfl rfl|exact Zbp rfl rfl|exact Zbo rfl rfl|exact Zcr rfl|exact Zbg rfl rfl (by omega)|exact Zbh rfl rfl (by omega)|exact Zbi rfl rfl (by omega)|exact Zco rfl rfl|exact Zdz rfl rfl|exact Zd0 rfl rfl|exact Za8 rfl rfl|exact Za9 rfl rfl|exact Za6 rfl rfl|exact Za7 rfl rfl|exact Zb1 rfl|exact Zca rfl rfl|exact Zcb rfl rfl|exact Zcv rfl rfl|exact Zcw rfl rfl|exact Zax rfl|exact Za3 rfl|exact Zay rfl|exact Zcl rfl rfl|exact Zb0 rfl|exact Zct|exact Zf3|exact Zar rfl|exact Zas rfl) ?_|(refine Zd4 ?_; refine Zc5 H rfl (by repeat constructor) rfl ?_)|(refine Zd5 ?_; (first|refine Zdb H rfl rfl (by repeat constructor) (by first|(simp only [wr_size, Array.size_setIfInBounds, List.size_toArray, List.length_cons, List.length_nil]; omega)|omega|(simp; done)|(simp; omega)) ?_|refine Zde H rfl rfl (by repeat constructor) (by first|(simp only [wr_size, Array.size_setIfInBounds, List.size_toArray, List.length_cons, List.length_nil]; omega)|omega|(simp; done)|(simp; omega)) ?_|refine Zdd H rfl rfl (by repeat constructor) (by first|(simp only [wr_size, Array.size_setIfInBounds, List.size_toArray, List.length_cons, List.length_nil]; omega)|omega|(simp; done)|(simp; omega)) ?_|refine Zdc H rfl rfl (by repeat constructor) (by first|(simp only [wr_size, Array.size_setIfInBounds, List.size_toArray, List.length_cons, List.length_nil]; omega)|omega|(simp; done)|(simp; omega)) ?_|refine Zda H rfl rfl rfl (by repeat constructor) (by first|(simp only [wr_size, Array.size_setIfInBounds, List.size_toArray, List.length_cons, List.length_nil]; omega)|omega|(simp; done)|(simp; omega)) ?_); clear H; intro w H))|(refine Zd6 ?_; first|refine Zd9 ?_|refine Zeb ?_|refine Zeh ?_|refine Zef ?_|refine Zed ?_|refine Zec ?_|refine Zee ?_|refine Zeg ?_|(refine Zd7 ?_; first|refine Zao rfl ?_|refine Zap rfl ?_))|(first|refine Zei ?_|refine Zej ?_|refine Zek ?_|refine Zel ?_|refine Zen ?_|refine Zem ?_|refine Zeo rfl ?_|refine Zep ?_|refine Zeq ?_|refine Zes ?_|refine Zet ?_)|refine Zd8 ?_)
    first|refine Ze6 rfl ?_|refine Ze7 rfl ?_|refine Ze8 rfl ?_|refine Ze9 rfl ?_|refine Zfa rfl rfl ?_|refine Zfb rfl rfl ?_|refine Zfc rfl rfl ?_|refine Ze2 ?_|refine Ze3 ?_
    simp only [HostS.readR, if_neg hB']
    exact ⟨_, rfl, St.own_nil (H.arr (by repeat (first|exact Arr.nil|exact Arr.stop|refine Arr.cons (by repeat constructor) ?_|refine Arr.skip ?_))) 5 1⟩
  have hB' : HostS.there s page := by simpa using hB
  repeat (first|(refine Zd1 ?_; first|refine Zcx ?_|(refine Zd3 ?_; first|refine Zc0 rfl ?_|refine Zc1 rfl ?_|refine Zc2 rfl ?_)|refine Zcz (by first|exact Zat rfl|exact Zav rfl|exact Zaw rfl|exact Zaz rfl|exact Za2 rfl|exact Za1 rfl|exact Zau rfl|exact Za0 rfl|exact Zba rfl|exact Zce rfl (by omega)|exact Zbn rfl rfl|exact Zbr rfl rfl|exact Zbs rfl rfl|exact Zbq rfl rfl|exact Zbp rfl rfl|exact Zbo rfl rfl|exact Zcr rfl|exact Zbg rfl rfl (by omega)|exact Zbh rfl rfl (by omega)|exact Zbi rfl rfl (by omega)|exact Zco rfl rfl|exact Zdz rfl rfl|exact Zd0 rfl rfl|exact Za8 rfl rfl|exact Za9 rfl rfl|exact Za6 rfl rfl|exact Za7 rfl rfl|exact Zb1 rfl|exact Zca rfl rfl|exact Zcb rfl rfl|exact Zcv rfl rfl|exact Zcw rfl rfl|exact Zax rfl|exact Za3 rfl|exact Zay rfl|exact Zcl rfl rfl|exact Zb0 rfl|exact Zct|exact Zf3|exact Zar rfl|exact Zas rfl) ?_|(refine Zd4 ?_; refine Zc5 H rfl (by repeat constructor) rfl ?_)|(refine Zd5 ?_; (first|refine Zdb H rfl rfl (by repeat constructor) (by first|(simp only [wr_size, Array.size_setIfInBounds, List.size_toArray, List.length_cons, List.length_nil]; omega)|omega|(simp; done)|(simp; omega)) ?_|refine Zde H rfl rfl (by repeat constructor) (by first|(simp only [wr_size, Array.size_setIfInBounds, List.size_toArray, List.length_cons, List.length_nil]; omega)|omega|(simp; done)|(simp; omega)) ?_|refine Zdd H rfl rfl (by repeat constructor) (by first|(simp only [wr_size, Array.size_setIfInBounds, List.size_toArray, List.length_cons, List.length_nil]; omega)|omega|(simp; done)|(simp; omega)) ?_|refine Zdc H rfl rfl (by repeat constructor) (by first|(simp only [wr_size, Array.size_setIfInBounds, List.size_toArray, List.length_cons, List.length_nil]; omega)|omega|(simp; done)|(simp; omega)) ?_|refine Zda H rfl rfl rfl (by repeat constructor) (by first|(simp only [wr_size, Array.size_setIfInBounds, List.size_toArray, List.length_cons, List.length_nil]; omega)|omega|(simp; done)|(simp; omega)) ?_); clear H; intro w H))|(refine Zd6 ?_; first|refine Zd9 ?_|refine Zeb ?_|refine Zeh ?_|refine Zef ?_|refine Zed ?_|refine Zec ?_|refine Zee ?_|refine Zeg ?_|(refine Zd7 ?_; first|refine Zao rfl ?_|refine Zap rfl ?_))|(first|refine Zei ?_|refine Zej ?_|refine Zek ?_|refine Zel ?_|refine Zen ?_|refine Zem ?_|refine Zeo rfl ?_|refine Zep ?_|refine Zeq ?_|refine Zes ?_|refine Zet ?_)|refine Zd8 ?_)
  refine Zf1 H rfl ?_; clear H; intro w xb H
  have hact : HostS.done s = true → ActC w0 p (HostS.logged s 0 page []) (id (HostS.logged s 0 page [])) (s.coming s.ops) 33 #[.pointer (some ⟨xh, 0, none⟩), .pointer (some ⟨xp, 0, none⟩), .pointer (some ⟨xb, 0, none⟩)]
      (cl xb #[.slice none 0 0] 37 :: cl xp #[.int .i64 page] 3 :: cl xh #[.pointer (some ⟨p, 0, none⟩)] 30 :: L) (readA (HostS.logged s 0 page []) page (s.coming s.ops) xb :: cl xh #[.pointer (some ⟨p, 0, none⟩)] 30 :: cl xp #[.int .i64 page] 3 :: L) := by
    intro _ w fv H
    exact (read1_c (p := p) (s := HostS.logged s 0 page []) (L := L) page xh xp xb fv (s.coming s.ops) (.slice none 0 0) (by show s.ops + 1 ≤ _; omega) (hsok.flt _) (hsok.fln _) (H.arr (by repeat (first|exact Arr.nil|exact Arr.stop|refine Arr.cons (by repeat constructor) ?_|refine Arr.skip ?_))))
  repeat (first|(refine Zd1 ?_; first|refine Zcx ?_|(refine Zd3 ?_; first|refine Zc0 rfl ?_|refine Zc1 rfl ?_|refine Zc2 rfl ?_)|refine Zcz (by first|exact Zat rfl|exact Zav rfl|exact Zaw rfl|exact Zaz rfl|exact Za2 rfl|exact Za1 rfl|exact Zau rfl|exact Za0 rfl|exact Zba rfl|exact Zce rfl (by omega)|exact Zbn rfl rfl|exact Zbr rfl rfl|exact Zbs rfl rfl|exact Zbq rfl rfl|exact Zbp rfl rfl|exact Zbo rfl rfl|exact Zcr rfl|exact Zbg rfl rfl (by omega)|exact Zbh rfl rfl (by omega)|exact Zbi rfl rfl (by omega)|exact Zco rfl rfl|exact Zdz rfl rfl|exact Zd0 rfl rfl|exact Za8 rfl rfl|exact Za9 rfl rfl|exact Za6 rfl rfl|exact Za7 rfl rfl|exact Zb1 rfl|exact Zca rfl rfl|exact Zcb rfl rfl|exact Zcv rfl rfl|exact Zcw rfl rfl|exact Zax rfl|exact Za3 rfl|exact Zay rfl|exact Zcl rfl rfl|exact Zb0 rfl|exact Zct|exact Zf3|exact Zar rfl|exact Zas rfl) ?_|(refine Zd4 ?_; refine Zc5 H rfl (by repeat constructor) rfl ?_)|(refine Zd5 ?_; (first|refine Zdb H rfl rfl (by repeat constructor) (by first|(simp only [wr_size, Array.size_setIfInBounds, List.size_toArray, List.length_cons, List.length_nil]; omega)|omega|(simp; done)|(simp; omega)) ?_|refine Zde H rfl rfl (by repeat constructor) (by first|(simp only [wr_size, Array.size_setIfInBounds, List.size_toArray, List.length_cons, List.length_nil]; omega)|omega|(simp; done)|(simp; omega)) ?_|refine Zdd H rfl rfl (by repeat constructor) (by first|(simp only [wr_size, Array.size_setIfInBounds, List.size_toArray, List.length_cons, List.length_nil]; omega)|omega|(simp; done)|(simp; omega)) ?_|refine Zdc H rfl rfl (by repeat constructor) (by first|(simp only [wr_size, Array.size_setIfInBounds, List.size_toArray, List.length_cons, List.length_nil]; omega)|omega|(simp; done)|(simp; omega)) ?_|refine Zda H rfl rfl rfl (by repeat constructor) (by first|(simp only [wr_size, Array.size_setIfInBounds, List.size_toArray, List.length_cons, List.length_nil]; omega)|omega|(simp; done)|(simp; omega)) ?_); clear H; intro w H))|(refine Zd6 ?_; first|refine Zd9 ?_|refine Zeb ?_|refine Zeh ?_|refine Zef ?_|refine Zed ?_|refine Zec ?_|refine Zee ?_|refine Zeg ?_|(refine Zd7 ?_; first|refine Zao rfl ?_|refine Zap rfl ?_))|(first|refine Zei ?_|refine Zej ?_|refine Zek ?_|refine Zel ?_|refine Zen ?_|refine Zem ?_|refine Zeo rfl ?_|refine Zep ?_|refine Zeq ?_|refine Zes ?_|refine Zet ?_)|refine Zd8 ?_)
  refine Zdp rfl (by kernel_rfl) (does_c (L := cl xb #[.slice none 0 0] 37 :: cl xp #[.int .i64 page] 3 :: cl xh #[.pointer (some ⟨p, 0, none⟩)] 30 :: L) (L2 := readA (HostS.logged s 0 page []) page (s.coming s.ops) xb :: cl xh #[.pointer (some ⟨p, 0, none⟩)] 30 :: cl xp #[.int .i64 page] 3 :: L) (b := []) 0 page id (H.arr (by repeat (first|exact Arr.nil|exact Arr.stop|refine Arr.cons (by repeat constructor) ?_|refine Arr.skip ?_))) hops (fun h => absurd h (by decide)) ⟨_, _, _, rfl⟩ (by kernel_rfl) hact (fun h0 h => h) (fun _ => rfl)) rfl ?_
  clear H hact; rintro v w ⟨rfl, H⟩
  have h0 : HostS.done s = false → (HostS.does s 0 page [] id).2 = 110 := does_zero
  have e1 : (HostS.does s 0 page [] id).2 ≠ 0 → HostS.readR s page = ([], (HostS.does s 0 page [] id).2, (HostS.does s 0 page [] id).1) := fun h => by
    simp only [HostS.readR, if_pos hB']; rw [if_neg h]
  have e2 : (HostS.does s 0 page [] id).2 = 0 → HostS.readR s page = (HostS.spoilt s page (s.coming s.ops), 0, (HostS.does s 0 page [] id).1) := fun h => by
    simp only [HostS.readR, if_pos hB']; rw [if_pos h]
  generalize HostS.does s 0 page [] id = r at H h0 e1 e2 ⊢
  repeat (first|(refine Zd1 ?_; first|refine Zcx ?_|(refine Zd3 ?_; first|refine Zc0 rfl ?_|refine Zc1 rfl ?_|refine Zc2 rfl ?_)|refine Zcz (by first|exact Zat rfl|exact Zav rfl|exact Zaw rfl|exact Zaz rfl|exact Za2 rfl|exact Za1 rfl|exact Zau rfl|exact Za0 rfl|exact Zba rfl|exact Zce rfl (by omega)|exact Zbn rfl rfl|exact Zbr rfl rfl|exact Zbs rfl rfl|exact Zbq rfl rfl|exact Zbp rfl rfl|exact Zbo rfl rfl|exact Zcr rfl|exact Zbg rfl rfl (by omega)|exact Zbh rfl rfl (by omega)|exact Zbi rfl rfl (by omega)|exact Zco rfl rfl|exact Zdz rfl rfl|exact Zd0 rfl rfl|exact Za8 rfl rfl|exact Za9 rfl rfl|exact Za6 rfl rfl|exact Za7 rfl rfl|exact Zb1 rfl|exact Zca rfl rfl|exact Zcb rfl rfl|exact Zcv rfl rfl|exact Zcw rfl rfl|exact Zax rfl|exact Za3 rfl|exact Zay rfl|exact Zcl rfl rfl|exact Zb0 rfl|exact Zct|exact Zf3|exact Zar rfl|exact Zas rfl) ?_|(refine Zd4 ?_; refine Zc5 H rfl (by repeat constructor) rfl ?_)|(refine Zd5 ?_; (first|refine Zdb H rfl rfl (by repeat constructor) (by first|(simp only [wr_size, Array.size_setIfInBounds, List.size_toArray, List.length_cons, List.length_nil]; omega)|omega|(simp; done)|(simp; omega)) ?_|refine Zde H rfl rfl (by repeat constructor) (by first|(simp only [wr_size, Array.size_setIfInBounds, List.size_toArray, List.length_cons, List.length_nil]; omega)|omega|(simp; done)|(simp; omega)) ?_|refine Zdd H rfl rfl (by repeat constructor) (by first|(simp only [wr_size, Array.size_setIfInBounds, List.size_toArray, List.length_cons, List.length_nil]; omega)|omega|(simp; done)|(simp; omega)) ?_|refine Zdc H rfl rfl (by repeat constructor) (by first|(simp only [wr_size, Array.size_setIfInBounds, List.size_toArray, List.length_cons, List.length_nil]; omega)|omega|(simp; done)|(simp; omega)) ?_|refine Zda H rfl rfl rfl (by repeat constructor) (by first|(simp only [wr_size, Array.size_setIfInBounds, List.size_toArray, List.length_cons, List.length_nil]; omega)|omega|(simp; done)|(simp; omega)) ?_); clear H; intro w H))|(refine Zd6 ?_; first|refine Zd9 ?_|refine Zeb ?_|refine Zeh ?_|refine Zef ?_|refine Zed ?_|refine Zec ?_|refine Zee ?_|refine Zeg ?_|(refine Zd7 ?_; first|refine Zao rfl ?_|refine Zap rfl ?_))|(first|refine Zei ?_|refine Zej ?_|refine Zek ?_|refine Zel ?_|refine Zen ?_|refine Zem ?_|refine Zeo rfl ?_|refine Zep ?_|refine Zeq ?_|refine Zes ?_|refine Zet ?_)|refine Zd8 ?_)
  refine Zaq rfl (fun hB => ?_) (fun hB => ?_)
  · have H : St w0 w (hostA p r.1 :: L) := by
      rcases H with ⟨_, H⟩|⟨_, H⟩
      · exact H.arr (by repeat (first|exact Arr.nil|exact Arr.stop|refine Arr.cons (by repeat constructor) ?_|refine Arr.skip ?_))
      · exact H.arr (by repeat (first|exact Arr.nil|exact Arr.stop|refine Arr.cons (by repeat constructor) ?_|refine Arr.skip ?_))
    repeat (first|(refine Zd1 ?_; first|refine Zcx ?_|(refine Zd3 ?_; first|refine Zc0 rfl ?_|refine Zc1 rfl ?_|refine Zc2 rfl ?_)|refine Zcz (by first|exact Zat rfl|exact Zav rfl|exact Zaw rfl|exact Zaz rfl|exact Za2 rfl|exact Za1 rfl|exact Zau rfl|exact Za0 rfl|exact Zba rfl|exact Zce rfl (by omega)|exact Zbn rfl rfl|exact Zbr rfl rfl|exact Zbs rfl rfl|exact Zbq rfl rfl|exact Zbp rfl rfl|exact Zbo rfl rfl|exact Zcr rfl|exact Zbg rfl rfl (by omega)|exact Zbh rfl rfl (by omega)|exact Zbi rfl rfl (by omega)|exact Zco rfl rfl|exact Zdz rfl rfl|exact Zd0 rfl rfl|exact Za8 rfl rfl|exact Za9 rfl rfl|exact Za6 rfl rfl|exact Za7 rfl rfl|exact Zb1 rfl|exact Zca rfl rfl|exact Zcb rfl rfl|exact Zcv rfl rfl|exact Zcw rfl rfl|exact Zax rfl|exact Za3 rfl|exact Zay rfl|exact Zcl rfl rfl|exact Zb0 rfl|exact Zct|exact Zf3|exact Zar rfl|exact Zas rfl) ?_|(refine Zd4 ?_; refine Zc5 H rfl (by repeat constructor) rfl ?_)|(refine Zd5 ?_; (first|refine Zdb H rfl rfl (by repeat constructor) (by first|(simp only [wr_size, Array.size_setIfInBounds, List.size_toArray, List.length_cons, List.length_nil]; omega)|omega|(simp; done)|(simp; omega)) ?_|refine Zde H rfl rfl (by repeat constructor) (by first|(simp only [wr_size, Array.size_setIfInBounds, List.size_toArray, List.length_cons, List.length_nil]; omega)|omega|(simp; done)|(simp; omega)) ?_|refine Zdd H rfl rfl (by repeat constructor) (by first|(simp only [wr_size, Array.size_setIfInBounds, List.size_toArray, List.length_cons, List.length_nil]; omega)|omega|(simp; done)|(simp; omega)) ?_|refine Zdc H rfl rfl (by repeat constructor) (by first|(simp only [wr_size, Array.size_setIfInBounds, List.size_toArray, List.length_cons, List.length_nil]; omega)|omega|(simp; done)|(simp; omega)) ?_|refine Zda H rfl rfl rfl (by repeat constructor) (by first|(simp only [wr_size, Array.size_setIfInBounds, List.size_toArray, List.length_cons, List.length_nil]; omega)|omega|(simp; done)|(simp; omega)) ?_); clear H; intro w H))|(refine Zd6 ?_; first|refine Zd9 ?_|refine Zeb ?_|refine Zeh ?_|refine Zef ?_|refine Zed ?_|refine Zec ?_|refine Zee ?_|refine Zeg ?_|(refine Zd7 ?_; first|refine Zao rfl ?_|refine Zap rfl ?_))|(first|refine Zei ?_|refine Zej ?_|refine Zek ?_|refine Zel ?_|refine Zen ?_|refine Zem ?_|refine Zeo rfl ?_|refine Zep ?_|refine Zeq ?_|refine Zes ?_|refine Zet ?_)|refine Zd8 ?_)
    first|refine Ze6 rfl ?_|refine Ze7 rfl ?_|refine Ze8 rfl ?_|refine Ze9 rfl ?_|refine Zfa rfl rfl ?_|refine Zfb rfl rfl ?_|refine Zfc rfl rfl ?_|refine Ze2 ?_|refine Ze3 ?_
    rw [e1 (by omega)]
    exact ⟨_, rfl, St.own_nil H 5 1⟩
  · have hB2 : r.2 = 0 := by omega
    rcases H with ⟨h, H⟩|⟨_, H⟩
    · rw [h0 h] at hB2; omega
    · unfold readA at H
      obtain ⟨v, H⟩ := (H.swap).ex_get
      have H := H.all_get
      obtain ⟨a, k, rfl⟩ := H.pur_get
      have H := H.drop
      repeat (first|(refine Zd1 ?_; first|refine Zcx ?_|(refine Zd3 ?_; first|refine Zc0 rfl ?_|refine Zc1 rfl ?_|refine Zc2 rfl ?_)|refine Zcz (by first|exact Zat rfl|exact Zav rfl|exact Zaw rfl|exact Zaz rfl|exact Za2 rfl|exact Za1 rfl|exact Zau rfl|exact Za0 rfl|exact Zba rfl|exact Zce rfl (by omega)|exact Zbn rfl rfl|exact Zbr rfl rfl|exact Zbs rfl rfl|exact Zbq rfl rfl|exact Zbp rfl rfl|exact Zbo rfl rfl|exact Zcr rfl|exact Zbg rfl rfl (by omega)|exact Zbh rfl rfl (by omega)|exact Zbi rfl rfl (by omega)|exact Zco rfl rfl|exact Zdz rfl rfl|exact Zd0 rfl rfl|exact Za8 rfl rfl|exact Za9 rfl rfl|exact Za6 rfl rfl|exact Za7 rfl rfl|exact Zb1 rfl|exact Zca rfl rfl|exact Zcb rfl rfl|exact Zcv rfl rfl|exact Zcw rfl rfl|exact Zax rfl|exact Za3 rfl|exact Zay rfl|exact Zcl rfl rfl|exact Zb0 rfl|exact Zct|exact Zf3|exact Zar rfl|exact Zas rfl) ?_|(refine Zd4 ?_; refine Zc5 H rfl (by repeat constructor) rfl ?_)|(refine Zd5 ?_; (first|refine Zdb H rfl rfl (by repeat constructor) (by first|(simp only [wr_size, Array.size_setIfInBounds, List.size_toArray, List.length_cons, List.length_nil]; omega)|omega|(simp; done)|(simp; omega)) ?_|refine Zde H rfl rfl (by repeat constructor) (by first|(simp only [wr_size, Array.size_setIfInBounds, List.size_toArray, List.length_cons, List.length_nil]; omega)|omega|(simp; done)|(simp; omega)) ?_|refine Zdd H rfl rfl (by repeat constructor) (by first|(simp only [wr_size, Array.size_setIfInBounds, List.size_toArray, List.length_cons, List.length_nil]; omega)|omega|(simp; done)|(simp; omega)) ?_|refine Zdc H rfl rfl (by repeat constructor) (by first|(simp only [wr_size, Array.size_setIfInBounds, List.size_toArray, List.length_cons, List.length_nil]; omega)|omega|(simp; done)|(simp; omega)) ?_|refine Zda H rfl rfl rfl (by repeat constructor) (by first|(simp only [wr_size, Array.size_setIfInBounds, List.size_toArray, List.length_cons, List.length_nil]; omega)|omega|(simp; done)|(simp; omega)) ?_); clear H; intro w H))|(refine Zd6 ?_; first|refine Zd9 ?_|refine Zeb ?_|refine Zeh ?_|refine Zef ?_|refine Zed ?_|refine Zec ?_|refine Zee ?_|refine Zeg ?_|(refine Zd7 ?_; first|refine Zao rfl ?_|refine Zap rfl ?_))|(first|refine Zei ?_|refine Zej ?_|refine Zek ?_|refine Zel ?_|refine Zen ?_|refine Zem ?_|refine Zeo rfl ?_|refine Zep ?_|refine Zeq ?_|refine Zes ?_|refine Zet ?_)|refine Zd8 ?_)
      first|refine Ze6 rfl ?_|refine Ze7 rfl ?_|refine Ze8 rfl ?_|refine Ze9 rfl ?_|refine Zfa rfl rfl ?_|refine Zfb rfl rfl ?_|refine Zfc rfl rfl ?_|refine Ze2 ?_|refine Ze3 ?_
      rw [e2 hB2]
      exact ⟨_, rfl, H.arr (by repeat (first|exact Arr.nil|exact Arr.stop|refine Arr.cons (by repeat constructor) ?_|refine Arr.skip ?_))⟩
theorem ask_c (hops : s.ops < 3298534883328) (H : St w0 w (hostA p s :: L)) :
    Calls Try.prog 28 #[.pointer (some ⟨p, 0, none⟩)] w
      (Ret fun v w' => v = .tuple #[u64b (HostS.askR s).1, .int .i64 (HostS.askR s).2.1] ∧ St w0 w' (hostA p (HostS.askR s).2.2 :: L)) := by
  refine calls_den [_] Try.func28 rfl rfl rfl Try.mixed (by kernel_rfl) ?_
  repeat (first|(refine Zd1 ?_; first|refine Zcx ?_|(refine Zd3 ?_; first|refine Zc0 rfl ?_|refine Zc1 rfl ?_|refine Zc2 rfl ?_)|refine Zcz (by first|exact Zat rfl|exact Zav rfl|exact Zaw rfl|exact Zaz rfl|exact Za2 rfl|exact Za1 rfl|exact Zau rfl|exact Za0 rfl|exact Zba rfl|exact Zce rfl (by omega)|exact Zbn rfl rfl|exact Zbr rfl rfl|exact Zbs rfl rfl|exact Zbq rfl rfl|exact Zbp rfl rfl|exact Zbo rfl rfl|exact Zcr rfl|exact Zbg rfl rfl (by omega)|exact Zbh rfl rfl (by omega)|exact Zbi rfl rfl (by omega)|exact Zco rfl rfl|exact Zdz rfl rfl|exact Zd0 rfl rfl|exact Za8 rfl rfl|exact Za9 rfl rfl|exact Za6 rfl rfl|exact Za7 rfl rfl|exact Zb1 rfl|exact Zca rfl rfl|exact Zcb rfl rfl|exact Zcv rfl rfl|exact Zcw rfl rfl|exact Zax rfl|exact Za3 rfl|exact Zay rfl|exact Zcl rfl rfl|exact Zb0 rfl|exact Zct|exact Zf3|exact Zar rfl|exact Zas rfl) ?_|(refine Zd4 ?_; refine Zc5 H rfl (by repeat constructor) rfl ?_)|(refine Zd5 ?_; (first|refine Zdb H rfl rfl (by repeat constructor) (by first|(simp only [wr_size, Array.size_setIfInBounds, List.size_toArray, List.length_cons, List.length_nil]; omega)|omega|(simp; done)|(simp; omega)) ?_|refine Zde H rfl rfl (by repeat constructor) (by first|(simp only [wr_size, Array.size_setIfInBounds, List.size_toArray, List.length_cons, List.length_nil]; omega)|omega|(simp; done)|(simp; omega)) ?_|refine Zdd H rfl rfl (by repeat constructor) (by first|(simp only [wr_size, Array.size_setIfInBounds, List.size_toArray, List.length_cons, List.length_nil]; omega)|omega|(simp; done)|(simp; omega)) ?_|refine Zdc H rfl rfl (by repeat constructor) (by first|(simp only [wr_size, Array.size_setIfInBounds, List.size_toArray, List.length_cons, List.length_nil]; omega)|omega|(simp; done)|(simp; omega)) ?_|refine Zda H rfl rfl rfl (by repeat constructor) (by first|(simp only [wr_size, Array.size_setIfInBounds, List.size_toArray, List.length_cons, List.length_nil]; omega)|omega|(simp; done)|(simp; omega)) ?_); clear H; intro w H))|(refine Zd6 ?_; first|refine Zd9 ?_|refine Zeb ?_|refine Zeh ?_|refine Zef ?_|refine Zed ?_|refine Zec ?_|refine Zee ?_|refine Zeg ?_|(refine Zd7 ?_; first|refine Zao rfl ?_|refine Zap rfl ?_))|(first|refine Zei ?_|refine Zej ?_|refine Zek ?_|refine Zel ?_|refine Zen ?_|refine Zem ?_|refine Zeo rfl ?_|refine Zep ?_|refine Zeq ?_|refine Zes ?_|refine Zet ?_)|refine Zd8 ?_)
  have hact : HostS.done s = true → ActC w0 p (HostS.logged s 2 0 []) (id (HostS.logged s 2 0 [])) (s.coming s.ops) 50 #[] L L := by
    intro _ w fv H
    refine (ask1_c fv).mono (Ret.mono fun v w' h => ?_)
    subst h; exact H
  refine Zdp rfl (by kernel_rfl) (does_c (L2 := L) (b := []) 2 0 id H hops (fun h => absurd h (by decide)) ⟨_, _, _, rfl⟩ (by kernel_rfl) hact (fun h0 h => h) (fun _ => rfl)) rfl ?_
  clear H hact; rintro v w ⟨rfl, H⟩
  have H : St w0 w (hostA p (HostS.does s 2 0 [] id).1 :: L) := by
    rcases H with ⟨_, H⟩|⟨_, H⟩
    · exact H
    · exact H
  repeat (first|(refine Zd1 ?_; first|refine Zcx ?_|(refine Zd3 ?_; first|refine Zc0 rfl ?_|refine Zc1 rfl ?_|refine Zc2 rfl ?_)|refine Zcz (by first|exact Zat rfl|exact Zav rfl|exact Zaw rfl|exact Zaz rfl|exact Za2 rfl|exact Za1 rfl|exact Zau rfl|exact Za0 rfl|exact Zba rfl|exact Zce rfl (by omega)|exact Zbn rfl rfl|exact Zbr rfl rfl|exact Zbs rfl rfl|exact Zbq rfl rfl|exact Zbp rfl rfl|exact Zbo rfl rfl|exact Zcr rfl|exact Zbg rfl rfl (by omega)|exact Zbh rfl rfl (by omega)|exact Zbi rfl rfl (by omega)|exact Zco rfl rfl|exact Zdz rfl rfl|exact Zd0 rfl rfl|exact Za8 rfl rfl|exact Za9 rfl rfl|exact Za6 rfl rfl|exact Za7 rfl rfl|exact Zb1 rfl|exact Zca rfl rfl|exact Zcb rfl rfl|exact Zcv rfl rfl|exact Zcw rfl rfl|exact Zax rfl|exact Za3 rfl|exact Zay rfl|exact Zcl rfl rfl|exact Zb0 rfl|exact Zct|exact Zf3|exact Zar rfl|exact Zas rfl) ?_|(refine Zd4 ?_; refine Zc5 H rfl (by repeat constructor) rfl ?_)|(refine Zd5 ?_; (first|refine Zdb H rfl rfl (by repeat constructor) (by first|(simp only [wr_size, Array.size_setIfInBounds, List.size_toArray, List.length_cons, List.length_nil]; omega)|omega|(simp; done)|(simp; omega)) ?_|refine Zde H rfl rfl (by repeat constructor) (by first|(simp only [wr_size, Array.size_setIfInBounds, List.size_toArray, List.length_cons, List.length_nil]; omega)|omega|(simp; done)|(simp; omega)) ?_|refine Zdd H rfl rfl (by repeat constructor) (by first|(simp only [wr_size, Array.size_setIfInBounds, List.size_toArray, List.length_cons, List.length_nil]; omega)|omega|(simp; done)|(simp; omega)) ?_|refine Zdc H rfl rfl (by repeat constructor) (by first|(simp only [wr_size, Array.size_setIfInBounds, List.size_toArray, List.length_cons, List.length_nil]; omega)|omega|(simp; done)|(simp; omega)) ?_|refine Zda H rfl rfl rfl (by repeat constructor) (by first|(simp only [wr_size, Array.size_setIfInBounds, List.size_toArray, List.length_cons, List.length_nil]; omega)|omega|(simp; done)|(simp; omega)) ?_); clear H; intro w H))|(refine Zd6 ?_; first|refine Zd9 ?_|refine Zeb ?_|refine Zeh ?_|refine Zef ?_|refine Zed ?_|refine Zec ?_|refine Zee ?_|refine Zeg ?_|(refine Zd7 ?_; first|refine Zao rfl ?_|refine Zap rfl ?_))|(first|refine Zei ?_|refine Zej ?_|refine Zek ?_|refine Zel ?_|refine Zen ?_|refine Zem ?_|refine Zeo rfl ?_|refine Zep ?_|refine Zeq ?_|refine Zes ?_|refine Zet ?_)|refine Zd8 ?_)
  refine Zaq rfl (fun hB => ?_) (fun hB => ?_)
  · have e : HostS.askR s = (0#64, (HostS.does s 2 0 [] id).2, (HostS.does s 2 0 [] id).1) := by simp only [HostS.askR]; rw [if_neg (fun h => hB (by rw [h]; rfl))]
    repeat (first|(refine Zd1 ?_; first|refine Zcx ?_|(refine Zd3 ?_; first|refine Zc0 rfl ?_|refine Zc1 rfl ?_|refine Zc2 rfl ?_)|refine Zcz (by first|exact Zat rfl|exact Zav rfl|exact Zaw rfl|exact Zaz rfl|exact Za2 rfl|exact Za1 rfl|exact Zau rfl|exact Za0 rfl|exact Zba rfl|exact Zce rfl (by omega)|exact Zbn rfl rfl|exact Zbr rfl rfl|exact Zbs rfl rfl|exact Zbq rfl rfl|exact Zbp rfl rfl|exact Zbo rfl rfl|exact Zcr rfl|exact Zbg rfl rfl (by omega)|exact Zbh rfl rfl (by omega)|exact Zbi rfl rfl (by omega)|exact Zco rfl rfl|exact Zdz rfl rfl|exact Zd0 rfl rfl|exact Za8 rfl rfl|exact Za9 rfl rfl|exact Za6 rfl rfl|exact Za7 rfl rfl|exact Zb1 rfl|exact Zca rfl rfl|exact Zcb rfl rfl|exact Zcv rfl rfl|exact Zcw rfl rfl|exact Zax rfl|exact Za3 rfl|exact Zay rfl|exact Zcl rfl rfl|exact Zb0 rfl|exact Zct|exact Zf3|exact Zar rfl|exact Zas rfl) ?_|(refine Zd4 ?_; refine Zc5 H rfl (by repeat constructor) rfl ?_)|(refine Zd5 ?_; (first|refine Zdb H rfl rfl (by repeat constructor) (by first|(simp only [wr_size, Array.size_setIfInBounds, List.size_toArray, List.length_cons, List.length_nil]; omega)|omega|(simp; done)|(simp; omega)) ?_|refine Zde H rfl rfl (by repeat constructor) (by first|(simp only [wr_size, Array.size_setIfInBounds, List.size_toArray, List.length_cons, List.length_nil]; omega)|omega|(simp; done)|(simp; omega)) ?_|refine Zdd H rfl rfl (by repeat constructor) (by first|(simp only [wr_size, Array.size_setIfInBounds, List.size_toArray, List.length_cons, List.length_nil]; omega)|omega|(simp; done)|(simp; omega)) ?_|refine Zdc H rfl rfl (by repeat constructor) (by first|(simp only [wr_size, Array.size_setIfInBounds, List.size_toArray, List.length_cons, List.length_nil]; omega)|omega|(simp; done)|(simp; omega)) ?_|refine Zda H rfl rfl rfl (by repeat constructor) (by first|(simp only [wr_size, Array.size_setIfInBounds, List.size_toArray, List.length_cons, List.length_nil]; omega)|omega|(simp; done)|(simp; omega)) ?_); clear H; intro w H))|(refine Zd6 ?_; first|refine Zd9 ?_|refine Zeb ?_|refine Zeh ?_|refine Zef ?_|refine Zed ?_|refine Zec ?_|refine Zee ?_|refine Zeg ?_|(refine Zd7 ?_; first|refine Zao rfl ?_|refine Zap rfl ?_))|(first|refine Zei ?_|refine Zej ?_|refine Zek ?_|refine Zel ?_|refine Zen ?_|refine Zem ?_|refine Zeo rfl ?_|refine Zep ?_|refine Zeq ?_|refine Zes ?_|refine Zet ?_)|refine Zd8 ?_)
    first|refine Ze6 rfl ?_|refine Ze7 rfl ?_|refine Ze8 rfl ?_|refine Ze9 rfl ?_|refine Zfa rfl rfl ?_|refine Zfb rfl rfl ?_|refine Zfc rfl rfl ?_|refine Ze2 ?_|refine Ze3 ?_
    rw [e]
    exact ⟨rfl, H⟩
  · have hB' : (HostS.does s 2 0 [] id).2 = 0 := by omega
    have e : HostS.askR s = ((HostS.does s 2 0 [] id).1.reg, 0, (HostS.does s 2 0 [] id).1) := by simp only [HostS.askR]; rw [if_pos hB']
    obtain ⟨bl, bc, logv, hs, H⟩ := H.host_get
    unfold hostB at H
    repeat (first|(refine Zd1 ?_; first|refine Zcx ?_|(refine Zd3 ?_; first|refine Zc0 rfl ?_|refine Zc1 rfl ?_|refine Zc2 rfl ?_)|refine Zcz (by first|exact Zat rfl|exact Zav rfl|exact Zaw rfl|exact Zaz rfl|exact Za2 rfl|exact Za1 rfl|exact Zau rfl|exact Za0 rfl|exact Zba rfl|exact Zce rfl (by omega)|exact Zbn rfl rfl|exact Zbr rfl rfl|exact Zbs rfl rfl|exact Zbq rfl rfl|exact Zbp rfl rfl|exact Zbo rfl rfl|exact Zcr rfl|exact Zbg rfl rfl (by omega)|exact Zbh rfl rfl (by omega)|exact Zbi rfl rfl (by omega)|exact Zco rfl rfl|exact Zdz rfl rfl|exact Zd0 rfl rfl|exact Za8 rfl rfl|exact Za9 rfl rfl|exact Za6 rfl rfl|exact Za7 rfl rfl|exact Zb1 rfl|exact Zca rfl rfl|exact Zcb rfl rfl|exact Zcv rfl rfl|exact Zcw rfl rfl|exact Zax rfl|exact Za3 rfl|exact Zay rfl|exact Zcl rfl rfl|exact Zb0 rfl|exact Zct|exact Zf3|exact Zar rfl|exact Zas rfl) ?_|(refine Zd4 ?_; refine Zc5 H rfl (by repeat constructor) rfl ?_)|(refine Zd5 ?_; (first|refine Zdb H rfl rfl (by repeat constructor) (by first|(simp only [wr_size, Array.size_setIfInBounds, List.size_toArray, List.length_cons, List.length_nil]; omega)|omega|(simp; done)|(simp; omega)) ?_|refine Zde H rfl rfl (by repeat constructor) (by first|(simp only [wr_size, Array.size_setIfInBounds, List.size_toArray, List.length_cons, List.length_nil]; omega)|omega|(simp; done)|(simp; omega)) ?_|refine Zdd H rfl rfl (by repeat constructor) (by first|(simp only [wr_size, Array.size_setIfInBounds, List.size_toArray, List.length_cons, List.length_nil]; omega)|omega|(simp; done)|(simp; omega)) ?_|refine Zdc H rfl rfl (by repeat constructor) (by first|(simp only [wr_size, Array.size_setIfInBounds, List.size_toArray, List.length_cons, List.length_nil]; omega)|omega|(simp; done)|(simp; omega)) ?_|refine Zda H rfl rfl rfl (by repeat constructor) (by first|(simp only [wr_size, Array.size_setIfInBounds, List.size_toArray, List.length_cons, List.length_nil]; omega)|omega|(simp; done)|(simp; omega)) ?_); clear H; intro w H))|(refine Zd6 ?_; first|refine Zd9 ?_|refine Zeb ?_|refine Zeh ?_|refine Zef ?_|refine Zed ?_|refine Zec ?_|refine Zee ?_|refine Zeg ?_|(refine Zd7 ?_; first|refine Zao rfl ?_|refine Zap rfl ?_))|(first|refine Zei ?_|refine Zej ?_|refine Zek ?_|refine Zel ?_|refine Zen ?_|refine Zem ?_|refine Zeo rfl ?_|refine Zep ?_|refine Zeq ?_|refine Zes ?_|refine Zet ?_)|refine Zd8 ?_)
    first|refine Ze6 rfl ?_|refine Ze7 rfl ?_|refine Ze8 rfl ?_|refine Ze9 rfl ?_|refine Zfa rfl rfl ?_|refine Zfb rfl rfl ?_|refine Zfc rfl rfl ?_|refine Ze2 ?_|refine Ze3 ?_
    rw [e]
    refine ⟨rfl, ?_⟩
    exact St.host_mk (bl := bl) (bc := bc) (logv := logv) hs H
theorem raise_c (n : BitVec 64) (hops : s.ops < 3298534883328) (H : St w0 w (hostA p s :: L)) :
    Calls Try.prog 27 #[.pointer (some ⟨p, 0, none⟩), u64b n] w
      (Ret fun v w' => v = .int .i64 (HostS.raiseR s n).1 ∧ St w0 w' (hostA p (HostS.raiseR s n).2 :: L)) := by
  refine calls_den [_, _] Try.func27 rfl rfl rfl Try.mixed (by kernel_rfl) ?_
  repeat (first|(refine Zd1 ?_; first|refine Zcx ?_|(refine Zd3 ?_; first|refine Zc0 rfl ?_|refine Zc1 rfl ?_|refine Zc2 rfl ?_)|refine Zcz (by first|exact Zat rfl|exact Zav rfl|exact Zaw rfl|exact Zaz rfl|exact Za2 rfl|exact Za1 rfl|exact Zau rfl|exact Za0 rfl|exact Zba rfl|exact Zce rfl (by omega)|exact Zbn rfl rfl|exact Zbr rfl rfl|exact Zbs rfl rfl|exact Zbq rfl rfl|exact Zbp rfl rfl|exact Zbo rfl rfl|exact Zcr rfl|exact Zbg rfl rfl (by omega)|exact Zbh rfl rfl (by omega)|exact Zbi rfl rfl (by omega)|exact Zco rfl rfl|exact Zdz rfl rfl|exact Zd0 rfl rfl|exact Za8 rfl rfl|exact Za9 rfl rfl|exact Za6 rfl rfl|exact Za7 rfl rfl|exact Zb1 rfl|exact Zca rfl rfl|exact Zcb rfl rfl|exact Zcv rfl rfl|exact Zcw rfl rfl|exact Zax rfl|exact Za3 rfl|exact Zay rfl|exact Zcl rfl rfl|exact Zb0 rfl|exact Zct|exact Zf3|exact Zar rfl|exact Zas rfl) ?_|(refine Zd4 ?_; refine Zc5 H rfl (by repeat constructor) rfl ?_)|(refine Zd5 ?_; (first|refine Zdb H rfl rfl (by repeat constructor) (by first|(simp only [wr_size, Array.size_setIfInBounds, List.size_toArray, List.length_cons, List.length_nil]; omega)|omega|(simp; done)|(simp; omega)) ?_|refine Zde H rfl rfl (by repeat constructor) (by first|(simp only [wr_size, Array.size_setIfInBounds, List.size_toArray, List.length_cons, List.length_nil]; omega)|omega|(simp; done)|(simp; omega)) ?_|refine Zdd H rfl rfl (by repeat constructor) (by first|(simp only [wr_size, Array.size_setIfInBounds, List.size_toArray, List.length_cons, List.length_nil]; omega)|omega|(simp; done)|(simp; omega)) ?_|refine Zdc H rfl rfl (by repeat constructor) (by first|(simp only [wr_size, Array.size_setIfInBounds, List.size_toArray, List.length_cons, List.length_nil]; omega)|omega|(simp; done)|(simp; omega)) ?_|refine Zda H rfl rfl rfl (by repeat constructor) (by first|(simp only [wr_size, Array.size_setIfInBounds, List.size_toArray, List.length_cons, List.length_nil]; omega)|omega|(simp; done)|(simp; omega)) ?_); clear H; intro w H))|(refine Zd6 ?_; first|refine Zd9 ?_|refine Zeb ?_|refine Zeh ?_|refine Zef ?_|refine Zed ?_|refine Zec ?_|refine Zee ?_|refine Zeg ?_|(refine Zd7 ?_; first|refine Zao rfl ?_|refine Zap rfl ?_))|(first|refine Zei ?_|refine Zej ?_|refine Zek ?_|refine Zel ?_|refine Zen ?_|refine Zem ?_|refine Zeo rfl ?_|refine Zep ?_|refine Zeq ?_|refine Zes ?_|refine Zet ?_)|refine Zd8 ?_)
  (first|refine Zfw H rfl ?_|refine Zfx H rfl ?_|refine Zfy H rfl ?_|refine Zfz H rfl ?_|refine Zf0 H rfl ?_|refine Zdj H rfl ?_); clear H; intro w xh H
  repeat (first|(refine Zd1 ?_; first|refine Zcx ?_|(refine Zd3 ?_; first|refine Zc0 rfl ?_|refine Zc1 rfl ?_|refine Zc2 rfl ?_)|refine Zcz (by first|exact Zat rfl|exact Zav rfl|exact Zaw rfl|exact Zaz rfl|exact Za2 rfl|exact Za1 rfl|exact Zau rfl|exact Za0 rfl|exact Zba rfl|exact Zce rfl (by omega)|exact Zbn rfl rfl|exact Zbr rfl rfl|exact Zbs rfl rfl|exact Zbq rfl rfl|exact Zbp rfl rfl|exact Zbo rfl rfl|exact Zcr rfl|exact Zbg rfl rfl (by omega)|exact Zbh rfl rfl (by omega)|exact Zbi rfl rfl (by omega)|exact Zco rfl rfl|exact Zdz rfl rfl|exact Zd0 rfl rfl|exact Za8 rfl rfl|exact Za9 rfl rfl|exact Za6 rfl rfl|exact Za7 rfl rfl|exact Zb1 rfl|exact Zca rfl rfl|exact Zcb rfl rfl|exact Zcv rfl rfl|exact Zcw rfl rfl|exact Zax rfl|exact Za3 rfl|exact Zay rfl|exact Zcl rfl rfl|exact Zb0 rfl|exact Zct|exact Zf3|exact Zar rfl|exact Zas rfl) ?_|(refine Zd4 ?_; refine Zc5 H rfl (by repeat constructor) rfl ?_)|(refine Zd5 ?_; (first|refine Zdb H rfl rfl (by repeat constructor) (by first|(simp only [wr_size, Array.size_setIfInBounds, List.size_toArray, List.length_cons, List.length_nil]; omega)|omega|(simp; done)|(simp; omega)) ?_|refine Zde H rfl rfl (by repeat constructor) (by first|(simp only [wr_size, Array.size_setIfInBounds, List.size_toArray, List.length_cons, List.length_nil]; omega)|omega|(simp; done)|(simp; omega)) ?_|refine Zdd H rfl rfl (by repeat constructor) (by first|(simp only [wr_size, Array.size_setIfInBounds, List.size_toArray, List.length_cons, List.length_nil]; omega)|omega|(simp; done)|(simp; omega)) ?_|refine Zdc H rfl rfl (by repeat constructor) (by first|(simp only [wr_size, Array.size_setIfInBounds, List.size_toArray, List.length_cons, List.length_nil]; omega)|omega|(simp; done)|(simp; omega)) ?_|refine Zda H rfl rfl rfl (by repeat constructor) (by first|(simp only [wr_size, Array.size_setIfInBounds, List.size_toArray, List.length_cons, List.length_nil]; omega)|omega|(simp; done)|(simp; omega)) ?_); clear H; intro w H))|(refine Zd6 ?_; first|refine Zd9 ?_|refine Zeb ?_|refine Zeh ?_|refine Zef ?_|refine Zed ?_|refine Zec ?_|refine Zee ?_|refine Zeg ?_|(refine Zd7 ?_; first|refine Zao rfl ?_|refine Zap rfl ?_))|(first|refine Zei ?_|refine Zej ?_|refine Zek ?_|refine Zel ?_|refine Zen ?_|refine Zem ?_|refine Zeo rfl ?_|refine Zep ?_|refine Zeq ?_|refine Zes ?_|refine Zet ?_)|refine Zd8 ?_)
  (first|refine Zfw H rfl ?_|refine Zfx H rfl ?_|refine Zfy H rfl ?_|refine Zfz H rfl ?_|refine Zf0 H rfl ?_|refine Zdj H rfl ?_); clear H; intro w xv H
  repeat (first|(refine Zd1 ?_; first|refine Zcx ?_|(refine Zd3 ?_; first|refine Zc0 rfl ?_|refine Zc1 rfl ?_|refine Zc2 rfl ?_)|refine Zcz (by first|exact Zat rfl|exact Zav rfl|exact Zaw rfl|exact Zaz rfl|exact Za2 rfl|exact Za1 rfl|exact Zau rfl|exact Za0 rfl|exact Zba rfl|exact Zce rfl (by omega)|exact Zbn rfl rfl|exact Zbr rfl rfl|exact Zbs rfl rfl|exact Zbq rfl rfl|exact Zbp rfl rfl|exact Zbo rfl rfl|exact Zcr rfl|exact Zbg rfl rfl (by omega)|exact Zbh rfl rfl (by omega)|exact Zbi rfl rfl (by omega)|exact Zco rfl rfl|exact Zdz rfl rfl|exact Zd0 rfl rfl|exact Za8 rfl rfl|exact Za9 rfl rfl|exact Za6 rfl rfl|exact Za7 rfl rfl|exact Zb1 rfl|exact Zca rfl rfl|exact Zcb rfl rfl|exact Zcv rfl rfl|exact Zcw rfl rfl|exact Zax rfl|exact Za3 rfl|exact Zay rfl|exact Zcl rfl rfl|exact Zb0 rfl|exact Zct|exact Zf3|exact Zar rfl|exact Zas rfl) ?_|(refine Zd4 ?_; refine Zc5 H rfl (by repeat constructor) rfl ?_)|(refine Zd5 ?_; (first|refine Zdb H rfl rfl (by repeat constructor) (by first|(simp only [wr_size, Array.size_setIfInBounds, List.size_toArray, List.length_cons, List.length_nil]; omega)|omega|(simp; done)|(simp; omega)) ?_|refine Zde H rfl rfl (by repeat constructor) (by first|(simp only [wr_size, Array.size_setIfInBounds, List.size_toArray, List.length_cons, List.length_nil]; omega)|omega|(simp; done)|(simp; omega)) ?_|refine Zdd H rfl rfl (by repeat constructor) (by first|(simp only [wr_size, Array.size_setIfInBounds, List.size_toArray, List.length_cons, List.length_nil]; omega)|omega|(simp; done)|(simp; omega)) ?_|refine Zdc H rfl rfl (by repeat constructor) (by first|(simp only [wr_size, Array.size_setIfInBounds, List.size_toArray, List.length_cons, List.length_nil]; omega)|omega|(simp; done)|(simp; omega)) ?_|refine Zda H rfl rfl rfl (by repeat constructor) (by first|(simp only [wr_size, Array.size_setIfInBounds, List.size_toArray, List.length_cons, List.length_nil]; omega)|omega|(simp; done)|(simp; omega)) ?_); clear H; intro w H))|(refine Zd6 ?_; first|refine Zd9 ?_|refine Zeb ?_|refine Zeh ?_|refine Zef ?_|refine Zed ?_|refine Zec ?_|refine Zee ?_|refine Zeg ?_|(refine Zd7 ?_; first|refine Zao rfl ?_|refine Zap rfl ?_))|(first|refine Zei ?_|refine Zej ?_|refine Zek ?_|refine Zel ?_|refine Zen ?_|refine Zem ?_|refine Zeo rfl ?_|refine Zep ?_|refine Zeq ?_|refine Zes ?_|refine Zet ?_)|refine Zd8 ?_)
  refine Zf1 (cs := #[.bool false]) H rfl ?_; clear H; intro w xa H
  repeat (first|(refine Zd1 ?_; first|refine Zcx ?_|(refine Zd3 ?_; first|refine Zc0 rfl ?_|refine Zc1 rfl ?_|refine Zc2 rfl ?_)|refine Zcz (by first|exact Zat rfl|exact Zav rfl|exact Zaw rfl|exact Zaz rfl|exact Za2 rfl|exact Za1 rfl|exact Zau rfl|exact Za0 rfl|exact Zba rfl|exact Zce rfl (by omega)|exact Zbn rfl rfl|exact Zbr rfl rfl|exact Zbs rfl rfl|exact Zbq rfl rfl|exact Zbp rfl rfl|exact Zbo rfl rfl|exact Zcr rfl|exact Zbg rfl rfl (by omega)|exact Zbh rfl rfl (by omega)|exact Zbi rfl rfl (by omega)|exact Zco rfl rfl|exact Zdz rfl rfl|exact Zd0 rfl rfl|exact Za8 rfl rfl|exact Za9 rfl rfl|exact Za6 rfl rfl|exact Za7 rfl rfl|exact Zb1 rfl|exact Zca rfl rfl|exact Zcb rfl rfl|exact Zcv rfl rfl|exact Zcw rfl rfl|exact Zax rfl|exact Za3 rfl|exact Zay rfl|exact Zcl rfl rfl|exact Zb0 rfl|exact Zct|exact Zf3|exact Zar rfl|exact Zas rfl) ?_|(refine Zd4 ?_; refine Zc5 H rfl (by repeat constructor) rfl ?_)|(refine Zd5 ?_; (first|refine Zdb H rfl rfl (by repeat constructor) (by first|(simp only [wr_size, Array.size_setIfInBounds, List.size_toArray, List.length_cons, List.length_nil]; omega)|omega|(simp; done)|(simp; omega)) ?_|refine Zde H rfl rfl (by repeat constructor) (by first|(simp only [wr_size, Array.size_setIfInBounds, List.size_toArray, List.length_cons, List.length_nil]; omega)|omega|(simp; done)|(simp; omega)) ?_|refine Zdd H rfl rfl (by repeat constructor) (by first|(simp only [wr_size, Array.size_setIfInBounds, List.size_toArray, List.length_cons, List.length_nil]; omega)|omega|(simp; done)|(simp; omega)) ?_|refine Zdc H rfl rfl (by repeat constructor) (by first|(simp only [wr_size, Array.size_setIfInBounds, List.size_toArray, List.length_cons, List.length_nil]; omega)|omega|(simp; done)|(simp; omega)) ?_|refine Zda H rfl rfl rfl (by repeat constructor) (by first|(simp only [wr_size, Array.size_setIfInBounds, List.size_toArray, List.length_cons, List.length_nil]; omega)|omega|(simp; done)|(simp; omega)) ?_); clear H; intro w H))|(refine Zd6 ?_; first|refine Zd9 ?_|refine Zeb ?_|refine Zeh ?_|refine Zef ?_|refine Zed ?_|refine Zec ?_|refine Zee ?_|refine Zeg ?_|(refine Zd7 ?_; first|refine Zao rfl ?_|refine Zap rfl ?_))|(first|refine Zei ?_|refine Zej ?_|refine Zek ?_|refine Zel ?_|refine Zen ?_|refine Zem ?_|refine Zeo rfl ?_|refine Zep ?_|refine Zeq ?_|refine Zes ?_|refine Zet ?_)|refine Zd8 ?_)
  have H : St w0 w (cl xa #[.bool false] 4 :: cl xv #[u64b n] 36 :: cl xh #[.pointer (some ⟨p, 0, none⟩)] 30 :: hostA p s :: L) := H
  have hact : HostS.done s = true → ActC w0 p (HostS.logged s 3 0 []) (HostS.raised n (HostS.logged s 3 0 [])) (s.coming s.ops) 49 #[.pointer (some ⟨xv, 0, none⟩), .pointer (some ⟨xh, 0, none⟩), .pointer (some ⟨xa, 0, none⟩)]
      (cl xa #[.bool false] 4 :: cl xv #[u64b n] 36 :: cl xh #[.pointer (some ⟨p, 0, none⟩)] 30 :: L) (cl xa #[.bool (decide (s.reg.toNat < n.toNat))] 4 :: cl xv #[u64b n] 36 :: cl xh #[.pointer (some ⟨p, 0, none⟩)] 30 :: L) := by
    intro _ w fv H
    have hok2 : HostS.Ok (HostS.logged s 3 0 []) := by obtain ⟨_, _, _, h, _⟩ := (H.pick (A := hostA p (HostS.logged s 3 0 [])) (by repeat constructor)).host_get; exact h
    exact (raise1_c (p := p) (s := HostS.logged s 3 0 []) (L := faultsA fv (s.coming s.ops) :: L) xh xv xa fv n (.bool false) (ok_raised n hok2) (H.arr (by repeat (first|exact Arr.nil|exact Arr.stop|refine Arr.cons (by repeat constructor) ?_|refine Arr.skip ?_)))).mono (Ret.mono fun v w h => h.arr (by repeat (first|exact Arr.nil|exact Arr.stop|refine Arr.cons (by repeat constructor) ?_|refine Arr.skip ?_)))
  refine Zdp rfl (by kernel_rfl) (does_c (L := cl xa #[.bool false] 4 :: cl xv #[u64b n] 36 :: cl xh #[.pointer (some ⟨p, 0, none⟩)] 30 :: L) (L2 := cl xa #[.bool (decide (s.reg.toNat < n.toNat))] 4 :: cl xv #[u64b n] 36 :: cl xh #[.pointer (some ⟨p, 0, none⟩)] 30 :: L) (b := []) 3 0 (HostS.raised n) (H.arr (by repeat (first|exact Arr.nil|exact Arr.stop|refine Arr.cons (by repeat constructor) ?_|refine Arr.skip ?_))) hops (fun h => absurd h (by decide)) ⟨_, _, _, rfl⟩ (by kernel_rfl) hact (fun h0 h => ok_raised n h) (fun _ => rfl)) rfl ?_
  clear H hact; rintro v w ⟨rfl, H⟩
  have h0 : HostS.done s = false → (HostS.does s 3 0 [] (HostS.raised n)).2 = 110 := does_zero
  have e : HostS.raiseR s n = (if (HostS.does s 3 0 [] (HostS.raised n)).2 = 0 ∧ ¬ s.reg.toNat < n.toNat then 111 else (HostS.does s 3 0 [] (HostS.raised n)).2, (HostS.does s 3 0 [] (HostS.raised n)).1) := rfl
  rw [e]; clear e
  generalize HostS.does s 3 0 [] (HostS.raised n) = r at H h0 ⊢
  simp only []
  rcases H with ⟨h, H⟩|⟨h, H⟩
  · have hr := h0 h
    repeat (first|(refine Zd1 ?_; first|refine Zcx ?_|(refine Zd3 ?_; first|refine Zc0 rfl ?_|refine Zc1 rfl ?_|refine Zc2 rfl ?_)|refine Zcz (by first|exact Zat rfl|exact Zav rfl|exact Zaw rfl|exact Zaz rfl|exact Za2 rfl|exact Za1 rfl|exact Zau rfl|exact Za0 rfl|exact Zba rfl|exact Zce rfl (by omega)|exact Zbn rfl rfl|exact Zbr rfl rfl|exact Zbs rfl rfl|exact Zbq rfl rfl|exact Zbp rfl rfl|exact Zbo rfl rfl|exact Zcr rfl|exact Zbg rfl rfl (by omega)|exact Zbh rfl rfl (by omega)|exact Zbi rfl rfl (by omega)|exact Zco rfl rfl|exact Zdz rfl rfl|exact Zd0 rfl rfl|exact Za8 rfl rfl|exact Za9 rfl rfl|exact Za6 rfl rfl|exact Za7 rfl rfl|exact Zb1 rfl|exact Zca rfl rfl|exact Zcb rfl rfl|exact Zcv rfl rfl|exact Zcw rfl rfl|exact Zax rfl|exact Za3 rfl|exact Zay rfl|exact Zcl rfl rfl|exact Zb0 rfl|exact Zct|exact Zf3|exact Zar rfl|exact Zas rfl) ?_|(refine Zd4 ?_; refine Zc5 H rfl (by repeat constructor) rfl ?_)|(refine Zd5 ?_; (first|refine Zdb H rfl rfl (by repeat constructor) (by first|(simp only [wr_size, Array.size_setIfInBounds, List.size_toArray, List.length_cons, List.length_nil]; omega)|omega|(simp; done)|(simp; omega)) ?_|refine Zde H rfl rfl (by repeat constructor) (by first|(simp only [wr_size, Array.size_setIfInBounds, List.size_toArray, List.length_cons, List.length_nil]; omega)|omega|(simp; done)|(simp; omega)) ?_|refine Zdd H rfl rfl (by repeat constructor) (by first|(simp only [wr_size, Array.size_setIfInBounds, List.size_toArray, List.length_cons, List.length_nil]; omega)|omega|(simp; done)|(simp; omega)) ?_|refine Zdc H rfl rfl (by repeat constructor) (by first|(simp only [wr_size, Array.size_setIfInBounds, List.size_toArray, List.length_cons, List.length_nil]; omega)|omega|(simp; done)|(simp; omega)) ?_|refine Zda H rfl rfl rfl (by repeat constructor) (by first|(simp only [wr_size, Array.size_setIfInBounds, List.size_toArray, List.length_cons, List.length_nil]; omega)|omega|(simp; done)|(simp; omega)) ?_); clear H; intro w H))|(refine Zd6 ?_; first|refine Zd9 ?_|refine Zeb ?_|refine Zeh ?_|refine Zef ?_|refine Zed ?_|refine Zec ?_|refine Zee ?_|refine Zeg ?_|(refine Zd7 ?_; first|refine Zao rfl ?_|refine Zap rfl ?_))|(first|refine Zei ?_|refine Zej ?_|refine Zek ?_|refine Zel ?_|refine Zen ?_|refine Zem ?_|refine Zeo rfl ?_|refine Zep ?_|refine Zeq ?_|refine Zes ?_|refine Zet ?_)|refine Zd8 ?_)
    refine Zex rfl rfl (fun hG => ?_) (fun hG => ?_)
    · omega
    · repeat (first|(refine Zd1 ?_; first|refine Zcx ?_|(refine Zd3 ?_; first|refine Zc0 rfl ?_|refine Zc1 rfl ?_|refine Zc2 rfl ?_)|refine Zcz (by first|exact Zat rfl|exact Zav rfl|exact Zaw rfl|exact Zaz rfl|exact Za2 rfl|exact Za1 rfl|exact Zau rfl|exact Za0 rfl|exact Zba rfl|exact Zce rfl (by omega)|exact Zbn rfl rfl|exact Zbr rfl rfl|exact Zbs rfl rfl|exact Zbq rfl rfl|exact Zbp rfl rfl|exact Zbo rfl rfl|exact Zcr rfl|exact Zbg rfl rfl (by omega)|exact Zbh rfl rfl (by omega)|exact Zbi rfl rfl (by omega)|exact Zco rfl rfl|exact Zdz rfl rfl|exact Zd0 rfl rfl|exact Za8 rfl rfl|exact Za9 rfl rfl|exact Za6 rfl rfl|exact Za7 rfl rfl|exact Zb1 rfl|exact Zca rfl rfl|exact Zcb rfl rfl|exact Zcv rfl rfl|exact Zcw rfl rfl|exact Zax rfl|exact Za3 rfl|exact Zay rfl|exact Zcl rfl rfl|exact Zb0 rfl|exact Zct|exact Zf3|exact Zar rfl|exact Zas rfl) ?_|(refine Zd4 ?_; refine Zc5 H rfl (by repeat constructor) rfl ?_)|(refine Zd5 ?_; (first|refine Zdb H rfl rfl (by repeat constructor) (by first|(simp only [wr_size, Array.size_setIfInBounds, List.size_toArray, List.length_cons, List.length_nil]; omega)|omega|(simp; done)|(simp; omega)) ?_|refine Zde H rfl rfl (by repeat constructor) (by first|(simp only [wr_size, Array.size_setIfInBounds, List.size_toArray, List.length_cons, List.length_nil]; omega)|omega|(simp; done)|(simp; omega)) ?_|refine Zdd H rfl rfl (by repeat constructor) (by first|(simp only [wr_size, Array.size_setIfInBounds, List.size_toArray, List.length_cons, List.length_nil]; omega)|omega|(simp; done)|(simp; omega)) ?_|refine Zdc H rfl rfl (by repeat constructor) (by first|(simp only [wr_size, Array.size_setIfInBounds, List.size_toArray, List.length_cons, List.length_nil]; omega)|omega|(simp; done)|(simp; omega)) ?_|refine Zda H rfl rfl rfl (by repeat constructor) (by first|(simp only [wr_size, Array.size_setIfInBounds, List.size_toArray, List.length_cons, List.length_nil]; omega)|omega|(simp; done)|(simp; omega)) ?_); clear H; intro w H))|(refine Zd6 ?_; first|refine Zd9 ?_|refine Zeb ?_|refine Zeh ?_|refine Zef ?_|refine Zed ?_|refine Zec ?_|refine Zee ?_|refine Zeg ?_|(refine Zd7 ?_; first|refine Zao rfl ?_|refine Zap rfl ?_))|(first|refine Zei ?_|refine Zej ?_|refine Zek ?_|refine Zel ?_|refine Zen ?_|refine Zem ?_|refine Zeo rfl ?_|refine Zep ?_|refine Zeq ?_|refine Zes ?_|refine Zet ?_)|refine Zd8 ?_)
      first|refine Ze6 rfl ?_|refine Ze7 rfl ?_|refine Ze8 rfl ?_|refine Ze9 rfl ?_|refine Zfa rfl rfl ?_|refine Zfb rfl rfl ?_|refine Zfc rfl rfl ?_|refine Ze2 ?_|refine Ze3 ?_
      rw [if_neg (fun hh => by omega)]
      exact ⟨rfl, H.arr (by repeat (first|exact Arr.nil|exact Arr.stop|refine Arr.cons (by repeat constructor) ?_|refine Arr.skip ?_))⟩
  · repeat (first|(refine Zd1 ?_; first|refine Zcx ?_|(refine Zd3 ?_; first|refine Zc0 rfl ?_|refine Zc1 rfl ?_|refine Zc2 rfl ?_)|refine Zcz (by first|exact Zat rfl|exact Zav rfl|exact Zaw rfl|exact Zaz rfl|exact Za2 rfl|exact Za1 rfl|exact Zau rfl|exact Za0 rfl|exact Zba rfl|exact Zce rfl (by omega)|exact Zbn rfl rfl|exact Zbr rfl rfl|exact Zbs rfl rfl|exact Zbq rfl rfl|exact Zbp rfl rfl|exact Zbo rfl rfl|exact Zcr rfl|exact Zbg rfl rfl (by omega)|exact Zbh rfl rfl (by omega)|exact Zbi rfl rfl (by omega)|exact Zco rfl rfl|exact Zdz rfl rfl|exact Zd0 rfl rfl|exact Za8 rfl rfl|exact Za9 rfl rfl|exact Za6 rfl rfl|exact Za7 rfl rfl|exact Zb1 rfl|exact Zca rfl rfl|exact Zcb rfl rfl|exact Zcv rfl rfl|exact Zcw rfl rfl|exact Zax rfl|exact Za3 rfl|exact Zay rfl|exact Zcl rfl rfl|exact Zb0 rfl|exact Zct|exact Zf3|exact Zar rfl|exact Zas rfl) ?_|(refine Zd4 ?_; refine Zc5 H rfl (by repeat constructor) rfl ?_)|(refine Zd5 ?_; (first|refine Zdb H rfl rfl (by repeat constructor) (by first|(simp only [wr_size, Array.size_setIfInBounds, List.size_toArray, List.length_cons, List.length_nil]; omega)|omega|(simp; done)|(simp; omega)) ?_|refine Zde H rfl rfl (by repeat constructor) (by first|(simp only [wr_size, Array.size_setIfInBounds, List.size_toArray, List.length_cons, List.length_nil]; omega)|omega|(simp; done)|(simp; omega)) ?_|refine Zdd H rfl rfl (by repeat constructor) (by first|(simp only [wr_size, Array.size_setIfInBounds, List.size_toArray, List.length_cons, List.length_nil]; omega)|omega|(simp; done)|(simp; omega)) ?_|refine Zdc H rfl rfl (by repeat constructor) (by first|(simp only [wr_size, Array.size_setIfInBounds, List.size_toArray, List.length_cons, List.length_nil]; omega)|omega|(simp; done)|(simp; omega)) ?_|refine Zda H rfl rfl rfl (by repeat constructor) (by first|(simp only [wr_size, Array.size_setIfInBounds, List.size_toArray, List.length_cons, List.length_nil]; omega)|omega|(simp; done)|(simp; omega)) ?_); clear H; intro w H))|(refine Zd6 ?_; first|refine Zd9 ?_|refine Zeb ?_|refine Zeh ?_|refine Zef ?_|refine Zed ?_|refine Zec ?_|refine Zee ?_|refine Zeg ?_|(refine Zd7 ?_; first|refine Zao rfl ?_|refine Zap rfl ?_))|(first|refine Zei ?_|refine Zej ?_|refine Zek ?_|refine Zel ?_|refine Zen ?_|refine Zem ?_|refine Zeo rfl ?_|refine Zep ?_|refine Zeq ?_|refine Zes ?_|refine Zet ?_)|refine Zd8 ?_)
    refine Zex rfl rfl (fun hG => ?_) (fun hG => ?_)
    · repeat (first|(refine Zd1 ?_; first|refine Zcx ?_|(refine Zd3 ?_; first|refine Zc0 rfl ?_|refine Zc1 rfl ?_|refine Zc2 rfl ?_)|refine Zcz (by first|exact Zat rfl|exact Zav rfl|exact Zaw rfl|exact Zaz rfl|exact Za2 rfl|exact Za1 rfl|exact Zau rfl|exact Za0 rfl|exact Zba rfl|exact Zce rfl (by omega)|exact Zbn rfl rfl|exact Zbr rfl rfl|exact Zbs rfl rfl|exact Zbq rfl rfl|exact Zbp rfl rfl|exact Zbo rfl rfl|exact Zcr rfl|exact Zbg rfl rfl (by omega)|exact Zbh rfl rfl (by omega)|exact Zbi rfl rfl (by omega)|exact Zco rfl rfl|exact Zdz rfl rfl|exact Zd0 rfl rfl|exact Za8 rfl rfl|exact Za9 rfl rfl|exact Za6 rfl rfl|exact Za7 rfl rfl|exact Zb1 rfl|exact Zca rfl rfl|exact Zcb rfl rfl|exact Zcv rfl rfl|exact Zcw rfl rfl|exact Zax rfl|exact Za3 rfl|exact Zay rfl|exact Zcl rfl rfl|exact Zb0 rfl|exact Zct|exact Zf3|exact Zar rfl|exact Zas rfl) ?_|(refine Zd4 ?_; refine Zc5 H rfl (by repeat constructor) rfl ?_)|(refine Zd5 ?_; (first|refine Zdb H rfl rfl (by repeat constructor) (by first|(simp only [wr_size, Array.size_setIfInBounds, List.size_toArray, List.length_cons, List.length_nil]; omega)|omega|(simp; done)|(simp; omega)) ?_|refine Zde H rfl rfl (by repeat constructor) (by first|(simp only [wr_size, Array.size_setIfInBounds, List.size_toArray, List.length_cons, List.length_nil]; omega)|omega|(simp; done)|(simp; omega)) ?_|refine Zdd H rfl rfl (by repeat constructor) (by first|(simp only [wr_size, Array.size_setIfInBounds, List.size_toArray, List.length_cons, List.length_nil]; omega)|omega|(simp; done)|(simp; omega)) ?_|refine Zdc H rfl rfl (by repeat constructor) (by first|(simp only [wr_size, Array.size_setIfInBounds, List.size_toArray, List.length_cons, List.length_nil]; omega)|omega|(simp; done)|(simp; omega)) ?_|refine Zda H rfl rfl rfl (by repeat constructor) (by first|(simp only [wr_size, Array.size_setIfInBounds, List.size_toArray, List.length_cons, List.length_nil]; omega)|omega|(simp; done)|(simp; omega)) ?_); clear H; intro w H))|(refine Zd6 ?_; first|refine Zd9 ?_|refine Zeb ?_|refine Zeh ?_|refine Zef ?_|refine Zed ?_|refine Zec ?_|refine Zee ?_|refine Zeg ?_|(refine Zd7 ?_; first|refine Zao rfl ?_|refine Zap rfl ?_))|(first|refine Zei ?_|refine Zej ?_|refine Zek ?_|refine Zel ?_|refine Zen ?_|refine Zem ?_|refine Zeo rfl ?_|refine Zep ?_|refine Zeq ?_|refine Zes ?_|refine Zet ?_)|refine Zd8 ?_)
      refine Zaq rfl (fun hB => ?_) (fun hB => ?_)
      · repeat (first|(refine Zd1 ?_; first|refine Zcx ?_|(refine Zd3 ?_; first|refine Zc0 rfl ?_|refine Zc1 rfl ?_|refine Zc2 rfl ?_)|refine Zcz (by first|exact Zat rfl|exact Zav rfl|exact Zaw rfl|exact Zaz rfl|exact Za2 rfl|exact Za1 rfl|exact Zau rfl|exact Za0 rfl|exact Zba rfl|exact Zce rfl (by omega)|exact Zbn rfl rfl|exact Zbr rfl rfl|exact Zbs rfl rfl|exact Zbq rfl rfl|exact Zbp rfl rfl|exact Zbo rfl rfl|exact Zcr rfl|exact Zbg rfl rfl (by omega)|exact Zbh rfl rfl (by omega)|exact Zbi rfl rfl (by omega)|exact Zco rfl rfl|exact Zdz rfl rfl|exact Zd0 rfl rfl|exact Za8 rfl rfl|exact Za9 rfl rfl|exact Za6 rfl rfl|exact Za7 rfl rfl|exact Zb1 rfl|exact Zca rfl rfl|exact Zcb rfl rfl|exact Zcv rfl rfl|exact Zcw rfl rfl|exact Zax rfl|exact Za3 rfl|exact Zay rfl|exact Zcl rfl rfl|exact Zb0 rfl|exact Zct|exact Zf3|exact Zar rfl|exact Zas rfl) ?_|(refine Zd4 ?_; refine Zc5 H rfl (by repeat constructor) rfl ?_)|(refine Zd5 ?_; (first|refine Zdb H rfl rfl (by repeat constructor) (by first|(simp only [wr_size, Array.size_setIfInBounds, List.size_toArray, List.length_cons, List.length_nil]; omega)|omega|(simp; done)|(simp; omega)) ?_|refine Zde H rfl rfl (by repeat constructor) (by first|(simp only [wr_size, Array.size_setIfInBounds, List.size_toArray, List.length_cons, List.length_nil]; omega)|omega|(simp; done)|(simp; omega)) ?_|refine Zdd H rfl rfl (by repeat constructor) (by first|(simp only [wr_size, Array.size_setIfInBounds, List.size_toArray, List.length_cons, List.length_nil]; omega)|omega|(simp; done)|(simp; omega)) ?_|refine Zdc H rfl rfl (by repeat constructor) (by first|(simp only [wr_size, Array.size_setIfInBounds, List.size_toArray, List.length_cons, List.length_nil]; omega)|omega|(simp; done)|(simp; omega)) ?_|refine Zda H rfl rfl rfl (by repeat constructor) (by first|(simp only [wr_size, Array.size_setIfInBounds, List.size_toArray, List.length_cons, List.length_nil]; omega)|omega|(simp; done)|(simp; omega)) ?_); clear H; intro w H))|(refine Zd6 ?_; first|refine Zd9 ?_|refine Zeb ?_|refine Zeh ?_|refine Zef ?_|refine Zed ?_|refine Zec ?_|refine Zee ?_|refine Zeg ?_|(refine Zd7 ?_; first|refine Zao rfl ?_|refine Zap rfl ?_))|(first|refine Zei ?_|refine Zej ?_|refine Zek ?_|refine Zel ?_|refine Zen ?_|refine Zem ?_|refine Zeo rfl ?_|refine Zep ?_|refine Zeq ?_|refine Zes ?_|refine Zet ?_)|refine Zd8 ?_)
        first|refine Ze6 rfl ?_|refine Ze7 rfl ?_|refine Ze8 rfl ?_|refine Ze9 rfl ?_|refine Zfa rfl rfl ?_|refine Zfb rfl rfl ?_|refine Zfc rfl rfl ?_|refine Ze2 ?_|refine Ze3 ?_
        rw [if_pos ⟨by omega, by omega⟩]
        exact ⟨rfl, H.arr (by repeat (first|exact Arr.nil|exact Arr.stop|refine Arr.cons (by repeat constructor) ?_|refine Arr.skip ?_))⟩
      · repeat (first|(refine Zd1 ?_; first|refine Zcx ?_|(refine Zd3 ?_; first|refine Zc0 rfl ?_|refine Zc1 rfl ?_|refine Zc2 rfl ?_)|refine Zcz (by first|exact Zat rfl|exact Zav rfl|exact Zaw rfl|exact Zaz rfl|exact Za2 rfl|exact Za1 rfl|exact Zau rfl|exact Za0 rfl|exact Zba rfl|exact Zce rfl (by omega)|exact Zbn rfl rfl|exact Zbr rfl rfl|exact Zbs rfl rfl|exact Zbq rfl rfl|exact Zbp rfl rfl|exact Zbo rfl rfl|exact Zcr rfl|exact Zbg rfl rfl (by omega)|exact Zbh rfl rfl (by omega)|exact Zbi rfl rfl (by omega)|exact Zco rfl rfl|exact Zdz rfl rfl|exact Zd0 rfl rfl|exact Za8 rfl rfl|exact Za9 rfl rfl|exact Za6 rfl rfl|exact Za7 rfl rfl|exact Zb1 rfl|exact Zca rfl rfl|exact Zcb rfl rfl|exact Zcv rfl rfl|exact Zcw rfl rfl|exact Zax rfl|exact Za3 rfl|exact Zay rfl|exact Zcl rfl rfl|exact Zb0 rfl|exact Zct|exact Zf3|exact Zar rfl|exact Zas rfl) ?_|(refine Zd4 ?_; refine Zc5 H rfl (by repeat constructor) rfl ?_)|(refine Zd5 ?_; (first|refine Zdb H rfl rfl (by repeat constructor) (by first|(simp only [wr_size, Array.size_setIfInBounds, List.size_toArray, List.length_cons, List.length_nil]; omega)|omega|(simp; done)|(simp; omega)) ?_|refine Zde H rfl rfl (by repeat constructor) (by first|(simp only [wr_size, Array.size_setIfInBounds, List.size_toArray, List.length_cons, List.length_nil]; omega)|omega|(simp; done)|(simp; omega)) ?_|refine Zdd H rfl rfl (by repeat constructor) (by first|(simp only [wr_size, Array.size_setIfInBounds, List.size_toArray, List.length_cons, List.length_nil]; omega)|omega|(simp; done)|(simp; omega)) ?_|refine Zdc H rfl rfl (by repeat constructor) (by first|(simp only [wr_size, Array.size_setIfInBounds, List.size_toArray, List.length_cons, List.length_nil]; omega)|omega|(simp; done)|(simp; omega)) ?_|refine Zda H rfl rfl rfl (by repeat constructor) (by first|(simp only [wr_size, Array.size_setIfInBounds, List.size_toArray, List.length_cons, List.length_nil]; omega)|omega|(simp; done)|(simp; omega)) ?_); clear H; intro w H))|(refine Zd6 ?_; first|refine Zd9 ?_|refine Zeb ?_|refine Zeh ?_|refine Zef ?_|refine Zed ?_|refine Zec ?_|refine Zee ?_|refine Zeg ?_|(refine Zd7 ?_; first|refine Zao rfl ?_|refine Zap rfl ?_))|(first|refine Zei ?_|refine Zej ?_|refine Zek ?_|refine Zel ?_|refine Zen ?_|refine Zem ?_|refine Zeo rfl ?_|refine Zep ?_|refine Zeq ?_|refine Zes ?_|refine Zet ?_)|refine Zd8 ?_)
        first|refine Ze6 rfl ?_|refine Ze7 rfl ?_|refine Ze8 rfl ?_|refine Ze9 rfl ?_|refine Zfa rfl rfl ?_|refine Zfb rfl rfl ?_|refine Zfc rfl rfl ?_|refine Ze2 ?_|refine Ze3 ?_
        rw [if_neg (fun hh => hB hh.2)]
        exact ⟨rfl, H.arr (by repeat (first|exact Arr.nil|exact Arr.stop|refine Arr.cons (by repeat constructor) ?_|refine Arr.skip ?_))⟩
    · repeat (first|(refine Zd1 ?_; first|refine Zcx ?_|(refine Zd3 ?_; first|refine Zc0 rfl ?_|refine Zc1 rfl ?_|refine Zc2 rfl ?_)|refine Zcz (by first|exact Zat rfl|exact Zav rfl|exact Zaw rfl|exact Zaz rfl|exact Za2 rfl|exact Za1 rfl|exact Zau rfl|exact Za0 rfl|exact Zba rfl|exact Zce rfl (by omega)|exact Zbn rfl rfl|exact Zbr rfl rfl|exact Zbs rfl rfl|exact Zbq rfl rfl|exact Zbp rfl rfl|exact Zbo rfl rfl|exact Zcr rfl|exact Zbg rfl rfl (by omega)|exact Zbh rfl rfl (by omega)|exact Zbi rfl rfl (by omega)|exact Zco rfl rfl|exact Zdz rfl rfl|exact Zd0 rfl rfl|exact Za8 rfl rfl|exact Za9 rfl rfl|exact Za6 rfl rfl|exact Za7 rfl rfl|exact Zb1 rfl|exact Zca rfl rfl|exact Zcb rfl rfl|exact Zcv rfl rfl|exact Zcw rfl rfl|exact Zax rfl|exact Za3 rfl|exact Zay rfl|exact Zcl rfl rfl|exact Zb0 rfl|exact Zct|exact Zf3|exact Zar rfl|exact Zas rfl) ?_|(refine Zd4 ?_; refine Zc5 H rfl (by repeat constructor) rfl ?_)|(refine Zd5 ?_; (first|refine Zdb H rfl rfl (by repeat constructor) (by first|(simp only [wr_size, Array.size_setIfInBounds, List.size_toArray, List.length_cons, List.length_nil]; omega)|omega|(simp; done)|(simp; omega)) ?_|refine Zde H rfl rfl (by repeat constructor) (by first|(simp only [wr_size, Array.size_setIfInBounds, List.size_toArray, List.length_cons, List.length_nil]; omega)|omega|(simp; done)|(simp; omega)) ?_|refine Zdd H rfl rfl (by repeat constructor) (by first|(simp only [wr_size, Array.size_setIfInBounds, List.size_toArray, List.length_cons, List.length_nil]; omega)|omega|(simp; done)|(simp; omega)) ?_|refine Zdc H rfl rfl (by repeat constructor) (by first|(simp only [wr_size, Array.size_setIfInBounds, List.size_toArray, List.length_cons, List.length_nil]; omega)|omega|(simp; done)|(simp; omega)) ?_|refine Zda H rfl rfl rfl (by repeat constructor) (by first|(simp only [wr_size, Array.size_setIfInBounds, List.size_toArray, List.length_cons, List.length_nil]; omega)|omega|(simp; done)|(simp; omega)) ?_); clear H; intro w H))|(refine Zd6 ?_; first|refine Zd9 ?_|refine Zeb ?_|refine Zeh ?_|refine Zef ?_|refine Zed ?_|refine Zec ?_|refine Zee ?_|refine Zeg ?_|(refine Zd7 ?_; first|refine Zao rfl ?_|refine Zap rfl ?_))|(first|refine Zei ?_|refine Zej ?_|refine Zek ?_|refine Zel ?_|refine Zen ?_|refine Zem ?_|refine Zeo rfl ?_|refine Zep ?_|refine Zeq ?_|refine Zes ?_|refine Zet ?_)|refine Zd8 ?_)
      first|refine Ze6 rfl ?_|refine Ze7 rfl ?_|refine Ze8 rfl ?_|refine Ze9 rfl ?_|refine Zfa rfl rfl ?_|refine Zfb rfl rfl ?_|refine Zfc rfl rfl ?_|refine Ze2 ?_|refine Ze3 ?_
      rw [if_neg (fun hh => hG (by rw [hh.1]; rfl))]
      exact ⟨rfl, H.arr (by repeat (first|exact Arr.nil|exact Arr.stop|refine Arr.cons (by repeat constructor) ?_|refine Arr.skip ?_))⟩
end
end Go.Sl

/- host: a new host. -/
set_option maxHeartbeats 2000000
set_option linter.unusedVariables false
set_option linter.unusedSimpArgs false
namespace Go.Sl
open Go Go.Proofs
attribute [local irreducible] cl pt own old den denOps denS thenK blockK cutK loopK retK Calls PV
attribute [local irreducible] omap ohole oheld rowsB

theorem comes_take (fl : List HostS.Fault) (i : Nat) (hi : i < fl.length) : upd (HostS.comes (fl.take i)) fl[i].at_ (HostS.comes (fl.take i) fl[i].at_ ++ [fl[i]]) = HostS.comes (fl.take (i + 1)) := by
  funext k
  have h2 : fl.take (i + 1) = fl.take i ++ [fl[i]] := by rw [List.take_succ_eq_append_getElem hi]
  unfold upd HostS.comes
  rw [h2, List.filter_append]
  by_cases e : k = fl[i].at_
  · subst e
    simp
  · have e2 : (fl[i].at_ == k) = false := by simp; omega
    simp [e, e2]
theorem kindly_take (fl : List HostS.Fault) (i : Nat) (hi : i < fl.length) : (fl.take (i + 1)).all HostS.kindly = ((fl.take i).all HostS.kindly && HostS.kindly fl[i]) := by
  rw [List.take_succ_eq_append_getElem hi, List.all_append]; simp
theorem kindly_no {fl : List HostS.Fault} (i : Nat) (hi : i < fl.length) (h : HostS.kindly fl[i] = false) : fl.all HostS.kindly = false := by
  rw [Bool.eq_false_iff, Ne, List.all_eq_true]
  intro hh
  have := hh _ (List.getElem_mem hi)
  rw [h] at this; cases this
theorem ok_fresh (pages : Int) (size : Nat) (fl : List HostS.Fault) (hp : 0 ≤ pages ∧ pages ≤ 65536 ∧ 1 ≤ (size : Int) ∧ (size : Int) ≤ 4124) (hfo : ∀ f ∈ fl, HostS.FOk f) (hfl : fl.length ≤ 2932031007401) : HostS.Ok (HostS.fresh pages size fl) := by
  refine ⟨hp.1, hp.2.1, by simp [HostS.fresh]; omega, by simp [HostS.fresh]; omega, fun p r hr => by simp [HostS.fresh] at hr, fun p => by simp [HostS.fresh], by simp [HostS.fresh], ?_, ?_⟩
  · intro k f hf
    exact hfo f (List.mem_filter.1 hf).1
  · intro k
    exact Nat.le_trans (List.length_filter_le _ _) hfl
theorem new_c {w0 w : World} {L : List Asrt} (pages size : Int) {fv : Value} {fl : List HostS.Fault} (hfl : fl.length ≤ 2932031007401) (hfo : ∀ f ∈ fl, HostS.FOk f)
    (hf : ∀ w', St w0 w' L → SlW w' 6 fv fl.length (fl.flatMap fcells)) (H : St w0 w L) :
    Calls Try.prog 9 #[.int .i64 pages, .int .i64 size, fv] w
      (Ret fun v w' => (HostS.mayBe pages size fl ∧ ∃ p, v = .tuple #[.pointer (some ⟨p, 0, none⟩), .int .i64 0] ∧ St w0 w' (hostA p (HostS.fresh pages size.toNat fl) :: L)) ∨
        (¬ HostS.mayBe pages size fl ∧ v = .tuple #[.pointer none, .int .i64 2] ∧ St w0 w' L)) := by
  obtain ⟨fa, fk, rfl⟩ := (hf _ H).len
  refine calls_den [_, _, _] Try.func9 rfl rfl rfl Try.mixed (by kernel_rfl) ?_
  have bad : ¬ HostS.mayBe pages size fl → ∀ w, St w0 w L → ((HostS.mayBe pages size fl ∧ ∃ p, Value.tuple #[.pointer none, .int .i64 2] = .tuple #[.pointer (some ⟨p, 0, none⟩), .int .i64 0] ∧ St w0 w (hostA p (HostS.fresh pages size.toNat fl) :: L)) ∨ (¬ HostS.mayBe pages size fl ∧ Value.tuple #[.pointer none, .int .i64 2] = .tuple #[.pointer none, .int .i64 2] ∧ St w0 w L)) := fun h w H => .inr ⟨h, rfl, H⟩
  repeat (first|(refine Zd1 ?_; first|refine Zcx ?_|(refine Zd3 ?_; first|refine Zc0 rfl ?_|refine Zc1 rfl ?_|refine Zc2 rfl ?_)|refine Zcz (by first|exact Zat rfl|exact Zav rfl|exact Zaw rfl|exact Zaz rfl|exact Za2 rfl|exact Za1 rfl|exact Zau rfl|exact Za0 rfl|exact Zba rfl|exact Zce rfl (by omega)|exact Zbn rfl rfl|exact Zbr rfl rfl|exact Zbs rfl rfl|exact Zbq rfl rfl|exact Zbp rfl rfl|exact Zbo rfl rfl|exact Zcr rfl|exact Zbg rfl rfl (by omega)|exact Zbh rfl rfl (by omega)|exact Zbi rfl rfl (by omega)|exact Zco rfl rfl|exact Zdz rfl rfl|exact Zd0 rfl rfl|exact Za8 rfl rfl|exact Za9 rfl rfl|exact Za6 rfl rfl|exact Za7 rfl rfl|exact Zb1 rfl|exact Zca rfl rfl|exact Zcb rfl rfl|exact Zcv rfl rfl|exact Zcw rfl rfl|exact Zax rfl|exact Za3 rfl|exact Zay rfl|exact Zcl rfl rfl|exact Zb0 rfl|exact Zct|exact Zf3|exact Zar rfl|exact Zas rfl) ?_|(refine Zd4 ?_; refine Zc5 H rfl (by repeat constructor) rfl ?_)|(refine Zd5 ?_; (first|refine Zdb H rfl rfl (by repeat constructor) (by first|(simp only [wr_size, Array.size_setIfInBounds, List.size_toArray, List.length_cons, List.length_nil]; omega)|omega|(simp; done)|(simp; omega)) ?_|refine Zde H rfl rfl (by repeat constructor) (by first|(simp only [wr_size, Array.size_setIfInBounds, List.size_toArray, List.length_cons, List.length_nil]; omega)|omega|(simp; done)|(simp; omega)) ?_|refine Zdd H rfl rfl (by repeat constructor) (by first|(simp only [wr_size, Array.size_setIfInBounds, List.size_toArray, List.length_cons, List.length_nil]; omega)|omega|(simp; done)|(simp; omega)) ?_|refine Zdc H rfl rfl (by repeat constructor) (by first|(simp only [wr_size, Array.size_setIfInBounds, List.size_toArray, List.length_cons, List.length_nil]; omega)|omega|(simp; done)|(simp; omega)) ?_|refine Zda H rfl rfl rfl (by repeat constructor) (by first|(simp only [wr_size, Array.size_setIfInBounds, List.size_toArray, List.length_cons, List.length_nil]; omega)|omega|(simp; done)|(simp; omega)) ?_); clear H; intro w H))|(refine Zd6 ?_; first|refine Zd9 ?_|refine Zeb ?_|refine Zeh ?_|refine Zef ?_|refine Zed ?_|refine Zec ?_|refine Zee ?_|refine Zeg ?_|(refine Zd7 ?_; first|refine Zao rfl ?_|refine Zap rfl ?_))|(first|refine Zei ?_|refine Zej ?_|refine Zek ?_|refine Zel ?_|refine Zen ?_|refine Zem ?_|refine Zeo rfl ?_|refine Zep ?_|refine Zeq ?_|refine Zes ?_|refine Zet ?_)|refine Zd8 ?_)
  refine Zex rfl rfl (fun hG => ?_) (fun hG => ?_)
  · repeat (first|(refine Zd1 ?_; first|refine Zcx ?_|(refine Zd3 ?_; first|refine Zc0 rfl ?_|refine Zc1 rfl ?_|refine Zc2 rfl ?_)|refine Zcz (by first|exact Zat rfl|exact Zav rfl|exact Zaw rfl|exact Zaz rfl|exact Za2 rfl|exact Za1 rfl|exact Zau rfl|exact Za0 rfl|exact Zba rfl|exact Zce rfl (by omega)|exact Zbn rfl rfl|exact Zbr rfl rfl|exact Zbs rfl rfl|exact Zbq rfl rfl|exact Zbp rfl rfl|exact Zbo rfl rfl|exact Zcr rfl|exact Zbg rfl rfl (by omega)|exact Zbh rfl rfl (by omega)|exact Zbi rfl rfl (by omega)|exact Zco rfl rfl|exact Zdz rfl rfl|exact Zd0 rfl rfl|exact Za8 rfl rfl|exact Za9 rfl rfl|exact Za6 rfl rfl|exact Za7 rfl rfl|exact Zb1 rfl|exact Zca rfl rfl|exact Zcb rfl rfl|exact Zcv rfl rfl|exact Zcw rfl rfl|exact Zax rfl|exact Za3 rfl|exact Zay rfl|exact Zcl rfl rfl|exact Zb0 rfl|exact Zct|exact Zf3|exact Zar rfl|exact Zas rfl) ?_|(refine Zd4 ?_; refine Zc5 H rfl (by repeat constructor) rfl ?_)|(refine Zd5 ?_; (first|refine Zdb H rfl rfl (by repeat constructor) (by first|(simp only [wr_size, Array.size_setIfInBounds, List.size_toArray, List.length_cons, List.length_nil]; omega)|omega|(simp; done)|(simp; omega)) ?_|refine Zde H rfl rfl (by repeat constructor) (by first|(simp only [wr_size, Array.size_setIfInBounds, List.size_toArray, List.length_cons, List.length_nil]; omega)|omega|(simp; done)|(simp; omega)) ?_|refine Zdd H rfl rfl (by repeat constructor) (by first|(simp only [wr_size, Array.size_setIfInBounds, List.size_toArray, List.length_cons, List.length_nil]; omega)|omega|(simp; done)|(simp; omega)) ?_|refine Zdc H rfl rfl (by repeat constructor) (by first|(simp only [wr_size, Array.size_setIfInBounds, List.size_toArray, List.length_cons, List.length_nil]; omega)|omega|(simp; done)|(simp; omega)) ?_|refine Zda H rfl rfl rfl (by repeat constructor) (by first|(simp only [wr_size, Array.size_setIfInBounds, List.size_toArray, List.length_cons, List.length_nil]; omega)|omega|(simp; done)|(simp; omega)) ?_); clear H; intro w H))|(refine Zd6 ?_; first|refine Zd9 ?_|refine Zeb ?_|refine Zeh ?_|refine Zef ?_|refine Zed ?_|refine Zec ?_|refine Zee ?_|refine Zeg ?_|(refine Zd7 ?_; first|refine Zao rfl ?_|refine Zap rfl ?_))|(first|refine Zei ?_|refine Zej ?_|refine Zek ?_|refine Zel ?_|refine Zen ?_|refine Zem ?_|refine Zeo rfl ?_|refine Zep ?_|refine Zeq ?_|refine Zes ?_|refine Zet ?_)|refine Zd8 ?_)
    first|refine Ze6 rfl ?_|refine Ze7 rfl ?_|refine Ze8 rfl ?_|refine Ze9 rfl ?_|refine Zfa rfl rfl ?_|refine Zfb rfl rfl ?_|refine Zfc rfl rfl ?_|refine Ze2 ?_|refine Ze3 ?_
    exact bad (fun h => by have := h.1; omega) _ H
  repeat (first|(refine Zd1 ?_; first|refine Zcx ?_|(refine Zd3 ?_; first|refine Zc0 rfl ?_|refine Zc1 rfl ?_|refine Zc2 rfl ?_)|refine Zcz (by first|exact Zat rfl|exact Zav rfl|exact Zaw rfl|exact Zaz rfl|exact Za2 rfl|exact Za1 rfl|exact Zau rfl|exact Za0 rfl|exact Zba rfl|exact Zce rfl (by omega)|exact Zbn rfl rfl|exact Zbr rfl rfl|exact Zbs rfl rfl|exact Zbq rfl rfl|exact Zbp rfl rfl|exact Zbo rfl rfl|exact Zcr rfl|exact Zbg rfl rfl (by omega)|exact Zbh rfl rfl (by omega)|exact Zbi rfl rfl (by omega)|exact Zco rfl rfl|exact Zdz rfl rfl|exact Zd0 rfl rfl|exact Za8 rfl rfl|exact Za9 rfl rfl|exact Za6 rfl rfl|exact Za7 rfl rfl|exact Zb1 rfl|exact Zca rfl rfl|exact Zcb rfl rfl|exact Zcv rfl rfl|exact Zcw rfl rfl|exact Zax rfl|exact Za3 rfl|exact Zay rfl|exact Zcl rfl rfl|exact Zb0 rfl|exact Zct|exact Zf3|exact Zar rfl|exact Zas rfl) ?_|(refine Zd4 ?_; refine Zc5 H rfl (by repeat constructor) rfl ?_)|(refine Zd5 ?_; (first|refine Zdb H rfl rfl (by repeat constructor) (by first|(simp only [wr_size, Array.size_setIfInBounds, List.size_toArray, List.length_cons, List.length_nil]; omega)|omega|(simp; done)|(simp; omega)) ?_|refine Zde H rfl rfl (by repeat constructor) (by first|(simp only [wr_size, Array.size_setIfInBounds, List.size_toArray, List.length_cons, List.length_nil]; omega)|omega|(simp; done)|(simp; omega)) ?_|refine Zdd H rfl rfl (by repeat constructor) (by first|(simp only [wr_size, Array.size_setIfInBounds, List.size_toArray, List.length_cons, List.length_nil]; omega)|omega|(simp; done)|(simp; omega)) ?_|refine Zdc H rfl rfl (by repeat constructor) (by first|(simp only [wr_size, Array.size_setIfInBounds, List.size_toArray, List.length_cons, List.length_nil]; omega)|omega|(simp; done)|(simp; omega)) ?_|refine Zda H rfl rfl rfl (by repeat constructor) (by first|(simp only [wr_size, Array.size_setIfInBounds, List.size_toArray, List.length_cons, List.length_nil]; omega)|omega|(simp; done)|(simp; omega)) ?_); clear H; intro w H))|(refine Zd6 ?_; first|refine Zd9 ?_|refine Zeb ?_|refine Zeh ?_|refine Zef ?_|refine Zed ?_|refine Zec ?_|refine Zee ?_|refine Zeg ?_|(refine Zd7 ?_; first|refine Zao rfl ?_|refine Zap rfl ?_))|(first|refine Zei ?_|refine Zej ?_|refine Zek ?_|refine Zel ?_|refine Zen ?_|refine Zem ?_|refine Zeo rfl ?_|refine Zep ?_|refine Zeq ?_|refine Zes ?_|refine Zet ?_)|refine Zd8 ?_)
  refine Zex rfl rfl (fun hG => ?_) (fun hG => ?_)
  · repeat (first|(refine Zd1 ?_; first|refine Zcx ?_|(refine Zd3 ?_; first|refine Zc0 rfl ?_|refine Zc1 rfl ?_|refine Zc2 rfl ?_)|refine Zcz (by first|exact Zat rfl|exact Zav rfl|exact Zaw rfl|exact Zaz rfl|exact Za2 rfl|exact Za1 rfl|exact Zau rfl|exact Za0 rfl|exact Zba rfl|exact Zce rfl (by omega)|exact Zbn rfl rfl|exact Zbr rfl rfl|exact Zbs rfl rfl|exact Zbq rfl rfl|exact Zbp rfl rfl|exact Zbo rfl rfl|exact Zcr rfl|exact Zbg rfl rfl (by omega)|exact Zbh rfl rfl (by omega)|exact Zbi rfl rfl (by omega)|exact Zco rfl rfl|exact Zdz rfl rfl|exact Zd0 rfl rfl|exact Za8 rfl rfl|exact Za9 rfl rfl|exact Za6 rfl rfl|exact Za7 rfl rfl|exact Zb1 rfl|exact Zca rfl rfl|exact Zcb rfl rfl|exact Zcv rfl rfl|exact Zcw rfl rfl|exact Zax rfl|exact Za3 rfl|exact Zay rfl|exact Zcl rfl rfl|exact Zb0 rfl|exact Zct|exact Zf3|exact Zar rfl|exact Zas rfl) ?_|(refine Zd4 ?_; refine Zc5 H rfl (by repeat constructor) rfl ?_)|(refine Zd5 ?_; (first|refine Zdb H rfl rfl (by repeat constructor) (by first|(simp only [wr_size, Array.size_setIfInBounds, List.size_toArray, List.length_cons, List.length_nil]; omega)|omega|(simp; done)|(simp; omega)) ?_|refine Zde H rfl rfl (by repeat constructor) (by first|(simp only [wr_size, Array.size_setIfInBounds, List.size_toArray, List.length_cons, List.length_nil]; omega)|omega|(simp; done)|(simp; omega)) ?_|refine Zdd H rfl rfl (by repeat constructor) (by first|(simp only [wr_size, Array.size_setIfInBounds, List.size_toArray, List.length_cons, List.length_nil]; omega)|omega|(simp; done)|(simp; omega)) ?_|refine Zdc H rfl rfl (by repeat constructor) (by first|(simp only [wr_size, Array.size_setIfInBounds, List.size_toArray, List.length_cons, List.length_nil]; omega)|omega|(simp; done)|(simp; omega)) ?_|refine Zda H rfl rfl rfl (by repeat constructor) (by first|(simp only [wr_size, Array.size_setIfInBounds, List.size_toArray, List.length_cons, List.length_nil]; omega)|omega|(simp; done)|(simp; omega)) ?_); clear H; intro w H))|(refine Zd6 ?_; first|refine Zd9 ?_|refine Zeb ?_|refine Zeh ?_|refine Zef ?_|refine Zed ?_|refine Zec ?_|refine Zee ?_|refine Zeg ?_|(refine Zd7 ?_; first|refine Zao rfl ?_|refine Zap rfl ?_))|(first|refine Zei ?_|refine Zej ?_|refine Zek ?_|refine Zel ?_|refine Zen ?_|refine Zem ?_|refine Zeo rfl ?_|refine Zep ?_|refine Zeq ?_|refine Zes ?_|refine Zet ?_)|refine Zd8 ?_)
    first|refine Ze6 rfl ?_|refine Ze7 rfl ?_|refine Ze8 rfl ?_|refine Ze9 rfl ?_|refine Zfa rfl rfl ?_|refine Zfb rfl rfl ?_|refine Zfc rfl rfl ?_|refine Ze2 ?_|refine Ze3 ?_
    exact bad (fun h => by have := h.1; omega) _ H
  repeat (first|(refine Zd1 ?_; first|refine Zcx ?_|(refine Zd3 ?_; first|refine Zc0 rfl ?_|refine Zc1 rfl ?_|refine Zc2 rfl ?_)|refine Zcz (by first|exact Zat rfl|exact Zav rfl|exact Zaw rfl|exact Zaz rfl|exact Za2 rfl|exact Za1 rfl|exact Zau rfl|exact Za0 rfl|exact Zba rfl|exact Zce rfl (by omega)|exact Zbn rfl rfl|exact Zbr rfl rfl|exact Zbs rfl rfl|exact Zbq rfl rfl|exact Zbp rfl rfl|exact Zbo rfl rfl|exact Zcr rfl|exact Zbg rfl rfl (by omega)|exact Zbh rfl rfl (by omega)|exact Zbi rfl rfl (by omega)|exact Zco rfl rfl|exact Zdz rfl rfl|exact Zd0 rfl rfl|exact Za8 rfl rfl|exact Za9 rfl rfl|exact Za6 rfl rfl|exact Za7 rfl rfl|exact Zb1 rfl|exact Zca rfl rfl|exact Zcb rfl rfl|exact Zcv rfl rfl|exact Zcw rfl rfl|exact Zax rfl|exact Za3 rfl|exact Zay rfl|exact Zcl rfl rfl|exact Zb0 rfl|exact Zct|exact Zf3|exact Zar rfl|exact Zas rfl) ?_|(refine Zd4 ?_; refine Zc5 H rfl (by repeat constructor) rfl ?_)|(refine Zd5 ?_; (first|refine Zdb H rfl rfl (by repeat constructor) (by first|(simp only [wr_size, Array.size_setIfInBounds, List.size_toArray, List.length_cons, List.length_nil]; omega)|omega|(simp; done)|(simp; omega)) ?_|refine Zde H rfl rfl (by repeat constructor) (by first|(simp only [wr_size, Array.size_setIfInBounds, List.size_toArray, List.length_cons, List.length_nil]; omega)|omega|(simp; done)|(simp; omega)) ?_|refine Zdd H rfl rfl (by repeat constructor) (by first|(simp only [wr_size, Array.size_setIfInBounds, List.size_toArray, List.length_cons, List.length_nil]; omega)|omega|(simp; done)|(simp; omega)) ?_|refine Zdc H rfl rfl (by repeat constructor) (by first|(simp only [wr_size, Array.size_setIfInBounds, List.size_toArray, List.length_cons, List.length_nil]; omega)|omega|(simp; done)|(simp; omega)) ?_|refine Zda H rfl rfl rfl (by repeat constructor) (by first|(simp only [wr_size, Array.size_setIfInBounds, List.size_toArray, List.length_cons, List.length_nil]; omega)|omega|(simp; done)|(simp; omega)) ?_); clear H; intro w H))|(refine Zd6 ?_; first|refine Zd9 ?_|refine Zeb ?_|refine Zeh ?_|refine Zef ?_|refine Zed ?_|refine Zec ?_|refine Zee ?_|refine Zeg ?_|(refine Zd7 ?_; first|refine Zao rfl ?_|refine Zap rfl ?_))|(first|refine Zei ?_|refine Zej ?_|refine Zek ?_|refine Zel ?_|refine Zen ?_|refine Zem ?_|refine Zeo rfl ?_|refine Zep ?_|refine Zeq ?_|refine Zes ?_|refine Zet ?_)|refine Zd8 ?_)
  refine Zex rfl rfl (fun hG => ?_) (fun hG => ?_)
  · repeat (first|(refine Zd1 ?_; first|refine Zcx ?_|(refine Zd3 ?_; first|refine Zc0 rfl ?_|refine Zc1 rfl ?_|refine Zc2 rfl ?_)|refine Zcz (by first|exact Zat rfl|exact Zav rfl|exact Zaw rfl|exact Zaz rfl|exact Za2 rfl|exact Za1 rfl|exact Zau rfl|exact Za0 rfl|exact Zba rfl|exact Zce rfl (by omega)|exact Zbn rfl rfl|exact Zbr rfl rfl|exact Zbs rfl rfl|exact Zbq rfl rfl|exact Zbp rfl rfl|exact Zbo rfl rfl|exact Zcr rfl|exact Zbg rfl rfl (by omega)|exact Zbh rfl rfl (by omega)|exact Zbi rfl rfl (by omega)|exact Zco rfl rfl|exact Zdz rfl rfl|exact Zd0 rfl rfl|exact Za8 rfl rfl|exact Za9 rfl rfl|exact Za6 rfl rfl|exact Za7 rfl rfl|exact Zb1 rfl|exact Zca rfl rfl|exact Zcb rfl rfl|exact Zcv rfl rfl|exact Zcw rfl rfl|exact Zax rfl|exact Za3 rfl|exact Zay rfl|exact Zcl rfl rfl|exact Zb0 rfl|exact Zct|exact Zf3|exact Zar rfl|exact Zas rfl) ?_|(refine Zd4 ?_; refine Zc5 H rfl (by repeat constructor) rfl ?_)|(refine Zd5 ?_; (first|refine Zdb H rfl rfl (by repeat constructor) (by first|(simp only [wr_size, Array.size_setIfInBounds, List.size_toArray, List.length_cons, List.length_nil]; omega)|omega|(simp; done)|(simp; omega)) ?_|refine Zde H rfl rfl (by repeat constructor) (by first|(simp only [wr_size, Array.size_setIfInBounds, List.size_toArray, List.length_cons, List.length_nil]; omega)|omega|(simp; done)|(simp; omega)) ?_|refine Zdd H rfl rfl (by repeat constructor) (by first|(simp only [wr_size, Array.size_setIfInBounds, List.size_toArray, List.length_cons, List.length_nil]; omega)|omega|(simp; done)|(simp; omega)) ?_|refine Zdc H rfl rfl (by repeat constructor) (by first|(simp only [wr_size, Array.size_setIfInBounds, List.size_toArray, List.length_cons, List.length_nil]; omega)|omega|(simp; done)|(simp; omega)) ?_|refine Zda H rfl rfl rfl (by repeat constructor) (by first|(simp only [wr_size, Array.size_setIfInBounds, List.size_toArray, List.length_cons, List.length_nil]; omega)|omega|(simp; done)|(simp; omega)) ?_); clear H; intro w H))|(refine Zd6 ?_; first|refine Zd9 ?_|refine Zeb ?_|refine Zeh ?_|refine Zef ?_|refine Zed ?_|refine Zec ?_|refine Zee ?_|refine Zeg ?_|(refine Zd7 ?_; first|refine Zao rfl ?_|refine Zap rfl ?_))|(first|refine Zei ?_|refine Zej ?_|refine Zek ?_|refine Zel ?_|refine Zen ?_|refine Zem ?_|refine Zeo rfl ?_|refine Zep ?_|refine Zeq ?_|refine Zes ?_|refine Zet ?_)|refine Zd8 ?_)
    first|refine Ze6 rfl ?_|refine Ze7 rfl ?_|refine Ze8 rfl ?_|refine Ze9 rfl ?_|refine Zfa rfl rfl ?_|refine Zfb rfl rfl ?_|refine Zfc rfl rfl ?_|refine Ze2 ?_|refine Ze3 ?_
    exact bad (fun h => by have := h.1; omega) _ H
  repeat (first|(refine Zd1 ?_; first|refine Zcx ?_|(refine Zd3 ?_; first|refine Zc0 rfl ?_|refine Zc1 rfl ?_|refine Zc2 rfl ?_)|refine Zcz (by first|exact Zat rfl|exact Zav rfl|exact Zaw rfl|exact Zaz rfl|exact Za2 rfl|exact Za1 rfl|exact Zau rfl|exact Za0 rfl|exact Zba rfl|exact Zce rfl (by omega)|exact Zbn rfl rfl|exact Zbr rfl rfl|exact Zbs rfl rfl|exact Zbq rfl rfl|exact Zbp rfl rfl|exact Zbo rfl rfl|exact Zcr rfl|exact Zbg rfl rfl (by omega)|exact Zbh rfl rfl (by omega)|exact Zbi rfl rfl (by omega)|exact Zco rfl rfl|exact Zdz rfl rfl|exact Zd0 rfl rfl|exact Za8 rfl rfl|exact Za9 rfl rfl|exact Za6 rfl rfl|exact Za7 rfl rfl|exact Zb1 rfl|exact Zca rfl rfl|exact Zcb rfl rfl|exact Zcv rfl rfl|exact Zcw rfl rfl|exact Zax rfl|exact Za3 rfl|exact Zay rfl|exact Zcl rfl rfl|exact Zb0 rfl|exact Zct|exact Zf3|exact Zar rfl|exact Zas rfl) ?_|(refine Zd4 ?_; refine Zc5 H rfl (by repeat constructor) rfl ?_)|(refine Zd5 ?_; (first|refine Zdb H rfl rfl (by repeat constructor) (by first|(simp only [wr_size, Array.size_setIfInBounds, List.size_toArray, List.length_cons, List.length_nil]; omega)|omega|(simp; done)|(simp; omega)) ?_|refine Zde H rfl rfl (by repeat constructor) (by first|(simp only [wr_size, Array.size_setIfInBounds, List.size_toArray, List.length_cons, List.length_nil]; omega)|omega|(simp; done)|(simp; omega)) ?_|refine Zdd H rfl rfl (by repeat constructor) (by first|(simp only [wr_size, Array.size_setIfInBounds, List.size_toArray, List.length_cons, List.length_nil]; omega)|omega|(simp; done)|(simp; omega)) ?_|refine Zdc H rfl rfl (by repeat constructor) (by first|(simp only [wr_size, Array.size_setIfInBounds, List.size_toArray, List.length_cons, List.length_nil]; omega)|omega|(simp; done)|(simp; omega)) ?_|refine Zda H rfl rfl rfl (by repeat constructor) (by first|(simp only [wr_size, Array.size_setIfInBounds, List.size_toArray, List.length_cons, List.length_nil]; omega)|omega|(simp; done)|(simp; omega)) ?_); clear H; intro w H))|(refine Zd6 ?_; first|refine Zd9 ?_|refine Zeb ?_|refine Zeh ?_|refine Zef ?_|refine Zed ?_|refine Zec ?_|refine Zee ?_|refine Zeg ?_|(refine Zd7 ?_; first|refine Zao rfl ?_|refine Zap rfl ?_))|(first|refine Zei ?_|refine Zej ?_|refine Zek ?_|refine Zel ?_|refine Zen ?_|refine Zem ?_|refine Zeo rfl ?_|refine Zep ?_|refine Zeq ?_|refine Zes ?_|refine Zet ?_)|refine Zd8 ?_)
  refine Zaq rfl (fun hB => ?_) (fun hB => ?_)
  · repeat (first|(refine Zd1 ?_; first|refine Zcx ?_|(refine Zd3 ?_; first|refine Zc0 rfl ?_|refine Zc1 rfl ?_|refine Zc2 rfl ?_)|refine Zcz (by first|exact Zat rfl|exact Zav rfl|exact Zaw rfl|exact Zaz rfl|exact Za2 rfl|exact Za1 rfl|exact Zau rfl|exact Za0 rfl|exact Zba rfl|exact Zce rfl (by omega)|exact Zbn rfl rfl|exact Zbr rfl rfl|exact Zbs rfl rfl|exact Zbq rfl rfl|exact Zbp rfl rfl|exact Zbo rfl rfl|exact Zcr rfl|exact Zbg rfl rfl (by omega)|exact Zbh rfl rfl (by omega)|exact Zbi rfl rfl (by omega)|exact Zco rfl rfl|exact Zdz rfl rfl|exact Zd0 rfl rfl|exact Za8 rfl rfl|exact Za9 rfl rfl|exact Za6 rfl rfl|exact Za7 rfl rfl|exact Zb1 rfl|exact Zca rfl rfl|exact Zcb rfl rfl|exact Zcv rfl rfl|exact Zcw rfl rfl|exact Zax rfl|exact Za3 rfl|exact Zay rfl|exact Zcl rfl rfl|exact Zb0 rfl|exact Zct|exact Zf3|exact Zar rfl|exact Zas rfl) ?_|(refine Zd4 ?_; refine Zc5 H rfl (by repeat constructor) rfl ?_)|(refine Zd5 ?_; (first|refine Zdb H rfl rfl (by repeat constructor) (by first|(simp only [wr_size, Array.size_setIfInBounds, List.size_toArray, List.length_cons, List.length_nil]; omega)|omega|(simp; done)|(simp; omega)) ?_|refine Zde H rfl rfl (by repeat constructor) (by first|(simp only [wr_size, Array.size_setIfInBounds, List.size_toArray, List.length_cons, List.length_nil]; omega)|omega|(simp; done)|(simp; omega)) ?_|refine Zdd H rfl rfl (by repeat constructor) (by first|(simp only [wr_size, Array.size_setIfInBounds, List.size_toArray, List.length_cons, List.length_nil]; omega)|omega|(simp; done)|(simp; omega)) ?_|refine Zdc H rfl rfl (by repeat constructor) (by first|(simp only [wr_size, Array.size_setIfInBounds, List.size_toArray, List.length_cons, List.length_nil]; omega)|omega|(simp; done)|(simp; omega)) ?_|refine Zda H rfl rfl rfl (by repeat constructor) (by first|(simp only [wr_size, Array.size_setIfInBounds, List.size_toArray, List.length_cons, List.length_nil]; omega)|omega|(simp; done)|(simp; omega)) ?_); clear H; intro w H))|(refine Zd6 ?_; first|refine Zd9 ?_|refine Zeb ?_|refine Zeh ?_|refine Zef ?_|refine Zed ?_|refine Zec ?_|refine Zee ?_|refine Zeg ?_|(refine Zd7 ?_; first|refine Zao rfl ?_|refine Zap rfl ?_))|(first|refine Zei ?_|refine Zej ?_|refine Zek ?_|refine Zel ?_|refine Zen ?_|refine Zem ?_|refine Zeo rfl ?_|refine Zep ?_|refine Zeq ?_|refine Zes ?_|refine Zet ?_)|refine Zd8 ?_)
    first|refine Ze6 rfl ?_|refine Ze7 rfl ?_|refine Ze8 rfl ?_|refine Ze9 rfl ?_|refine Zfa rfl rfl ?_|refine Zfb rfl rfl ?_|refine Zfc rfl rfl ?_|refine Ze2 ?_|refine Ze3 ?_
    exact bad (fun h => by have := h.1; omega) _ H
  have hfit : 0 ≤ pages ∧ pages ≤ 65536 ∧ 1 ≤ size ∧ size ≤ 4124 := by omega
  obtain ⟨sz, rfl⟩ : ∃ sz : Nat, size = (sz : Int) := ⟨size.toNat, by omega⟩
  repeat (first|(refine Zd1 ?_; first|refine Zcx ?_|(refine Zd3 ?_; first|refine Zc0 rfl ?_|refine Zc1 rfl ?_|refine Zc2 rfl ?_)|refine Zcz (by first|exact Zat rfl|exact Zav rfl|exact Zaw rfl|exact Zaz rfl|exact Za2 rfl|exact Za1 rfl|exact Zau rfl|exact Za0 rfl|exact Zba rfl|exact Zce rfl (by omega)|exact Zbn rfl rfl|exact Zbr rfl rfl|exact Zbs rfl rfl|exact Zbq rfl rfl|exact Zbp rfl rfl|exact Zbo rfl rfl|exact Zcr rfl|exact Zbg rfl rfl (by omega)|exact Zbh rfl rfl (by omega)|exact Zbi rfl rfl (by omega)|exact Zco rfl rfl|exact Zdz rfl rfl|exact Zd0 rfl rfl|exact Za8 rfl rfl|exact Za9 rfl rfl|exact Za6 rfl rfl|exact Za7 rfl rfl|exact Zb1 rfl|exact Zca rfl rfl|exact Zcb rfl rfl|exact Zcv rfl rfl|exact Zcw rfl rfl|exact Zax rfl|exact Za3 rfl|exact Zay rfl|exact Zcl rfl rfl|exact Zb0 rfl|exact Zct|exact Zf3|exact Zar rfl|exact Zas rfl) ?_|(refine Zd4 ?_; refine Zc5 H rfl (by repeat constructor) rfl ?_)|(refine Zd5 ?_; (first|refine Zdb H rfl rfl (by repeat constructor) (by first|(simp only [wr_size, Array.size_setIfInBounds, List.size_toArray, List.length_cons, List.length_nil]; omega)|omega|(simp; done)|(simp; omega)) ?_|refine Zde H rfl rfl (by repeat constructor) (by first|(simp only [wr_size, Array.size_setIfInBounds, List.size_toArray, List.length_cons, List.length_nil]; omega)|omega|(simp; done)|(simp; omega)) ?_|refine Zdd H rfl rfl (by repeat constructor) (by first|(simp only [wr_size, Array.size_setIfInBounds, List.size_toArray, List.length_cons, List.length_nil]; omega)|omega|(simp; done)|(simp; omega)) ?_|refine Zdc H rfl rfl (by repeat constructor) (by first|(simp only [wr_size, Array.size_setIfInBounds, List.size_toArray, List.length_cons, List.length_nil]; omega)|omega|(simp; done)|(simp; omega)) ?_|refine Zda H rfl rfl rfl (by repeat constructor) (by first|(simp only [wr_size, Array.size_setIfInBounds, List.size_toArray, List.length_cons, List.length_nil]; omega)|omega|(simp; done)|(simp; omega)) ?_); clear H; intro w H))|(refine Zd6 ?_; first|refine Zd9 ?_|refine Zeb ?_|refine Zeh ?_|refine Zef ?_|refine Zed ?_|refine Zec ?_|refine Zee ?_|refine Zeg ?_|(refine Zd7 ?_; first|refine Zao rfl ?_|refine Zap rfl ?_))|(first|refine Zei ?_|refine Zej ?_|refine Zek ?_|refine Zel ?_|refine Zen ?_|refine Zem ?_|refine Zeo rfl ?_|refine Zep ?_|refine Zeq ?_|refine Zes ?_|refine Zet ?_)|refine Zd8 ?_)
  refine Zfl H rowsA [] ?_; clear H; intro w bl H
  repeat (first|(refine Zd1 ?_; first|refine Zcx ?_|(refine Zd3 ?_; first|refine Zc0 rfl ?_|refine Zc1 rfl ?_|refine Zc2 rfl ?_)|refine Zcz (by first|exact Zat rfl|exact Zav rfl|exact Zaw rfl|exact Zaz rfl|exact Za2 rfl|exact Za1 rfl|exact Zau rfl|exact Za0 rfl|exact Zba rfl|exact Zce rfl (by omega)|exact Zbn rfl rfl|exact Zbr rfl rfl|exact Zbs rfl rfl|exact Zbq rfl rfl|exact Zbp rfl rfl|exact Zbo rfl rfl|exact Zcr rfl|exact Zbg rfl rfl (by omega)|exact Zbh rfl rfl (by omega)|exact Zbi rfl rfl (by omega)|exact Zco rfl rfl|exact Zdz rfl rfl|exact Zd0 rfl rfl|exact Za8 rfl rfl|exact Za9 rfl rfl|exact Za6 rfl rfl|exact Za7 rfl rfl|exact Zb1 rfl|exact Zca rfl rfl|exact Zcb rfl rfl|exact Zcv rfl rfl|exact Zcw rfl rfl|exact Zax rfl|exact Za3 rfl|exact Zay rfl|exact Zcl rfl rfl|exact Zb0 rfl|exact Zct|exact Zf3|exact Zar rfl|exact Zas rfl) ?_|(refine Zd4 ?_; refine Zc5 H rfl (by repeat constructor) rfl ?_)|(refine Zd5 ?_; (first|refine Zdb H rfl rfl (by repeat constructor) (by first|(simp only [wr_size, Array.size_setIfInBounds, List.size_toArray, List.length_cons, List.length_nil]; omega)|omega|(simp; done)|(simp; omega)) ?_|refine Zde H rfl rfl (by repeat constructor) (by first|(simp only [wr_size, Array.size_setIfInBounds, List.size_toArray, List.length_cons, List.length_nil]; omega)|omega|(simp; done)|(simp; omega)) ?_|refine Zdd H rfl rfl (by repeat constructor) (by first|(simp only [wr_size, Array.size_setIfInBounds, List.size_toArray, List.length_cons, List.length_nil]; omega)|omega|(simp; done)|(simp; omega)) ?_|refine Zdc H rfl rfl (by repeat constructor) (by first|(simp only [wr_size, Array.size_setIfInBounds, List.size_toArray, List.length_cons, List.length_nil]; omega)|omega|(simp; done)|(simp; omega)) ?_|refine Zda H rfl rfl rfl (by repeat constructor) (by first|(simp only [wr_size, Array.size_setIfInBounds, List.size_toArray, List.length_cons, List.length_nil]; omega)|omega|(simp; done)|(simp; omega)) ?_); clear H; intro w H))|(refine Zd6 ?_; first|refine Zd9 ?_|refine Zeb ?_|refine Zeh ?_|refine Zef ?_|refine Zed ?_|refine Zec ?_|refine Zee ?_|refine Zeg ?_|(refine Zd7 ?_; first|refine Zao rfl ?_|refine Zap rfl ?_))|(first|refine Zei ?_|refine Zej ?_|refine Zek ?_|refine Zel ?_|refine Zen ?_|refine Zem ?_|refine Zeo rfl ?_|refine Zep ?_|refine Zeq ?_|refine Zes ?_|refine Zet ?_)|refine Zd8 ?_)
  refine Zfl H faultsA [] ?_; clear H; intro w bc H
  repeat (first|(refine Zd1 ?_; first|refine Zcx ?_|(refine Zd3 ?_; first|refine Zc0 rfl ?_|refine Zc1 rfl ?_|refine Zc2 rfl ?_)|refine Zcz (by first|exact Zat rfl|exact Zav rfl|exact Zaw rfl|exact Zaz rfl|exact Za2 rfl|exact Za1 rfl|exact Zau rfl|exact Za0 rfl|exact Zba rfl|exact Zce rfl (by omega)|exact Zbn rfl rfl|exact Zbr rfl rfl|exact Zbs rfl rfl|exact Zbq rfl rfl|exact Zbp rfl rfl|exact Zbo rfl rfl|exact Zcr rfl|exact Zbg rfl rfl (by omega)|exact Zbh rfl rfl (by omega)|exact Zbi rfl rfl (by omega)|exact Zco rfl rfl|exact Zdz rfl rfl|exact Zd0 rfl rfl|exact Za8 rfl rfl|exact Za9 rfl rfl|exact Za6 rfl rfl|exact Za7 rfl rfl|exact Zb1 rfl|exact Zca rfl rfl|exact Zcb rfl rfl|exact Zcv rfl rfl|exact Zcw rfl rfl|exact Zax rfl|exact Za3 rfl|exact Zay rfl|exact Zcl rfl rfl|exact Zb0 rfl|exact Zct|exact Zf3|exact Zar rfl|exact Zas rfl) ?_|(refine Zd4 ?_; refine Zc5 H rfl (by repeat constructor) rfl ?_)|(refine Zd5 ?_; (first|refine Zdb H rfl rfl (by repeat constructor) (by first|(simp only [wr_size, Array.size_setIfInBounds, List.size_toArray, List.length_cons, List.length_nil]; omega)|omega|(simp; done)|(simp; omega)) ?_|refine Zde H rfl rfl (by repeat constructor) (by first|(simp only [wr_size, Array.size_setIfInBounds, List.size_toArray, List.length_cons, List.length_nil]; omega)|omega|(simp; done)|(simp; omega)) ?_|refine Zdd H rfl rfl (by repeat constructor) (by first|(simp only [wr_size, Array.size_setIfInBounds, List.size_toArray, List.length_cons, List.length_nil]; omega)|omega|(simp; done)|(simp; omega)) ?_|refine Zdc H rfl rfl (by repeat constructor) (by first|(simp only [wr_size, Array.size_setIfInBounds, List.size_toArray, List.length_cons, List.length_nil]; omega)|omega|(simp; done)|(simp; omega)) ?_|refine Zda H rfl rfl rfl (by repeat constructor) (by first|(simp only [wr_size, Array.size_setIfInBounds, List.size_toArray, List.length_cons, List.length_nil]; omega)|omega|(simp; done)|(simp; omega)) ?_); clear H; intro w H))|(refine Zd6 ?_; first|refine Zd9 ?_|refine Zeb ?_|refine Zeh ?_|refine Zef ?_|refine Zed ?_|refine Zec ?_|refine Zee ?_|refine Zeg ?_|(refine Zd7 ?_; first|refine Zao rfl ?_|refine Zap rfl ?_))|(first|refine Zei ?_|refine Zej ?_|refine Zek ?_|refine Zel ?_|refine Zen ?_|refine Zem ?_|refine Zeo rfl ?_|refine Zep ?_|refine Zeq ?_|refine Zes ?_|refine Zet ?_)|refine Zd8 ?_)
  refine Zcz (Zdm (cs := #[.int .i64 pages, .int .i64 sz, .map (some bl), u64b 0#64, .map (some bc), .int .i64 0, .slice none 0 0, .int .i64 0]) rfl) ?_
  (first|refine Zfw H rfl ?_|refine Zfx H rfl ?_|refine Zfy H rfl ?_|refine Zfz H rfl ?_|refine Zf0 H rfl ?_|refine Zdj H rfl ?_); clear H; intro w p H
  repeat (first|(refine Zd1 ?_; first|refine Zcx ?_|(refine Zd3 ?_; first|refine Zc0 rfl ?_|refine Zc1 rfl ?_|refine Zc2 rfl ?_)|refine Zcz (by first|exact Zat rfl|exact Zav rfl|exact Zaw rfl|exact Zaz rfl|exact Za2 rfl|exact Za1 rfl|exact Zau rfl|exact Za0 rfl|exact Zba rfl|exact Zce rfl (by omega)|exact Zbn rfl rfl|exact Zbr rfl rfl|exact Zbs rfl rfl|exact Zbq rfl rfl|exact Zbp rfl rfl|exact Zbo rfl rfl|exact Zcr rfl|exact Zbg rfl rfl (by omega)|exact Zbh rfl rfl (by omega)|exact Zbi rfl rfl (by omega)|exact Zco rfl rfl|exact Zdz rfl rfl|exact Zd0 rfl rfl|exact Za8 rfl rfl|exact Za9 rfl rfl|exact Za6 rfl rfl|exact Za7 rfl rfl|exact Zb1 rfl|exact Zca rfl rfl|exact Zcb rfl rfl|exact Zcv rfl rfl|exact Zcw rfl rfl|exact Zax rfl|exact Za3 rfl|exact Zay rfl|exact Zcl rfl rfl|exact Zb0 rfl|exact Zct|exact Zf3|exact Zar rfl|exact Zas rfl) ?_|(refine Zd4 ?_; refine Zc5 H rfl (by repeat constructor) rfl ?_)|(refine Zd5 ?_; (first|refine Zdb H rfl rfl (by repeat constructor) (by first|(simp only [wr_size, Array.size_setIfInBounds, List.size_toArray, List.length_cons, List.length_nil]; omega)|omega|(simp; done)|(simp; omega)) ?_|refine Zde H rfl rfl (by repeat constructor) (by first|(simp only [wr_size, Array.size_setIfInBounds, List.size_toArray, List.length_cons, List.length_nil]; omega)|omega|(simp; done)|(simp; omega)) ?_|refine Zdd H rfl rfl (by repeat constructor) (by first|(simp only [wr_size, Array.size_setIfInBounds, List.size_toArray, List.length_cons, List.length_nil]; omega)|omega|(simp; done)|(simp; omega)) ?_|refine Zdc H rfl rfl (by repeat constructor) (by first|(simp only [wr_size, Array.size_setIfInBounds, List.size_toArray, List.length_cons, List.length_nil]; omega)|omega|(simp; done)|(simp; omega)) ?_|refine Zda H rfl rfl rfl (by repeat constructor) (by first|(simp only [wr_size, Array.size_setIfInBounds, List.size_toArray, List.length_cons, List.length_nil]; omega)|omega|(simp; done)|(simp; omega)) ?_); clear H; intro w H))|(refine Zd6 ?_; first|refine Zd9 ?_|refine Zeb ?_|refine Zeh ?_|refine Zef ?_|refine Zed ?_|refine Zec ?_|refine Zee ?_|refine Zeg ?_|(refine Zd7 ?_; first|refine Zao rfl ?_|refine Zap rfl ?_))|(first|refine Zei ?_|refine Zej ?_|refine Zek ?_|refine Zel ?_|refine Zen ?_|refine Zem ?_|refine Zeo rfl ?_|refine Zep ?_|refine Zeq ?_|refine Zes ?_|refine Zet ?_)|refine Zd8 ?_)
  refine Zew [(6, 7), (10, 10), (33, 61)] (by kernel_rfl)
    (fun i w' => i ≤ fl.length ∧ (fl.take i).all HostS.kindly = true ∧ St w0 w' (omap bc faultsA [] (HostS.comes (fl.take i)) :: cl p #[.int .i64 pages, .int .i64 sz, .map (some bl), u64b 0#64, .map (some bc), .int .i64 0, .slice none 0 0, .int .i64 0] 75 :: omap bl rowsA [] (fun _ => []) :: L))
    (fun i : Nat => [(33, .int .i64 i)]) (fun i => fl.length - i) 0 ⟨Nat.zero_le _, rfl, H.arr (by repeat (first|exact Arr.nil|exact Arr.stop|refine Arr.cons (by repeat constructor) ?_|refine Arr.skip ?_))⟩ ⟨rfl, trivial⟩ ?_
  clear H; rintro i w u ⟨hi, hk, H⟩
  repeat (first|(refine Zd1 ?_; first|refine Zcx ?_|(refine Zd3 ?_; first|refine Zc0 rfl ?_|refine Zc1 rfl ?_|refine Zc2 rfl ?_)|refine Zcz (by first|exact Zat rfl|exact Zav rfl|exact Zaw rfl|exact Zaz rfl|exact Za2 rfl|exact Za1 rfl|exact Zau rfl|exact Za0 rfl|exact Zba rfl|exact Zce rfl (by omega)|exact Zbn rfl rfl|exact Zbr rfl rfl|exact Zbs rfl rfl|exact Zbq rfl rfl|exact Zbp rfl rfl|exact Zbo rfl rfl|exact Zcr rfl|exact Zbg rfl rfl (by omega)|exact Zbh rfl rfl (by omega)|exact Zbi rfl rfl (by omega)|exact Zco rfl rfl|exact Zdz rfl rfl|exact Zd0 rfl rfl|exact Za8 rfl rfl|exact Za9 rfl rfl|exact Za6 rfl rfl|exact Za7 rfl rfl|exact Zb1 rfl|exact Zca rfl rfl|exact Zcb rfl rfl|exact Zcv rfl rfl|exact Zcw rfl rfl|exact Zax rfl|exact Za3 rfl|exact Zay rfl|exact Zcl rfl rfl|exact Zb0 rfl|exact Zct|exact Zf3|exact Zar rfl|exact Zas rfl) ?_|(refine Zd4 ?_; refine Zc5 H rfl (by repeat constructor) rfl ?_)|(refine Zd5 ?_; (first|refine Zdb H rfl rfl (by repeat constructor) (by first|(simp only [wr_size, Array.size_setIfInBounds, List.size_toArray, List.length_cons, List.length_nil]; omega)|omega|(simp; done)|(simp; omega)) ?_|refine Zde H rfl rfl (by repeat constructor) (by first|(simp only [wr_size, Array.size_setIfInBounds, List.size_toArray, List.length_cons, List.length_nil]; omega)|omega|(simp; done)|(simp; omega)) ?_|refine Zdd H rfl rfl (by repeat constructor) (by first|(simp only [wr_size, Array.size_setIfInBounds, List.size_toArray, List.length_cons, List.length_nil]; omega)|omega|(simp; done)|(simp; omega)) ?_|refine Zdc H rfl rfl (by repeat constructor) (by first|(simp only [wr_size, Array.size_setIfInBounds, List.size_toArray, List.length_cons, List.length_nil]; omega)|omega|(simp; done)|(simp; omega)) ?_|refine Zda H rfl rfl rfl (by repeat constructor) (by first|(simp only [wr_size, Array.size_setIfInBounds, List.size_toArray, List.length_cons, List.length_nil]; omega)|omega|(simp; done)|(simp; omega)) ?_); clear H; intro w H))|(refine Zd6 ?_; first|refine Zd9 ?_|refine Zeb ?_|refine Zeh ?_|refine Zef ?_|refine Zed ?_|refine Zec ?_|refine Zee ?_|refine Zeg ?_|(refine Zd7 ?_; first|refine Zao rfl ?_|refine Zap rfl ?_))|(first|refine Zei ?_|refine Zej ?_|refine Zek ?_|refine Zel ?_|refine Zen ?_|refine Zem ?_|refine Zeo rfl ?_|refine Zep ?_|refine Zeq ?_|refine Zes ?_|refine Zet ?_)|refine Zd8 ?_)
  refine Zaq rfl (fun hB => ?_) (fun hB => ?_)
  · simp only [Int.ofNat_lt] at hB
    obtain ⟨xb, xo, xk, xc, xE, xfr, hxv, hxb, hxs, hxe⟩ := (hf _ H.drop.drop.drop).elemN fcells_len (by omega) (by omega)
    simp only [Value.slice.injEq] at hxv
    obtain ⟨rfl, _, rfl⟩ := hxv
    obtain ⟨hx1, hx2⟩ := hxe i hB
    have hnext := comes_take fl i hB
    have hkn := kindly_take fl i hB
    have hno := kindly_no i hB
    generalize fl[i] = f at hx2 hnext hkn hno
    repeat (first|(refine Zd1 ?_; first|refine Zcx ?_|(refine Zd3 ?_; first|refine Zc0 rfl ?_|refine Zc1 rfl ?_|refine Zc2 rfl ?_)|refine Zcz (by first|exact Zat rfl|exact Zav rfl|exact Zaw rfl|exact Zaz rfl|exact Za2 rfl|exact Za1 rfl|exact Zau rfl|exact Za0 rfl|exact Zba rfl|exact Zce rfl (by omega)|exact Zbn rfl rfl|exact Zbr rfl rfl|exact Zbs rfl rfl|exact Zbq rfl rfl|exact Zbp rfl rfl|exact Zbo rfl rfl|exact Zcr rfl|exact Zbg rfl rfl (by omega)|exact Zbh rfl rfl (by omega)|exact Zbi rfl rfl (by omega)|exact Zco rfl rfl|exact Zdz rfl rfl|exact Zd0 rfl rfl|exact Za8 rfl rfl|exact Za9 rfl rfl|exact Za6 rfl rfl|exact Za7 rfl rfl|exact Zb1 rfl|exact Zca rfl rfl|exact Zcb rfl rfl|exact Zcv rfl rfl|exact Zcw rfl rfl|exact Zax rfl|exact Za3 rfl|exact Zay rfl|exact Zcl rfl rfl|exact Zb0 rfl|exact Zct|exact Zf3|exact Zar rfl|exact Zas rfl) ?_|(refine Zd4 ?_; refine Zc5 H rfl (by repeat constructor) rfl ?_)|(refine Zd5 ?_; (first|refine Zdb H rfl rfl (by repeat constructor) (by first|(simp only [wr_size, Array.size_setIfInBounds, List.size_toArray, List.length_cons, List.length_nil]; omega)|omega|(simp; done)|(simp; omega)) ?_|refine Zde H rfl rfl (by repeat constructor) (by first|(simp only [wr_size, Array.size_setIfInBounds, List.size_toArray, List.length_cons, List.length_nil]; omega)|omega|(simp; done)|(simp; omega)) ?_|refine Zdd H rfl rfl (by repeat constructor) (by first|(simp only [wr_size, Array.size_setIfInBounds, List.size_toArray, List.length_cons, List.length_nil]; omega)|omega|(simp; done)|(simp; omega)) ?_|refine Zdc H rfl rfl (by repeat constructor) (by first|(simp only [wr_size, Array.size_setIfInBounds, List.size_toArray, List.length_cons, List.length_nil]; omega)|omega|(simp; done)|(simp; omega)) ?_|refine Zda H rfl rfl rfl (by repeat constructor) (by first|(simp only [wr_size, Array.size_setIfInBounds, List.size_toArray, List.length_cons, List.length_nil]; omega)|omega|(simp; done)|(simp; omega)) ?_); clear H; intro w H))|(refine Zd6 ?_; first|refine Zd9 ?_|refine Zeb ?_|refine Zeh ?_|refine Zef ?_|refine Zed ?_|refine Zec ?_|refine Zee ?_|refine Zeg ?_|(refine Zd7 ?_; first|refine Zao rfl ?_|refine Zap rfl ?_))|(first|refine Zei ?_|refine Zej ?_|refine Zek ?_|refine Zel ?_|refine Zen ?_|refine Zem ?_|refine Zeo rfl ?_|refine Zep ?_|refine Zeq ?_|refine Zes ?_|refine Zet ?_)|refine Zd8 ?_)
    refine Zcz (Zcg rfl rfl hB) ?_
    refine Zft rfl hxb hx1 hx2 ?_
    refine Zdi H ?_; clear H; intro w fb H
    refine Zdh H rfl rfl ?_ ?_ (by repeat constructor) ?_ ?_; (next => first|rfl|simp); (next => first|rfl|simp [oneC, u8v]); (next => first|rfl|simp); clear H; intro w H
    repeat (first|(refine Zd1 ?_; first|refine Zcx ?_|(refine Zd3 ?_; first|refine Zc0 rfl ?_|refine Zc1 rfl ?_|refine Zc2 rfl ?_)|refine Zcz (by first|exact Zat rfl|exact Zav rfl|exact Zaw rfl|exact Zaz rfl|exact Za2 rfl|exact Za1 rfl|exact Zau rfl|exact Za0 rfl|exact Zba rfl|exact Zce rfl (by omega)|exact Zbn rfl rfl|exact Zbr rfl rfl|exact Zbs rfl rfl|exact Zbq rfl rfl|exact Zbp rfl rfl|exact Zbo rfl rfl|exact Zcr rfl|exact Zbg rfl rfl (by omega)|exact Zbh rfl rfl (by omega)|exact Zbi rfl rfl (by omega)|exact Zco rfl rfl|exact Zdz rfl rfl|exact Zd0 rfl rfl|exact Za8 rfl rfl|exact Za9 rfl rfl|exact Za6 rfl rfl|exact Za7 rfl rfl|exact Zb1 rfl|exact Zca rfl rfl|exact Zcb rfl rfl|exact Zcv rfl rfl|exact Zcw rfl rfl|exact Zax rfl|exact Za3 rfl|exact Zay rfl|exact Zcl rfl rfl|exact Zb0 rfl|exact Zct|exact Zf3|exact Zar rfl|exact Zas rfl) ?_|(refine Zd4 ?_; refine Zc5 H rfl (by repeat constructor) rfl ?_)|(refine Zd5 ?_; (first|refine Zdb H rfl rfl (by repeat constructor) (by first|(simp only [wr_size, Array.size_setIfInBounds, List.size_toArray, List.length_cons, List.length_nil]; omega)|omega|(simp; done)|(simp; omega)) ?_|refine Zde H rfl rfl (by repeat constructor) (by first|(simp only [wr_size, Array.size_setIfInBounds, List.size_toArray, List.length_cons, List.length_nil]; omega)|omega|(simp; done)|(simp; omega)) ?_|refine Zdd H rfl rfl (by repeat constructor) (by first|(simp only [wr_size, Array.size_setIfInBounds, List.size_toArray, List.length_cons, List.length_nil]; omega)|omega|(simp; done)|(simp; omega)) ?_|refine Zdc H rfl rfl (by repeat constructor) (by first|(simp only [wr_size, Array.size_setIfInBounds, List.size_toArray, List.length_cons, List.length_nil]; omega)|omega|(simp; done)|(simp; omega)) ?_|refine Zda H rfl rfl rfl (by repeat constructor) (by first|(simp only [wr_size, Array.size_setIfInBounds, List.size_toArray, List.length_cons, List.length_nil]; omega)|omega|(simp; done)|(simp; omega)) ?_); clear H; intro w H))|(refine Zd6 ?_; first|refine Zd9 ?_|refine Zeb ?_|refine Zeh ?_|refine Zef ?_|refine Zed ?_|refine Zec ?_|refine Zee ?_|refine Zeg ?_|(refine Zd7 ?_; first|refine Zao rfl ?_|refine Zap rfl ?_))|(first|refine Zei ?_|refine Zej ?_|refine Zek ?_|refine Zel ?_|refine Zen ?_|refine Zem ?_|refine Zeo rfl ?_|refine Zep ?_|refine Zeq ?_|refine Zes ?_|refine Zet ?_)|refine Zd8 ?_)
    refine Zex rfl rfl (fun hG => ?_) (fun hG => ?_)
    · repeat (first|(refine Zd1 ?_; first|refine Zcx ?_|(refine Zd3 ?_; first|refine Zc0 rfl ?_|refine Zc1 rfl ?_|refine Zc2 rfl ?_)|refine Zcz (by first|exact Zat rfl|exact Zav rfl|exact Zaw rfl|exact Zaz rfl|exact Za2 rfl|exact Za1 rfl|exact Zau rfl|exact Za0 rfl|exact Zba rfl|exact Zce rfl (by omega)|exact Zbn rfl rfl|exact Zbr rfl rfl|exact Zbs rfl rfl|exact Zbq rfl rfl|exact Zbp rfl rfl|exact Zbo rfl rfl|exact Zcr rfl|exact Zbg rfl rfl (by omega)|exact Zbh rfl rfl (by omega)|exact Zbi rfl rfl (by omega)|exact Zco rfl rfl|exact Zdz rfl rfl|exact Zd0 rfl rfl|exact Za8 rfl rfl|exact Za9 rfl rfl|exact Za6 rfl rfl|exact Za7 rfl rfl|exact Zb1 rfl|exact Zca rfl rfl|exact Zcb rfl rfl|exact Zcv rfl rfl|exact Zcw rfl rfl|exact Zax rfl|exact Za3 rfl|exact Zay rfl|exact Zcl rfl rfl|exact Zb0 rfl|exact Zct|exact Zf3|exact Zar rfl|exact Zas rfl) ?_|(refine Zd4 ?_; refine Zc5 H rfl (by repeat constructor) rfl ?_)|(refine Zd5 ?_; (first|refine Zdb H rfl rfl (by repeat constructor) (by first|(simp only [wr_size, Array.size_setIfInBounds, List.size_toArray, List.length_cons, List.length_nil]; omega)|omega|(simp; done)|(simp; omega)) ?_|refine Zde H rfl rfl (by repeat constructor) (by first|(simp only [wr_size, Array.size_setIfInBounds, List.size_toArray, List.length_cons, List.length_nil]; omega)|omega|(simp; done)|(simp; omega)) ?_|refine Zdd H rfl rfl (by repeat constructor) (by first|(simp only [wr_size, Array.size_setIfInBounds, List.size_toArray, List.length_cons, List.length_nil]; omega)|omega|(simp; done)|(simp; omega)) ?_|refine Zdc H rfl rfl (by repeat constructor) (by first|(simp only [wr_size, Array.size_setIfInBounds, List.size_toArray, List.length_cons, List.length_nil]; omega)|omega|(simp; done)|(simp; omega)) ?_|refine Zda H rfl rfl rfl (by repeat constructor) (by first|(simp only [wr_size, Array.size_setIfInBounds, List.size_toArray, List.length_cons, List.length_nil]; omega)|omega|(simp; done)|(simp; omega)) ?_); clear H; intro w H))|(refine Zd6 ?_; first|refine Zd9 ?_|refine Zeb ?_|refine Zeh ?_|refine Zef ?_|refine Zed ?_|refine Zec ?_|refine Zee ?_|refine Zeg ?_|(refine Zd7 ?_; first|refine Zao rfl ?_|refine Zap rfl ?_))|(first|refine Zei ?_|refine Zej ?_|refine Zek ?_|refine Zel ?_|refine Zen ?_|refine Zem ?_|refine Zeo rfl ?_|refine Zep ?_|refine Zeq ?_|refine Zes ?_|refine Zet ?_)|refine Zd8 ?_)
      first|refine Ze6 rfl ?_|refine Ze7 rfl ?_|refine Ze8 rfl ?_|refine Ze9 rfl ?_|refine Zfa rfl rfl ?_|refine Zfb rfl rfl ?_|refine Zfc rfl rfl ?_|refine Ze2 ?_|refine Ze3 ?_
      exact bad (fun h => by have := h.2; rw [hno (by simp [HostS.kindly]; omega)] at this; cases this) _ (H.arr (by repeat (first|exact Arr.nil|exact Arr.stop|refine Arr.cons (by repeat constructor) ?_|refine Arr.skip ?_)))
    repeat (first|(refine Zd1 ?_; first|refine Zcx ?_|(refine Zd3 ?_; first|refine Zc0 rfl ?_|refine Zc1 rfl ?_|refine Zc2 rfl ?_)|refine Zcz (by first|exact Zat rfl|exact Zav rfl|exact Zaw rfl|exact Zaz rfl|exact Za2 rfl|exact Za1 rfl|exact Zau rfl|exact Za0 rfl|exact Zba rfl|exact Zce rfl (by omega)|exact Zbn rfl rfl|exact Zbr rfl rfl|exact Zbs rfl rfl|exact Zbq rfl rfl|exact Zbp rfl rfl|exact Zbo rfl rfl|exact Zcr rfl|exact Zbg rfl rfl (by omega)|exact Zbh rfl rfl (by omega)|exact Zbi rfl rfl (by omega)|exact Zco rfl rfl|exact Zdz rfl rfl|exact Zd0 rfl rfl|exact Za8 rfl rfl|exact Za9 rfl rfl|exact Za6 rfl rfl|exact Za7 rfl rfl|exact Zb1 rfl|exact Zca rfl rfl|exact Zcb rfl rfl|exact Zcv rfl rfl|exact Zcw rfl rfl|exact Zax rfl|exact Za3 rfl|exact Zay rfl|exact Zcl rfl rfl|exact Zb0 rfl|exact Zct|exact Zf3|exact Zar rfl|exact Zas rfl) ?_|(refine Zd4 ?_; refine Zc5 H rfl (by repeat constructor) rfl ?_)|(refine Zd5 ?_; (first|refine Zdb H rfl rfl (by repeat constructor) (by first|(simp only [wr_size, Array.size_setIfInBounds, List.size_toArray, List.length_cons, List.length_nil]; omega)|omega|(simp; done)|(simp; omega)) ?_|refine Zde H rfl rfl (by repeat constructor) (by first|(simp only [wr_size, Array.size_setIfInBounds, List.size_toArray, List.length_cons, List.length_nil]; omega)|omega|(simp; done)|(simp; omega)) ?_|refine Zdd H rfl rfl (by repeat constructor) (by first|(simp only [wr_size, Array.size_setIfInBounds, List.size_toArray, List.length_cons, List.length_nil]; omega)|omega|(simp; done)|(simp; omega)) ?_|refine Zdc H rfl rfl (by repeat constructor) (by first|(simp only [wr_size, Array.size_setIfInBounds, List.size_toArray, List.length_cons, List.length_nil]; omega)|omega|(simp; done)|(simp; omega)) ?_|refine Zda H rfl rfl rfl (by repeat constructor) (by first|(simp only [wr_size, Array.size_setIfInBounds, List.size_toArray, List.length_cons, List.length_nil]; omega)|omega|(simp; done)|(simp; omega)) ?_); clear H; intro w H))|(refine Zd6 ?_; first|refine Zd9 ?_|refine Zeb ?_|refine Zeh ?_|refine Zef ?_|refine Zed ?_|refine Zec ?_|refine Zee ?_|refine Zeg ?_|(refine Zd7 ?_; first|refine Zao rfl ?_|refine Zap rfl ?_))|(first|refine Zei ?_|refine Zej ?_|refine Zek ?_|refine Zel ?_|refine Zen ?_|refine Zem ?_|refine Zeo rfl ?_|refine Zep ?_|refine Zeq ?_|refine Zes ?_|refine Zet ?_)|refine Zd8 ?_)
    refine Zaq rfl (fun hB => ?_) (fun hB => ?_)
    · repeat (first|(refine Zd1 ?_; first|refine Zcx ?_|(refine Zd3 ?_; first|refine Zc0 rfl ?_|refine Zc1 rfl ?_|refine Zc2 rfl ?_)|refine Zcz (by first|exact Zat rfl|exact Zav rfl|exact Zaw rfl|exact Zaz rfl|exact Za2 rfl|exact Za1 rfl|exact Zau rfl|exact Za0 rfl|exact Zba rfl|exact Zce rfl (by omega)|exact Zbn rfl rfl|exact Zbr rfl rfl|exact Zbs rfl rfl|exact Zbq rfl rfl|exact Zbp rfl rfl|exact Zbo rfl rfl|exact Zcr rfl|exact Zbg rfl rfl (by omega)|exact Zbh rfl rfl (by omega)|exact Zbi rfl rfl (by omega)|exact Zco rfl rfl|exact Zdz rfl rfl|exact Zd0 rfl rfl|exact Za8 rfl rfl|exact Za9 rfl rfl|exact Za6 rfl rfl|exact Za7 rfl rfl|exact Zb1 rfl|exact Zca rfl rfl|exact Zcb rfl rfl|exact Zcv rfl rfl|exact Zcw rfl rfl|exact Zax rfl|exact Za3 rfl|exact Zay rfl|exact Zcl rfl rfl|exact Zb0 rfl|exact Zct|exact Zf3|exact Zar rfl|exact Zas rfl) ?_|(refine Zd4 ?_; refine Zc5 H rfl (by repeat constructor) rfl ?_)|(refine Zd5 ?_; (first|refine Zdb H rfl rfl (by repeat constructor) (by first|(simp only [wr_size, Array.size_setIfInBounds, List.size_toArray, List.length_cons, List.length_nil]; omega)|omega|(simp; done)|(simp; omega)) ?_|refine Zde H rfl rfl (by repeat constructor) (by first|(simp only [wr_size, Array.size_setIfInBounds, List.size_toArray, List.length_cons, List.length_nil]; omega)|omega|(simp; done)|(simp; omega)) ?_|refine Zdd H rfl rfl (by repeat constructor) (by first|(simp only [wr_size, Array.size_setIfInBounds, List.size_toArray, List.length_cons, List.length_nil]; omega)|omega|(simp; done)|(simp; omega)) ?_|refine Zdc H rfl rfl (by repeat constructor) (by first|(simp only [wr_size, Array.size_setIfInBounds, List.size_toArray, List.length_cons, List.length_nil]; omega)|omega|(simp; done)|(simp; omega)) ?_|refine Zda H rfl rfl rfl (by repeat constructor) (by first|(simp only [wr_size, Array.size_setIfInBounds, List.size_toArray, List.length_cons, List.length_nil]; omega)|omega|(simp; done)|(simp; omega)) ?_); clear H; intro w H))|(refine Zd6 ?_; first|refine Zd9 ?_|refine Zeb ?_|refine Zeh ?_|refine Zef ?_|refine Zed ?_|refine Zec ?_|refine Zee ?_|refine Zeg ?_|(refine Zd7 ?_; first|refine Zao rfl ?_|refine Zap rfl ?_))|(first|refine Zei ?_|refine Zej ?_|refine Zek ?_|refine Zel ?_|refine Zen ?_|refine Zem ?_|refine Zeo rfl ?_|refine Zep ?_|refine Zeq ?_|refine Zes ?_|refine Zet ?_)|refine Zd8 ?_)
      first|refine Ze6 rfl ?_|refine Ze7 rfl ?_|refine Ze8 rfl ?_|refine Ze9 rfl ?_|refine Zfa rfl rfl ?_|refine Zfb rfl rfl ?_|refine Zfc rfl rfl ?_|refine Ze2 ?_|refine Ze3 ?_
      exact bad (fun h => by have := h.2; rw [hno (by simp [HostS.kindly]; omega)] at this; cases this) _ (H.arr (by repeat (first|exact Arr.nil|exact Arr.stop|refine Arr.cons (by repeat constructor) ?_|refine Arr.skip ?_)))
    have hkf : HostS.kindly f = true := by simp [HostS.kindly]; omega
    obtain ⟨v, H⟩ := (H.pick (A := omap bc faultsA [] (HostS.comes (fl.take i))) (by repeat constructor)).omap_open faults_nil f.at_
    generalize hcm : HostS.comes (fl.take i) = cm at H hnext
    have hcl : (cm f.at_).length ≤ 2932031007401 := by
      rw [← hcm]
      have := List.length_filter_le (fun g : HostS.Fault => g.at_ == f.at_) (fl.take i)
      have h2 := List.length_take_le i fl
      simp only [HostS.comes]; omega
    obtain ⟨ca, ck, rfl⟩ := (St.own_sl H).len
    repeat (first|(refine Zd1 ?_; first|refine Zcx ?_|(refine Zd3 ?_; first|refine Zc0 rfl ?_|refine Zc1 rfl ?_|refine Zc2 rfl ?_)|refine Zcz (by first|exact Zat rfl|exact Zav rfl|exact Zaw rfl|exact Zaz rfl|exact Za2 rfl|exact Za1 rfl|exact Zau rfl|exact Za0 rfl|exact Zba rfl|exact Zce rfl (by omega)|exact Zbn rfl rfl|exact Zbr rfl rfl|exact Zbs rfl rfl|exact Zbq rfl rfl|exact Zbp rfl rfl|exact Zbo rfl rfl|exact Zcr rfl|exact Zbg rfl rfl (by omega)|exact Zbh rfl rfl (by omega)|exact Zbi rfl rfl (by omega)|exact Zco rfl rfl|exact Zdz rfl rfl|exact Zd0 rfl rfl|exact Za8 rfl rfl|exact Za9 rfl rfl|exact Za6 rfl rfl|exact Za7 rfl rfl|exact Zb1 rfl|exact Zca rfl rfl|exact Zcb rfl rfl|exact Zcv rfl rfl|exact Zcw rfl rfl|exact Zax rfl|exact Za3 rfl|exact Zay rfl|exact Zcl rfl rfl|exact Zb0 rfl|exact Zct|exact Zf3|exact Zar rfl|exact Zas rfl) ?_|(refine Zd4 ?_; refine Zc5 H rfl (by repeat constructor) rfl ?_)|(refine Zd5 ?_; (first|refine Zdb H rfl rfl (by repeat constructor) (by first|(simp only [wr_size, Array.size_setIfInBounds, List.size_toArray, List.length_cons, List.length_nil]; omega)|omega|(simp; done)|(simp; omega)) ?_|refine Zde H rfl rfl (by repeat constructor) (by first|(simp only [wr_size, Array.size_setIfInBounds, List.size_toArray, List.length_cons, List.length_nil]; omega)|omega|(simp; done)|(simp; omega)) ?_|refine Zdd H rfl rfl (by repeat constructor) (by first|(simp only [wr_size, Array.size_setIfInBounds, List.size_toArray, List.length_cons, List.length_nil]; omega)|omega|(simp; done)|(simp; omega)) ?_|refine Zdc H rfl rfl (by repeat constructor) (by first|(simp only [wr_size, Array.size_setIfInBounds, List.size_toArray, List.length_cons, List.length_nil]; omega)|omega|(simp; done)|(simp; omega)) ?_|refine Zda H rfl rfl rfl (by repeat constructor) (by first|(simp only [wr_size, Array.size_setIfInBounds, List.size_toArray, List.length_cons, List.length_nil]; omega)|omega|(simp; done)|(simp; omega)) ?_); clear H; intro w H))|(refine Zd6 ?_; first|refine Zd9 ?_|refine Zeb ?_|refine Zeh ?_|refine Zef ?_|refine Zed ?_|refine Zec ?_|refine Zee ?_|refine Zeg ?_|(refine Zd7 ?_; first|refine Zao rfl ?_|refine Zap rfl ?_))|(first|refine Zei ?_|refine Zej ?_|refine Zek ?_|refine Zel ?_|refine Zen ?_|refine Zem ?_|refine Zeo rfl ?_|refine Zep ?_|refine Zeq ?_|refine Zes ?_|refine Zet ?_)|refine Zd8 ?_)
    refine Ze0 [ohole bc faultsA [] cm f.at_ (.slice ca (cm f.at_).length ck), cl fb (fcells f).toArray 28, cl p #[.int .i64 pages, .int .i64 sz, .map (some bl), u64b 0#64, .map (some bc), .int .i64 0, .slice none 0 0, .int .i64 0] 75] H [(0, true, false), (1, true, false), (2, true, false), (3, true, false), (4, true, false), (5, true, false), (6, true, false), (7, true, false), (8, true, false), (9, true, false), (10, true, false), (11, true, false), (12, true, false), (13, true, false), (14, false, true), (15, false, true), (16, false, false)] (by kernel_rfl) ?_
    clear H; intro w H
    have HS : St w0 w [ohole bc faultsA [] cm f.at_ (.slice ca (cm f.at_).length ck), cl fb (fcells f).toArray 28, cl p #[.int .i64 pages, .int .i64 sz, .map (some bl), u64b 0#64, .map (some bc), .int .i64 0, .slice none 0 0, .int .i64 0] 75] := H.arr (by repeat (first|exact Arr.nil|exact Arr.stop|refine Arr.cons (by repeat constructor) ?_|refine Arr.skip ?_))
    repeat (refine Ze1 ?_; first|refine Zds rfl (by first|exact Zat rfl|exact Zav rfl|exact Zaw rfl|exact Zaz rfl|exact Za2 rfl|exact Za1 rfl|exact Zau rfl|exact Za0 rfl|exact Zba rfl|exact Zce rfl (by omega)|exact Zbn rfl rfl|exact Zbr rfl rfl|exact Zbs rfl rfl|exact Zbq rfl rfl|exact Zbp rfl rfl|exact Zbo rfl rfl|exact Zcr rfl|exact Zbg rfl rfl (by omega)|exact Zbh rfl rfl (by omega)|exact Zbi rfl rfl (by omega)|exact Zco rfl rfl|exact Zdz rfl rfl|exact Zd0 rfl rfl|exact Za8 rfl rfl|exact Za9 rfl rfl|exact Za6 rfl rfl|exact Za7 rfl rfl|exact Zb1 rfl|exact Zca rfl rfl|exact Zcb rfl rfl|exact Zcv rfl rfl|exact Zcw rfl rfl|exact Zax rfl|exact Za3 rfl|exact Zay rfl|exact Zcl rfl rfl|exact Zb0 rfl|exact Zct|exact Zf3|exact Zar rfl|exact Zas rfl) HS ?_|refine Zdt rfl rfl (by first|exact Zat rfl|exact Zav rfl|exact Zaw rfl|exact Zaz rfl|exact Za2 rfl|exact Za1 rfl|exact Zau rfl|exact Za0 rfl|exact Zba rfl|exact Zce rfl (by omega)|exact Zbn rfl rfl|exact Zbr rfl rfl|exact Zbs rfl rfl|exact Zbq rfl rfl|exact Zbp rfl rfl|exact Zbo rfl rfl|exact Zcr rfl|exact Zbg rfl rfl (by omega)|exact Zbh rfl rfl (by omega)|exact Zbi rfl rfl (by omega)|exact Zco rfl rfl|exact Zdz rfl rfl|exact Zd0 rfl rfl|exact Za8 rfl rfl|exact Za9 rfl rfl|exact Za6 rfl rfl|exact Za7 rfl rfl|exact Zb1 rfl|exact Zca rfl rfl|exact Zcb rfl rfl|exact Zcv rfl rfl|exact Zcw rfl rfl|exact Zax rfl|exact Za3 rfl|exact Zay rfl|exact Zcl rfl rfl|exact Zb0 rfl|exact Zct|exact Zf3|exact Zar rfl|exact Zas rfl) HS ?_|refine Zdx rfl rfl rfl (fun _ h => h) (by repeat constructor) rfl HS ?_|refine Zdw rfl rfl (fun _ h => h) (by repeat constructor) rfl HS ?_|refine Zfn rfl rfl rfl (fun _ h => h) (by repeat constructor) HS ?_)
    refine Ze1 ?_
    refine Zf2 rfl rfl (fun _ h => h) (by repeat constructor) ?_ HS ?_; (next => rfl)
    refine Zdy rfl ?_
    refine Zdl (cs := (fcells f).toArray) H ?_ ?_ (fill_one (v := .agg (fcells f).toArray) ?_ ?_) ?_
    · omega
    · omega
    · rfl
    · rfl
    clear H HS; intro w tb H
    have HS : St w0 w [ohole bc faultsA [] cm f.at_ (.slice ca (cm f.at_).length ck), cl fb (fcells f).toArray 28, cl p #[.int .i64 pages, .int .i64 sz, .map (some bl), u64b 0#64, .map (some bc), .int .i64 0, .slice none 0 0, .int .i64 0] 75] := H.arr (by repeat (first|exact Arr.nil|exact Arr.stop|refine Arr.cons (by repeat constructor) ?_|refine Arr.skip ?_))
    refine Zcx ⟨fun _ => HS, ?_⟩
    refine Zdy rfl ?_
    refine Zdo (news := fcells f) H rfl rfl (by repeat constructor) (by repeat constructor) ?_ ?_ ?_ ?_ ?_ ?_
    · simp [fcells]
    · simp [fcells]
    · rfl
    · omega
    · omega
    clear H HS; intro a' c' w H
    have HS : St w0 w [ohole bc faultsA [] cm f.at_ (.slice ca (cm f.at_).length ck), cl fb (fcells f).toArray 28, cl p #[.int .i64 pages, .int .i64 sz, .map (some bl), u64b 0#64, .map (some bc), .int .i64 0, .slice none 0 0, .int .i64 0] 75] := H.arr (by repeat (first|exact Arr.nil|exact Arr.stop|refine Arr.cons (by repeat constructor) ?_|refine Arr.skip ?_))
    refine Zcx ⟨fun _ => HS, ?_⟩
    refine Zdy rfl ?_
    refine Zfo H rfl rfl rfl (by repeat constructor) ?_
    clear H HS; intro w H
    refine Zcx ⟨(fun hh => Bool.noConfusion hh), ?_⟩
    refine Zdr ?_
    have el : (cm f.at_ ++ [f]).length = (cm f.at_).length + 1 := by simp
    have ef : (cm f.at_ ++ [f]).flatMap fcells = (cm f.at_).flatMap fcells ++ fcells f := by simp
    have H2 := St.oheld_close (A := faultsA) (d := []) (f := cm) (k := f.at_) (x := cm f.at_ ++ [f]) (v := .slice a' ((cm f.at_).length + 1) c') (by
      unfold faultsA; rw [el, ef]
      exact H.arr (M := own 28 6 (.slice a' ((cm f.at_).length + 1) c') ((cm f.at_).length + 1) ((cm f.at_).flatMap fcells ++ fcells f) :: oheld bc (fun v l => own 28 6 v l.length (l.flatMap fcells)) [] cm f.at_ (.slice a' ((cm f.at_).length + 1) c') :: cl p #[.int .i64 pages, .int .i64 sz, .map (some bl), u64b 0#64, .map (some bc), .int .i64 0, .slice none 0 0, .int .i64 0] 75 :: omap bl rowsA [] (fun _ => []) :: L) (by repeat (first|exact Arr.nil|exact Arr.stop|refine Arr.cons (by repeat constructor) ?_|refine Arr.skip ?_)))
    repeat (first|(refine Zd1 ?_; first|refine Zcx ?_|(refine Zd3 ?_; first|refine Zc0 rfl ?_|refine Zc1 rfl ?_|refine Zc2 rfl ?_)|refine Zcz (by first|exact Zat rfl|exact Zav rfl|exact Zaw rfl|exact Zaz rfl|exact Za2 rfl|exact Za1 rfl|exact Zau rfl|exact Za0 rfl|exact Zba rfl|exact Zce rfl (by omega)|exact Zbn rfl rfl|exact Zbr rfl rfl|exact Zbs rfl rfl|exact Zbq rfl rfl|exact Zbp rfl rfl|exact Zbo rfl rfl|exact Zcr rfl|exact Zbg rfl rfl (by omega)|exact Zbh rfl rfl (by omega)|exact Zbi rfl rfl (by omega)|exact Zco rfl rfl|exact Zdz rfl rfl|exact Zd0 rfl rfl|exact Za8 rfl rfl|exact Za9 rfl rfl|exact Za6 rfl rfl|exact Za7 rfl rfl|exact Zb1 rfl|exact Zca rfl rfl|exact Zcb rfl rfl|exact Zcv rfl rfl|exact Zcw rfl rfl|exact Zax rfl|exact Za3 rfl|exact Zay rfl|exact Zcl rfl rfl|exact Zb0 rfl|exact Zct|exact Zf3|exact Zar rfl|exact Zas rfl) ?_|(refine Zd4 ?_; refine Zc5 H rfl (by repeat constructor) rfl ?_)|(refine Zd5 ?_; (first|refine Zdb H rfl rfl (by repeat constructor) (by first|(simp only [wr_size, Array.size_setIfInBounds, List.size_toArray, List.length_cons, List.length_nil]; omega)|omega|(simp; done)|(simp; omega)) ?_|refine Zde H rfl rfl (by repeat constructor) (by first|(simp only [wr_size, Array.size_setIfInBounds, List.size_toArray, List.length_cons, List.length_nil]; omega)|omega|(simp; done)|(simp; omega)) ?_|refine Zdd H rfl rfl (by repeat constructor) (by first|(simp only [wr_size, Array.size_setIfInBounds, List.size_toArray, List.length_cons, List.length_nil]; omega)|omega|(simp; done)|(simp; omega)) ?_|refine Zdc H rfl rfl (by repeat constructor) (by first|(simp only [wr_size, Array.size_setIfInBounds, List.size_toArray, List.length_cons, List.length_nil]; omega)|omega|(simp; done)|(simp; omega)) ?_|refine Zda H rfl rfl rfl (by repeat constructor) (by first|(simp only [wr_size, Array.size_setIfInBounds, List.size_toArray, List.length_cons, List.length_nil]; omega)|omega|(simp; done)|(simp; omega)) ?_); clear H; intro w H))|(refine Zd6 ?_; first|refine Zd9 ?_|refine Zeb ?_|refine Zeh ?_|refine Zef ?_|refine Zed ?_|refine Zec ?_|refine Zee ?_|refine Zeg ?_|(refine Zd7 ?_; first|refine Zao rfl ?_|refine Zap rfl ?_))|(first|refine Zei ?_|refine Zej ?_|refine Zek ?_|refine Zel ?_|refine Zen ?_|refine Zem ?_|refine Zeo rfl ?_|refine Zep ?_|refine Zeq ?_|refine Zes ?_|refine Zet ?_)|refine Zd8 ?_)
    refine Zeu (i + 1) (by omega) ⟨by omega, by rw [hkn, hk, hkf]; rfl, ?_⟩ ⟨rfl, trivial⟩
    rw [← hnext]
    exact H2
  · simp only [Int.ofNat_lt] at hB
    repeat (first|(refine Zd1 ?_; first|refine Zcx ?_|(refine Zd3 ?_; first|refine Zc0 rfl ?_|refine Zc1 rfl ?_|refine Zc2 rfl ?_)|refine Zcz (by first|exact Zat rfl|exact Zav rfl|exact Zaw rfl|exact Zaz rfl|exact Za2 rfl|exact Za1 rfl|exact Zau rfl|exact Za0 rfl|exact Zba rfl|exact Zce rfl (by omega)|exact Zbn rfl rfl|exact Zbr rfl rfl|exact Zbs rfl rfl|exact Zbq rfl rfl|exact Zbp rfl rfl|exact Zbo rfl rfl|exact Zcr rfl|exact Zbg rfl rfl (by omega)|exact Zbh rfl rfl (by omega)|exact Zbi rfl rfl (by omega)|exact Zco rfl rfl|exact Zdz rfl rfl|exact Zd0 rfl rfl|exact Za8 rfl rfl|exact Za9 rfl rfl|exact Za6 rfl rfl|exact Za7 rfl rfl|exact Zb1 rfl|exact Zca rfl rfl|exact Zcb rfl rfl|exact Zcv rfl rfl|exact Zcw rfl rfl|exact Zax rfl|exact Za3 rfl|exact Zay rfl|exact Zcl rfl rfl|exact Zb0 rfl|exact Zct|exact Zf3|exact Zar rfl|exact Zas rfl) ?_|(refine Zd4 ?_; refine Zc5 H rfl (by repeat constructor) rfl ?_)|(refine Zd5 ?_; (first|refine Zdb H rfl rfl (by repeat constructor) (by first|(simp only [wr_size, Array.size_setIfInBounds, List.size_toArray, List.length_cons, List.length_nil]; omega)|omega|(simp; done)|(simp; omega)) ?_|refine Zde H rfl rfl (by repeat constructor) (by first|(simp only [wr_size, Array.size_setIfInBounds, List.size_toArray, List.length_cons, List.length_nil]; omega)|omega|(simp; done)|(simp; omega)) ?_|refine Zdd H rfl rfl (by repeat constructor) (by first|(simp only [wr_size, Array.size_setIfInBounds, List.size_toArray, List.length_cons, List.length_nil]; omega)|omega|(simp; done)|(simp; omega)) ?_|refine Zdc H rfl rfl (by repeat constructor) (by first|(simp only [wr_size, Array.size_setIfInBounds, List.size_toArray, List.length_cons, List.length_nil]; omega)|omega|(simp; done)|(simp; omega)) ?_|refine Zda H rfl rfl rfl (by repeat constructor) (by first|(simp only [wr_size, Array.size_setIfInBounds, List.size_toArray, List.length_cons, List.length_nil]; omega)|omega|(simp; done)|(simp; omega)) ?_); clear H; intro w H))|(refine Zd6 ?_; first|refine Zd9 ?_|refine Zeb ?_|refine Zeh ?_|refine Zef ?_|refine Zed ?_|refine Zec ?_|refine Zee ?_|refine Zeg ?_|(refine Zd7 ?_; first|refine Zao rfl ?_|refine Zap rfl ?_))|(first|refine Zei ?_|refine Zej ?_|refine Zek ?_|refine Zel ?_|refine Zen ?_|refine Zem ?_|refine Zeo rfl ?_|refine Zep ?_|refine Zeq ?_|refine Zes ?_|refine Zet ?_)|refine Zd8 ?_)
    first|refine Ze6 rfl ?_|refine Ze7 rfl ?_|refine Ze8 rfl ?_|refine Ze9 rfl ?_|refine Zfa rfl rfl ?_|refine Zfb rfl rfl ?_|refine Zfc rfl rfl ?_|refine Ze2 ?_|refine Ze3 ?_
    refine .inl ⟨⟨hfit, by rwa [List.take_of_length_le (by omega)] at hk⟩, p, rfl, ?_⟩
    rw [List.take_of_length_le (by omega)] at H
    have hok : HostS.Ok (HostS.fresh pages (Int.toNat sz) fl) := ok_fresh pages sz fl hfit hfo hfl
    refine St.host_mk (p := p) (s := HostS.fresh pages (Int.toNat sz) fl) (bl := bl) (bc := bc) (logv := .slice none 0 0) hok ?_
    have H := St.own_nil H 56 15
    exact H.arr (by repeat (first|exact Arr.nil|exact Arr.stop|refine Arr.cons (by repeat constructor) ?_|refine Arr.skip ?_))
end Go.Sl

/- Array types of bytes (written by gentypes.py). -/
namespace Go.Sl
open Go Go.Proofs
instance : TyBA Try.prog 53 12 := ⟨⟨5, by kernel_rfl, by kernel_rfl, by kernel_rfl⟩, by kernel_rfl, by kernel_rfl, by kernel_rfl⟩
instance : TyBA Try.prog 54 12 := ⟨⟨5, by kernel_rfl, by kernel_rfl, by kernel_rfl⟩, by kernel_rfl, by kernel_rfl, by kernel_rfl⟩
end Go.Sl

/- more rules: cuts with a room of their own; interfaces: calls, tests, comparisons. -/
set_option linter.unusedVariables false
set_option linter.unusedSimpArgs false
namespace Go.Sl
open Go
theorem run_bounds3 {P : Program} {ρ : Env} {len cap : Nat} {y m : Operand} {k k' : IntKind} {h : Nat} {w : World} (hh : ev ρ y = .int k (h : Int)) (hm : ev ρ m = .int k' (h : Int)) (hc : h ≤ cap) :
    (Instr.sliceBounds true len cap none (some (ev ρ y)) (some (ev ρ m))).run P w = .ok (0, h, h) w := by
  unfold Instr.sliceBounds
  simp only []
  rw [run_bind P _ _ w w _ (run_bound hm ⟨by omega, by omega⟩), Int.toNat_natCast, run_bind P _ _ w w _ (run_bound hh ⟨by omega, by omega⟩), Int.toNat_natCast]
  rfl
/-- A cut that can't grow into the others. -/
theorem Zns {P : Program} {ρ : Env} {x y m : Operand} {S E sz by' bb o len cap : Nat} {z : Value} {k k' : IntKind} {h : Nat} [hs : TySlice P S E] [hi' : TyI P E sz by' z] (hx : ev ρ x = .slice (some ⟨bb, o, none⟩) len cap)
    (hh : ev ρ y = .int k (h : Int)) (hm : ev ρ m = .int k' (h : Int)) (hc : h ≤ cap) (h0 : 0 < h) :
    PV P (.slice S x none (some y) (some m)) ρ (.slice (some ⟨bb, o, none⟩) h h) := by
  intro oo w ho; unfold execOp; rw [ho]; refine op_run_value ?_; rw [hx]
  unfold Instr.sliceAt
  rw [run_bind P _ _ w w _ (run_under hs.h)]
  simp only []
  unfold Instr.slice
  rw [run_bind P _ _ w w _ (run_under hs.h)]
  simp only [Option.map_none, Option.map_some]
  rw [run_bind P _ _ w w _ (run_bounds3 hh hm hc), run_bind P _ _ w w _ (run_size hi')]
  show (Result.ok (Value.slice _ _ _) w : Result Value) = _
  rw [if_neg (show ¬ h = 0 from by omega)]
  simp [Option.map, addr_add]
theorem getE0 (v : Value) (l : Array Value) : (#[v] ++ l)[0]? = some v := by
  rw [← Array.getElem?_toList, Array.toList_append]; rfl
theorem getE1 (v : Value) (l : Array Value) : (#[v] ++ l).extract 1 (#[v] ++ l).size = l := by
  apply Array.ext'
  rw [Array.toList_extract, Array.toList_append, Array.size_append]
  simp only [List.extract_eq_take_drop, List.cons_append, List.nil_append, List.drop_succ_cons, List.drop_zero]
  exact List.take_of_length_le (by simp)
/-- The method that an interface value of the dynamic type t has under a name. -/
def Met (P : Program) (t : TypeId) (v : Value) (name : String) (F : FuncId) (rv : Value) : Prop := ∀ w, (Go.method (P.types.size + Made.depth) t v name).run P w = .ok (F, rv) w
section
variable {P : Program} {w0 : World} {ops : Array Oper} {dst : Option Nat} {ty : TypeId} {pos : String} {after : Array Edge} {rest : List Oper} {ρ : Env} {K : XK} {M : List Asrt}
theorem run_callMethod {w : World} {t : TypeId} {v rv : Value} {name : String} {F : FuncId} {args : Array Value} (hm : Met P t v name F rv) : (callMethod (.iface t v) name args).run P w = (callFunc F (#[rv] ++ args)).run P w := by
  unfold callMethod
  simp only []
  show ((program >>= fun p => method (p.types.size + Made.depth) t v name >>= _) : Sem Next).run P w = _
  rw [run_bind P _ _ w w P rfl, run_bind P _ _ w w _ (hm w)]
theorem Znt {F : FuncId} {r : Operand} {name : String} {ars : Array Operand} {ts : Array TypeId} {t : TypeId} {v rv : Value} {vs : List Value} {M1 R : List Asrt} {Φ : Value → List Asrt → Prop} (hr : ev ρ r = .iface t v) (hm : Met P t v name F rv) (hb : callable P F = true)
    (hc : Con P F (rv :: vs) M1 Φ) (ha : (ars.toList.map (ev ρ)) = vs) (hs : Take M M1 R) (k : ∀ v M', Φ v M' → xOps P w0 ops rest (put ρ dst v) (M' ++ R) K) :
    xOps P w0 ops (⟨dst, .call { callee := .invoke r name, args := ars, argTypes := ts }, ty, pos, after, none⟩ :: rest) ρ M K := by
  intro F' w H
  have H1 : St w0 w (F' :: (M1 ++ R)) := H.enx hs.ent
  have H2 : St w0 w (all (F' :: R) :: M1) := by
    refine H1.ent (Imp.trans (Imp.cons Imp.app) (Imp.trans Imp.swap ?_))
    have h3 : Imp (all M1 :: (F' :: R)) ((F' :: R) ++ [all M1]) := Imp.comm (L := [all M1]) (M := F' :: R)
    refine h3.trans (Imp.app.trans (Imp.cons ?_))
    have := Imp.unapp (L := M1) (M := [])
    rwa [List.append_nil] at this
  refine Zcy ?_
  subst ha
  have : (execOp (ev ρ) ⟨dst, .call { callee := .invoke r name, args := ars, argTypes := ts }, ty, pos, after, none⟩).run P w = .ok (.enter F (rv :: ars.toList.map (ev ρ)).toArray) w := by
    unfold execOp
    simp only [resolve, hr, pure_bind, invoke]
    have e0 : (#[Value.iface t v] ++ ars.map (ev ρ))[0]? = some (.iface t v) := getE0 _ _
    have e1 : (#[Value.iface t v] ++ ars.map (ev ρ)).extract 1 (#[Value.iface t v] ++ ars.map (ev ρ)).size = ars.map (ev ρ) := getE1 _ _
    rw [e0]
    simp only [e1]
    rw [run_callMethod hm]
    unfold callFunc
    unfold callable at hb
    show ((program >>= _) : Sem Next).run P w = _
    rw [run_bind P _ _ w w P rfl]
    split at hb
    · rename_i fn hfn
      simp only [hfn]
      simp only [Bool.and_eq_true, bne_iff_ne, ne_eq, Option.isSome_iff_ne_none] at hb
      rw [if_neg (by simp [hb.1]), if_neg (by simp [hb.2])]
      have : #[rv] ++ Array.map (ev ρ) ars = (rv :: ars.toList.map (ev ρ)).toArray := by
        apply Array.ext'
        simp
      rw [this]; rfl
    · cases hb
  rw [this]
  refine Calls.mono (hc w0 _ w H2) (Ret.mono fun v w' hq => ?_)
  obtain ⟨M', H', hφ⟩ := hq
  exact k v M' hφ F' w' (H'.ent (Imp.unapp.trans (Imp.cons Imp.comm)))
/-- ... a function that the model itself answers. -/
theorem Znu {F : FuncId} {r : Operand} {name : String} {ars : Array Operand} {ts : Array TypeId} {t : TypeId} {v rv u : Value} {vs : List Value} (hr : ev ρ r = .iface t v) (hm : Met P t v name F rv) (h : extv P F (rv :: vs) u) (ha : (ars.toList.map (ev ρ)) = vs) :
    PV P (.call { callee := .invoke r name, args := ars, argTypes := ts }) ρ u := by
  intro oo w ho
  unfold execOp
  subst ha
  simp only [ho, resolve, hr, pure_bind, invoke]
  have e0 : (#[Value.iface t v] ++ ars.map (ev ρ))[0]? = some (.iface t v) := getE0 _ _
  have e1 : (#[Value.iface t v] ++ ars.map (ev ρ)).extract 1 (#[Value.iface t v] ++ ars.map (ev ρ)).size = ars.map (ev ρ) := getE1 _ _
  rw [e0]
  simp only [e1]
  rw [run_callMethod hm]
  have : #[rv] ++ Array.map (ev ρ) ars = (rv :: ars.toList.map (ev ρ)).toArray := by
    apply Array.ext'
    simp
  rw [this]
  exact h w
theorem extv_of {F : FuncId} {fn : Func} {e : Array Value → Sem Value} {vs : List Value} {v : Value} (hf : P.funcs[F]? = some fn) (hname : (fn.name == "runtime.NumGoroutine") = false)
    (hb : fn.body.isNone = true) (hn : Extern.findNext fn = none) (he : Extern.find fn = some e) (h : ∀ w, (e vs.toArray).run P w = .ok v w) : extv P F vs v := by
  intro w
  rw [run_callFunc_extern hf hname hb hn he, h w]
  rfl
/-- 'x, ok := e.(I)', where the dynamic type lacks a method of I. -/
theorem Znv {x : Operand} {X U t : TypeId} {want : Array (String × TypeId)} {v z : Value} (hx : ev ρ x = .iface t v) (hu : P.underlying U = some (.interface want)) (h : (P.info? t).map (fun i => (lacking want i.methods).isEmpty) = some false) (hz : (P.info? U).map (·.zero) = some (some z)) :
    PV P (.typeAssert x X U true) ρ (.tuple #[z, .bool false]) := by
  intro oo w ho; unfold execOp; rw [ho]; refine op_run_value ?_; rw [hx]
  exact run_typeAssert_lacksB hu h hz v X w
theorem Znw {x y : Operand} {T T' t : TypeId} {v : Value} (hT : P.isIface T = true) (hx : ev ρ x = .iface t v) (hy : ev ρ y = .nilIface) : PV P (.binOp .eql T x y T') ρ (.bool false) :=
  Zb9 hx hy (fun w => by unfold eqGuard; rfl) fun w => run_eql_iface_nil w T hT t v
theorem Znx {x y : Operand} {T T' t : TypeId} {v : Value} (hT : P.isIface T = true) (hx : ev ρ x = .iface t v) (hy : ev ρ y = .nilIface) : PV P (.binOp .neq T x y T') ρ (.bool true) :=
  Zb9 hx hy (fun w => by unfold eqGuard; rfl) fun w => run_neq_iface_nil w T hT t v
theorem Zny {x y : Operand} {T T' t : TypeId} {ms : Array (String × TypeId)} {k q : IntKind} {a b : Int} (ht : P.underlying T = some (.interface ms)) (hc : (P.info? t).map (·.comparable) = some true) (hq : P.underlying t = some (.int q)) (hx : ev ρ x = .iface t (.int k a)) (hy : ev ρ y = .iface t (.int k b)) : PV P (.binOp .eql T x y T') ρ (.bool (decide (a = b))) :=
  Zb9 hx hy (fun w => by unfold eqGuard; rfl) fun w => Go.Lib.run_eql_iface_int (P := P) w (k := k) a b ht hc hq
end
theorem own_cap {E size n c : Nat} {a : Option Addr} {xs : List Value} {w0 w : World} {F : Asrt} {M M' : List Asrt} (hm : Has M (Sl.own E size (.slice a n c) n xs) M') (H : St w0 w (F :: M)) : n ≤ c ∧ c ≤ 9223372036854775807 := by
  obtain ⟨a', c', hv, h1, h2⟩ := own_shape (H.pick (.there hm))
  simp only [Value.slice.injEq] at hv
  obtain ⟨_, _, rfl⟩ := hv
  exact ⟨h1, h2⟩
/-- The front of a slice with its room, elements of any size. -/
theorem own_takeN {E sz n m c : Nat} {a : Option Addr} {xs : List Value} {M : List Asrt} (h : m ≤ n) : Imp (Sl.own E sz (.slice a n c) n xs :: M) (Sl.own E sz (.slice a m c) m (xs.take (m * sz)) :: M) :=
  Imp.head fun h' hg => by
    obtain ⟨hl, hg⟩ := hg
    have hms : m * sz ≤ n * sz := Nat.mul_le_mul_right _ h
    refine ⟨by rw [List.length_take]; omega, ?_⟩
    rcases hg with ⟨hv, rfl⟩|⟨g, cap, cur, hv, hg, h1, h2, h3, h4⟩
    · simp only [Value.slice.injEq] at hv
      obtain ⟨rfl, _, rfl⟩ := hv
      obtain rfl : m = 0 := by omega
      exact .inl ⟨rfl, by simp⟩
    · simp only [Value.slice.injEq] at hv
      obtain ⟨rfl, _, rfl⟩ := hv
      exact .inr ⟨g, c, cur, rfl, hg, by omega, h2, h3, by rw [← h4, List.take_take, Nat.min_eq_left hms]⟩
end Go.Sl

/- a number that an int holds. -/
namespace Go.Sl
open Go
/-- A number that an int holds. -/
abbrev nvv (n : Nat) : Value := .int .i64 (n : Int)
end Go.Sl

/- host: its contracts, as pieces in and pieces out. -/
set_option maxHeartbeats 2000000
set_option linter.unusedVariables false
set_option linter.unusedSimpArgs false
namespace Go.Sl
open Go Go.Proofs
attribute [local irreducible] cl pt own old den denOps denS thenK blockK cutK loopK retK Calls PV hostA
abbrev hp (p : Nat) : Value := .pointer (some ⟨p, 0, none⟩)
abbrev ownB (a : Option Addr) (c : Nat) (b : List Byte) : Asrt := own 5 1 (.slice a b.length c) b.length (b.map u8b)
abbrev ownLog (a : Option Addr) (c : Nat) (l : List HostS.Touch) : Asrt := own 56 15 (.slice a l.length c) l.length (l.flatMap tcells)
theorem Rd.app {L N : List Asrt} {size n : Nat} {v : Value} {xs : List Value} (h : Rd L size v n xs) {w0 w : World} (H : St w0 w (L ++ N)) : SlW w size v n xs := h _ _ _ (H.ent (Imp.comm.trans Imp.app))
theorem bytes_own {v : Value} {b : List Byte} {w0 w : World} {L : List Asrt} (H : St w0 w (bytesA v b :: L)) : ∃ a c, v = .slice a b.length c ∧ St w0 w (ownB a c b :: L) := by
  obtain ⟨a, c, rfl, _, _⟩ := own_shape H
  exact ⟨a, c, rfl, H⟩
theorem Con.same {F : FuncId} {args : List Value} {A : Asrt} {u : Value} (h : ∀ w0 w L, St w0 w (A :: L) → Calls Try.prog F args.toArray w (Ret fun v w' => v = u ∧ w' = w)) : Con Try.prog F args [A] (fun v M => v = u ∧ M = [A]) :=
  Con.of fun w0 w L H => (h w0 w L H).mono (Ret.mono fun v w' ⟨hv, hw⟩ => ⟨[A], by rw [hw]; exact H, hv, rfl⟩)
section
variable {p : Nat} {s : HostS.HS}
theorem down_x : Con Try.prog 16 [hp p] [hostA p s] (fun v M => v = .bool s.down ∧ M = [hostA p s]) := Con.same fun w0 w L H => down_c H
theorem pages_x : Con Try.prog 45 [hp p] [hostA p s] (fun v M => v = .int .i64 s.pages ∧ M = [hostA p s]) := Con.same fun w0 w L H => pages_c H
theorem size_x : Con Try.prog 46 [hp p] [hostA p s] (fun v M => v = nvv s.size ∧ M = [hostA p s]) := Con.same fun w0 w L H => size_c H
theorem ops_x : Con Try.prog 12 [hp p] [hostA p s] (fun v M => v = nvv s.ops ∧ M = [hostA p s]) := Con.same fun w0 w L H => ops_c H
theorem restart_x : Con Try.prog 29 [hp p] [hostA p s] (fun v M => M = [hostA p { s with down := false }]) :=
  Con.of fun w0 w L H => (restart_c H).mono (Ret.mono fun v w' h => ⟨[hostA p { s with down := false }], h, rfl⟩)
theorem log_x (hops : s.ops ≤ 3298534883328) : Con Try.prog 20 [hp p] [hostA p s] (fun v M => ∃ a c, v = .slice a s.log.length c ∧ M = [ownLog a c s.log, hostA p s]) :=
  Con.of fun w0 w L H => (log_c H hops).mono (Ret.mono fun v w' h => by
    obtain ⟨a, c, rfl, _, _⟩ := own_shape h
    exact ⟨[ownLog a c s.log, hostA p s], h, a, c, rfl, rfl⟩)
theorem lies_x (page : Int) (hops : s.ops ≤ 3298534883328) : Con Try.prog 18 [hp p, .int .i64 page] [hostA p s] (fun v M => ∃ a c, v = .slice a (HostS.liesR s page).length c ∧ M = [ownB a c (HostS.liesR s page), hostA p s]) :=
  Con.of fun w0 w L H => (lies_c page hops H).mono (Ret.mono fun v w' h => by
    unfold HostS.liesR
    by_cases ht : HostS.there s page
    · rw [if_pos ht] at h ⊢
      obtain ⟨a, k, rfl, h⟩ := h
      obtain ⟨a', c', hv, h2⟩ := bytes_own h
      exact ⟨[ownB a' c' (HostS.back s page 0), hostA p s], h2, a', c', hv, rfl⟩
    · rw [if_neg ht] at h ⊢
      obtain ⟨rfl, rfl⟩ := h
      exact ⟨[ownB none 0 [], hostA p s], St.own_nil H 5 1, none, 0, rfl, rfl⟩)
theorem write_x {L : List Asrt} (page : Int) {bv : Value} {b : List Byte} (hb : Bs L bv b) (hops : s.ops < 3298534883328) (hlen : b.length < 9223372036854775808) :
    Con Try.prog 26 [hp p, .int .i64 page, bv] (hostA p s :: L) (fun v M => v = nvv (HostS.writeR s page b).1 ∧ M = hostA p (HostS.writeR s page b).2 :: L) :=
  Con.of fun w0 w N H => (write_c page hops hlen (fun w' H' => hb.rd.app H') H).mono (Ret.mono fun v w' ⟨hv, h⟩ => ⟨hostA p (HostS.writeR s page b).2 :: L, h, hv, rfl⟩)
theorem read_x (page : Int) (hops : s.ops < 3298534883328) :
    Con Try.prog 22 [hp p, .int .i64 page] [hostA p s] (fun v M => ∃ a c, v = .tuple #[.slice a (HostS.readR s page).1.length c, nvv (HostS.readR s page).2.1] ∧ M = [ownB a c (HostS.readR s page).1, hostA p (HostS.readR s page).2.2]) :=
  Con.of fun w0 w N H => (read_c page hops H).mono (Ret.mono fun v w' ⟨bv, hv, h⟩ => by
    obtain ⟨a, c, rfl, h⟩ := bytes_own h
    exact ⟨[ownB a c (HostS.readR s page).1, hostA p (HostS.readR s page).2.2], h, a, c, hv, rfl⟩)
theorem ask_x (hops : s.ops < 3298534883328) :
    Con Try.prog 28 [hp p] [hostA p s] (fun v M => v = .tuple #[u64b (HostS.askR s).1, nvv (HostS.askR s).2.1] ∧ M = [hostA p (HostS.askR s).2.2]) :=
  Con.of fun w0 w N H => (ask_c hops H).mono (Ret.mono fun v w' ⟨hv, h⟩ => ⟨[hostA p (HostS.askR s).2.2], h, hv, rfl⟩)
theorem raise_x (n : BitVec 64) (hops : s.ops < 3298534883328) :
    Con Try.prog 27 [hp p, u64b n] [hostA p s] (fun v M => v = nvv (HostS.raiseR s n).1 ∧ M = [hostA p (HostS.raiseR s n).2]) :=
  Con.of fun w0 w N H => (raise_c n hops H).mono (Ret.mono fun v w' ⟨hv, h⟩ => ⟨[hostA p (HostS.raiseR s n).2], h, hv, rfl⟩)
end
theorem new_ok {L : List Asrt} (pages size : Int) {fv : Value} {fl : List HostS.Fault} (hfl : fl.length ≤ 2932031007401) (hfo : ∀ f ∈ fl, HostS.FOk f) (hf : Rd L 6 fv fl.length (fl.flatMap fcells)) (h : HostS.mayBe pages size fl) :
    Con Try.prog 9 [.int .i64 pages, .int .i64 size, fv] L (fun v M => ∃ p, v = .tuple #[hp p, nvv 0] ∧ M = hostA p (HostS.fresh pages size.toNat fl) :: L) :=
  Con.of fun w0 w N H => (new_c pages size hfl hfo (fun w' H' => hf.app H') H).mono (Ret.mono fun v w' hh => by
    rcases hh with ⟨_, p, hv, h2⟩|⟨hn, _⟩
    · exact ⟨hostA p (HostS.fresh pages size.toNat fl) :: L, h2, p, hv, rfl⟩
    · exact absurd h hn)
theorem new_no {L : List Asrt} (pages size : Int) {fv : Value} {fl : List HostS.Fault} (hfl : fl.length ≤ 2932031007401) (hfo : ∀ f ∈ fl, HostS.FOk f) (hf : Rd L 6 fv fl.length (fl.flatMap fcells)) (h : ¬ HostS.mayBe pages size fl) :
    Con Try.prog 9 [.int .i64 pages, .int .i64 size, fv] L (fun v M => v = .tuple #[.pointer none, nvv 2] ∧ M = L) :=
  Con.of fun w0 w N H => (new_c pages size hfl hfo (fun w' H' => hf.app H') H).mono (Ret.mono fun v w' hh => by
    rcases hh with ⟨hy, _⟩|⟨_, hv, h2⟩
    · exact absurd hy h
    · exact ⟨L, h2, hv, rfl⟩)
end Go.Sl

/- the statements' small helpers: lists of bytes compared, copied, joined. -/
set_option maxHeartbeats 4000000
set_option maxRecDepth 10000
set_option linter.unusedVariables false
set_option linter.unusedSimpArgs false
namespace Go.Sl
open Go Go.Proofs
attribute [local irreducible] cl pt own old pur ex all den denOps denS xOps xC cX CX xthen xblk xcut xloop xgo xng retX resX Calls PV Rd Con
theorem app_take_succ {α β : Type} {f : α → β} (a : List α) {l : List α} {k : Nat} (h : k < l.length) : (a ++ l.take (k + 1)).map f = (a ++ l.take k).map f ++ [f l[k]] := by
  rw [List.take_succ_eq_append_getElem h, ← List.append_assoc, List.map_append]; rfl
theorem eqBytes_x {L : List Asrt} {va vb : Value} {a b : List Byte} (ha : Bs L va a) (hb : Bs L vb b) : Con Try.prog 17 [va, vb] L (fun v M => v = .bool (decide (a = b)) ∧ L = M) := by
  refine Con.get (fun w0 w F H => ha.sh _ _ _ H) ?_
  rintro ⟨aa, ac, rfl, hac, hacm⟩
  refine Con.get (fun w0 w F H => hb.sh _ _ _ H) ?_
  rintro ⟨ba, bc, rfl, hbc, hbcm⟩
  refine fn_x Try.func17 rfl rfl rfl Try.mixed (by kernel_rfl) ?_
  intro w0
  refine Ct.o ?_
  refine Zgb ?_
  first|refine Zhg (Za0 rfl) ?_|refine Zhg (Zas rfl) ?_
  refine Zg3 ?_
  refine Ct.o ?_
  refine Zgb ?_
  first|refine Zhg (Zaw rfl) ?_|refine Zhg (Zar rfl) ?_
  first|refine Zhg (Zcr rfl) ?_|refine Zhg (Zct) ?_|refine Zhg (Zcu rfl) ?_
  first|refine Zhg (Zaw rfl) ?_|refine Zhg (Zar rfl) ?_
  first|refine Zhg (Zcr rfl) ?_|refine Zhg (Zct) ?_|refine Zhg (Zcu rfl) ?_
  first|refine Zhg (Zmk rfl rfl) ?_|refine Zhg (Zbs rfl rfl) ?_
  refine Zg3 ?_
  refine Ct.o ?_
  refine Zgg rfl (fun hB => ?_) (fun hB => ?_)
  · refine Ct.o ?_
    refine Zgb ?_
    first|refine Zhg (Za0 rfl) ?_|refine Zhg (Zas rfl) ?_
    refine Zg3 ?_
    refine Ct.o ?_
    refine rx1 (Zha rfl (Zg7)) ?_
    exact ⟨_, ⟨by rw [decide_eq_false (fun h => hB (by rw [h]))], rfl⟩, by exact Imp.arr (by repeat (first|exact Arr.nil|exact Arr.stop|refine Arr.cons (by repeat constructor) ?_|refine Arr.skip ?_))⟩
  have hlen : a.length = b.length := by omega
  refine Ct.o ?_
  refine Zgb ?_
  first|refine Zhg (Zaz rfl) ?_|refine Zhg (Zas rfl) ?_
  refine Zg3 ?_
  refine Ct.o ?_
  refine Zgo [(4, 5), (11, 25)] (by kernel_rfl) (fun i : Nat => i ≤ a.length ∧ a.take i = b.take i) (fun _ => L) (fun i => [(5, .int .i64 (i : Int))]) (fun i => a.length - i) 0 ⟨by omega, rfl⟩ (Imp.refl _) ⟨rfl, trivial⟩ ?_
  rintro i u ⟨hi, he⟩
  refine Ct.o ?_
  refine Zgb ?_
  first|refine Zhg (Zat rfl) ?_|refine Zhg (Zar rfl) ?_
  first|refine Zhg (Zaw rfl) ?_|refine Zhg (Zar rfl) ?_
  first|refine Zhg (Zcr rfl) ?_|refine Zhg (Zct) ?_|refine Zhg (Zcu rfl) ?_
  first|refine Zhg (Zmf rfl rfl) ?_|refine Zhg (Zbn rfl rfl) ?_
  refine Zg3 ?_
  refine Ct.o ?_
  refine Zgg rfl (fun hB => ?_) (fun hB => ?_)
  · have hib : i < b.length := by omega
    refine Zgt (fun F w H => ha.some (by omega) H) ?_
    rintro ⟨a1, a2, rfl⟩
    refine Zgt (fun F w H => hb.some (by omega) H) ?_
    rintro ⟨b1, b2, rfl⟩
    refine Ct.o ?_
    refine Zij (_) [7] (.q 0 (.q 1 (.q 2 (.q 4 (.q 5 (.q 6 (.r 3 (.r 7 (.q 8 .nil))))))))) (by kernel_rfl) (by kernel_rfl) (Imp.refl _) ?_
    first|refine Zim rfl (Zaw rfl) ?_|refine Zim rfl (Zar rfl) ?_
    first|refine Zim rfl (Zat rfl) ?_|refine Zim rfl (Zar rfl) ?_
    first|refine Zim rfl (Zl4 rfl rfl) ?_|refine Zim rfl (Zl1 rfl rfl) ?_
    first|refine Zim rfl (Zaw rfl) ?_|refine Zim rfl (Zar rfl) ?_
    first|refine Zim rfl (Zat rfl) ?_|refine Zim rfl (Zar rfl) ?_
    first|refine Zim rfl (Zl4 rfl rfl) ?_|refine Zim rfl (Zl1 rfl rfl) ?_
    refine Zi8 (j := i) rfl rfl ha.rd hB (getM (f := u8b) hB) ?_
    refine Zi8 (j := i) rfl rfl hb.rd hib (getM (f := u8b) hib) ?_
    refine Zim rfl (Zjl rfl rfl) ?_
    refine Zik ?_
    refine Ct.o ?_
    refine Zgg rfl (fun hB2 => ?_) (fun hB2 => ?_)
    · refine Ct.o ?_
      refine Zgb ?_
      first|refine Zhg (Za0 rfl) ?_|refine Zhg (Zas rfl) ?_
      refine Zg3 ?_
      refine Ct.o ?_
      refine rx1 (Zha rfl (Zg7)) ?_
      refine ⟨_, ⟨?_, rfl⟩, by exact Imp.arr (by repeat (first|exact Arr.nil|exact Arr.stop|refine Arr.cons (by repeat constructor) ?_|refine Arr.skip ?_))⟩
      rw [decide_eq_false]
      rintro rfl
      exact hB2 rfl
    · refine Ct.o ?_
      refine Zgb ?_
      first|refine Zhg (Zat rfl) ?_|refine Zhg (Zar rfl) ?_
      first|refine Zhg (Zma (b := 1) rfl rfl) ?_|refine Zhg (Zbg rfl rfl) ?_
      first|refine Zhg (Zaz rfl) ?_|refine Zhg (Zas rfl) ?_
      refine Zg3 ?_
      refine Ct.o ?_
      have hB2 : a[i] = b[i] := by simpa using hB2
      exact Zgl (i + 1) qO ⟨by omega, by rw [List.take_succ_eq_append_getElem hB, List.take_succ_eq_append_getElem hib, he, hB2]⟩ qI ⟨rfl, trivial⟩
  · have hie : i = a.length := by omega
    subst hie
    rw [List.take_length, hlen, List.take_length] at he
    refine Ct.o ?_
    refine Zgb ?_
    first|refine Zhg (Za0 rfl) ?_|refine Zhg (Zas rfl) ?_
    refine Zg3 ?_
    refine Ct.o ?_
    refine rx1 (Zha rfl (Zg7)) ?_
    exact ⟨_, ⟨by rw [decide_eq_true he], rfl⟩, by exact Imp.arr (by repeat (first|exact Arr.nil|exact Arr.stop|refine Arr.cons (by repeat constructor) ?_|refine Arr.skip ?_))⟩
theorem copyBytes_x {L : List Asrt} {v : Value} {l : List Byte} (h : Bs L v l) (hl : l.length ≤ 140737488355328) : Con Try.prog 21 [v] L (fun r M => ∃ a c, r = .slice a l.length c ∧ M = own 5 1 r l.length (l.map u8b) :: L) := by
  refine Con.get (fun w0 w F H => h.sh _ _ _ H) ?_
  rintro ⟨aa, ac, rfl, hac, hacm⟩
  refine fn_x Try.func21 rfl rfl rfl Try.mixed (by kernel_rfl) ?_
  intro w0
  refine Ct.o ?_
  refine Zgb ?_
  first|refine Zhg (Za2 rfl) ?_|refine Zhg (Zas rfl) ?_
  refine Zg3 ?_
  refine Ct.o ?_
  refine Zgb ?_
  first|refine Zhg (Zaw rfl) ?_|refine Zhg (Zar rfl) ?_
  first|refine Zhg (Zcr rfl) ?_|refine Zhg (Zct) ?_|refine Zhg (Zcu rfl) ?_
  refine Zm3 (f := u8b) (a := 0#8) (len := 0) rfl rfl rfl qS qS qS ?_; intro b7
  first|refine Zhg (Za2 rfl) ?_|refine Zhg (Zas rfl) ?_
  refine Zg3 ?_
  refine Ct.o ?_
  refine Zgb ?_
  first|refine Zhg (Zaz rfl) ?_|refine Zhg (Zas rfl) ?_
  refine Zg3 ?_
  refine Ct.o ?_
  refine Zgo [(3, 4), (8, 20)] (by kernel_rfl) (fun s : Nat × Option Addr × Nat × Nat => s.1 ≤ l.length ∧ s.2.2.2 = s.1) (fun s => own 5 1 (.slice s.2.1 s.1 s.2.2.1) s.1 ((l.take s.1).map u8b) :: L)
    (fun s => [(4, .int .i64 (s.1 : Int)), (3, .slice s.2.1 s.2.2.2 s.2.2.1)]) (fun s => l.length - s.1) (0, some ⟨b7, 0, none⟩, l.length, 0) ⟨Nat.zero_le _, rfl⟩ (Imp.own_mk (Nat.zero_le _) (by dsimp only; omega) (by simp) (by simp)) ⟨rfl, rfl, trivial⟩ ?_
  rintro ⟨i, a, c, n⟩ u ⟨hi, hn⟩
  dsimp only at hi hn ⊢
  subst hn
  refine Ct.o ?_
  refine Zgb ?_
  first|refine Zhg (Zat rfl) ?_|refine Zhg (Zar rfl) ?_
  first|refine Zhg (Zaw rfl) ?_|refine Zhg (Zar rfl) ?_
  first|refine Zhg (Zcr rfl) ?_|refine Zhg (Zct) ?_|refine Zhg (Zcu rfl) ?_
  first|refine Zhg (Zmf rfl rfl) ?_|refine Zhg (Zbn rfl rfl) ?_
  refine Zg3 ?_
  refine Ct.o ?_
  refine Zgg rfl (fun hB => ?_) (fun hB => ?_)
  · refine Zgt (fun F w H => (h.imp qI).some (by omega) H) ?_
    rintro ⟨a1, a2, rfl⟩
    refine Ct.o ?_
    refine Zgb ?_
    first|refine Zhg (Zaw rfl) ?_|refine Zhg (Zar rfl) ?_
    first|refine Zhg (Zaw rfl) ?_|refine Zhg (Zar rfl) ?_
    first|refine Zhg (Zat rfl) ?_|refine Zhg (Zar rfl) ?_
    first|refine Zhg (Zl4 rfl rfl) ?_|refine Zhg (Zl1 rfl rfl) ?_
    refine Zic (j := n) rfl (h.rd.imp qI) hB (getM (f := u8b) hB) ?_
    refine Zh7 (cs := #[.int .u8 _]) (by omega) (by omega) rfl ?_; intro b19
    refine Zia rfl rfl qH (Rd.cl (xs := [u8b l[n]]) qH rfl qZ rfl) qN (by omega) qS ?_; intro a2 c2
    first|refine Zhg (Za2 rfl) ?_|refine Zhg (Zas rfl) ?_
    refine Zg3 ?_
    refine Ct.o ?_
    refine Zgb ?_
    first|refine Zhg (Zat rfl) ?_|refine Zhg (Zar rfl) ?_
    first|refine Zhg (Zma (b := 1) rfl rfl) ?_|refine Zhg (Zbg rfl rfl) ?_
    first|refine Zhg (Zaz rfl) ?_|refine Zhg (Zas rfl) ?_
    refine Zg3 ?_
    refine Ct.o ?_
    refine Zgl (n + 1, a2, c2, n + 1) qO ⟨by dsimp only; omega, rfl⟩ ?_ ⟨rfl, rfl, trivial⟩
    dsimp only
    rw [List.take_succ_eq_append_getElem hB, List.map_append]
    exact Imp.arr (by repeat (first|exact Arr.nil|exact Arr.stop|refine Arr.cons (by repeat constructor) ?_|refine Arr.skip ?_))
  · have hie : n = l.length := by omega
    subst hie
    rw [List.take_length]
    refine Ct.o ?_
    refine Zgb ?_
    first|refine Zhg (Zaw rfl) ?_|refine Zhg (Zar rfl) ?_
    first|refine Zhg (Za2 rfl) ?_|refine Zhg (Zas rfl) ?_
    refine Zg3 ?_
    refine Ct.o ?_
    refine rx1 (Zhc rfl (Zg7)) ?_
    exact ⟨_, ⟨a, c, rfl, rfl⟩, by exact Imp.arr (by repeat (first|exact Arr.nil|exact Arr.stop|refine Arr.cons (by repeat constructor) ?_|refine Arr.skip ?_))⟩
end Go.Sl

/- trystlaw11: told, sameTold, fits, spoils, among, walked. -/
set_option maxHeartbeats 4000000
set_option maxRecDepth 10000
set_option linter.unusedVariables false
set_option linter.unusedSimpArgs false
namespace Go.Sl
open Go Go.Proofs
attribute [local irreducible] cl pt own old pur ex all den denOps denS xOps xC cX CX xthen xblk xcut xloop xgo xng retX resX Calls PV Rd Con
attribute [local irreducible] hostA
abbrev stc (t : HostS.Step) (dv : Value) : Array Value := #[.int .i64 t.do_, .int .i64 t.page, u64b t.v, dv]
abbrev tdc (a : Option Addr) (c : Nat) (B : List Byte) (v : BitVec 64) (e : Nat) : Array Value := #[.slice a B.length c, u64b v, nvv e]
attribute [local irreducible] HostS.readR HostS.writeR HostS.askR HostS.raiseR HostS.liesR
theorem told_x {p : Nat} {s : HostS.HS} {L : List Asrt} (t : HostS.Step) {dv : Value} (hb : Bs L dv t.data) (hops : s.ops < 3298534883328) (hdl : t.data.length ≤ 140737488351232) :
    Con Try.prog 13 [hp p, .agg (stc t dv)] (hostA p s :: L) (fun v M => ∃ a c, v = .agg (tdc a c (HostS.toldR s t).1.1 (HostS.toldR s t).1.2.1 (HostS.toldR s t).1.2.2) ∧ M = ownB a c (HostS.toldR s t).1.1 :: hostA p (HostS.toldR s t).2 :: L) := by
  refine Con.get (fun w0 w F H => (hb.imp (Imp.tail (A := hostA p s))).sh _ _ _ H) ?_
  rintro ⟨da, dc, rfl, _, _⟩
  have ow0 : Imp (hostA p s :: L) (ownB none 0 [] :: hostA p s :: L) := Imp.own_nil
  by_cases h1 : t.do_ = 1
  · have e : HostS.toldR s t = (((HostS.readR s t.page).1, 0#64, (HostS.readR s t.page).2.1), (HostS.readR s t.page).2.2) := if_pos h1
    rw [e]
    refine fn_x Try.func13 rfl rfl rfl Try.mixed (by kernel_rfl) ?_
    intro w0
    refine Ct.o ?_
    refine Zgb ?_
    refine Zh5 rfl ?_; intro b3
    refine Zhz (cs := #[.slice none 0 0, u64b 0#64, .int .i64 0]) rfl ?_; intro b4
    refine Zg3 ?_
    refine Ct.o ?_
    refine Zgb ?_
    first|refine Zhg (Zl8 rfl) ?_|refine Zhg (Zce rfl) ?_
    refine Zhp rfl qH rfl ?_
    refine Zg3 ?_
    refine Ct.o ?_
    refine Zgb ?_
    first|refine Zhg (Zmj (b := 1) rfl rfl) ?_|refine Zhg (Zbr rfl rfl) ?_
    refine Zhm 12 rfl (decide_eq_true (h1)) ?_
    first|refine Zhg (Za0 rfl) ?_|refine Zhg (Zas rfl) ?_
    refine Zg3 ?_
    refine Ct.o ?_
    refine Zge rfl ?_
    refine Ct.o ?_
    refine Zgb ?_
    first|refine Zhg (Zav rfl) ?_|refine Zhg (Zar rfl) ?_
    first|refine Zhg (Zl8 rfl) ?_|refine Zhg (Zce rfl) ?_
    refine Zhp rfl qH rfl ?_
    refine Zh8 rfl (by kernel_rfl) (read_x t.page hops) rfl qT ?_
    rintro _ _ ⟨a, c, rfl, rfl⟩
    refine Zg2 qA ?_
    first|refine Zhg (Zmm rfl) ?_|refine Zhg (Zar rfl) ?_
    refine Zhg (Zco rfl rfl) ?_
    refine Zhg (Zco rfl rfl) ?_
    first|refine Zhg (Za2 rfl) ?_|refine Zhg (Zas rfl) ?_
    first|refine Zhg (Zaz rfl) ?_|refine Zhg (Zas rfl) ?_
    refine Zg3 ?_
    refine Ct.o ?_
    refine Zgb ?_
    first|refine Zhg (Zaw rfl) ?_|refine Zhg (Zar rfl) ?_
    first|refine Zhg (Zat rfl) ?_|refine Zhg (Zar rfl) ?_
    refine Zhg (Zdm (cs := #[.slice _ _ _, u64b 0#64, .int .i64 _]) rfl) ?_
    first|refine Zhy rfl rfl qR qZ qN qZ ?_|refine Zhx rfl rfl qR qZ qN qZ rfl ?_
    refine Zg3 ?_
    refine Ct.o ?_
    refine rx1 (Zhe rfl qH qZ (Zg7)) ?_
    exact ⟨_, ⟨a, c, rfl, rfl⟩, qI⟩
  by_cases h2 : t.do_ = 2
  · have e : HostS.toldR s t = (([], 0#64, (HostS.writeR s t.page t.data).1), (HostS.writeR s t.page t.data).2) := by unfold HostS.toldR; rw [if_neg h1, if_pos h2]
    rw [e]
    refine fn_x Try.func13 rfl rfl rfl Try.mixed (by kernel_rfl) ?_
    intro w0
    refine Ct.o ?_
    refine Zgb ?_
    refine Zh5 rfl ?_; intro b3
    refine Zhz (cs := #[.slice none 0 0, u64b 0#64, .int .i64 0]) rfl ?_; intro b4
    refine Zg3 ?_
    refine Ct.o ?_
    refine Zgb ?_
    first|refine Zhg (Zl8 rfl) ?_|refine Zhg (Zce rfl) ?_
    refine Zhp rfl qH rfl ?_
    refine Zg3 ?_
    refine Ct.o ?_
    refine Zgb ?_
    first|refine Zhg (Zmj (b := 1) rfl rfl) ?_|refine Zhg (Zbr rfl rfl) ?_
    refine Zhn 12 rfl (decide_eq_false (h1)) ?_
    first|refine Zhg (Za0 rfl) ?_|refine Zhg (Zas rfl) ?_
    refine Zg3 ?_
    refine Ct.o ?_
    refine Zgf rfl ?_
    refine Ct.o ?_
    refine Zgb ?_
    first|refine Zhg (Zmj (b := 2) rfl rfl) ?_|refine Zhg (Zbr rfl rfl) ?_
    refine Zhm 24 rfl (decide_eq_true (h2)) ?_
    first|refine Zhg (Za0 rfl) ?_|refine Zhg (Zas rfl) ?_
    refine Zg3 ?_
    refine Ct.o ?_
    refine Zge rfl ?_
    refine Ct.o ?_
    have hw := fun a c => write_x (p := p) (s := s) (L := [ownB a c t.data]) t.page (b := t.data) (Bs.own .here) hops (by omega)
    refine Ct.o ?_
    refine Zij ([cl b3 (stc t (.slice da t.data.length dc)) 39]) [4, 5] (.q 0 (.q 1 (.q 3 (.r 2 (.r 4 (.e 5 true (.e 6 false (.q 7 (.e 8 false .nil))))))))) (by kernel_rfl) (by kernel_rfl) (Imp.arr qV) ?_
    first|refine Zim rfl (Zav rfl) ?_|refine Zim rfl (Zar rfl) ?_
    first|refine Zim rfl (Zl8 rfl) ?_|refine Zim rfl (Zce rfl) ?_
    first|refine Zim rfl (Zl8 rfl) ?_|refine Zim rfl (Zce rfl) ?_
    refine Ziv rfl rfl qH rfl ?_
    refine Ziv rfl rfl qH rfl ?_
    refine Ziq rfl ?_
    refine Zh8 rfl (by kernel_rfl) (copyBytes_x (L := L) hb (by omega)) rfl qT ?_
    rintro _ _ ⟨ca, cc, rfl, rfl⟩
    refine Zg2 qA ?_
    refine Zg3 ⟨fun _ => Imp.arr qV, ?_⟩
    refine Ziq rfl ?_
    refine Zh8 rfl (by kernel_rfl) (hw ca cc) rfl qT ?_
    rintro _ _ ⟨rfl, rfl⟩
    refine Zg2 qA ?_
    refine Zg3 ⟨(fun hh => Bool.noConfusion hh), ?_⟩
    refine Zim rfl (Zdm (cs := #[.slice none 0 0, u64b 0#64, .int .i64 _]) rfl) ?_
    refine Ziq rfl ?_
    first|refine Zhy rfl rfl qR qZ qN qZ ?_|refine Zhx rfl rfl qR qZ qN qZ rfl ?_
    refine Zg3 ⟨(fun hh => Bool.noConfusion hh), ?_⟩
    refine Zik ?_
    refine Ct.o ?_
    refine rx1 (Zhe rfl qH qZ (Zg7)) ?_
    exact ⟨_, ⟨none, 0, rfl, rfl⟩, (Imp.arr (N := hostA p (HostS.writeR s t.page t.data).2 :: L) qV).trans Imp.own_nil⟩
  by_cases h3 : t.do_ = 3
  · have e : HostS.toldR s t = (([], (HostS.askR s).1, (HostS.askR s).2.1), (HostS.askR s).2.2) := by unfold HostS.toldR; rw [if_neg h1, if_neg h2, if_pos h3]
    rw [e]
    refine fn_x Try.func13 rfl rfl rfl Try.mixed (by kernel_rfl) ?_
    intro w0
    refine Ct.o ?_
    refine Zgb ?_
    refine Zh5 rfl ?_; intro b3
    refine Zhz (cs := #[.slice none 0 0, u64b 0#64, .int .i64 0]) rfl ?_; intro b4
    refine Zg3 ?_
    refine Ct.o ?_
    refine Zgb ?_
    first|refine Zhg (Zl8 rfl) ?_|refine Zhg (Zce rfl) ?_
    refine Zhp rfl qH rfl ?_
    refine Zg3 ?_
    refine Ct.o ?_
    refine Zgb ?_
    first|refine Zhg (Zmj (b := 1) rfl rfl) ?_|refine Zhg (Zbr rfl rfl) ?_
    refine Zhn 12 rfl (decide_eq_false (h1)) ?_
    first|refine Zhg (Za0 rfl) ?_|refine Zhg (Zas rfl) ?_
    refine Zg3 ?_
    refine Ct.o ?_
    refine Zgf rfl ?_
    refine Ct.o ?_
    refine Zgb ?_
    first|refine Zhg (Zmj (b := 2) rfl rfl) ?_|refine Zhg (Zbr rfl rfl) ?_
    refine Zhn 24 rfl (decide_eq_false (h2)) ?_
    first|refine Zhg (Za0 rfl) ?_|refine Zhg (Zas rfl) ?_
    refine Zg3 ?_
    refine Ct.o ?_
    refine Zgf rfl ?_
    refine Ct.o ?_
    refine Zgb ?_
    first|refine Zhg (Zmj (b := 3) rfl rfl) ?_|refine Zhg (Zbr rfl rfl) ?_
    refine Zhm 34 rfl (decide_eq_true (h3)) ?_
    first|refine Zhg (Za0 rfl) ?_|refine Zhg (Zas rfl) ?_
    refine Zg3 ?_
    refine Ct.o ?_
    refine Zge rfl ?_
    refine Ct.o ?_
    refine Zgb ?_
    first|refine Zhg (Zav rfl) ?_|refine Zhg (Zar rfl) ?_
    refine Zh8 rfl (by kernel_rfl) (ask_x hops) rfl qT ?_
    rintro _ _ ⟨rfl, rfl⟩
    refine Zg2 qA ?_
    first|refine Zhg (Zmm rfl) ?_|refine Zhg (Zar rfl) ?_
    refine Zhg (Zco rfl rfl) ?_
    refine Zhg (Zco rfl rfl) ?_
    first|refine Zhg (Zaz rfl) ?_|refine Zhg (Zas rfl) ?_
    first|refine Zhg (Zaz rfl) ?_|refine Zhg (Zas rfl) ?_
    refine Zg3 ?_
    refine Ct.o ?_
    refine Zgb ?_
    first|refine Zhg (Zat rfl) ?_|refine Zhg (Zar rfl) ?_
    first|refine Zhg (Zat rfl) ?_|refine Zhg (Zar rfl) ?_
    refine Zhg (Zdm (cs := #[.slice none 0 0, .int .u64 _, .int .i64 _]) rfl) ?_
    first|refine Zhy rfl rfl qR qZ qN qZ ?_|refine Zhx rfl rfl qR qZ qN qZ rfl ?_
    refine Zg3 ?_
    refine Ct.o ?_
    refine rx1 (Zhe rfl qH qZ (Zg7)) ?_
    exact ⟨_, ⟨none, 0, rfl, rfl⟩, (Imp.arr (N := hostA p (HostS.askR s).2.2 :: L) qV).trans Imp.own_nil⟩
  by_cases h4 : t.do_ = 4
  · have e : HostS.toldR s t = (([], 0#64, (HostS.raiseR s t.v).1), (HostS.raiseR s t.v).2) := by unfold HostS.toldR; rw [if_neg h1, if_neg h2, if_neg h3, if_pos h4]
    rw [e]
    refine fn_x Try.func13 rfl rfl rfl Try.mixed (by kernel_rfl) ?_
    intro w0
    refine Ct.o ?_
    refine Zgb ?_
    refine Zh5 rfl ?_; intro b3
    refine Zhz (cs := #[.slice none 0 0, u64b 0#64, .int .i64 0]) rfl ?_; intro b4
    refine Zg3 ?_
    refine Ct.o ?_
    refine Zgb ?_
    first|refine Zhg (Zl8 rfl) ?_|refine Zhg (Zce rfl) ?_
    refine Zhp rfl qH rfl ?_
    refine Zg3 ?_
    refine Ct.o ?_
    refine Zgb ?_
    first|refine Zhg (Zmj (b := 1) rfl rfl) ?_|refine Zhg (Zbr rfl rfl) ?_
    refine Zhn 12 rfl (decide_eq_false (h1)) ?_
    first|refine Zhg (Za0 rfl) ?_|refine Zhg (Zas rfl) ?_
    refine Zg3 ?_
    refine Ct.o ?_
    refine Zgf rfl ?_
    refine Ct.o ?_
    refine Zgb ?_
    first|refine Zhg (Zmj (b := 2) rfl rfl) ?_|refine Zhg (Zbr rfl rfl) ?_
    refine Zhn 24 rfl (decide_eq_false (h2)) ?_
    first|refine Zhg (Za0 rfl) ?_|refine Zhg (Zas rfl) ?_
    refine Zg3 ?_
    refine Ct.o ?_
    refine Zgf rfl ?_
    refine Ct.o ?_
    refine Zgb ?_
    first|refine Zhg (Zmj (b := 3) rfl rfl) ?_|refine Zhg (Zbr rfl rfl) ?_
    refine Zhn 34 rfl (decide_eq_false (h3)) ?_
    first|refine Zhg (Za0 rfl) ?_|refine Zhg (Zas rfl) ?_
    refine Zg3 ?_
    refine Ct.o ?_
    refine Zgf rfl ?_
    refine Ct.o ?_
    refine Zgb ?_
    first|refine Zhg (Zmj (b := 4) rfl rfl) ?_|refine Zhg (Zbr rfl rfl) ?_
    refine Zhm 44 rfl (decide_eq_true (h4)) ?_
    first|refine Zhg (Za0 rfl) ?_|refine Zhg (Zas rfl) ?_
    refine Zg3 ?_
    refine Ct.o ?_
    refine Zge rfl ?_
    refine Ct.o ?_
    refine Zgb ?_
    first|refine Zhg (Zav rfl) ?_|refine Zhg (Zar rfl) ?_
    first|refine Zhg (Zl8 rfl) ?_|refine Zhg (Zce rfl) ?_
    refine Zhp rfl qH rfl ?_
    refine Zh8 rfl (by kernel_rfl) (raise_x t.v hops) rfl qT ?_
    rintro _ _ ⟨rfl, rfl⟩
    refine Zg2 qA ?_
    refine Zhg (Zdm (cs := #[.slice none 0 0, u64b 0#64, .int .i64 _]) rfl) ?_
    first|refine Zhy rfl rfl qR qZ qN qZ ?_|refine Zhx rfl rfl qR qZ qN qZ rfl ?_
    refine Zg3 ?_
    refine Ct.o ?_
    refine rx1 (Zhe rfl qH qZ (Zg7)) ?_
    exact ⟨_, ⟨none, 0, rfl, rfl⟩, (Imp.arr (N := hostA p (HostS.raiseR s t.v).2 :: L) qV).trans Imp.own_nil⟩
  by_cases h5 : t.do_ = 5
  · have e : HostS.toldR s t = (([], 0#64, 0), { s with down := false }) := by unfold HostS.toldR; rw [if_neg h1, if_neg h2, if_neg h3, if_neg h4, if_pos h5]
    rw [e]
    refine fn_x Try.func13 rfl rfl rfl Try.mixed (by kernel_rfl) ?_
    intro w0
    refine Ct.o ?_
    refine Zgb ?_
    refine Zh5 rfl ?_; intro b3
    refine Zhz (cs := #[.slice none 0 0, u64b 0#64, .int .i64 0]) rfl ?_; intro b4
    refine Zg3 ?_
    refine Ct.o ?_
    refine Zgb ?_
    first|refine Zhg (Zl8 rfl) ?_|refine Zhg (Zce rfl) ?_
    refine Zhp rfl qH rfl ?_
    refine Zg3 ?_
    refine Ct.o ?_
    refine Zgb ?_
    first|refine Zhg (Zmj (b := 1) rfl rfl) ?_|refine Zhg (Zbr rfl rfl) ?_
    refine Zhn 12 rfl (decide_eq_false (h1)) ?_
    first|refine Zhg (Za0 rfl) ?_|refine Zhg (Zas rfl) ?_
    refine Zg3 ?_
    refine Ct.o ?_
    refine Zgf rfl ?_
    refine Ct.o ?_
    refine Zgb ?_
    first|refine Zhg (Zmj (b := 2) rfl rfl) ?_|refine Zhg (Zbr rfl rfl) ?_
    refine Zhn 24 rfl (decide_eq_false (h2)) ?_
    first|refine Zhg (Za0 rfl) ?_|refine Zhg (Zas rfl) ?_
    refine Zg3 ?_
    refine Ct.o ?_
    refine Zgf rfl ?_
    refine Ct.o ?_
    refine Zgb ?_
    first|refine Zhg (Zmj (b := 3) rfl rfl) ?_|refine Zhg (Zbr rfl rfl) ?_
    refine Zhn 34 rfl (decide_eq_false (h3)) ?_
    first|refine Zhg (Za0 rfl) ?_|refine Zhg (Zas rfl) ?_
    refine Zg3 ?_
    refine Ct.o ?_
    refine Zgf rfl ?_
    refine Ct.o ?_
    refine Zgb ?_
    first|refine Zhg (Zmj (b := 4) rfl rfl) ?_|refine Zhg (Zbr rfl rfl) ?_
    refine Zhn 44 rfl (decide_eq_false (h4)) ?_
    first|refine Zhg (Za0 rfl) ?_|refine Zhg (Zas rfl) ?_
    refine Zg3 ?_
    refine Ct.o ?_
    refine Zgf rfl ?_
    refine Ct.o ?_
    refine Zgb ?_
    first|refine Zhg (Zmj (b := 5) rfl rfl) ?_|refine Zhg (Zbr rfl rfl) ?_
    refine Zhm 51 rfl (decide_eq_true (h5)) ?_
    first|refine Zhg (Za0 rfl) ?_|refine Zhg (Zas rfl) ?_
    refine Zg3 ?_
    refine Ct.o ?_
    refine Zge rfl ?_
    refine Ct.o ?_
    refine Zgb ?_
    first|refine Zhg (Zav rfl) ?_|refine Zhg (Zar rfl) ?_
    refine Zh8 rfl (by kernel_rfl) (restart_x) rfl qT ?_
    rintro _ _ rfl
    refine Zg2 qA ?_
    refine Zg3 ?_
    refine Ct.o ?_
    refine Zgb ?_
    refine Zhg (Zdm (cs := #[.slice none 0 0, u64b 0#64, .int .i64 0]) (by kernel_rfl)) ?_
    first|refine Zhy rfl rfl qR qZ qN qZ ?_|refine Zhx rfl rfl qR qZ qN qZ rfl ?_
    refine Zg3 ?_
    refine Ct.o ?_
    refine rx1 (Zhe rfl qH qZ (Zg7)) ?_
    exact ⟨_, ⟨none, 0, rfl, rfl⟩, (Imp.arr (N := hostA p { s with down := false } :: L) qV).trans Imp.own_nil⟩
  by_cases h7 : t.do_ = 7
  · have e : HostS.toldR s t = ((HostS.liesR s t.page, 0#64, 0), s) := by unfold HostS.toldR; rw [if_neg h1, if_neg h2, if_neg h3, if_neg h4, if_neg h5, if_pos h7]
    rw [e]
    refine fn_x Try.func13 rfl rfl rfl Try.mixed (by kernel_rfl) ?_
    intro w0
    refine Ct.o ?_
    refine Zgb ?_
    refine Zh5 rfl ?_; intro b3
    refine Zhz (cs := #[.slice none 0 0, u64b 0#64, .int .i64 0]) rfl ?_; intro b4
    refine Zg3 ?_
    refine Ct.o ?_
    refine Zgb ?_
    first|refine Zhg (Zl8 rfl) ?_|refine Zhg (Zce rfl) ?_
    refine Zhp rfl qH rfl ?_
    refine Zg3 ?_
    refine Ct.o ?_
    refine Zgb ?_
    first|refine Zhg (Zmj (b := 1) rfl rfl) ?_|refine Zhg (Zbr rfl rfl) ?_
    refine Zhn 12 rfl (decide_eq_false (h1)) ?_
    first|refine Zhg (Za0 rfl) ?_|refine Zhg (Zas rfl) ?_
    refine Zg3 ?_
    refine Ct.o ?_
    refine Zgf rfl ?_
    refine Ct.o ?_
    refine Zgb ?_
    first|refine Zhg (Zmj (b := 2) rfl rfl) ?_|refine Zhg (Zbr rfl rfl) ?_
    refine Zhn 24 rfl (decide_eq_false (h2)) ?_
    first|refine Zhg (Za0 rfl) ?_|refine Zhg (Zas rfl) ?_
    refine Zg3 ?_
    refine Ct.o ?_
    refine Zgf rfl ?_
    refine Ct.o ?_
    refine Zgb ?_
    first|refine Zhg (Zmj (b := 3) rfl rfl) ?_|refine Zhg (Zbr rfl rfl) ?_
    refine Zhn 34 rfl (decide_eq_false (h3)) ?_
    first|refine Zhg (Za0 rfl) ?_|refine Zhg (Zas rfl) ?_
    refine Zg3 ?_
    refine Ct.o ?_
    refine Zgf rfl ?_
    refine Ct.o ?_
    refine Zgb ?_
    first|refine Zhg (Zmj (b := 4) rfl rfl) ?_|refine Zhg (Zbr rfl rfl) ?_
    refine Zhn 44 rfl (decide_eq_false (h4)) ?_
    first|refine Zhg (Za0 rfl) ?_|refine Zhg (Zas rfl) ?_
    refine Zg3 ?_
    refine Ct.o ?_
    refine Zgf rfl ?_
    refine Ct.o ?_
    refine Zgb ?_
    first|refine Zhg (Zmj (b := 5) rfl rfl) ?_|refine Zhg (Zbr rfl rfl) ?_
    refine Zhn 51 rfl (decide_eq_false (h5)) ?_
    first|refine Zhg (Za0 rfl) ?_|refine Zhg (Zas rfl) ?_
    refine Zg3 ?_
    refine Ct.o ?_
    refine Zgf rfl ?_
    refine Ct.o ?_
    refine Zgb ?_
    first|refine Zhg (Zmj (b := 7) rfl rfl) ?_|refine Zhg (Zbr rfl rfl) ?_
    refine Zhm 55 rfl (decide_eq_true (h7)) ?_
    first|refine Zhg (Za0 rfl) ?_|refine Zhg (Zas rfl) ?_
    refine Zg3 ?_
    refine Ct.o ?_
    refine Zge rfl ?_
    refine Ct.o ?_
    refine Zgb ?_
    first|refine Zhg (Zav rfl) ?_|refine Zhg (Zar rfl) ?_
    first|refine Zhg (Zl8 rfl) ?_|refine Zhg (Zce rfl) ?_
    refine Zhp rfl qH rfl ?_
    refine Zh8 rfl (by kernel_rfl) (lies_x (s := s) t.page (Nat.le_of_lt hops)) rfl qT ?_
    rintro _ _ ⟨a, c, rfl, rfl⟩
    refine Zg2 qA ?_
    refine Zhg (Zdm (cs := #[.slice _ _ _, u64b 0#64, .int .i64 0]) rfl) ?_
    first|refine Zhy rfl rfl qR qZ qN qZ ?_|refine Zhx rfl rfl qR qZ qN qZ rfl ?_
    refine Zg3 ?_
    refine Ct.o ?_
    refine rx1 (Zhe rfl qH qZ (Zg7)) ?_
    exact ⟨_, ⟨a, c, rfl, rfl⟩, qI⟩
  · have e : HostS.toldR s t = (([], 0#64, 0), s) := by unfold HostS.toldR; rw [if_neg h1, if_neg h2, if_neg h3, if_neg h4, if_neg h5, if_neg h7]
    rw [e]
    refine fn_x Try.func13 rfl rfl rfl Try.mixed (by kernel_rfl) ?_
    intro w0
    refine Ct.o ?_
    refine Zgb ?_
    refine Zh5 rfl ?_; intro b3
    refine Zhz (cs := #[.slice none 0 0, u64b 0#64, .int .i64 0]) rfl ?_; intro b4
    refine Zg3 ?_
    refine Ct.o ?_
    refine Zgb ?_
    first|refine Zhg (Zl8 rfl) ?_|refine Zhg (Zce rfl) ?_
    refine Zhp rfl qH rfl ?_
    refine Zg3 ?_
    refine Ct.o ?_
    refine Zgb ?_
    first|refine Zhg (Zmj (b := 1) rfl rfl) ?_|refine Zhg (Zbr rfl rfl) ?_
    refine Zhn 12 rfl (decide_eq_false (h1)) ?_
    first|refine Zhg (Za0 rfl) ?_|refine Zhg (Zas rfl) ?_
    refine Zg3 ?_
    refine Ct.o ?_
    refine Zgf rfl ?_
    refine Ct.o ?_
    refine Zgb ?_
    first|refine Zhg (Zmj (b := 2) rfl rfl) ?_|refine Zhg (Zbr rfl rfl) ?_
    refine Zhn 24 rfl (decide_eq_false (h2)) ?_
    first|refine Zhg (Za0 rfl) ?_|refine Zhg (Zas rfl) ?_
    refine Zg3 ?_
    refine Ct.o ?_
    refine Zgf rfl ?_
    refine Ct.o ?_
    refine Zgb ?_
    first|refine Zhg (Zmj (b := 3) rfl rfl) ?_|refine Zhg (Zbr rfl rfl) ?_
    refine Zhn 34 rfl (decide_eq_false (h3)) ?_
    first|refine Zhg (Za0 rfl) ?_|refine Zhg (Zas rfl) ?_
    refine Zg3 ?_
    refine Ct.o ?_
    refine Zgf rfl ?_
    refine Ct.o ?_
    refine Zgb ?_
    first|refine Zhg (Zmj (b := 4) rfl rfl) ?_|refine Zhg (Zbr rfl rfl) ?_
    refine Zhn 44 rfl (decide_eq_false (h4)) ?_
    first|refine Zhg (Za0 rfl) ?_|refine Zhg (Zas rfl) ?_
    refine Zg3 ?_
    refine Ct.o ?_
    refine Zgf rfl ?_
    refine Ct.o ?_
    refine Zgb ?_
    first|refine Zhg (Zmj (b := 5) rfl rfl) ?_|refine Zhg (Zbr rfl rfl) ?_
    refine Zhn 51 rfl (decide_eq_false (h5)) ?_
    first|refine Zhg (Za0 rfl) ?_|refine Zhg (Zas rfl) ?_
    refine Zg3 ?_
    refine Ct.o ?_
    refine Zgf rfl ?_
    refine Ct.o ?_
    refine Zgb ?_
    first|refine Zhg (Zmj (b := 7) rfl rfl) ?_|refine Zhg (Zbr rfl rfl) ?_
    refine Zhn 55 rfl (decide_eq_false (h7)) ?_
    first|refine Zhg (Za0 rfl) ?_|refine Zhg (Zas rfl) ?_
    refine Zg3 ?_
    refine Ct.o ?_
    refine Zgf rfl ?_
    refine Ct.o ?_
    refine Zgb ?_
    refine Zhg (Zdm (cs := #[.slice none 0 0, u64b 0#64, .int .i64 0]) (by kernel_rfl)) ?_
    first|refine Zhy rfl rfl qR qZ qN qZ ?_|refine Zhx rfl rfl qR qZ qN qZ rfl ?_
    refine Zg3 ?_
    refine Ct.o ?_
    refine rx1 (Zhe rfl qH qZ (Zg7)) ?_
    exact ⟨_, ⟨none, 0, rfl, rfl⟩, (Imp.arr (N := hostA p s :: L) qV).trans Imp.own_nil⟩
theorem sameTold_x {L : List Asrt} {a1 a2 : Option Addr} {k1 k2 : Nat} {A B : List Byte} {v w : BitVec 64} {e f : Nat} (ha : Bs L (.slice a1 A.length k1) A) (hb : Bs L (.slice a2 B.length k2) B) :
    Con Try.prog 15 [.agg (tdc a1 k1 A v e), .agg (tdc a2 k2 B w f)] L (fun r M => r = .bool (decide (A = B ∧ v = w ∧ e = f)) ∧ M = L) := by
  by_cases h1 : A = B
  · by_cases h2 : v = w
    · by_cases h3 : e = f
      · rw [decide_eq_true ⟨h1, h2, h3⟩]
        refine fn_x Try.func15 rfl rfl rfl Try.mixed (by kernel_rfl) ?_
        intro w0
        refine Ct.o ?_
        refine Zgb ?_
        refine Zh5 rfl ?_; intro b2
        refine Zh5 rfl ?_; intro b3
        first|refine Zhg (Za0 rfl) ?_|refine Zhg (Zas rfl) ?_
        refine Zg3 ?_
        refine Ct.o ?_
        refine Zgb ?_
        first|refine Zhg (Zl8 rfl) ?_|refine Zhg (Zce rfl) ?_
        refine Zhp rfl qH rfl ?_
        first|refine Zhg (Zl8 rfl) ?_|refine Zhg (Zce rfl) ?_
        refine Zhp rfl qH rfl ?_
        refine Zh8 rfl (by kernel_rfl) (eqBytes_x (ha.imp (Imp.arr qV)) (hb.imp (Imp.arr qV))) rfl qT ?_
        rintro _ _ ⟨rfl, rfl⟩
        refine Zg2 qA ?_
        refine Zhm 9 rfl (decide_eq_true (h1)) ?_
        first|refine Zhg (Zau rfl) ?_|refine Zhg (Zar rfl) ?_
        first|refine Zhi rfl ?_|refine Zhj rfl ?_|(refine Zhh rfl ?_; (first|refine Zhg (Zl8 rfl) ?_|refine Zhg (Zce rfl) ?_))
        first|refine Zhi rfl ?_|refine Zhj rfl ?_|(refine Zhh rfl ?_; (refine Zhp rfl qH rfl ?_))
        first|refine Zhi rfl ?_|refine Zhj rfl ?_|(refine Zhh rfl ?_; (first|refine Zhg (Zl8 rfl) ?_|refine Zhg (Zce rfl) ?_))
        first|refine Zhi rfl ?_|refine Zhj rfl ?_|(refine Zhh rfl ?_; (refine Zhp rfl qH rfl ?_))
        first|refine Zhi rfl ?_|refine Zhj rfl ?_|(refine Zhh rfl ?_; (refine Zhg (Zln (x := v) (y := w) rfl rfl) ?_))
        refine Zhm 15 rfl (decide_eq_true (h2)) ?_
        first|refine Zhg (Zdz rfl rfl) ?_|refine Zhg (Zd0 rfl rfl) ?_|refine Zhg (Za8 rfl rfl) ?_|refine Zhg (Za9 rfl rfl) ?_|refine Zhg (Za6 rfl rfl) ?_|refine Zhg (Za7 rfl rfl) ?_
        first|refine Zhg (Zau rfl) ?_|refine Zhg (Zar rfl) ?_
        first|refine Zhi rfl ?_|refine Zhj rfl ?_|(refine Zhh rfl ?_; (first|refine Zhg (Zl8 rfl) ?_|refine Zhg (Zce rfl) ?_))
        first|refine Zhi rfl ?_|refine Zhj rfl ?_|(refine Zhh rfl ?_; (refine Zhp rfl qH rfl ?_))
        first|refine Zhi rfl ?_|refine Zhj rfl ?_|(refine Zhh rfl ?_; (first|refine Zhg (Zl8 rfl) ?_|refine Zhg (Zce rfl) ?_))
        first|refine Zhi rfl ?_|refine Zhj rfl ?_|(refine Zhh rfl ?_; (refine Zhp rfl qH rfl ?_))
        first|refine Zhi rfl ?_|refine Zhj rfl ?_|(refine Zhh rfl ?_; (first|refine Zhg (Zmj rfl rfl) ?_|refine Zhg (Zbr rfl rfl) ?_))
        refine Zhm 22 rfl (decide_eq_true (h3)) ?_
        first|refine Zhg (Zdz rfl rfl) ?_|refine Zhg (Zd0 rfl rfl) ?_|refine Zhg (Za8 rfl rfl) ?_|refine Zhg (Za9 rfl rfl) ?_|refine Zhg (Za6 rfl rfl) ?_|refine Zhg (Za7 rfl rfl) ?_
        first|refine Zhg (Za0 rfl) ?_|refine Zhg (Zas rfl) ?_
        refine Zg3 ?_
        refine Ct.o ?_
        refine rx1 (Zha rfl (Zg7)) ?_
        exact ⟨_, ⟨rfl, rfl⟩, qI⟩
      · rw [decide_eq_false (fun h => h3 h.2.2)]
        refine fn_x Try.func15 rfl rfl rfl Try.mixed (by kernel_rfl) ?_
        intro w0
        refine Ct.o ?_
        refine Zgb ?_
        refine Zh5 rfl ?_; intro b2
        refine Zh5 rfl ?_; intro b3
        first|refine Zhg (Za0 rfl) ?_|refine Zhg (Zas rfl) ?_
        refine Zg3 ?_
        refine Ct.o ?_
        refine Zgb ?_
        first|refine Zhg (Zl8 rfl) ?_|refine Zhg (Zce rfl) ?_
        refine Zhp rfl qH rfl ?_
        first|refine Zhg (Zl8 rfl) ?_|refine Zhg (Zce rfl) ?_
        refine Zhp rfl qH rfl ?_
        refine Zh8 rfl (by kernel_rfl) (eqBytes_x (ha.imp (Imp.arr qV)) (hb.imp (Imp.arr qV))) rfl qT ?_
        rintro _ _ ⟨rfl, rfl⟩
        refine Zg2 qA ?_
        refine Zhm 9 rfl (decide_eq_true (h1)) ?_
        first|refine Zhg (Zau rfl) ?_|refine Zhg (Zar rfl) ?_
        first|refine Zhi rfl ?_|refine Zhj rfl ?_|(refine Zhh rfl ?_; (first|refine Zhg (Zl8 rfl) ?_|refine Zhg (Zce rfl) ?_))
        first|refine Zhi rfl ?_|refine Zhj rfl ?_|(refine Zhh rfl ?_; (refine Zhp rfl qH rfl ?_))
        first|refine Zhi rfl ?_|refine Zhj rfl ?_|(refine Zhh rfl ?_; (first|refine Zhg (Zl8 rfl) ?_|refine Zhg (Zce rfl) ?_))
        first|refine Zhi rfl ?_|refine Zhj rfl ?_|(refine Zhh rfl ?_; (refine Zhp rfl qH rfl ?_))
        first|refine Zhi rfl ?_|refine Zhj rfl ?_|(refine Zhh rfl ?_; (refine Zhg (Zln (x := v) (y := w) rfl rfl) ?_))
        refine Zhm 15 rfl (decide_eq_true (h2)) ?_
        first|refine Zhg (Zdz rfl rfl) ?_|refine Zhg (Zd0 rfl rfl) ?_|refine Zhg (Za8 rfl rfl) ?_|refine Zhg (Za9 rfl rfl) ?_|refine Zhg (Za6 rfl rfl) ?_|refine Zhg (Za7 rfl rfl) ?_
        first|refine Zhg (Zau rfl) ?_|refine Zhg (Zar rfl) ?_
        first|refine Zhi rfl ?_|refine Zhj rfl ?_|(refine Zhh rfl ?_; (first|refine Zhg (Zl8 rfl) ?_|refine Zhg (Zce rfl) ?_))
        first|refine Zhi rfl ?_|refine Zhj rfl ?_|(refine Zhh rfl ?_; (refine Zhp rfl qH rfl ?_))
        first|refine Zhi rfl ?_|refine Zhj rfl ?_|(refine Zhh rfl ?_; (first|refine Zhg (Zl8 rfl) ?_|refine Zhg (Zce rfl) ?_))
        first|refine Zhi rfl ?_|refine Zhj rfl ?_|(refine Zhh rfl ?_; (refine Zhp rfl qH rfl ?_))
        first|refine Zhi rfl ?_|refine Zhj rfl ?_|(refine Zhh rfl ?_; (first|refine Zhg (Zmj rfl rfl) ?_|refine Zhg (Zbr rfl rfl) ?_))
        refine Zhn 22 rfl (decide_eq_false (h3)) ?_
        first|refine Zhg (Zdz rfl rfl) ?_|refine Zhg (Zd0 rfl rfl) ?_|refine Zhg (Za8 rfl rfl) ?_|refine Zhg (Za9 rfl rfl) ?_|refine Zhg (Za6 rfl rfl) ?_|refine Zhg (Za7 rfl rfl) ?_
        first|refine Zhg (Za0 rfl) ?_|refine Zhg (Zas rfl) ?_
        refine Zg3 ?_
        refine Ct.o ?_
        refine rx1 (Zha rfl (Zg7)) ?_
        exact ⟨_, ⟨rfl, rfl⟩, qI⟩
    · rw [decide_eq_false (fun h => h2 h.2.1)]
      refine fn_x Try.func15 rfl rfl rfl Try.mixed (by kernel_rfl) ?_
      intro w0
      refine Ct.o ?_
      refine Zgb ?_
      refine Zh5 rfl ?_; intro b2
      refine Zh5 rfl ?_; intro b3
      first|refine Zhg (Za0 rfl) ?_|refine Zhg (Zas rfl) ?_
      refine Zg3 ?_
      refine Ct.o ?_
      refine Zgb ?_
      first|refine Zhg (Zl8 rfl) ?_|refine Zhg (Zce rfl) ?_
      refine Zhp rfl qH rfl ?_
      first|refine Zhg (Zl8 rfl) ?_|refine Zhg (Zce rfl) ?_
      refine Zhp rfl qH rfl ?_
      refine Zh8 rfl (by kernel_rfl) (eqBytes_x (ha.imp (Imp.arr qV)) (hb.imp (Imp.arr qV))) rfl qT ?_
      rintro _ _ ⟨rfl, rfl⟩
      refine Zg2 qA ?_
      refine Zhm 9 rfl (decide_eq_true (h1)) ?_
      first|refine Zhg (Zau rfl) ?_|refine Zhg (Zar rfl) ?_
      first|refine Zhi rfl ?_|refine Zhj rfl ?_|(refine Zhh rfl ?_; (first|refine Zhg (Zl8 rfl) ?_|refine Zhg (Zce rfl) ?_))
      first|refine Zhi rfl ?_|refine Zhj rfl ?_|(refine Zhh rfl ?_; (refine Zhp rfl qH rfl ?_))
      first|refine Zhi rfl ?_|refine Zhj rfl ?_|(refine Zhh rfl ?_; (first|refine Zhg (Zl8 rfl) ?_|refine Zhg (Zce rfl) ?_))
      first|refine Zhi rfl ?_|refine Zhj rfl ?_|(refine Zhh rfl ?_; (refine Zhp rfl qH rfl ?_))
      first|refine Zhi rfl ?_|refine Zhj rfl ?_|(refine Zhh rfl ?_; (refine Zhg (Zln (x := v) (y := w) rfl rfl) ?_))
      refine Zhn 15 rfl (decide_eq_false (h2)) ?_
      first|refine Zhg (Zdz rfl rfl) ?_|refine Zhg (Zd0 rfl rfl) ?_|refine Zhg (Za8 rfl rfl) ?_|refine Zhg (Za9 rfl rfl) ?_|refine Zhg (Za6 rfl rfl) ?_|refine Zhg (Za7 rfl rfl) ?_
      first|refine Zhg (Zau rfl) ?_|refine Zhg (Zar rfl) ?_
      first|refine Zhi rfl ?_|refine Zhj rfl ?_|(refine Zhh rfl ?_; (first|refine Zhg (Zl8 rfl) ?_|refine Zhg (Zce rfl) ?_))
      first|refine Zhi rfl ?_|refine Zhj rfl ?_|(refine Zhh rfl ?_; (refine Zhp rfl qH rfl ?_))
      first|refine Zhi rfl ?_|refine Zhj rfl ?_|(refine Zhh rfl ?_; (first|refine Zhg (Zl8 rfl) ?_|refine Zhg (Zce rfl) ?_))
      first|refine Zhi rfl ?_|refine Zhj rfl ?_|(refine Zhh rfl ?_; (refine Zhp rfl qH rfl ?_))
      first|refine Zhi rfl ?_|refine Zhj rfl ?_|(refine Zhh rfl ?_; (first|refine Zhg (Zmj rfl rfl) ?_|refine Zhg (Zbr rfl rfl) ?_))
      first|refine Zhg (Zdz rfl rfl) ?_|refine Zhg (Zd0 rfl rfl) ?_|refine Zhg (Za8 rfl rfl) ?_|refine Zhg (Za9 rfl rfl) ?_|refine Zhg (Za6 rfl rfl) ?_|refine Zhg (Za7 rfl rfl) ?_
      first|refine Zhg (Za0 rfl) ?_|refine Zhg (Zas rfl) ?_
      refine Zg3 ?_
      refine Ct.o ?_
      refine rx1 (Zha rfl (Zg7)) ?_
      exact ⟨_, ⟨rfl, rfl⟩, qI⟩
  · rw [decide_eq_false (fun h => h1 h.1)]
    refine fn_x Try.func15 rfl rfl rfl Try.mixed (by kernel_rfl) ?_
    intro w0
    refine Ct.o ?_
    refine Zgb ?_
    refine Zh5 rfl ?_; intro b2
    refine Zh5 rfl ?_; intro b3
    first|refine Zhg (Za0 rfl) ?_|refine Zhg (Zas rfl) ?_
    refine Zg3 ?_
    refine Ct.o ?_
    refine Zgb ?_
    first|refine Zhg (Zl8 rfl) ?_|refine Zhg (Zce rfl) ?_
    refine Zhp rfl qH rfl ?_
    first|refine Zhg (Zl8 rfl) ?_|refine Zhg (Zce rfl) ?_
    refine Zhp rfl qH rfl ?_
    refine Zh8 rfl (by kernel_rfl) (eqBytes_x (ha.imp (Imp.arr qV)) (hb.imp (Imp.arr qV))) rfl qT ?_
    rintro _ _ ⟨rfl, rfl⟩
    refine Zg2 qA ?_
    refine Zhn 9 rfl (decide_eq_false (h1)) ?_
    first|refine Zhg (Zau rfl) ?_|refine Zhg (Zar rfl) ?_
    first|refine Zhi rfl ?_|refine Zhj rfl ?_|(refine Zhh rfl ?_; (first|refine Zhg (Zl8 rfl) ?_|refine Zhg (Zce rfl) ?_))
    first|refine Zhi rfl ?_|refine Zhj rfl ?_|(refine Zhh rfl ?_; (refine Zhp rfl qH rfl ?_))
    first|refine Zhi rfl ?_|refine Zhj rfl ?_|(refine Zhh rfl ?_; (first|refine Zhg (Zl8 rfl) ?_|refine Zhg (Zce rfl) ?_))
    first|refine Zhi rfl ?_|refine Zhj rfl ?_|(refine Zhh rfl ?_; (refine Zhp rfl qH rfl ?_))
    first|refine Zhi rfl ?_|refine Zhj rfl ?_|(refine Zhh rfl ?_; (refine Zhg (Zln rfl rfl) ?_))
    first|refine Zhg (Zdz rfl rfl) ?_|refine Zhg (Zd0 rfl rfl) ?_|refine Zhg (Za8 rfl rfl) ?_|refine Zhg (Za9 rfl rfl) ?_|refine Zhg (Za6 rfl rfl) ?_|refine Zhg (Za7 rfl rfl) ?_
    first|refine Zhg (Zau rfl) ?_|refine Zhg (Zar rfl) ?_
    first|refine Zhi rfl ?_|refine Zhj rfl ?_|(refine Zhh rfl ?_; (first|refine Zhg (Zl8 rfl) ?_|refine Zhg (Zce rfl) ?_))
    first|refine Zhi rfl ?_|refine Zhj rfl ?_|(refine Zhh rfl ?_; (refine Zhp rfl qH rfl ?_))
    first|refine Zhi rfl ?_|refine Zhj rfl ?_|(refine Zhh rfl ?_; (first|refine Zhg (Zl8 rfl) ?_|refine Zhg (Zce rfl) ?_))
    first|refine Zhi rfl ?_|refine Zhj rfl ?_|(refine Zhh rfl ?_; (refine Zhp rfl qH rfl ?_))
    first|refine Zhi rfl ?_|refine Zhj rfl ?_|(refine Zhh rfl ?_; (first|refine Zhg (Zmj rfl rfl) ?_|refine Zhg (Zbr rfl rfl) ?_))
    first|refine Zhg (Zdz rfl rfl) ?_|refine Zhg (Zd0 rfl rfl) ?_|refine Zhg (Za8 rfl rfl) ?_|refine Zhg (Za9 rfl rfl) ?_|refine Zhg (Za6 rfl rfl) ?_|refine Zhg (Za7 rfl rfl) ?_
    first|refine Zhg (Za0 rfl) ?_|refine Zhg (Zas rfl) ?_
    refine Zg3 ?_
    refine Ct.o ?_
    refine rx1 (Zha rfl (Zg7)) ?_
    exact ⟨_, ⟨rfl, rfl⟩, qI⟩
abbrev lfc (pages size : Int) (fv sv : Value) : Array Value := #[.int .i64 pages, .int .i64 size, fv, sv]
theorem fits_x {pages size : Int} {fa sa : Option Addr} {fn fc sn sc : Nat} :
    Con Try.prog 11 [.agg (lfc pages size (.slice fa fn fc) (.slice sa sn sc))] [] (fun r M => r = .bool (decide (0 ≤ pages ∧ pages ≤ 65536 ∧ 1 ≤ size ∧ size ≤ 4124)) ∧ M = []) := by
  by_cases h1 : 0 ≤ pages
  · by_cases h2 : pages ≤ 65536
    · by_cases h3 : 1 ≤ size
      · by_cases h4 : size ≤ 4124
        · rw [decide_eq_true ⟨h1, h2, h3, h4⟩]
          refine fn_x Try.func11 rfl rfl rfl Try.mixed (by kernel_rfl) ?_
          intro w0
          refine Ct.o ?_
          refine Zgb ?_
          refine Zh5 rfl ?_; intro b1
          first|refine Zhg (Za0 rfl) ?_|refine Zhg (Zas rfl) ?_
          refine Zg3 ?_
          refine Ct.o ?_
          refine Zgb ?_
          first|refine Zhg (Zl8 rfl) ?_|refine Zhg (Zce rfl) ?_
          refine Zhp rfl qH rfl ?_
          refine Zhg (Zbq (b := 0) rfl rfl) ?_
          refine Zhm 5 rfl (decide_eq_true (h1)) ?_
          first|refine Zhg (Zau rfl) ?_|refine Zhg (Zar rfl) ?_
          first|refine Zhi rfl ?_|refine Zhj rfl ?_|(refine Zhh rfl ?_; (first|refine Zhg (Zl8 rfl) ?_|refine Zhg (Zce rfl) ?_))
          first|refine Zhi rfl ?_|refine Zhj rfl ?_|(refine Zhh rfl ?_; (refine Zhp rfl qH rfl ?_))
          first|refine Zhi rfl ?_|refine Zhj rfl ?_|(refine Zhh rfl ?_; (refine Zhg (Zbo (b := 65536) rfl rfl) ?_))
          refine Zhm 9 rfl (decide_eq_true (h2)) ?_
          first|refine Zhg (Zdz rfl rfl) ?_|refine Zhg (Zd0 rfl rfl) ?_|refine Zhg (Za8 rfl rfl) ?_|refine Zhg (Za9 rfl rfl) ?_|refine Zhg (Za6 rfl rfl) ?_|refine Zhg (Za7 rfl rfl) ?_
          first|refine Zhg (Zau rfl) ?_|refine Zhg (Zar rfl) ?_
          first|refine Zhi rfl ?_|refine Zhj rfl ?_|(refine Zhh rfl ?_; (first|refine Zhg (Zl8 rfl) ?_|refine Zhg (Zce rfl) ?_))
          first|refine Zhi rfl ?_|refine Zhj rfl ?_|(refine Zhh rfl ?_; (refine Zhp rfl qH rfl ?_))
          first|refine Zhi rfl ?_|refine Zhj rfl ?_|(refine Zhh rfl ?_; (refine Zhg (Zbq (b := 1) rfl rfl) ?_))
          refine Zhm 14 rfl (decide_eq_true (h3)) ?_
          first|refine Zhg (Zdz rfl rfl) ?_|refine Zhg (Zd0 rfl rfl) ?_|refine Zhg (Za8 rfl rfl) ?_|refine Zhg (Za9 rfl rfl) ?_|refine Zhg (Za6 rfl rfl) ?_|refine Zhg (Za7 rfl rfl) ?_
          first|refine Zhg (Zau rfl) ?_|refine Zhg (Zar rfl) ?_
          first|refine Zhi rfl ?_|refine Zhj rfl ?_|(refine Zhh rfl ?_; (first|refine Zhg (Zl8 rfl) ?_|refine Zhg (Zce rfl) ?_))
          first|refine Zhi rfl ?_|refine Zhj rfl ?_|(refine Zhh rfl ?_; (refine Zhp rfl qH rfl ?_))
          first|refine Zhi rfl ?_|refine Zhj rfl ?_|(refine Zhh rfl ?_; (refine Zhg (Zbo (b := 4124) rfl rfl) ?_))
          refine Zhm 19 rfl (decide_eq_true (h4)) ?_
          first|refine Zhg (Zdz rfl rfl) ?_|refine Zhg (Zd0 rfl rfl) ?_|refine Zhg (Za8 rfl rfl) ?_|refine Zhg (Za9 rfl rfl) ?_|refine Zhg (Za6 rfl rfl) ?_|refine Zhg (Za7 rfl rfl) ?_
          first|refine Zhg (Za0 rfl) ?_|refine Zhg (Zas rfl) ?_
          refine Zg3 ?_
          refine Ct.o ?_
          refine rx1 (Zha rfl (Zg7)) ?_
          exact ⟨_, ⟨rfl, rfl⟩, qI⟩
        · rw [decide_eq_false (fun h => h4 h.2.2.2)]
          refine fn_x Try.func11 rfl rfl rfl Try.mixed (by kernel_rfl) ?_
          intro w0
          refine Ct.o ?_
          refine Zgb ?_
          refine Zh5 rfl ?_; intro b1
          first|refine Zhg (Za0 rfl) ?_|refine Zhg (Zas rfl) ?_
          refine Zg3 ?_
          refine Ct.o ?_
          refine Zgb ?_
          first|refine Zhg (Zl8 rfl) ?_|refine Zhg (Zce rfl) ?_
          refine Zhp rfl qH rfl ?_
          refine Zhg (Zbq (b := 0) rfl rfl) ?_
          refine Zhm 5 rfl (decide_eq_true (h1)) ?_
          first|refine Zhg (Zau rfl) ?_|refine Zhg (Zar rfl) ?_
          first|refine Zhi rfl ?_|refine Zhj rfl ?_|(refine Zhh rfl ?_; (first|refine Zhg (Zl8 rfl) ?_|refine Zhg (Zce rfl) ?_))
          first|refine Zhi rfl ?_|refine Zhj rfl ?_|(refine Zhh rfl ?_; (refine Zhp rfl qH rfl ?_))
          first|refine Zhi rfl ?_|refine Zhj rfl ?_|(refine Zhh rfl ?_; (refine Zhg (Zbo (b := 65536) rfl rfl) ?_))
          refine Zhm 9 rfl (decide_eq_true (h2)) ?_
          first|refine Zhg (Zdz rfl rfl) ?_|refine Zhg (Zd0 rfl rfl) ?_|refine Zhg (Za8 rfl rfl) ?_|refine Zhg (Za9 rfl rfl) ?_|refine Zhg (Za6 rfl rfl) ?_|refine Zhg (Za7 rfl rfl) ?_
          first|refine Zhg (Zau rfl) ?_|refine Zhg (Zar rfl) ?_
          first|refine Zhi rfl ?_|refine Zhj rfl ?_|(refine Zhh rfl ?_; (first|refine Zhg (Zl8 rfl) ?_|refine Zhg (Zce rfl) ?_))
          first|refine Zhi rfl ?_|refine Zhj rfl ?_|(refine Zhh rfl ?_; (refine Zhp rfl qH rfl ?_))
          first|refine Zhi rfl ?_|refine Zhj rfl ?_|(refine Zhh rfl ?_; (refine Zhg (Zbq (b := 1) rfl rfl) ?_))
          refine Zhm 14 rfl (decide_eq_true (h3)) ?_
          first|refine Zhg (Zdz rfl rfl) ?_|refine Zhg (Zd0 rfl rfl) ?_|refine Zhg (Za8 rfl rfl) ?_|refine Zhg (Za9 rfl rfl) ?_|refine Zhg (Za6 rfl rfl) ?_|refine Zhg (Za7 rfl rfl) ?_
          first|refine Zhg (Zau rfl) ?_|refine Zhg (Zar rfl) ?_
          first|refine Zhi rfl ?_|refine Zhj rfl ?_|(refine Zhh rfl ?_; (first|refine Zhg (Zl8 rfl) ?_|refine Zhg (Zce rfl) ?_))
          first|refine Zhi rfl ?_|refine Zhj rfl ?_|(refine Zhh rfl ?_; (refine Zhp rfl qH rfl ?_))
          first|refine Zhi rfl ?_|refine Zhj rfl ?_|(refine Zhh rfl ?_; (refine Zhg (Zbo (b := 4124) rfl rfl) ?_))
          refine Zhn 19 rfl (decide_eq_false (h4)) ?_
          first|refine Zhg (Zdz rfl rfl) ?_|refine Zhg (Zd0 rfl rfl) ?_|refine Zhg (Za8 rfl rfl) ?_|refine Zhg (Za9 rfl rfl) ?_|refine Zhg (Za6 rfl rfl) ?_|refine Zhg (Za7 rfl rfl) ?_
          first|refine Zhg (Za0 rfl) ?_|refine Zhg (Zas rfl) ?_
          refine Zg3 ?_
          refine Ct.o ?_
          refine rx1 (Zha rfl (Zg7)) ?_
          exact ⟨_, ⟨rfl, rfl⟩, qI⟩
      · rw [decide_eq_false (fun h => h3 h.2.2.1)]
        refine fn_x Try.func11 rfl rfl rfl Try.mixed (by kernel_rfl) ?_
        intro w0
        refine Ct.o ?_
        refine Zgb ?_
        refine Zh5 rfl ?_; intro b1
        first|refine Zhg (Za0 rfl) ?_|refine Zhg (Zas rfl) ?_
        refine Zg3 ?_
        refine Ct.o ?_
        refine Zgb ?_
        first|refine Zhg (Zl8 rfl) ?_|refine Zhg (Zce rfl) ?_
        refine Zhp rfl qH rfl ?_
        refine Zhg (Zbq (b := 0) rfl rfl) ?_
        refine Zhm 5 rfl (decide_eq_true (h1)) ?_
        first|refine Zhg (Zau rfl) ?_|refine Zhg (Zar rfl) ?_
        first|refine Zhi rfl ?_|refine Zhj rfl ?_|(refine Zhh rfl ?_; (first|refine Zhg (Zl8 rfl) ?_|refine Zhg (Zce rfl) ?_))
        first|refine Zhi rfl ?_|refine Zhj rfl ?_|(refine Zhh rfl ?_; (refine Zhp rfl qH rfl ?_))
        first|refine Zhi rfl ?_|refine Zhj rfl ?_|(refine Zhh rfl ?_; (refine Zhg (Zbo (b := 65536) rfl rfl) ?_))
        refine Zhm 9 rfl (decide_eq_true (h2)) ?_
        first|refine Zhg (Zdz rfl rfl) ?_|refine Zhg (Zd0 rfl rfl) ?_|refine Zhg (Za8 rfl rfl) ?_|refine Zhg (Za9 rfl rfl) ?_|refine Zhg (Za6 rfl rfl) ?_|refine Zhg (Za7 rfl rfl) ?_
        first|refine Zhg (Zau rfl) ?_|refine Zhg (Zar rfl) ?_
        first|refine Zhi rfl ?_|refine Zhj rfl ?_|(refine Zhh rfl ?_; (first|refine Zhg (Zl8 rfl) ?_|refine Zhg (Zce rfl) ?_))
        first|refine Zhi rfl ?_|refine Zhj rfl ?_|(refine Zhh rfl ?_; (refine Zhp rfl qH rfl ?_))
        first|refine Zhi rfl ?_|refine Zhj rfl ?_|(refine Zhh rfl ?_; (refine Zhg (Zbq (b := 1) rfl rfl) ?_))
        refine Zhn 14 rfl (decide_eq_false (h3)) ?_
        first|refine Zhg (Zdz rfl rfl) ?_|refine Zhg (Zd0 rfl rfl) ?_|refine Zhg (Za8 rfl rfl) ?_|refine Zhg (Za9 rfl rfl) ?_|refine Zhg (Za6 rfl rfl) ?_|refine Zhg (Za7 rfl rfl) ?_
        first|refine Zhg (Zau rfl) ?_|refine Zhg (Zar rfl) ?_
        first|refine Zhi rfl ?_|refine Zhj rfl ?_|(refine Zhh rfl ?_; (first|refine Zhg (Zl8 rfl) ?_|refine Zhg (Zce rfl) ?_))
        first|refine Zhi rfl ?_|refine Zhj rfl ?_|(refine Zhh rfl ?_; (refine Zhp rfl qH rfl ?_))
        first|refine Zhi rfl ?_|refine Zhj rfl ?_|(refine Zhh rfl ?_; (first|refine Zhg (Zmg (b := 4124) rfl rfl) ?_|refine Zhg (Zbo rfl rfl) ?_))
        first|refine Zhg (Zdz rfl rfl) ?_|refine Zhg (Zd0 rfl rfl) ?_|refine Zhg (Za8 rfl rfl) ?_|refine Zhg (Za9 rfl rfl) ?_|refine Zhg (Za6 rfl rfl) ?_|refine Zhg (Za7 rfl rfl) ?_
        first|refine Zhg (Za0 rfl) ?_|refine Zhg (Zas rfl) ?_
        refine Zg3 ?_
        refine Ct.o ?_
        refine rx1 (Zha rfl (Zg7)) ?_
        exact ⟨_, ⟨rfl, rfl⟩, qI⟩
    · rw [decide_eq_false (fun h => h2 h.2.1)]
      refine fn_x Try.func11 rfl rfl rfl Try.mixed (by kernel_rfl) ?_
      intro w0
      refine Ct.o ?_
      refine Zgb ?_
      refine Zh5 rfl ?_; intro b1
      first|refine Zhg (Za0 rfl) ?_|refine Zhg (Zas rfl) ?_
      refine Zg3 ?_
      refine Ct.o ?_
      refine Zgb ?_
      first|refine Zhg (Zl8 rfl) ?_|refine Zhg (Zce rfl) ?_
      refine Zhp rfl qH rfl ?_
      refine Zhg (Zbq (b := 0) rfl rfl) ?_
      refine Zhm 5 rfl (decide_eq_true (h1)) ?_
      first|refine Zhg (Zau rfl) ?_|refine Zhg (Zar rfl) ?_
      first|refine Zhi rfl ?_|refine Zhj rfl ?_|(refine Zhh rfl ?_; (first|refine Zhg (Zl8 rfl) ?_|refine Zhg (Zce rfl) ?_))
      first|refine Zhi rfl ?_|refine Zhj rfl ?_|(refine Zhh rfl ?_; (refine Zhp rfl qH rfl ?_))
      first|refine Zhi rfl ?_|refine Zhj rfl ?_|(refine Zhh rfl ?_; (refine Zhg (Zbo (b := 65536) rfl rfl) ?_))
      refine Zhn 9 rfl (decide_eq_false (h2)) ?_
      first|refine Zhg (Zdz rfl rfl) ?_|refine Zhg (Zd0 rfl rfl) ?_|refine Zhg (Za8 rfl rfl) ?_|refine Zhg (Za9 rfl rfl) ?_|refine Zhg (Za6 rfl rfl) ?_|refine Zhg (Za7 rfl rfl) ?_
      first|refine Zhg (Zau rfl) ?_|refine Zhg (Zar rfl) ?_
      first|refine Zhi rfl ?_|refine Zhj rfl ?_|(refine Zhh rfl ?_; (first|refine Zhg (Zl8 rfl) ?_|refine Zhg (Zce rfl) ?_))
      first|refine Zhi rfl ?_|refine Zhj rfl ?_|(refine Zhh rfl ?_; (refine Zhp rfl qH rfl ?_))
      first|refine Zhi rfl ?_|refine Zhj rfl ?_|(refine Zhh rfl ?_; (first|refine Zhg (Zmi (b := 1) rfl rfl) ?_|refine Zhg (Zbq rfl rfl) ?_))
      first|refine Zhg (Zdz rfl rfl) ?_|refine Zhg (Zd0 rfl rfl) ?_|refine Zhg (Za8 rfl rfl) ?_|refine Zhg (Za9 rfl rfl) ?_|refine Zhg (Za6 rfl rfl) ?_|refine Zhg (Za7 rfl rfl) ?_
      first|refine Zhg (Zau rfl) ?_|refine Zhg (Zar rfl) ?_
      first|refine Zhi rfl ?_|refine Zhj rfl ?_|(refine Zhh rfl ?_; (first|refine Zhg (Zl8 rfl) ?_|refine Zhg (Zce rfl) ?_))
      first|refine Zhi rfl ?_|refine Zhj rfl ?_|(refine Zhh rfl ?_; (refine Zhp rfl qH rfl ?_))
      first|refine Zhi rfl ?_|refine Zhj rfl ?_|(refine Zhh rfl ?_; (first|refine Zhg (Zmg (b := 4124) rfl rfl) ?_|refine Zhg (Zbo rfl rfl) ?_))
      first|refine Zhg (Zdz rfl rfl) ?_|refine Zhg (Zd0 rfl rfl) ?_|refine Zhg (Za8 rfl rfl) ?_|refine Zhg (Za9 rfl rfl) ?_|refine Zhg (Za6 rfl rfl) ?_|refine Zhg (Za7 rfl rfl) ?_
      first|refine Zhg (Za0 rfl) ?_|refine Zhg (Zas rfl) ?_
      refine Zg3 ?_
      refine Ct.o ?_
      refine rx1 (Zha rfl (Zg7)) ?_
      exact ⟨_, ⟨rfl, rfl⟩, qI⟩
  · rw [decide_eq_false (fun h => h1 h.1)]
    refine fn_x Try.func11 rfl rfl rfl Try.mixed (by kernel_rfl) ?_
    intro w0
    refine Ct.o ?_
    refine Zgb ?_
    refine Zh5 rfl ?_; intro b1
    first|refine Zhg (Za0 rfl) ?_|refine Zhg (Zas rfl) ?_
    refine Zg3 ?_
    refine Ct.o ?_
    refine Zgb ?_
    first|refine Zhg (Zl8 rfl) ?_|refine Zhg (Zce rfl) ?_
    refine Zhp rfl qH rfl ?_
    refine Zhg (Zbq (b := 0) rfl rfl) ?_
    refine Zhn 5 rfl (decide_eq_false (h1)) ?_
    first|refine Zhg (Zau rfl) ?_|refine Zhg (Zar rfl) ?_
    first|refine Zhi rfl ?_|refine Zhj rfl ?_|(refine Zhh rfl ?_; (first|refine Zhg (Zl8 rfl) ?_|refine Zhg (Zce rfl) ?_))
    first|refine Zhi rfl ?_|refine Zhj rfl ?_|(refine Zhh rfl ?_; (refine Zhp rfl qH rfl ?_))
    first|refine Zhi rfl ?_|refine Zhj rfl ?_|(refine Zhh rfl ?_; (first|refine Zhg (Zmg (b := 65536) rfl rfl) ?_|refine Zhg (Zbo rfl rfl) ?_))
    first|refine Zhg (Zdz rfl rfl) ?_|refine Zhg (Zd0 rfl rfl) ?_|refine Zhg (Za8 rfl rfl) ?_|refine Zhg (Za9 rfl rfl) ?_|refine Zhg (Za6 rfl rfl) ?_|refine Zhg (Za7 rfl rfl) ?_
    first|refine Zhg (Zau rfl) ?_|refine Zhg (Zar rfl) ?_
    first|refine Zhi rfl ?_|refine Zhj rfl ?_|(refine Zhh rfl ?_; (first|refine Zhg (Zl8 rfl) ?_|refine Zhg (Zce rfl) ?_))
    first|refine Zhi rfl ?_|refine Zhj rfl ?_|(refine Zhh rfl ?_; (refine Zhp rfl qH rfl ?_))
    first|refine Zhi rfl ?_|refine Zhj rfl ?_|(refine Zhh rfl ?_; (first|refine Zhg (Zmi (b := 1) rfl rfl) ?_|refine Zhg (Zbq rfl rfl) ?_))
    first|refine Zhg (Zdz rfl rfl) ?_|refine Zhg (Zd0 rfl rfl) ?_|refine Zhg (Za8 rfl rfl) ?_|refine Zhg (Za9 rfl rfl) ?_|refine Zhg (Za6 rfl rfl) ?_|refine Zhg (Za7 rfl rfl) ?_
    first|refine Zhg (Zau rfl) ?_|refine Zhg (Zar rfl) ?_
    first|refine Zhi rfl ?_|refine Zhj rfl ?_|(refine Zhh rfl ?_; (first|refine Zhg (Zl8 rfl) ?_|refine Zhg (Zce rfl) ?_))
    first|refine Zhi rfl ?_|refine Zhj rfl ?_|(refine Zhh rfl ?_; (refine Zhp rfl qH rfl ?_))
    first|refine Zhi rfl ?_|refine Zhj rfl ?_|(refine Zhh rfl ?_; (first|refine Zhg (Zmg (b := 4124) rfl rfl) ?_|refine Zhg (Zbo rfl rfl) ?_))
    first|refine Zhg (Zdz rfl rfl) ?_|refine Zhg (Zd0 rfl rfl) ?_|refine Zhg (Za8 rfl rfl) ?_|refine Zhg (Za9 rfl rfl) ?_|refine Zhg (Za6 rfl rfl) ?_|refine Zhg (Za7 rfl rfl) ?_
    first|refine Zhg (Za0 rfl) ?_|refine Zhg (Zas rfl) ?_
    refine Zg3 ?_
    refine Ct.o ?_
    refine rx1 (Zha rfl (Zg7)) ?_
    exact ⟨_, ⟨rfl, rfl⟩, qI⟩
end Go.Sl
