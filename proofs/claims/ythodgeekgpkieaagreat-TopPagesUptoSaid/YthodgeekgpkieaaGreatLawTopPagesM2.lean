/- Parts of the proof, joined: TagA, TagS, SealS, PgS, PgrS, PgrQ, PgrM, PgrV, PgrU, EngI, TpA, OpenTp, SrtA, SrtL, EngAe, SrtB, PgrA, OctA, OctB, OctC, StrA, PgA, StrB, StrC, PgB, PgC, PgrB, PgrC, TagB, TagC, TagD, SealA. -/
import Derived.Test.YthodgeekgpkieaaGreatLawTopPagesM0
import Derived.Test.YthodgeekgpkieaaGreatLawTopPagesM1
import Derived.Laws.Externs
import Derived.Lib.Mul64
import Derived.RangeFuncBox
import Derived.RangeFuncLeaves
import Derived.Shelf.Abstract
import Derived.WalkKit
import Derived.OwnWalkIn
import Derived.TacticsInMore
import Derived.LoopNIn
import Derived.LoopIn
import Derived.Maps.AppendAt
import Derived.Shelf.SlIterI.Sorted
import Derived.Shelf.SortM.Plain
import Derived.Shelf.SortM.SortNone
import Derived.Ground.SlgmProg
import Derived.Test.YthodgeekgpkieaaGreatChecked
import Derived.Below
/- tag: numbers of 64 bits; products and sums of 128 bits. -/
set_option maxHeartbeats 4000000
set_option maxRecDepth 10000
set_option linter.unusedVariables false
set_option linter.unusedSimpArgs false
namespace Go.Sl
open Go Go.Proofs
attribute [local irreducible] pt old pur ex all den denOps denS xOps xC cX CX xthen xblk xcut xloop xng retX resX Calls PV Rd Con
def carry (x y c : BitVec 64) : BitVec 64 := BitVec.ofNat 64 ((x.toNat + y.toNat + c.toNat) / 18446744073709551616)
def borrow (x y c : BitVec 64) : BitVec 64 := if x.toNat < y.toNat + c.toNat then 1#64 else 0#64
theorem ext_add64 (x y c : BitVec 64) (hc : c.toNat ≤ 1) : extv Tryz.prog 163 [u64b x, u64b y, u64b c] (.tuple #[u64b (x + y + c), u64b (carry x y c)]) := by
  intro w
  show (callFunc _ #[u64b x, u64b y, u64b c]).run _ w = _
  rw [run_callFunc_extern Tryz.func163 (by kernel_rfl) (by kernel_rfl) (by kernel_rfl) (e := add64Entry) (by kernel_rfl), run_add64 _ _ _ (by omega) (by omega) (by omega) (by omega)]
  simp only [Result.andThen]
  have hx := x.isLt; have hy := y.isLt; have hz := c.isLt
  have e1 : ((x + y + c).toNat : Int) = (x.toNat + y.toNat + c.toNat) % 18446744073709551616 := by simp only [BitVec.toNat_add]; omega
  have e2 : ((carry x y c).toNat : Int) = (x.toNat + y.toNat + c.toNat) / 18446744073709551616 := by simp only [carry, BitVec.toNat_ofNat]; omega
  rw [← e1, ← e2]
def sub64E : Array Value → Sem Value := fun args => do
  let (x, y, b) ← Extern.MathBitsCarry.three "Sub64" args
  pure (Extern.MathBitsCarry.pair ((x + Extern.MathBitsCarry.m64 - y - b) % Extern.MathBitsCarry.m64) (if x < y + b then 1 else 0))
theorem run_sub64E {P : Program} (x y b : Nat) (hb : b ≤ 1) (w : World) :
    (sub64E #[.int .u64 x, .int .u64 y, .int .u64 b]).run P w =
      .ok (.tuple #[.int .u64 (((x + 18446744073709551616 - y - b) % 18446744073709551616 : Nat) : Int), .int .u64 ((if x < y + b then 1 else 0 : Nat) : Int)]) w := by
  have : b = 0 ∨ b = 1 := by omega
  rcases this with rfl|rfl <;> rfl
theorem ext_sub64 (x y c : BitVec 64) (hc : c.toNat ≤ 1) : extv Tryz.prog 162 [u64b x, u64b y, u64b c] (.tuple #[u64b (x - y - c), u64b (borrow x y c)]) := by
  intro w
  show (callFunc _ #[u64b x, u64b y, u64b c]).run _ w = _
  rw [run_callFunc_extern Tryz.func162 (by kernel_rfl) (by kernel_rfl) (by kernel_rfl) (e := sub64E) (by kernel_rfl), run_sub64E _ _ _ hc]
  simp only [Result.andThen]
  have hx := x.isLt; have hy := y.isLt; have hz := c.isLt
  have e1 : (x - y - c).toNat = (x.toNat + 18446744073709551616 - y.toNat - c.toNat) % 18446744073709551616 := by simp only [BitVec.toNat_sub]; omega
  have e2 : (borrow x y c).toNat = if x.toNat < y.toNat + c.toNat then 1 else 0 := by unfold borrow; split <;> rfl
  rw [← e1, ← e2]
/-- Eight bytes as a number, the lowest first. -/
def wordB (b : List (BitVec 8)) : BitVec 64 := b.foldr (fun x a => a <<< 8 ||| x.setWidth 64) 0#64
theorem word_c (b : List (BitVec 8)) (hb : b.length = 8) : Con Tryz.prog 160 [.agg (b.map u8b).toArray] [] (fun v M => v = u64b (wordB b) ∧ M = []) := by
  refine fn_x Tryz.func160 rfl rfl rfl Tryz.mixed (by kernel_rfl) ?_
  intro w0
  refine Y1 ?_
  refine Zh5 rfl ?_; intro b1
  refine V8 ?_
  refine Zgo [(3, 15)] (by kernel_rfl) (fun i : Nat => i ≤ 8) (fun _ => [cl b1 (b.map u8b).toArray 237]) (fun i => [(3, u64b (wordB (b.drop i))), (4, .int .i64 ((i : Int) - 1))]) (fun i => i) 8 (by omega) qI ⟨by rw [List.drop_of_length_le (by omega)]; rfl, rfl, trivial⟩ ?_
  intro i u hi
  refine V4 ?_
  refine Zgg rfl (fun hB => ?_) (fun hB => ?_)
  · obtain ⟨k, rfl⟩ : ∃ k, i = k + 1 := ⟨i - 1, by omega⟩
    refine Y2 ?_
    refine Zhg (Zlj (m := 8) rfl rfl) ?_
    refine Y1 ?_
    first|refine Zhg (Zl5 (n := k) rfl (int_eq (by push_cast; omega))) ?_|refine Zhg (Zl3 (n := k) rfl (int_eq (by push_cast; omega))) ?_
    refine Zhp rfl qH (getL (by omega)) ?_
    refine Zhg (Zjx rfl) ?_
    refine V8 ?_
    refine Zgl k qO qO qI ⟨?_, ?_, trivial⟩
    · rw [List.drop_eq_getElem_cons (show k < b.length by omega)]; rfl
    · show Value.int _ _ = _; congr 1; omega
  · have : i = 0 := by omega
    subst this
    refine V4 ?_
    refine rx1 (Zg9 rfl (Zg7)) ?_
    exact ⟨_, ⟨rfl, rfl⟩, by exact Imp.arr (by repeat (first|exact Arr.nil|exact Arr.stop|refine Arr.cons (by repeat constructor) ?_|refine Arr.skip ?_))⟩
theorem carry_le (x y c : BitVec 64) (hc : c.toNat ≤ 1) : (carry x y c).toNat ≤ 1 := by
  have hx := x.isLt; have hy := y.isLt
  simp only [carry, BitVec.toNat_ofNat]; omega
theorem borrow_le (x y c : BitVec 64) : (borrow x y c).toNat ≤ 1 := by
  unfold borrow; split <;> simp
def mulHi (x y : BitVec 64) : BitVec 64 := BitVec.ofNat 64 (x.toNat * y.toNat / 18446744073709551616)
theorem mulHi_eq (x y : BitVec 64) : (x >>> 32) * (y >>> 32) + (((x >>> 32) * (y &&& 4294967295#64) + ((x &&& 4294967295#64) * (y &&& 4294967295#64)) >>> 32) >>> 32) +
    ((((x >>> 32) * (y &&& 4294967295#64) + ((x &&& 4294967295#64) * (y &&& 4294967295#64)) >>> 32) &&& 4294967295#64) + (x &&& 4294967295#64) * (y >>> 32)) >>> 32 = mulHi x y := by
  have hx := x.isLt; have hy := y.isLt
  obtain ⟨h1, h2, h3, h4⟩ := Lib.mul64_hi x.toNat y.toNat hx hy
  have m : ∀ a : BitVec 64, (a &&& 4294967295#64).toNat = a.toNat % 4294967296 := fun a => by
    rw [BitVec.toNat_and]; exact Nat.and_two_pow_sub_one_eq_mod a.toNat 32
  have s : ∀ a : BitVec 64, (a >>> 32).toNat = a.toNat / 4294967296 := fun a => by
    rw [BitVec.toNat_ushiftRight, Nat.shiftRight_eq_div_pow]
  have ha := Lib.half_mul_le (a := x.toNat / 4294967296) (b := y.toNat / 4294967296) (by omega) (by omega)
  have hb := Lib.half_mul_le (a := x.toNat / 4294967296) (b := y.toNat % 4294967296) (by omega) (by omega)
  have hc := Lib.half_mul_le (a := x.toNat % 4294967296) (b := y.toNat / 4294967296) (by omega) (by omega)
  have hd := Lib.half_mul_le (a := x.toNat % 4294967296) (b := y.toNat % 4294967296) (by omega) (by omega)
  apply BitVec.eq_of_toNat_eq
  simp only [BitVec.toNat_add, BitVec.toNat_mul, m, s, mulHi, BitVec.toNat_ofNat]
  rw [← h4]
  generalize x.toNat / 4294967296 * (y.toNat / 4294967296) = a at *
  generalize x.toNat / 4294967296 * (y.toNat % 4294967296) = b at *
  generalize x.toNat % 4294967296 * (y.toNat / 4294967296) = c at *
  generalize x.toNat % 4294967296 * (y.toNat % 4294967296) = d at *
  omega
theorem mul64_c (x y : BitVec 64) : Con Tryz.prog 191 [u64b x, u64b y] [] (fun v M => v = .tuple #[u64b (mulHi x y), u64b (x * y)] ∧ M = []) := by
  refine fn_x Tryz.func191 rfl rfl rfl Tryz.mixed (by kernel_rfl) ?_
  intro w0
  refine Y6 ?_
  refine Zhg (Zlf (y := 4294967295#64) rfl rfl) ?_
  refine Y4 ?_
  refine Zhg (Zlk (m := 32) rfl rfl) ?_
  refine Y4 ?_
  refine Zhg (Zlf (y := 4294967295#64) rfl rfl) ?_
  refine Y4 ?_
  refine Zhg (Zlk (m := 32) rfl rfl) ?_
  refine Y5 ?_
  refine Zhg (Zle rfl rfl) ?_
  refine Y5 ?_
  refine Zhg (Zle rfl rfl) ?_
  refine Y1 ?_
  refine Zhg (Zlk (m := 32) rfl rfl) ?_
  refine Y5 ?_
  refine Zhg (Zlf (y := 4294967295#64) rfl rfl) ?_
  refine Y4 ?_
  refine Zhg (Zlk (m := 32) rfl rfl) ?_
  refine Y6 ?_
  refine Zhg (Zle rfl rfl) ?_
  refine Y6 ?_
  refine Zhg (Zle rfl rfl) ?_
  refine Y3 ?_
  refine Zhg (Zlk (m := 32) rfl rfl) ?_
  refine Y6 ?_
  refine Zhg (Zle rfl rfl) ?_
  refine V2 ?_
  rw [mulHi_eq]
  refine rx2 (Zg9 rfl (Zg9 rfl (Zg7))) ?_
  exact ⟨_, ⟨rfl, rfl⟩, by exact Imp.arr (by repeat (first|exact Arr.nil|exact Arr.stop|refine Arr.cons (by repeat constructor) ?_|refine Arr.skip ?_))⟩
abbrev W128 := BitVec 64 × BitVec 64
abbrev W192 := BitVec 64 × BitVec 64 × BitVec 64
def wA (x : W128) : Array Value := #[u64b x.1, u64b x.2]
def hA (x : W192) : Array Value := #[u64b x.1, u64b x.2.1, u64b x.2.2]
def mulW (x y : BitVec 64) : W128 := (x * y, mulHi x y)
theorem mul_c (x y : BitVec 64) : Con Tryz.prog 186 [u64b x, u64b y] [] (fun v M => v = .agg (wA (mulW x y)) ∧ M = []) := by
  refine fn_x Tryz.func186 rfl rfl rfl Tryz.mixed (by kernel_rfl) ?_
  intro w0
  refine Y1 ?_
  refine Zhz (cs := #[u64b 0#64, u64b 0#64]) rfl ?_; intro b4
  refine Y4 ?_
  refine Zh8 rfl (by kernel_rfl) (mul64_c _ _) rfl qT ?_
  rintro _ _ ⟨rfl, rfl⟩
  refine Y10 ?_
  refine Zhg (Zdm (cs := #[.int .u64 _, .int .u64 _]) rfl) ?_
  first|refine Zhy rfl rfl qR qZ qN qZ ?_|refine Zhx rfl rfl qR qZ qN qZ rfl ?_
  refine V1 ?_
  refine rx1 (Zhe rfl qH qZ (Zg7)) ?_
  exact ⟨_, ⟨rfl, rfl⟩, by exact Imp.arr (by repeat (first|exact Arr.nil|exact Arr.stop|refine Arr.cons (by repeat constructor) ?_|refine Arr.skip ?_))⟩
def addW (x y : W128) : W128 := (x.1 + y.1 + 0#64, x.2 + y.2 + carry x.1 y.1 0#64)
theorem add_c (x y : W128) : Con Tryz.prog 187 [.agg (wA x), .agg (wA y)] [] (fun v M => v = .agg (wA (addW x y)) ∧ M = []) := by
  refine fn_x Tryz.func187 rfl rfl rfl Tryz.mixed (by kernel_rfl) ?_
  intro w0
  refine Y1 ?_
  refine Zh5 rfl ?_; intro b2
  refine Zh5 rfl ?_; intro b3
  refine Zhz (cs := #[u64b 0#64, u64b 0#64]) rfl ?_; intro b4
  refine Y6 ?_
  refine Zhg (Zh9 rfl (ext_add64 _ _ 0#64 (by decide)) rfl) ?_
  refine Y12 ?_
  refine Zhg (Zh9 rfl (ext_add64 _ _ _ (carry_le _ _ _ (by decide))) rfl) ?_
  refine Y9 ?_
  refine Zhg (Zdm (cs := #[.int .u64 _, .int .u64 _]) rfl) ?_
  first|refine Zhy rfl rfl qR qZ qN qZ ?_|refine Zhx rfl rfl qR qZ qN qZ rfl ?_
  refine V1 ?_
  refine rx1 (Zhe rfl qH qZ (Zg7)) ?_
  exact ⟨_, ⟨rfl, rfl⟩, by exact Imp.arr (by repeat (first|exact Arr.nil|exact Arr.stop|refine Arr.cons (by repeat constructor) ?_|refine Arr.skip ?_))⟩
def plusW (h : W192) (x : W128) : W192 := (h.1 + x.1 + 0#64, h.2.1 + x.2 + carry h.1 x.1 0#64, h.2.2 + carry h.2.1 x.2 (carry h.1 x.1 0#64))
theorem plus_c (h : W192) (x : W128) : Con Tryz.prog 188 [.agg (hA h), .agg (wA x)] [] (fun v M => v = .agg (hA (plusW h x)) ∧ M = []) := by
  refine fn_x Tryz.func188 rfl rfl rfl Tryz.mixed (by kernel_rfl) ?_
  intro w0
  refine Y1 ?_
  refine Zh5 rfl ?_; intro b2
  refine Zh5 rfl ?_; intro b3
  refine Zhz (cs := #[u64b 0#64, u64b 0#64, u64b 0#64]) rfl ?_; intro b4
  refine Y5 ?_
  first|refine Zhg (Zl5 (n := 0) rfl rfl) ?_|refine Zhg (Zl3 (n := 0) rfl rfl) ?_
  refine Y3 ?_
  refine Zhg (Zh9 rfl (ext_add64 _ _ 0#64 (by decide)) rfl) ?_
  refine Y3 ?_
  first|refine Zhg (Zl5 (n := 0) rfl rfl) ?_|refine Zhg (Zl3 (n := 0) rfl rfl) ?_
  refine Y4 ?_
  first|refine Zhg (Zl5 (n := 1) rfl rfl) ?_|refine Zhg (Zl3 (n := 1) rfl rfl) ?_
  refine Y4 ?_
  refine Zhg (Zh9 rfl (ext_add64 _ _ _ (carry_le _ _ _ (by decide))) rfl) ?_
  refine Y3 ?_
  first|refine Zhg (Zl5 (n := 1) rfl rfl) ?_|refine Zhg (Zl3 (n := 1) rfl rfl) ?_
  refine Y4 ?_
  first|refine Zhg (Zl5 (n := 2) rfl rfl) ?_|refine Zhg (Zl3 (n := 2) rfl rfl) ?_
  refine Y3 ?_
  first|refine Zhg (Zl5 (n := 2) rfl rfl) ?_|refine Zhg (Zl3 (n := 2) rfl rfl) ?_
  refine Y4 ?_
  first|refine Zhy rfl rfl qR qZ qN qZ ?_|refine Zhx rfl rfl qR qZ qN qZ rfl ?_
  refine V1 ?_
  refine rx1 (Zhe rfl qH qZ (Zg7)) ?_
  exact ⟨_, ⟨rfl, rfl⟩, by exact Imp.arr (by repeat (first|exact Arr.nil|exact Arr.stop|refine Arr.cons (by repeat constructor) ?_|refine Arr.skip ?_))⟩
def timesW (h : W192) (r : W128) : W192 :=
  let m0 := mulW h.1 r.1
  let m1 := addW (mulW h.2.1 r.1) (mulW h.1 r.2)
  let m2 := addW (mulW h.2.2 r.1) (mulW h.2.1 r.2)
  let m3 := mulW h.2.2 r.2
  let t1 := m1.1 + m0.2 + 0#64
  let c1 := carry m1.1 m0.2 0#64
  let t2 := m2.1 + m1.2 + c1
  let c2 := carry m2.1 m1.2 c1
  let t3 := m3.1 + m2.2 + c2
  let f : W128 := (t2 &&& ~~~ 3#64, t3)
  plusW (plusW (m0.1, t1, t2 &&& 3#64) f) (f.1 >>> 2 ||| f.2 <<< 62, f.2 >>> 2)
theorem times_c (h : W192) (r : W128) : Con Tryz.prog 178 [.agg (hA h), .agg (wA r)] [] (fun v M => v = .agg (hA (timesW h r)) ∧ M = []) := by
  refine fn_x Tryz.func178 rfl rfl rfl Tryz.mixed (by kernel_rfl) ?_
  intro w0
  refine Y1 ?_
  refine Zh5 rfl ?_; intro b2
  refine Zh5 rfl ?_; intro b3
  refine Zhz (cs := #[u64b 0#64, u64b 0#64, u64b 0#64]) rfl ?_; intro b4
  refine Y2 ?_
  first|refine Zhg (Zl5 (n := 0) rfl rfl) ?_|refine Zhg (Zl3 (n := 0) rfl rfl) ?_
  refine Y1 ?_
  first|refine Zhg (Zl5 (n := 0) rfl rfl) ?_|refine Zhg (Zl3 (n := 0) rfl rfl) ?_
  refine Y1 ?_
  refine Zh8 rfl (by kernel_rfl) (mul_c _ _) rfl qT ?_
  rintro _ _ ⟨rfl, rfl⟩
  refine Y1 ?_
  refine Zhz (cs := #[u64b 0#64, u64b 0#64]) rfl ?_; intro b5
  first|refine Zhy rfl rfl qR qZ qN qZ ?_|refine Zhx rfl rfl qR qZ qN qZ rfl ?_
  refine V1 ?_
  refine Zij (_) [3, 4, 6, 8, 9, 10, 11] (.q 0 (.q 2 (.q 5 (.q 7 (.r 1 (.r 3 (.r 6 (.r 8 (.e 4 true (.e 9 true (.e 10 true (.a 11 (.e 12 false .nil))))))))))))) (by kernel_rfl) (by kernel_rfl) (Imp.refl _) ?_
  first|refine Zim rfl (Zl5 (n := 1) rfl rfl) ?_|refine Zim rfl (Zl3 (n := 1) rfl rfl) ?_
  first|refine Zim rfl (Zl5 (n := 0) rfl rfl) ?_|refine Zim rfl (Zl3 (n := 0) rfl rfl) ?_
  first|refine Zim rfl (Zl5 (n := 0) rfl rfl) ?_|refine Zim rfl (Zl3 (n := 0) rfl rfl) ?_
  first|refine Zim rfl (Zl5 (n := 1) rfl rfl) ?_|refine Zim rfl (Zl3 (n := 1) rfl rfl) ?_
  refine W4 ?_
  refine Ziq rfl ?_
  refine Zh8 rfl (by kernel_rfl) (mul_c _ _) rfl qT ?_
  rintro _ _ ⟨rfl, rfl⟩
  refine Y1 ?_
  refine Zg3 ⟨fun _ => Imp.arr qV, ?_⟩
  refine Ziq rfl ?_
  refine Zh8 rfl (by kernel_rfl) (mul_c _ _) rfl qT ?_
  rintro _ _ ⟨rfl, rfl⟩
  refine Y1 ?_
  refine Zg3 ⟨fun _ => Imp.arr qV, ?_⟩
  refine Ziq rfl ?_
  refine Zh8 rfl (by kernel_rfl) (add_c _ _) rfl qT ?_
  rintro _ _ ⟨rfl, rfl⟩
  refine Y1 ?_
  refine Zg3 ⟨fun _ => Imp.arr qV, ?_⟩
  refine Zir rfl (cs := #[u64b 0#64, u64b 0#64]) rfl ?_; intro b6
  refine Ziq rfl ?_
  first|refine Zhy rfl rfl qR qZ qN qZ ?_|refine Zhx rfl rfl qR qZ qN qZ rfl ?_
  refine Zg3 ⟨(fun hh => Bool.noConfusion hh), ?_⟩
  refine Zik ?_
  refine Ct.o ?_
  refine Zij (_) [3, 4, 6, 8, 9, 10, 11] (.q 0 (.q 2 (.q 5 (.q 7 (.r 1 (.r 3 (.r 6 (.r 8 (.e 4 true (.e 9 true (.e 10 true (.a 11 (.e 12 false .nil))))))))))))) (by kernel_rfl) (by kernel_rfl) (Imp.refl _) ?_
  first|refine Zim rfl (Zl5 (n := 2) rfl rfl) ?_|refine Zim rfl (Zl3 (n := 2) rfl rfl) ?_
  first|refine Zim rfl (Zl5 (n := 0) rfl rfl) ?_|refine Zim rfl (Zl3 (n := 0) rfl rfl) ?_
  first|refine Zim rfl (Zl5 (n := 1) rfl rfl) ?_|refine Zim rfl (Zl3 (n := 1) rfl rfl) ?_
  first|refine Zim rfl (Zl5 (n := 1) rfl rfl) ?_|refine Zim rfl (Zl3 (n := 1) rfl rfl) ?_
  refine W4 ?_
  refine Ziq rfl ?_
  refine Zh8 rfl (by kernel_rfl) (mul_c _ _) rfl qT ?_
  rintro _ _ ⟨rfl, rfl⟩
  refine Y1 ?_
  refine Zg3 ⟨fun _ => Imp.arr qV, ?_⟩
  refine Ziq rfl ?_
  refine Zh8 rfl (by kernel_rfl) (mul_c _ _) rfl qT ?_
  rintro _ _ ⟨rfl, rfl⟩
  refine Y1 ?_
  refine Zg3 ⟨fun _ => Imp.arr qV, ?_⟩
  refine Ziq rfl ?_
  refine Zh8 rfl (by kernel_rfl) (add_c _ _) rfl qT ?_
  rintro _ _ ⟨rfl, rfl⟩
  refine Y1 ?_
  refine Zg3 ⟨fun _ => Imp.arr qV, ?_⟩
  refine Zir rfl (cs := #[u64b 0#64, u64b 0#64]) rfl ?_; intro b7
  refine Ziq rfl ?_
  first|refine Zhy rfl rfl qR qZ qN qZ ?_|refine Zhx rfl rfl qR qZ qN qZ rfl ?_
  refine Zg3 ⟨(fun hh => Bool.noConfusion hh), ?_⟩
  refine Zik ?_
  refine Y1 ?_
  first|refine Zhg (Zl5 (n := 2) rfl rfl) ?_|refine Zhg (Zl3 (n := 2) rfl rfl) ?_
  refine Y1 ?_
  first|refine Zhg (Zl5 (n := 1) rfl rfl) ?_|refine Zhg (Zl3 (n := 1) rfl rfl) ?_
  refine Y1 ?_
  refine Zh8 rfl (by kernel_rfl) (mul_c _ _) rfl qT ?_
  rintro _ _ ⟨rfl, rfl⟩
  refine Y1 ?_
  refine Zhz (cs := #[u64b 0#64, u64b 0#64]) rfl ?_; intro b8
  first|refine Zhy rfl rfl qR qZ qN qZ ?_|refine Zhx rfl rfl qR qZ qN qZ rfl ?_
  refine Y11 ?_
  refine Zhg (Zh9 rfl (ext_add64 _ _ 0#64 (by decide)) rfl) ?_
  refine Y12 ?_
  refine Zhg (Zh9 rfl (ext_add64 _ _ _ (carry_le _ _ _ (by decide))) rfl) ?_
  refine Y12 ?_
  refine Zhg (Zh9 rfl (ext_add64 _ _ _ (carry_le _ _ _ (carry_le _ _ _ (by decide)))) rfl) ?_
  refine Y10 ?_
  refine Zhg (Zlf (y := 3#64) rfl rfl) ?_
  refine Zhg (Zdn (cs := #[.int .u64 _, .int .u64 _, .int .u64 _]) rfl) ?_
  refine Zhz (cs := #[u64b 0#64, u64b 0#64, u64b 0#64]) rfl ?_; intro b15
  first|refine Zhy rfl rfl qR qZ qN qZ ?_|refine Zhx rfl rfl qR qZ qN qZ rfl ?_
  refine Y3 ?_
  refine Zhg (Zli (y := 3#64) rfl rfl) ?_
  refine Y1 ?_
  refine Zhg (Zdm (cs := #[.int .u64 _, .int .u64 _]) rfl) ?_
  refine Zhz (cs := #[u64b 0#64, u64b 0#64]) rfl ?_; intro b16
  first|refine Zhy rfl rfl qR qZ qN qZ ?_|refine Zhx rfl rfl qR qZ qN qZ rfl ?_
  refine Y4 ?_
  refine Zh8 rfl (by kernel_rfl) (plus_c (_, _, _) (_, _)) rfl qT ?_
  rintro _ _ ⟨rfl, rfl⟩
  refine Y1 ?_
  first|refine Zhy rfl rfl qR qZ qN qZ ?_|refine Zhx rfl rfl qR qZ qN qZ rfl ?_
  refine Y5 ?_
  refine Zhg (Zlk (m := 2) rfl rfl) ?_
  refine Y2 ?_
  refine Zhg (Zlj (m := 62) rfl rfl) ?_
  refine Y3 ?_
  refine Zhg (Zlk (m := 2) rfl rfl) ?_
  refine Zhg (Zdm (cs := #[.int .u64 _, .int .u64 _]) rfl) ?_
  refine Zh8 rfl (by kernel_rfl) (plus_c _ (_, _)) rfl qT ?_
  rintro _ _ ⟨rfl, rfl⟩
  refine Y1 ?_
  first|refine Zhy rfl rfl qR qZ qN qZ ?_|refine Zhx rfl rfl qR qZ qN qZ rfl ?_
  refine V1 ?_
  refine rx1 (Zhe rfl qH qZ (Zg7)) ?_
  exact ⟨_, ⟨rfl, rfl⟩, by exact Imp.arr (by repeat (first|exact Arr.nil|exact Arr.stop|refine Arr.cons (by repeat constructor) ?_|refine Arr.skip ?_))⟩
end Go.Sl

/- tag: a poly's state, in plain Lean. -/
set_option linter.unusedVariables false
set_option linter.unusedSimpArgs false
namespace Go.Sl
open Go
structure PolyS where
  r : W128
  s : W128
  h : W192
  rest : List Byte
  used : Nat
def setU (t : PolyS) (n : Nat) : PolyS := ⟨t.r, t.s, t.h, t.rest, n⟩
def setH (t : PolyS) (h : W192) : PolyS := ⟨t.r, t.s, h, t.rest, t.used⟩
/-- The cells of a Poly. -/
def pc (t : PolyS) : Array Value :=
  (u64b t.r.1 :: u64b t.r.2 :: u64b t.s.1 :: u64b t.s.2 :: u64b t.h.1 :: u64b t.h.2.1 :: u64b t.h.2.2 :: (t.rest.map u8b ++ [.int .i64 t.used])).toArray
def takeW (h : W192) (r : W128) (b : List Byte) (top : BitVec 64) : W192 :=
  let c0 := carry h.1 (wordB (b.take 8)) 0#64
  timesW (h.1 + wordB (b.take 8) + 0#64, h.2.1 + wordB (b.drop 8) + c0, h.2.2 + (carry h.2.1 (wordB (b.drop 8)) c0 + top)) r
def newS (key : List Byte) : PolyS :=
  ⟨(wordB (key.take 8) &&& 1152921487695413247#64, wordB ((key.drop 8).take 8) &&& 1152921487695413244#64), (wordB ((key.drop 16).take 8), wordB (key.drop 24)), (0#64, 0#64, 0#64), List.replicate 16 0#8, 0⟩
/-- One byte more. -/
def push (t : PolyS) (x : Byte) : PolyS :=
  if t.used + 1 = 16 then { t with h := takeW t.h t.r (t.rest.set t.used x) 1#64, rest := t.rest.set t.used x, used := 0 }
  else { t with rest := t.rest.set t.used x, used := t.used + 1 }
def writeS (t : PolyS) (b : List Byte) : PolyS := b.foldl push t
structure PolyOk (t : PolyS) : Prop where
  rest : t.rest.length = 16
  used : t.used < 16
theorem newS_ok (key : List Byte) : PolyOk (newS key) := ⟨by simp [newS], by simp [newS]⟩
theorem push_ok {t : PolyS} (h : PolyOk t) (x : Byte) : PolyOk (push t x) := by
  have hu := h.used
  unfold push
  split
  · exact ⟨by simp [h.rest], by simp⟩
  · exact ⟨by simp [h.rest], by show t.used + 1 < 16; omega⟩
theorem writeS_ok {b : List Byte} : ∀ {t : PolyS}, PolyOk t → PolyOk (writeS t b) := by
  induction b with
  | nil => exact fun h => h
  | cons x b ih => exact fun h => ih (push_ok h x)
theorem writeS_nil (t : PolyS) : writeS t [] = t := rfl
theorem writeS_zero (t : PolyS) (b : List Byte) : writeS t (b.take 0) = t := rfl
theorem writeS_append (t : PolyS) (a b : List Byte) : writeS t (a ++ b) = writeS (writeS t a) b := by simp [writeS, List.foldl_append]
/-- What a copy into the rest leaves. -/
def put1 (t : PolyS) (x : List Byte) : PolyS := { t with rest := t.rest.take t.used ++ x ++ t.rest.drop (t.used + x.length), used := t.used + x.length }
def full (t : PolyS) : PolyS := if t.used = 16 then setU (setH t (takeW t.h t.r t.rest 1#64)) 0 else t
theorem set_split {l : List Byte} {i : Nat} {x : Byte} (h : i < l.length) : l.set i x = l.take i ++ x :: l.drop (i + 1) := by
  rw [List.set_eq_take_append_cons_drop, if_pos h]
theorem write_put {x : List Byte} : ∀ {t : PolyS}, PolyOk t → t.used + x.length ≤ 16 → writeS t x = full (put1 t x) := by
  induction x with
  | nil =>
    intro t ht _
    have := ht.used
    show t = full (put1 t [])
    have e : put1 t [] = t := by simp [put1]
    rw [e, full, if_neg (by omega)]
  | cons a x ih =>
    intro t ht hl
    simp only [List.length_cons] at hl
    have hr := ht.rest
    have hu := ht.used
    show writeS (push t a) x = _
    by_cases h16 : t.used + 1 = 16
    · have hx : x = [] := List.eq_nil_of_length_eq_zero (by omega)
      subst hx
      show push t a = _
      have e : put1 t [a] = { t with rest := t.rest.set t.used a, used := t.used + 1 } := by
        simp only [put1, List.length_cons, List.length_nil, set_split (show t.used < t.rest.length by omega)]
        simp
      rw [e, full, if_pos h16, push, if_pos h16]; rfl
    · have hp : push t a = { t with rest := t.rest.set t.used a, used := t.used + 1 } := by rw [push, if_neg h16]
      rw [ih (push_ok ht a) (by rw [hp]; show t.used + 1 + x.length ≤ 16; omega)]
      congr 1
      rw [hp]
      simp only [put1, List.length_cons]
      have e : List.take (t.used + 1) (t.rest.set t.used a) = t.rest.take t.used ++ [a] := by
        rw [set_split (by omega), List.take_append, List.take_take]
        have e2 : (t.rest.take t.used).length = t.used := by simp; omega
        rw [e2]
        simp
      have e3 : List.drop (t.used + 1 + x.length) (t.rest.set t.used a) = t.rest.drop (t.used + (x.length + 1)) := by
        rw [List.drop_set_of_lt (by omega)]; congr 1; omega
      rw [e, e3]
      simp; omega
theorem put1_rest {t : PolyS} {x : List Byte} (ht : PolyOk t) (h : t.used + x.length ≤ 16) : (put1 t x).rest.length = 16 := by
  have := ht.rest
  simp [put1]; omega
theorem pc_size {t : PolyS} (h : t.rest.length = 16) : (pc t).size = 24 := by simp [pc, h]
theorem pc_used {t : PolyS} (h : t.rest.length = 16) : (pc t)[23]? = some (.int .i64 t.used) := by
  simp [pc, List.getElem?_append, h]
theorem pc_rest {t : PolyS} (h : t.rest.length = 16) : (pc t).extract 7 23 = (t.rest.map u8b).toArray := by
  apply Array.ext'
  simp only [pc, Array.toList_extract, List.extract_eq_take_drop]
  simp [h]
theorem pc_setUsed {t : PolyS} (h : t.rest.length = 16) (n : Nat) : (pc t).setIfInBounds 23 (.int .i64 n) = pc (setU t n) := by
  apply Array.ext'
  simp [pc, setU, List.set_append, h]
theorem pc_copy {t : PolyS} {x : List Byte} (h : t.rest.length = 16) (hx : t.used + x.length ≤ 16) : wr (pc t) (7 + t.used) (x.map u8b) = pc (setU (put1 t x) t.used) := by
  apply Array.ext'
  rw [wr_toList _ _ _ (by rw [pc_size h, List.length_map]; omega)]
  have e : (pc t).toList = [u64b t.r.1, u64b t.r.2, u64b t.s.1, u64b t.s.2, u64b t.h.1, u64b t.h.2.1, u64b t.h.2.2] ++ (t.rest.map u8b ++ [.int .i64 t.used]) := rfl
  rw [e, List.take_append, List.drop_append]
  have l7 : [u64b t.r.1, u64b t.r.2, u64b t.s.1, u64b t.s.2, u64b t.h.1, u64b t.h.2.1, u64b t.h.2.2].length = 7 := rfl
  rw [l7, List.take_of_length_le (by rw [l7]; omega), List.drop_of_length_le (by rw [l7, List.length_map]; omega)]
  have e1 : 7 + t.used - 7 = t.used := by omega
  have e2 : 7 + t.used + (x.map u8b).length - 7 = t.used + x.length := by rw [List.length_map]; omega
  rw [e1, e2, List.take_append_of_le_length (by simp; omega), List.drop_append_of_le_length (by simp; omega)]
  simp [pc, setU, put1, ← List.map_take, ← List.map_drop]
theorem pc_h (t : PolyS) : (pc t).extract 4 7 = hA t.h := by
  apply Array.ext'
  simp [pc, hA, List.extract_eq_take_drop]
theorem pc_r (t : PolyS) : (pc t).extract 0 2 = wA t.r := by
  apply Array.ext'
  simp [pc, wA, List.extract_eq_take_drop]
theorem pc_setH (t : PolyS) (h : W192) : wr (pc t) 4 (hA h).toList = pc (setH t h) := rfl
theorem ext_map (b : List Byte) (i j : Nat) : ((b.map u8b).toArray).extract i j = (((b.drop i).take (j - i)).map u8b).toArray := by
  apply Array.ext'
  simp [List.extract_eq_take_drop]
/-- The end of it. -/
def lastB (t : PolyS) : List Byte := (t.rest.take t.used ++ List.replicate (16 - t.used) 0#8).set t.used 1#8
def finS (t : PolyS) : PolyS := if 0 < t.used then setH t (takeW t.h t.r (lastB t) 0#64) else t
def outW (h : W192) (s : W128) : W128 :=
  let b0 := borrow h.1 18446744073709551611#64 0#64
  let l0 := h.1 - 18446744073709551611#64 - 0#64
  let l1 := h.2.1 - 18446744073709551615#64 - b0
  let b1 := borrow h.2.1 18446744073709551615#64 b0
  let keep := - borrow h.2.2 3#64 b1
  let k0 := h.1 &&& keep ||| l0 &&& ~~~ keep
  let k1 := h.2.1 &&& keep ||| l1 &&& ~~~ keep
  (k0 + s.1 + 0#64, k1 + s.2 + carry k0 s.1 0#64)
def outB (o : W128) (i : Nat) : Byte := ((if i / 8 = 0 then o.1 else o.2) >>> (8 * (i % 8))).setWidth 8
def bytesOf (o : W128) : List Byte := (List.range 16).map (outB o)
def sumS (t : PolyS) : List Byte := bytesOf (outW (finS t).h (finS t).s)
def code (key all : List Byte) : List Byte := sumS (writeS (newS key) all)
def upto (f : Nat → Byte) (i : Nat) : List Byte := (List.range 16).map fun j => if j < i then f j else 0#8
theorem upto_set (f : Nat → Byte) (i : Nat) : (upto f i).set i (f i) = upto f (i + 1) := by
  apply List.ext_getElem (by simp [upto])
  intro j h1 h2
  simp only [upto, List.getElem_set, List.getElem_map, List.getElem_range]
  by_cases e : i = j
  · subst e; simp
  · rw [if_neg e]
    by_cases h : j < i
    · rw [if_pos h, if_pos (by omega)]
    · rw [if_neg h, if_neg (by omega)]
theorem upto_zero (f : Nat → Byte) : upto f 0 = List.replicate 16 0#8 := by simp [upto, List.range_succ]
theorem upto_end (f : Nat → Byte) : upto f 16 = (List.range 16).map f := by
  apply List.map_congr_left
  intro j hj
  rw [if_pos (by simpa using hj)]
theorem pc_restTake {t : PolyS} (h : t.rest.length = 16) (hu : t.used ≤ 16) : ((pc t).extract 7 (7 + t.used * 1)).toList = (t.rest.take t.used).map u8b := by
  simp only [pc, Array.toList_extract, List.extract_eq_take_drop, Nat.mul_one]
  have e : 7 + t.used - 7 = t.used := by omega
  rw [e]
  show List.take t.used (t.rest.map u8b ++ [.int .i64 t.used]) = _
  rw [List.take_append_of_le_length (by simp; omega), List.map_take]
theorem copy_last {t : PolyS} (h : t.rest.length = 16) (hu : t.used < 16) : wr ((List.replicate 16 0#8).map u8b).toArray 0 ((t.rest.take t.used).map u8b) = ((t.rest.take t.used ++ List.replicate (16 - t.used) 0#8).map u8b).toArray := by
  apply Array.ext'
  rw [wr_toList _ _ _ (by simp; omega)]
  have e : (0 + ((t.rest.take t.used).map u8b).length) = t.used := by simp; omega
  rw [e, List.map_replicate, List.map_append, List.map_replicate]
  show List.take 0 (List.replicate 16 (u8b 0#8)) ++ _ ++ List.drop t.used (List.replicate 16 (u8b 0#8)) = _
  rw [List.drop_replicate]; rfl
theorem pc_one (t : PolyS) : (pc t).toList.all oneC = true := by simp [pc, oneC]
theorem pc_s0 (t : PolyS) : (pc t)[2]? = some (u64b t.s.1) := rfl
theorem pc_s1 (t : PolyS) : (pc t)[3]? = some (u64b t.s.2) := rfl
theorem finS_rest (t : PolyS) : (finS t).rest = t.rest := by unfold finS; split <;> rfl
theorem lastB_len {t : PolyS} (h : t.rest.length = 16) (hu : t.used ≤ 16) : (lastB t).length = 16 := by simp [lastB, h]; omega
theorem bytesOf_len (o : W128) : (bytesOf o).length = 16 := by simp [bytesOf]
theorem code_len (key all : List Byte) : (code key all).length = 16 := bytesOf_len _
end Go.Sl

/- seal: what is sealed and opened, in plain Lean. No program in sight. -/
set_option linter.unusedVariables false
namespace Go.Sl
open Go
/-- Bytes 0 up to a multiple of 16. -/
def padB (b : List Byte) : List Byte := List.replicate ((16 - b.length % 16) % 16) 0#8
/-- What is vouched for. -/
def macB (more cover : List Byte) : List Byte := ((more ++ padB more) ++ (cover ++ padB cover)) ++ (leB (BitVec.ofNat 64 more.length) 8 ++ leB (BitVec.ofNat 64 cover.length) 8)
def oneKey (key nonce : List Byte) : List Byte := (blockB key 0#32 nonce).take 32
theorem oneKey_len (key nonce : List Byte) : (oneKey key nonce).length = 32 := by simp [oneKey, blockB_len]
def vouchB (key nonce more cover : List Byte) : List Byte := code (oneKey key nonce) (macB more cover)
theorem vouchB_len (key nonce more cover : List Byte) : (vouchB key nonce more cover).length = 16 := code_len _ _
/-- A text's box. -/
def sealB (key nonce more text : List Byte) : List Byte := xorB key nonce 64 text ++ vouchB key nonce more (xorB key nonce 64 text)
theorem sealB_len (key nonce more text : List Byte) : (sealB key nonce more text).length = text.length + 16 := by simp [sealB, xorB_len, vouchB_len]
/-- The cover of a box, its tag, whether that is right, the text. -/
def coverB (box : List Byte) : List Byte := box.take (box.length - 16)
def tagB (box : List Byte) : List Byte := box.drop (box.length - 16)
def rightB (key nonce more box : List Byte) : Bool := decide (vouchB key nonce more (coverB box) = tagB box)
def textB (key nonce box : List Byte) : List Byte := xorB key nonce 64 (coverB box)
theorem textB_len (key nonce box : List Byte) : (textB key nonce box).length = box.length - 16 := by simp [textB, xorB_len, coverB]
theorem cover_seal (key nonce more text : List Byte) : coverB (sealB key nonce more text) = xorB key nonce 64 text := by
  unfold coverB; rw [sealB_len, Nat.add_sub_cancel]
  unfold sealB; rw [List.take_append_of_le_length (by rw [xorB_len]; exact Nat.le_refl _), List.take_of_length_le (by rw [xorB_len]; exact Nat.le_refl _)]
theorem tag_seal (key nonce more text : List Byte) : tagB (sealB key nonce more text) = vouchB key nonce more (xorB key nonce 64 text) := by
  unfold tagB; rw [sealB_len, Nat.add_sub_cancel]
  unfold sealB; rw [List.drop_append_of_le_length (by rw [xorB_len]; exact Nat.le_refl _), List.drop_of_length_le (by rw [xorB_len]; exact Nat.le_refl _)]; rfl
/-- What is sealed opens. -/
theorem right_seal (key nonce more text : List Byte) : rightB key nonce more (sealB key nonce more text) = true := by
  unfold rightB; rw [cover_seal, tag_seal]; exact decide_eq_true rfl
theorem text_seal (key nonce more text : List Byte) : textB key nonce (sealB key nonce more text) = text := by
  unfold textB; rw [cover_seal, xorB_back]
/-- What opens is what is sealed of the text. -/
theorem seal_text (key nonce more box : List Byte) (h : rightB key nonce more box = true) : sealB key nonce more (textB key nonce box) = box := by
  unfold rightB at h
  have h := of_decide_eq_true h
  unfold sealB textB
  rw [xorB_back, h]
  unfold coverB tagB
  exact List.take_append_drop _ _
end Go.Sl

/- page: what a page is, in plain Lean. No program in sight. -/
set_option linter.unusedVariables false
set_option linter.unusedSimpArgs false
namespace Go.Sl
open Go
theorem lowB_bitn (w : Nat) : ∀ (n : Nat) (b : List Byte), b.length = n → ∀ i, i < w → (lowB w b).getLsbD i = (b.getD (i / 8) 0#8).getLsbD (i % 8) := by
  intro n
  induction n with
  | zero => intro b hb i hi; obtain rfl := List.eq_nil_of_length_eq_zero hb; simp [lowB]
  | succ n ihn =>
    intro b' hb'
    obtain ⟨b, x, rfl⟩ : ∃ b x, b' = b ++ [x] := by
      rcases List.eq_nil_or_concat b' with rfl|⟨b, x, rfl⟩
      · simp at hb'
      · exact ⟨b, x, by simp⟩
    have ih := ihn b (by simpa using hb')
    intro i hi
    rw [lowB_snoc, BitVec.getLsbD_or, BitVec.getLsbD_shiftLeft, ih i hi, BitVec.getLsbD_setWidth]
    have h8 : i = 8 * (i / 8) + i % 8 := by omega
    by_cases h1 : i / 8 < b.length
    · have h2 : i < 8 * b.length := by omega
      simp [List.getD_eq_getElem?_getD, List.getElem?_append_left h1, h2, hi]
    · by_cases h2 : i / 8 = b.length
      · have h3 : ¬ i < 8 * b.length := by omega
        have h4 : i - 8 * b.length = i % 8 := by omega
        have h5 : i % 8 < w := by omega
        simp [List.getD_eq_getElem?_getD, h2, h3, h4, h5, hi]
      · have h3 : ¬ i < 8 * b.length := by omega
        have h6 : x.getLsbD (i - 8 * b.length) = false := BitVec.getLsbD_of_ge _ _ (by omega)
        have h7 : (b ++ [x])[i / 8]? = none := List.getElem?_eq_none (by simp; omega)
        have h8 : b[i / 8]? = none := List.getElem?_eq_none (by omega)
        simp [List.getD_eq_getElem?_getD, h6, h7, h8]
theorem lowB_bit (w : Nat) (b : List Byte) (i : Nat) (hi : i < w) : (lowB w b).getLsbD i = (b.getD (i / 8) 0#8).getLsbD (i % 8) := lowB_bitn w _ b rfl i hi
theorem leB_get {w : Nat} (x : BitVec w) (n j : Nat) (h : j < n) : (leB x n).getD j 0#8 = (x >>> (8 * j)).setWidth 8 := by
  simp [leB, List.getD_eq_getElem?_getD, h]
theorem low_le {w n : Nat} (x : BitVec w) (h : w = 8 * n) : lowB w (leB x n) = x := by
  apply BitVec.eq_of_getLsbD_eq
  intro i hi
  rw [lowB_bit _ _ _ hi, leB_get _ _ _ (by omega), BitVec.getLsbD_setWidth, BitVec.getLsbD_ushiftRight]
  rw [show 8 * (i / 8) + i % 8 = i from by omega]
  simp; omega
theorem le_low {w n : Nat} (b : List Byte) (h : w = 8 * n) (hb : b.length = n) : leB (lowB w b) n = b := by
  apply List.ext_getElem (by rw [leB_len, hb])
  intro j h1 h2
  rw [leB_len] at h1
  have e := leB_get (lowB w b) n j h1
  rw [List.getD_eq_getElem?_getD, List.getElem?_eq_getElem (by rw [leB_len]; exact h1), Option.getD_some] at e
  rw [e]
  apply BitVec.eq_of_getLsbD_eq
  intro i hi
  rw [BitVec.getLsbD_setWidth, BitVec.getLsbD_ushiftRight, lowB_bit _ _ _ (by omega), show (8 * j + i) / 8 = j from by omega, show (8 * j + i) % 8 = i from by omega, List.getD_eq_getElem?_getD, List.getElem?_eq_getElem h2]
  simp [hi]
/-- What a page's seal holds it to. -/
structure Plc where
  round : BitVec 64
  counter : BitVec 32
  page : BitVec 32
  version : BitVec 32
theorem Plc.eq_iff (a b : Plc) : (a.round = b.round ∧ a.counter = b.counter ∧ a.page = b.page ∧ a.version = b.version) ↔ a = b := by
  constructor
  · rintro ⟨h1, h2, h3, h4⟩
    cases a; cases b
    simp only at h1 h2 h3 h4
    rw [h1, h2, h3, h4]
  · rintro rfl
    exact ⟨rfl, rfl, rfl, rfl⟩
instance : DecidableEq Plc := fun a b => decidable_of_iff _ (Plc.eq_iff a b)
def headB (p : Plc) : List Byte := leB p.round 8 ++ leB p.counter 4
def moreB (p : Plc) : List Byte := leB p.page 4 ++ leB p.version 4
theorem headB_len (p : Plc) : (headB p).length = 12 := by simp [headB, leB_len]
theorem moreB_len (p : Plc) : (moreB p).length = 8 := by simp [moreB, leB_len]
def pgSealB (key : List Byte) (p : Plc) (text : List Byte) : List Byte := headB p ++ sealB key (headB p) (moreB p) text
theorem pgSealB_len (key : List Byte) (p : Plc) (text : List Byte) : (pgSealB key p text).length = text.length + 28 := by simp [pgSealB, headB_len, sealB_len]; omega
def pgSealR (key : List Byte) (p : Plc) (text : List Byte) : List Byte × Nat := if 4096 < text.length then ([], 3) else (pgSealB key p text, 0)
def pgHeadR (b : List Byte) : BitVec 64 × BitVec 32 × Nat := if b.length < 28 then (0#64, 0#32, 20) else (lowB 64 (b.take 8), lowB 32 ((b.drop 8).take 4), 0)
def pgFits (p : Plc) (box : List Byte) : Prop := 28 ≤ box.length ∧ box.length ≤ 4124 ∧ box.take 12 = headB p
instance (p : Plc) (box : List Byte) : Decidable (pgFits p box) := inferInstanceAs (Decidable (_ ∧ _))
def pgOpens (key : List Byte) (p : Plc) (box : List Byte) : Prop := pgFits p box ∧ rightB key (headB p) (moreB p) (box.drop 12) = true
instance (key : List Byte) (p : Plc) (box : List Byte) : Decidable (pgOpens key p box) := inferInstanceAs (Decidable (_ ∧ _))
def pgOpenR (key : List Byte) (p : Plc) (box : List Byte) : List Byte × Nat := if pgOpens key p box then (textB key (headB p) (box.drop 12), 0) else ([], 120)
/-- A head is its round and its counter. -/
theorem head_is (p : Plc) (box : List Byte) (h : 12 ≤ box.length) : box.take 12 = headB p ↔ lowB 64 (box.take 8) = p.round ∧ lowB 32 ((box.drop 8).take 4) = p.counter := by
  have e : box.take 12 = box.take 8 ++ (box.drop 8).take 4 := by
    rw [show (12 : Nat) = 8 + 4 from rfl, List.take_add]
  have l8 : (box.take 8).length = 8 := by simp; omega
  have l4 : ((box.drop 8).take 4).length = 4 := by simp; omega
  rw [e]
  constructor
  · intro hh
    unfold headB at hh
    have h2 := List.append_inj hh (by rw [l8, leB_len])
    rw [h2.1, h2.2, low_le (n := 8) _ rfl, low_le (n := 4) _ rfl]
    exact ⟨rfl, rfl⟩
  · rintro ⟨h1, h2⟩
    unfold headB
    rw [← h1, ← h2, le_low (n := 8) _ rfl l8, le_low (n := 4) _ rfl l4]
theorem pgSeal_head (key : List Byte) (p : Plc) (text : List Byte) : (pgSealB key p text).take 12 = headB p := by
  unfold pgSealB
  rw [List.take_append_of_le_length (by rw [headB_len]; exact Nat.le_refl _), List.take_of_length_le (by rw [headB_len]; exact Nat.le_refl _)]
theorem pgSeal_drop (key : List Byte) (p : Plc) (text : List Byte) : (pgSealB key p text).drop 12 = sealB key (headB p) (moreB p) text := by
  unfold pgSealB
  rw [List.drop_append_of_le_length (by rw [headB_len]; exact Nat.le_refl _), List.drop_of_length_le (by rw [headB_len]; exact Nat.le_refl _)]; rfl
/-- What is sealed opens. -/
theorem pg_back (key : List Byte) (p : Plc) (text : List Byte) (h : text.length ≤ 4096) : pgOpenR key p (pgSealB key p text) = (text, 0) := by
  unfold pgOpenR
  rw [if_pos ⟨⟨by rw [pgSealB_len]; omega, by rw [pgSealB_len]; omega, pgSeal_head key p text⟩, by rw [pgSeal_drop]; exact right_seal _ _ _ _⟩, pgSeal_drop, text_seal]
/-- What opens is what is sealed of the text. -/
theorem pg_form (key : List Byte) (p : Plc) (box : List Byte) (h : pgOpens key p box) : pgSealB key p (pgOpenR key p box).1 = box ∧ (pgOpenR key p box).1.length + 28 = box.length := by
  obtain ⟨⟨h1, h2, h3⟩, h4⟩ := h
  unfold pgOpenR
  rw [if_pos ⟨⟨h1, h2, h3⟩, h4⟩]
  constructor
  · unfold pgSealB
    dsimp only
    rw [seal_text _ _ _ _ h4, ← h3, List.take_append_drop]
  · dsimp only
    rw [textB_len, List.length_drop]; omega
theorem pgSealR_ok (key : List Byte) (p : Plc) (text : List Byte) (h : ¬ 4096 < text.length) : pgSealR key p text = (pgSealB key p text, 0) := by unfold pgSealR; rw [if_neg h]
theorem pgOpenR_not (key : List Byte) (p : Plc) (box : List Byte) (h : ¬ pgOpens key p box) : pgOpenR key p box = ([], 120) := by unfold pgOpenR; rw [if_neg h]
theorem pgOpenR_yes (key : List Byte) (p : Plc) (box : List Byte) (h : pgOpens key p box) : pgOpenR key p box = ((pgOpenR key p box).1, 0) := by unfold pgOpenR; rw [if_pos h]
end Go.Sl

/- pager: what a pager is and does, in plain Lean. No program in sight. -/
set_option linter.unusedVariables false
set_option linter.unusedSimpArgs false
namespace Go.Sl.PagerS
open Go Go.Sl Go.Sl.HostS
/-- A held page: is: 0 fresh, 1 clean, 2 changed. -/
structure Fr where
  page : Int
  text : Bytes
  is : Nat
structure PS where
  key : Bytes
  round : BitVec 64
  window : Nat
  pages : Int
  text : Nat
  held : List Fr
  last : Int → Option Plc
  most : Nat
  writes : Nat
  err : Nat
def frOf (s : PS) (n : Int) : Option Fr := s.held.find? fun f => f.page == n
def verOf (s : PS) (n : Int) : BitVec 32 := ((s.last n).map Plc.version).getD 0#32
def nextPl (s : PS) (n : Int) : Plc := ⟨s.round, BitVec.ofNat 32 s.writes, BitVec.ofInt 32 n, verOf s n + 1#32⟩
def die (s : PS) (e : Nat) : PS := { s with err := e }
def cleaned (l : List Fr) (n : Int) : List Fr := l.map fun f => if f.page = n then { f with is := 1 } else f
def wroteP (s : PS) (n : Int) : PS := { s with last := setF s.last n (some (nextPl s n)), writes := s.writes + 1, held := cleaned s.held n }
def textOf (s : PS) (n : Int) : Bytes := ((frOf s n).map Fr.text).getD []
def boxOf (s : PS) (n : Int) : Bytes := pgSealB s.key (nextPl s n) (textOf s n)
abbrev PH := PS × HS
/-- A held page is written. -/
def writeP (s : PS) (h : HS) (n : Int) : Nat × PH :=
  if s.writes = 4294967295 then (130, die s 130, h)
  else
    let r := writeR h n (boxOf s n)
    if r.1 = 0 then (0, wroteP s n, r.2) else (r.1, die s r.1, r.2)
def changedAt (s : PS) (n : Int) : Bool := ((frOf s n).map Fr.is).getD 0 == 2
/-- Room is made. -/
def roomP (s : PS) (h : HS) : Nat × PH :=
  if s.held.length < s.window then (0, s, h)
  else
    let n := (s.held.head?.map Fr.page).getD 0
    if changedAt s n then
      let r := writeP s h n
      if r.1 = 0 then (0, { r.2.1 with held := r.2.1.held.tail }, r.2.2) else r
    else (0, { s with held := s.held.tail }, h)
def useP (s : PS) (f : Fr) : PS :=
  { s with held := (s.held.filter fun g => !(g.page == f.page)) ++ [f], most := max s.most ((s.held.filter fun g => !(g.page == f.page)) ++ [f]).length }
def rightP (s : PS) (n : Int) : Nat := if s.err ≠ 0 then s.err else if n < 0 ∨ s.pages ≤ n then 2 else 0
/-- A page that is not held comes in. -/
def fetchP (s : PS) (h : HS) (n : Int) : (Bytes × Nat) × PH :=
  match s.last n with
  | some pl =>
    let r := readR h n
    if r.2.1 = 0 then
      let o := pgOpenR s.key pl r.1
      if o.2 = 0 then ((o.1, 0), useP s ⟨n, o.1, 1⟩, r.2.2) else (([], o.2), die s o.2, r.2.2)
    else (([], r.2.1), die s r.2.1, r.2.2)
  | none => ((List.replicate s.text 0#8, 0), useP s ⟨n, List.replicate s.text 0#8, 0⟩, h)
def loadP (s : PS) (h : HS) (n : Int) : (Bytes × Nat) × PH :=
  if rightP s n = 0 then
    match frOf s n with
    | some f => ((f.text, 0), useP s f, h)
    | none =>
      let r := roomP s h
      if r.1 = 0 then fetchP r.2.1 r.2.2 n else (([], r.1), r.2)
  else (([], rightP s n), s, h)
def saveP (s : PS) (h : HS) (n : Int) (t : Bytes) : Nat × PH :=
  if rightP s n = 0 then
    if t.length = s.text then
      match frOf s n with
      | some _ => (0, useP s ⟨n, t, 2⟩, h)
      | none =>
        let r := roomP s h
        if r.1 = 0 then (0, useP r.2.1 ⟨n, t, 2⟩, r.2.2) else r
    else (4, s, h)
  else (rightP s n, s, h)
def numbers (s : PS) : List Int := s.held.map Fr.page
def freshP (key : Bytes) (round : BitVec 64) (window : Nat) (pages : Int) (text : Nat) : PS := ⟨key, round, window, pages, text, [], fun _ => none, 0, 0, 0⟩
/-- What is known of a pager. -/
structure Ok (s : PS) : Prop where
  key : s.key.length = 32
  w0 : 2 ≤ s.window
  w1 : s.window ≤ 16
  p0 : 0 ≤ s.pages
  p1 : s.pages ≤ 65536
  t0 : 1 ≤ s.text
  t1 : s.text ≤ 4096
  once : (numbers s).Nodup
  there : ∀ f ∈ s.held, 0 ≤ f.page ∧ f.page < s.pages
  len : ∀ f ∈ s.held, f.text.length = s.text
  is : ∀ f ∈ s.held, f.is ≤ 2
  many : s.held.length ≤ s.window
  most : s.most ≤ s.window
  writes : s.writes ≤ 4294967295
  err : s.err ≤ 1000
/-- It stands over that host. -/
structure Over (s : PS) (h : HS) : Prop where
  pages : h.pages = s.pages
  size : h.size = s.text + 28
theorem frOf_mem {s : PS} {n : Int} {f : Fr} (h : frOf s n = some f) : f ∈ s.held ∧ f.page = n := by
  unfold frOf at h
  exact ⟨List.mem_of_find?_eq_some h, by have := List.find?_some h; simpa using this⟩
theorem frOf_none {s : PS} {n : Int} (h : frOf s n = none) : n ∉ numbers s := by
  unfold frOf at h
  rw [List.find?_eq_none] at h
  unfold numbers
  rw [List.mem_map]
  rintro ⟨f, hf, rfl⟩
  exact h f hf (by simp)
theorem frOf_of {s : PS} {n : Int} (h : n ∈ numbers s) : ∃ f, frOf s n = some f := by
  cases hf : frOf s n with
  | some f => exact ⟨f, rfl⟩
  | none => exact absurd h (frOf_none hf)
theorem ok_die {s : PS} (h : Ok s) (e : Nat) (he : e ≤ 1000) : Ok (die s e) := ⟨h.key, h.w0, h.w1, h.p0, h.p1, h.t0, h.t1, h.once, h.there, h.len, h.is, h.many, h.most, h.writes, he⟩
theorem cleaned_pages (l : List Fr) (n : Int) : (cleaned l n).map Fr.page = l.map Fr.page := by
  unfold cleaned
  rw [List.map_map]
  apply List.map_congr_left
  intro f _
  simp only [Function.comp]
  split <;> rfl
theorem cleaned_mem {l : List Fr} {n : Int} {f : Fr} (h : f ∈ cleaned l n) : ∃ g ∈ l, f.page = g.page ∧ f.text = g.text ∧ (f.is = 1 ∨ f.is = g.is) := by
  unfold cleaned at h
  obtain ⟨g, hg, rfl⟩ := List.mem_map.1 h
  refine ⟨g, hg, ?_⟩
  split
  · exact ⟨rfl, rfl, .inl rfl⟩
  · exact ⟨rfl, rfl, .inr rfl⟩
theorem ok_wrote {s : PS} (h : Ok s) (n : Int) (hw : s.writes < 4294967295) : Ok (wroteP s n) := by
  refine ⟨h.key, h.w0, h.w1, h.p0, h.p1, h.t0, h.t1, ?_, ?_, ?_, ?_, ?_, h.most, by show s.writes + 1 ≤ _; omega, h.err⟩
  · show ((cleaned s.held n).map Fr.page).Nodup
    rw [cleaned_pages]; exact h.once
  · intro f hf
    obtain ⟨g, hg, e, _⟩ := cleaned_mem hf
    rw [e]; exact h.there g hg
  · intro f hf
    obtain ⟨g, hg, _, e, _⟩ := cleaned_mem hf
    rw [e]; exact h.len g hg
  · intro f hf
    obtain ⟨g, hg, _, _, e⟩ := cleaned_mem hf
    rcases e with e|e
    · omega
    · rw [e]; exact h.is g hg
  · show (cleaned s.held n).length ≤ _
    unfold cleaned; rw [List.length_map]; exact h.many
theorem ok_tail {s : PS} (h : Ok s) : Ok { s with held := s.held.tail } := by
  refine ⟨h.key, h.w0, h.w1, h.p0, h.p1, h.t0, h.t1, ?_, fun f hf => h.there f (List.mem_of_mem_tail hf), fun f hf => h.len f (List.mem_of_mem_tail hf), fun f hf => h.is f (List.mem_of_mem_tail hf), ?_, h.most, h.writes, h.err⟩
  · show (s.held.tail.map Fr.page).Nodup
    rw [List.map_tail]
    exact h.once.sublist (List.tail_sublist _)
  · show s.held.tail.length ≤ s.window
    have := h.many
    rw [List.length_tail]; omega
theorem use_len {s : PS} {f : Fr} (h : Ok s) (hr : (frOf s f.page).isSome = true ∨ s.held.length < s.window) : ((s.held.filter fun g => !(g.page == f.page)) ++ [f]).length ≤ s.window := by
  rw [List.length_append, List.length_singleton]
  have hle := List.length_filter_le (fun g : Fr => !(g.page == f.page)) s.held
  have hm := h.many
  rcases hr with hr|hr
  · obtain ⟨g, hg⟩ := Option.isSome_iff_exists.1 hr
    obtain ⟨hg1, hg2⟩ := frOf_mem hg
    have : (s.held.filter fun g => !(g.page == f.page)).length < s.held.length := by
      refine List.length_filter_lt_length_iff_exists.2 ⟨g, hg1, by simp [hg2]⟩
    omega
  · omega
theorem ok_use {s : PS} {f : Fr} (h : Ok s) (hr : (frOf s f.page).isSome = true ∨ s.held.length < s.window) (hp : 0 ≤ f.page ∧ f.page < s.pages) (hl : f.text.length = s.text) (hi : f.is ≤ 2) : Ok (useP s f) := by
  have hlen := use_len h hr
  refine ⟨h.key, h.w0, h.w1, h.p0, h.p1, h.t0, h.t1, ?_, ?_, ?_, ?_, hlen, ?_, h.writes, h.err⟩
  · show (((s.held.filter fun g => !(g.page == f.page)) ++ [f]).map Fr.page).Nodup
    rw [List.map_append, List.nodup_append]
    refine ⟨h.once.sublist (List.filter_sublist.map _), by simp, ?_⟩
    intro a ha b hb
    simp only [List.map_cons, List.map_nil, List.mem_singleton] at hb
    subst hb
    obtain ⟨g, hg, rfl⟩ := List.mem_map.1 ha
    have := (List.mem_filter.1 hg).2
    intro e
    rw [e] at this
    simp at this
  · intro g hg
    simp only [useP, List.mem_append, List.mem_singleton] at hg
    rcases hg with hg|rfl
    · exact h.there g (List.mem_filter.1 hg).1
    · exact hp
  · intro g hg
    simp only [useP, List.mem_append, List.mem_singleton] at hg
    rcases hg with hg|rfl
    · exact h.len g (List.mem_filter.1 hg).1
    · exact hl
  · intro g hg
    simp only [useP, List.mem_append, List.mem_singleton] at hg
    rcases hg with hg|rfl
    · exact h.is g (List.mem_filter.1 hg).1
    · exact hi
  · show max s.most _ ≤ s.window
    have := h.most
    omega
theorem ok_fresh {key : Bytes} {round : BitVec 64} {window : Nat} {pages : Int} {text : Nat} (hk : key.length = 32) (hw : 2 ≤ window ∧ window ≤ 16) (hp : 0 ≤ pages ∧ pages ≤ 65536) (ht : 1 ≤ text ∧ text ≤ 4096) : Ok (freshP key round window pages text) :=
  ⟨hk, hw.1, hw.2, hp.1, hp.2, ht.1, ht.2, List.nodup_nil, fun f hf => (by cases hf), fun f hf => (by cases hf), fun f hf => (by cases hf), Nat.zero_le _, Nat.zero_le _, Nat.zero_le _, Nat.zero_le _⟩
end Go.Sl.PagerS

/- pager: over a host whose reads are not spoilt a pager is a row of pages. No program in sight. -/
set_option linter.unusedVariables false
set_option linter.unusedSimpArgs false
namespace Go.Sl.PagerS
open Go Go.Sl Go.Sl.HostS
attribute [local irreducible] pgSealB pgOpenR
/-- Only the power may go. -/
def Mild (h : HS) : Prop := ∀ k, ∀ f ∈ h.coming k, 3 ≤ f.kind
theorem spoil1_mild (h : HS) (n : Int) (b : Bytes) (f : Fault) (hk : 3 ≤ f.kind) : spoil1 h n b f = b := by
  unfold spoil1
  rw [if_neg (by omega), if_neg (by omega), if_neg (by omega)]
theorem spoilt_mild {h : HS} (hm : Mild h) (n : Int) : spoilt h n (h.coming h.ops) = back h n 0 := by
  unfold spoilt
  have : ∀ (l : List Fault) (b : Bytes), (∀ f ∈ l, 3 ≤ f.kind) → l.foldl (spoil1 h n) b = b := by
    intro l
    induction l with
    | nil => intro b _; rfl
    | cons f r ih =>
      intro b hl
      rw [List.foldl_cons, spoil1_mild _ _ _ _ (hl f (List.mem_cons_self ..))]
      exact ih b fun g hg => hl g (List.mem_cons_of_mem _ hg)
  exact this _ _ (hm h.ops)
theorem mild_taken {h : HS} (hm : Mild h) (c : Int → List Fault) (hc : c = setF h.coming h.ops []) (g : HS) (hg : g.coming = c) : Mild g := by
  intro k f hf
  rw [hg, hc] at hf
  unfold setF at hf
  split at hf
  · cases hf
  · exact hm k f hf
theorem does_coming (h : HS) (op n : Int) (b : Bytes) (act : HS → HS) (ha : ∀ g, (act g).coming = g.coming) : (does h op n b act).1.coming = h.coming ∨ (does h op n b act).1.coming = setF h.coming h.ops [] := by
  unfold does
  split
  · exact .inl rfl
  · dsimp only
    split
    · exact .inr rfl
    · split
      · exact .inr (ha _)
      · exact .inr (ha _)
theorem does_mild {h : HS} (hm : Mild h) (op n : Int) (b : Bytes) (act : HS → HS) (ha : ∀ g, (act g).coming = g.coming) : Mild (does h op n b act).1 := by
  rcases does_coming h op n b act ha with e|e
  · intro k f hf; rw [e] at hf; exact hm k f hf
  · exact mild_taken hm _ rfl _ e
theorem writeR_mild {h : HS} (hm : Mild h) (n : Int) (b : Bytes) : Mild (writeR h n b).2 := by
  unfold writeR
  split
  · split
    · exact does_mild hm _ _ _ _ fun _ => rfl
    · exact hm
  · exact hm
theorem readR_mild {h : HS} (hm : Mild h) (n : Int) : Mild (readR h n).2.2 := by
  have := does_mild hm 0 n [] id fun _ => rfl
  unfold readR
  split
  · dsimp only
    split
    · exact this
    · exact this
  · exact hm
/-- What is done has been done. -/
theorem does_zero {h : HS} {op n : Int} {b : Bytes} {act : HS → HS} (he : (does h op n b act).2 = 0) : (does h op n b act).1 = act (logged h op n b) := by
  unfold does at he ⊢
  split at he
  · cases he
  · rename_i hd
    rw [if_neg hd]
    dsimp only at he ⊢
    split at he
    · cases he
    · rename_i hb
      rw [if_neg hb]
      split at he
      · cases he
      · rename_i hb2
        rw [if_neg hb2]
theorem does_back {h : HS} {op n : Int} {b : Bytes} (m : Int) : back (does h op n b id).1 m 0 = back h m 0 := by
  unfold does
  split
  · rfl
  · dsimp only
    split
    · rfl
    · split <;> rfl
theorem readR_back (h : HS) (n m : Int) : back (readR h n).2.2 m 0 = back h m 0 := by
  unfold readR
  split
  · dsimp only
    split
    · exact does_back m
    · exact does_back m
  · rfl
theorem writeR_zero {h : HS} {n : Int} {b : Bytes} (he : (writeR h n b).1 = 0) : (writeR h n b).2 = wrote n b (logged h 1 n b) := by
  unfold writeR at he ⊢
  split at he
  · rename_i ht
    rw [if_pos ht]
    split at he
    · rename_i hl
      rw [if_pos hl]
      exact does_zero he
    · cases he
  · cases he
theorem wrote_back (h : HS) (n : Int) (b : Bytes) (m : Int) : back (wrote n b (logged h 1 n b)) m 0 = if m = n then b else back h m 0 := by
  have e0 : (wrote n b (logged h 1 n b)).lay m = setF h.lay n (h.lay n ++ [b]) m := rfl
  have ez : (wrote n b (logged h 1 n b)).size = h.size := rfl
  unfold back
  rw [e0, ez]
  by_cases e : m = n
  · subst e
    rw [if_pos rfl]
    have e1 : setF h.lay m (h.lay m ++ [b]) m = h.lay m ++ [b] := by unfold setF; rw [if_pos rfl]
    simp only [e1, List.length_append, List.length_singleton]
    rw [if_pos (by omega), show (((h.lay m).length + 1 : Nat) : Int) - 1 - max 0 0 = ((h.lay m).length : Int) from by omega, Int.toNat_natCast, List.getD_eq_getElem?_getD, List.getElem?_append_right (Nat.le_refl _)]
    simp
  · rw [if_neg e]
    have e1 : setF h.lay n (h.lay n ++ [b]) m = h.lay m := by unfold setF; rw [if_neg e]
    simp only [e1]
theorem readR_zero {h : HS} (hm : Mild h) {n : Int} (he : (readR h n).2.1 = 0) : (readR h n).1 = back h n 0 := by
  unfold readR at he ⊢
  split at he
  · rename_i ht
    rw [if_pos ht]
    dsimp only at he ⊢
    split at he
    · rename_i h0
      rw [if_pos h0]
      exact spoilt_mild hm n
    · rename_i h0; exact absurd he h0
  · cases he
theorem readR_err (h : HS) (n : Int) : (readR h n).2.1 ≤ 1000 := by
  unfold readR
  split
  · dsimp only
    split
    · dsimp only; omega
    · dsimp only
      unfold does
      split
      · (dsimp only; omega)
      · dsimp only
        split
        · (dsimp only; omega)
        · split <;> (dsimp only; omega)
  · dsimp only; omega
/-- As what a page lies there. -/
def Lain (s : PS) (h : HS) (n : Int) (t : Bytes) : Prop := (s.last n = none → t = List.replicate s.text 0#8) ∧ ∀ pl, s.last n = some pl → back h n 0 = pgSealB s.key pl t
def Right (s : PS) (h : HS) (n : Int) (t : Bytes) : Prop := (∀ f, frOf s n = some f → f.text = t) ∧ (changedAt s n = false → Lain s h n t)
structure Sound (s : PS) (h : HS) (b : Int → Bytes) : Prop where
  ok : Ok s
  over : Over s h
  mild : Mild h
  len : ∀ n, (b n).length = s.text
  right : s.err = 0 → ∀ n, Right s h n (b n)
theorem frOf_cleaned (s : PS) (n m : Int) : (cleaned s.held n).find? (fun f => f.page == m) = (frOf s m).map fun f => if f.page = n then { f with is := 1 } else f := by
  unfold cleaned frOf
  rw [List.find?_map]
  congr 1
  congr 1
  funext f
  simp only [Function.comp]
  split <;> rfl
theorem frOf_wrote (s : PS) (n m : Int) : frOf (wroteP s n) m = (frOf s m).map fun f => if f.page = n then { f with is := 1 } else f := frOf_cleaned s n m
theorem changed_wrote (s : PS) (n m : Int) : changedAt (wroteP s n) m = if m = n then false else changedAt s m := by
  unfold changedAt
  rw [frOf_wrote]
  cases hf : frOf s m with
  | none => simp
  | some f =>
    have hp := (frOf_mem hf).2
    simp only [Option.map_some, Option.getD_some]
    rw [hp]
    split
    · rfl
    · rfl
theorem frOf_use (s : PS) (f : Fr) (m : Int) : frOf (useP s f) m = if m = f.page then some f else frOf s m := by
  unfold frOf useP
  dsimp only
  rw [List.find?_append]
  by_cases e : m = f.page
  · rw [if_pos e, List.find?_eq_none.2 (by
      intro x hx
      have := (List.mem_filter.1 hx).2
      simp only [Bool.not_eq_true', beq_eq_false_iff_ne, ne_eq] at this
      simp [e, this])]
    simp [e]
  · rw [if_neg e]
    have e1 : (s.held.filter fun g => !(g.page == f.page)).find? (fun g => g.page == m) = s.held.find? fun g => g.page == m := by
      rw [List.find?_filter]
      congr 1
      funext x
      by_cases hx : x.page = m
      · simp [hx, e]
      · simp [hx]
    rw [e1]
    cases s.held.find? (fun g => g.page == m) with
    | some x => rfl
    | none =>
      have : ¬ f.page = m := fun hh => e hh.symm
      simp [this]
theorem changed_use (s : PS) (f : Fr) (m : Int) : changedAt (useP s f) m = if m = f.page then f.is == 2 else changedAt s m := by
  unfold changedAt
  rw [frOf_use]
  split <;> rfl
theorem frOf_tail {s : PS} (hk : Ok s) {x : Fr} {r : List Fr} (hh : s.held = x :: r) (m : Int) : frOf { s with held := s.held.tail } m = if m = x.page then none else frOf s m := by
  unfold frOf
  dsimp only
  rw [hh, List.tail_cons]
  have hn := hk.once
  unfold numbers at hn
  rw [hh, List.map_cons, List.nodup_cons] at hn
  by_cases e : m = x.page
  · rw [if_pos e, List.find?_eq_none]
    intro f hf
    simp only [beq_iff_eq]
    intro e2
    exact hn.1 (by rw [← e, ← e2]; exact List.mem_map.2 ⟨f, hf, rfl⟩)
  · rw [if_neg e, List.find?_cons_of_neg (by simp only [beq_iff_eq]; exact fun hh => e hh.symm)]
theorem changed_tail {s : PS} (hk : Ok s) {x : Fr} {r : List Fr} (hh : s.held = x :: r) (m : Int) : changedAt { s with held := s.held.tail } m = if m = x.page then false else changedAt s m := by
  unfold changedAt
  rw [frOf_tail hk hh]
  split <;> rfl
section
variable {s : PS} {h : HS} {b : Int → Bytes}
theorem writeP_errs (s : PS) (h : HS) (n : Int) : (writeP s h n).1 ≠ 0 → (writeP s h n).1 ≤ 1000 ∧ (writeP s h n).2.1 = die s (writeP s h n).1 := by
  unfold writeP
  split
  · intro _; exact ⟨by dsimp only; omega, rfl⟩
  · dsimp only
    split
    · intro hh; exact absurd rfl hh
    · intro _
      refine ⟨?_, rfl⟩
      dsimp only
      unfold writeR
      split
      · split
        · unfold does
          split
          · (dsimp only; omega)
          · dsimp only
            split
            · (dsimp only; omega)
            · split <;> (dsimp only; omega)
        · (dsimp only; omega)
      · (dsimp only; omega)
theorem writeP_zero {n : Int} (he : (writeP s h n).1 = 0) : s.writes ≠ 4294967295 ∧ (writeR h n (boxOf s n)).1 = 0 ∧ writeP s h n = (0, wroteP s n, (writeR h n (boxOf s n)).2) := by
  unfold writeP at he ⊢
  split at he
  · cases he
  · rename_i hw
    rw [if_neg hw]
    dsimp only at he ⊢
    split at he
    · rename_i h0; rw [if_pos h0]; exact ⟨hw, h0, rfl⟩
    · rename_i h0; exact absurd he h0
theorem writeP_host (n : Int) : (writeP s h n).2.2 = h ∨ (writeP s h n).2.2 = (writeR h n (boxOf s n)).2 := by
  unfold writeP
  split
  · exact .inl rfl
  · dsimp only
    split
    · exact .inr rfl
    · exact .inr rfl
theorem does_same (h : HS) (op page : Int) (b : Bytes) (act : HS → HS) (ha : ∀ s, (act s).pages = s.pages ∧ (act s).size = s.size) : (does h op page b act).1.pages = h.pages ∧ (does h op page b act).1.size = h.size := by
  have h2 := ha (logged h op page b)
  unfold does
  split
  · exact ⟨rfl, rfl⟩
  · dsimp only
    split
    · exact ⟨rfl, rfl⟩
    · split
      · exact h2
      · exact h2
theorem writeR_same (h : HS) (page : Int) (b : Bytes) : (writeR h page b).2.pages = h.pages ∧ (writeR h page b).2.size = h.size := by
  unfold writeR
  split
  · split
    · exact does_same h 1 page b _ (fun _ => ⟨rfl, rfl⟩)
    · exact ⟨rfl, rfl⟩
  · exact ⟨rfl, rfl⟩
theorem readR_same (h : HS) (page : Int) : (readR h page).2.2.pages = h.pages ∧ (readR h page).2.2.size = h.size := by
  have d := does_same h 0 page [] id (fun _ => ⟨rfl, rfl⟩)
  unfold readR
  split
  · dsimp only
    split
    · exact d
    · exact d
  · exact ⟨rfl, rfl⟩
theorem Sound.dead (hs : Sound s h b) (e : Nat) (h0 : e ≠ 0) (he : e ≤ 1000) {h' : HS} (hm : Mild h') (hp : h'.pages = h.pages ∧ h'.size = h.size) : Sound (die s e) h' b :=
  ⟨ok_die hs.ok e he, ⟨hp.1.trans hs.over.pages, hp.2.trans hs.over.size⟩, hm, hs.len, fun hh => absurd hh h0⟩
theorem Sound.write (hs : Sound s h b) (h0 : s.err = 0) {n : Int} (hn : n ∈ numbers s) : Sound (writeP s h n).2.1 (writeP s h n).2.2 b := by
  by_cases he : (writeP s h n).1 = 0
  · obtain ⟨hw, hz, e⟩ := writeP_zero he
    rw [e, writeR_zero hz]
    have hwl := hs.ok.writes
    refine ⟨ok_wrote hs.ok n (by omega), ⟨hs.over.pages, hs.over.size⟩, mild_taken hs.mild _ rfl _ rfl, hs.len, fun _ m => ?_⟩
    obtain ⟨r1, r2⟩ := hs.right h0 m
    refine ⟨?_, ?_⟩
    · intro f hf
      rw [frOf_wrote] at hf
      obtain ⟨g, hg, rfl⟩ := Option.map_eq_some_iff.1 hf
      have := r1 g hg
      split
      · exact this
      · exact this
    · intro hc
      rw [changed_wrote] at hc
      by_cases e1 : m = n
      · subst e1
        obtain ⟨f, hf⟩ := frOf_of hn
        refine ⟨fun hh => ?_, fun pl hh => ?_⟩
        · have : (wroteP s m).last m = some (nextPl s m) := by unfold wroteP setF; simp
          rw [this] at hh; cases hh
        · have : (wroteP s m).last m = some (nextPl s m) := by unfold wroteP setF; simp
          rw [this] at hh
          obtain rfl := Option.some.inj hh
          dsimp only
          rw [wrote_back, if_pos rfl]
          show boxOf s m = _
          unfold boxOf
          have : textOf s m = b m := by unfold textOf; rw [hf]; exact r1 f hf
          rw [this]; rfl
      · rw [if_neg e1] at hc
        obtain ⟨l1, l2⟩ := r2 hc
        have hl : (wroteP s n).last m = s.last m := by unfold wroteP setF; simp [e1]
        refine ⟨fun hh => l1 (hl ▸ hh), fun pl hh => ?_⟩
        dsimp only
        rw [wrote_back, if_neg e1]
        exact l2 pl (hl ▸ hh)
  · obtain ⟨e1, e2⟩ := writeP_errs s h n he
    rw [e2]
    rcases writeP_host (s := s) (h := h) n with e|e
    · rw [e]; exact hs.dead _ he e1 hs.mild ⟨rfl, rfl⟩
    · rw [e]; exact hs.dead _ he e1 (writeR_mild hs.mild _ _) (writeR_same _ _ _)
theorem writeP_numbers (s : PS) (h : HS) (n : Int) : numbers (writeP s h n).2.1 = numbers s ∧ (writeP s h n).2.1.window = s.window ∧ (writeP s h n).2.1.pages = s.pages ∧ (writeP s h n).2.1.text = s.text ∧ (writeP s h n).2.1.key = s.key ∧ (writeP s h n).2.1.round = s.round := by
  by_cases he : (writeP s h n).1 = 0
  · obtain ⟨_, _, e⟩ := writeP_zero he
    rw [e]
    exact ⟨cleaned_pages _ _, rfl, rfl, rfl, rfl, rfl⟩
  · obtain ⟨_, e⟩ := writeP_errs s h n he
    rw [e]
    exact ⟨rfl, rfl, rfl, rfl, rfl, rfl⟩
theorem Sound.tail (hs : Sound s h b) (hc : ∀ x r, s.held = x :: r → changedAt s x.page = false) : Sound { s with held := s.held.tail } h b := by
  cases hh : s.held with
  | nil =>
    have : ({ s with held := ([] : List Fr).tail } : PS) = s := by rw [List.tail_nil, ← hh]
    rw [this]; exact hs
  | cons x r =>
    rw [← hh]
    refine ⟨ok_tail hs.ok, ⟨hs.over.pages, hs.over.size⟩, hs.mild, hs.len, fun h0 m => ?_⟩
    obtain ⟨r1, r2⟩ := hs.right h0 m
    refine ⟨fun f hf => ?_, fun hcm => ?_⟩
    · rw [frOf_tail hs.ok hh] at hf
      split at hf
      · cases hf
      · exact r1 f hf
    · rw [changed_tail hs.ok hh] at hcm
      by_cases e : m = x.page
      · subst e
        exact r2 (hc x r hh)
      · rw [if_neg e] at hcm
        exact r2 hcm
theorem Sound.room (hs : Sound s h b) (h0 : s.err = 0) : Sound (roomP s h).2.1 (roomP s h).2.2 b ∧ ((roomP s h).1 = 0 → (roomP s h).2.1.err = 0) ∧ ((roomP s h).1 ≠ 0 → (roomP s h).2.1.err = (roomP s h).1) := by
  unfold roomP
  split
  · exact ⟨hs, fun _ => h0, fun hh => absurd rfl hh⟩
  · rename_i hl
    dsimp only
    have hw0 := hs.ok.w0
    obtain ⟨x, r, hh⟩ : ∃ x r, s.held = x :: r := by
      cases hh : s.held with
      | nil => rw [hh] at hl; simp at hl; omega
      | cons x r => exact ⟨x, r, rfl⟩
    have hd : (s.held.head?.map Fr.page).getD 0 = x.page := by rw [hh]; rfl
    rw [hd]
    have hx : x.page ∈ numbers s := by unfold numbers; rw [hh]; simp
    by_cases hc : changedAt s x.page = true
    · rw [if_pos hc]
      have hw := hs.write h0 hx
      split
      · rename_i hz
        obtain ⟨_, hz2, e⟩ := writeP_zero hz
        refine ⟨hw.tail ?_, fun _ => ?_, fun hh => absurd rfl hh⟩
        · intro y t ht
          have e2 : numbers (writeP s h x.page).2.1 = numbers s := (writeP_numbers s h x.page).1
          unfold numbers at e2
          rw [ht, hh, List.map_cons, List.map_cons] at e2
          obtain ⟨e3, _⟩ := List.cons.inj e2
          rw [e3, e]
          dsimp only
          rw [changed_wrote, if_pos rfl]
        · rw [e]; exact h0
      · rename_i hz
        refine ⟨hw, fun hh => absurd hh hz, fun _ => ?_⟩
        rw [(writeP_errs s h x.page hz).2]; rfl
    · rw [if_neg hc]
      refine ⟨?_, fun _ => h0, fun hh => absurd rfl hh⟩
      refine hs.tail ?_
      intro y t ht
      rw [hh] at ht
      obtain ⟨e3, _⟩ := List.cons.inj ht
      rw [← e3]
      simpa using hc
theorem Sound.use (hs : Sound s h b) (f : Fr) (b' : Int → Bytes) (hf : f.text = b' f.page) (hb : ∀ m, m ≠ f.page → b' m = b m) (hlen : f.text.length = s.text) (hr : (frOf s f.page).isSome = true ∨ s.held.length < s.window) (hp : 0 ≤ f.page ∧ f.page < s.pages) (hi : f.is ≤ 2)
    (hl : s.err = 0 → f.is ≠ 2 → Lain s h f.page f.text) : Sound (useP s f) h b' := by
  refine ⟨ok_use hs.ok hr hp hlen hi, ⟨hs.over.pages, hs.over.size⟩, hs.mild, fun n => ?_, fun h0 m => ?_⟩
  · by_cases e : n = f.page
    · rw [e, ← hf]; exact hlen
    · rw [hb n e]; exact hs.len n
  · obtain ⟨r1, r2⟩ := hs.right h0 m
    refine ⟨fun g hg => ?_, fun hc => ?_⟩
    · rw [frOf_use] at hg
      split at hg
      · rename_i e
        obtain rfl := Option.some.inj hg
        rw [e]; exact hf
      · rename_i e
        rw [hb m e]; exact r1 g hg
    · rw [changed_use] at hc
      split at hc
      · rename_i e
        rw [e, ← hf]
        exact hl h0 (by simpa using hc)
      · rename_i e
        rw [hb m e]; exact r2 hc
theorem Sound.read (hs : Sound s h b) (n : Int) : Sound s (readR h n).2.2 b := by
  obtain ⟨p1, p2⟩ := readR_same h n
  refine ⟨hs.ok, ⟨p1.trans hs.over.pages, p2.trans hs.over.size⟩, readR_mild hs.mild n, hs.len, fun h0 m => ?_⟩
  obtain ⟨r1, r2⟩ := hs.right h0 m
  refine ⟨r1, fun hc => ?_⟩
  obtain ⟨l1, l2⟩ := r2 hc
  exact ⟨l1, fun pl hh => by rw [readR_back]; exact l2 pl hh⟩
theorem changed_no {s : PS} {n : Int} (hn : n ∉ numbers s) : changedAt s n = false := by
  unfold changedAt
  cases hf : frOf s n with
  | none => rfl
  | some f => exact absurd (by obtain ⟨h1, h2⟩ := frOf_mem hf; rw [← h2]; exact List.mem_map.2 ⟨f, h1, rfl⟩) hn
theorem Sound.fetch (hs : Sound s h b) (h0 : s.err = 0) {n : Int} (hn : n ∉ numbers s) (hw : s.held.length < s.window) (hp : 0 ≤ n ∧ n < s.pages) :
    ∃ e, (fetchP s h n).1 = (if e = 0 then b n else [], e) ∧ Sound (fetchP s h n).2.1 (fetchP s h n).2.2 b ∧ (fetchP s h n).2.1.err = e := by
  obtain ⟨l1, l2⟩ := (hs.right h0 n).2 (changed_no hn)
  have hbl := hs.len n
  have ht1 := hs.ok.t1
  unfold fetchP
  cases hl : s.last n with
  | none =>
    dsimp only
    have e := l1 hl
    refine ⟨0, by rw [if_pos rfl, e], ?_, h0⟩
    exact hs.use _ b (by dsimp only; exact e.symm) (fun _ _ => rfl) (by simp) (.inr hw) hp (by dsimp only; omega) (fun _ _ => ⟨fun _ => rfl, fun pl hh => (by dsimp only at hh; rw [hl] at hh; cases hh)⟩)
  | some pl =>
    dsimp only
    have hs' := hs.read n
    by_cases hz : (readR h n).2.1 = 0
    · rw [if_pos hz, readR_zero hs.mild hz, l2 pl hl, pg_back _ _ _ (by omega)]
      refine ⟨0, rfl, ?_, h0⟩
      refine hs'.use _ b (by dsimp only) (fun _ _ => rfl) hbl (.inr hw) hp (by dsimp only; omega) (fun _ _ => ⟨fun hh => (by dsimp only at hh; rw [hl] at hh; cases hh), fun pl' hh => ?_⟩)
      dsimp only at hh ⊢
      rw [hl] at hh
      obtain rfl := Option.some.inj hh
      rw [readR_back]; exact l2 pl hl
    · rw [if_neg hz]
      have he := readR_err h n
      refine ⟨(readR h n).2.1, by rw [if_neg hz], hs.dead _ hz he (readR_mild hs.mild n) (readR_same h n), rfl⟩
theorem roomP_leaves (hk : Ok s) : (∀ n, n ∉ numbers s → n ∉ numbers (roomP s h).2.1) ∧ (roomP s h).2.1.window = s.window ∧ (roomP s h).2.1.pages = s.pages ∧ (roomP s h).2.1.text = s.text ∧ ((roomP s h).1 = 0 → (roomP s h).2.1.held.length < s.window) := by
  have tl : ∀ (x : PS) n, n ∉ numbers x → n ∉ numbers { x with held := x.held.tail } := fun x n hn hh => hn (by
    unfold numbers at hh ⊢
    obtain ⟨f, hf, e⟩ := List.mem_map.1 hh
    exact List.mem_map.2 ⟨f, List.mem_of_mem_tail hf, e⟩)
  have hw0 := hk.w0
  have hm := hk.many
  unfold roomP
  split
  · rename_i hl; exact ⟨fun _ h => h, rfl, rfl, rfl, fun _ => hl⟩
  · rename_i hl
    dsimp only
    obtain ⟨w1, w2, w3, w4, w5⟩ := writeP_numbers s h ((s.held.head?.map Fr.page).getD 0)
    have hlen : (writeP s h ((s.held.head?.map Fr.page).getD 0)).2.1.held.length = s.held.length := by
      have := congrArg List.length w1
      unfold numbers at this
      rwa [List.length_map, List.length_map] at this
    split
    · split
      · refine ⟨fun n hn => tl _ n (by rw [w1]; exact hn), w2, w3, w4, fun _ => ?_⟩
        show (writeP s h _).2.1.held.tail.length < _
        rw [List.length_tail, hlen]; omega
      · rename_i h0
        exact ⟨fun n hn => by rw [w1]; exact hn, w2, w3, w4, fun hh => absurd hh h0⟩
    · refine ⟨fun n hn => tl s n hn, rfl, rfl, rfl, fun _ => ?_⟩
      show s.held.tail.length < _
      rw [List.length_tail]; omega
theorem right_zero {n : Int} (h : rightP s n = 0) : s.err = 0 ∧ 0 ≤ n ∧ n < s.pages := by
  unfold rightP at h
  split at h
  · rename_i he; exact absurd h he
  · rename_i he
    split at h
    · cases h
    · rename_i hp; exact ⟨by omega, by omega, by omega⟩
/-- Load tells the page's text, or an error. -/
theorem Sound.load (hs : Sound s h b) (n : Int) : ∃ e, (loadP s h n).1 = (if e = 0 then b n else [], e) ∧ Sound (loadP s h n).2.1 (loadP s h n).2.2 b ∧ (e = 0 → (loadP s h n).2.1.err = 0) ∧ (rightP s n = 0 → (loadP s h n).2.1.err = e) ∧ (rightP s n ≠ 0 → e = rightP s n) := by
  unfold loadP
  by_cases hr : rightP s n = 0
  · rw [if_pos hr]
    obtain ⟨h0, hp⟩ := right_zero hr
    cases hf : frOf s n with
    | some f =>
      dsimp only
      obtain ⟨f1, f2⟩ := frOf_mem hf
      obtain ⟨r1, r2⟩ := hs.right h0 n
      have htx := r1 f hf
      refine ⟨0, by rw [if_pos rfl, htx], ?_, fun _ => h0, fun _ => h0, fun hh => absurd hr hh⟩
      subst f2
      refine hs.use f b htx (fun _ _ => rfl) (hs.ok.len f f1) (.inl (by rw [hf]; rfl)) hp (hs.ok.is f f1) (fun _ hi => ?_)
      rw [htx]
      refine r2 ?_
      unfold changedAt
      rw [hf]
      simpa using hi
    | none =>
      dsimp only
      have hn := frOf_none hf
      obtain ⟨q1, q2, q3⟩ := hs.room h0
      obtain ⟨v1, v2, v3, v4, v5⟩ := roomP_leaves (h := h) hs.ok
      by_cases hz : (roomP s h).1 = 0
      · rw [if_pos hz]
        obtain ⟨e, e1, e2, e3⟩ := q1.fetch (q2 hz) (v1 n hn) (by rw [v2]; exact v5 hz) (by rw [v3]; exact hp)
        exact ⟨e, e1, e2, fun hh => e3.trans hh, fun _ => e3, fun hh => absurd hr hh⟩
      · rw [if_neg hz]
        exact ⟨(roomP s h).1, by rw [if_neg hz], q1, fun hh => absurd hh hz, fun _ => q3 hz, fun hh => absurd hr hh⟩
  · rw [if_neg hr]
    exact ⟨rightP s n, by rw [if_neg hr], hs, fun hh => absurd hh hr, fun hh => absurd hh hr, fun _ => rfl⟩
/-- The page's text is what was saved. -/
theorem Sound.save (hs : Sound s h b) (n : Int) (t : Bytes) : Sound (saveP s h n t).2.1 (saveP s h n t).2.2 (if (saveP s h n t).1 = 0 then setF b n t else b) ∧ ((saveP s h n t).1 = 0 → t.length = s.text ∧ rightP s n = 0 ∧ (saveP s h n t).2.1.err = 0) ∧ (rightP s n = 0 → t.length = s.text → (saveP s h n t).2.1.err = (saveP s h n t).1) ∧ (rightP s n ≠ 0 → (saveP s h n t).1 = rightP s n) ∧ (rightP s n = 0 → t.length ≠ s.text → (saveP s h n t).1 = 4) := by
  unfold saveP
  by_cases hr : rightP s n = 0
  · rw [if_pos hr]
    obtain ⟨h0, hp⟩ := right_zero hr
    by_cases ht : t.length = s.text
    · rw [if_pos ht]
      have put : ∀ (s1 : PS) (h1 : HS), Sound s1 h1 b → s1.text = s.text → s1.pages = s.pages → ((frOf s1 n).isSome = true ∨ s1.held.length < s1.window) → Sound (useP s1 ⟨n, t, 2⟩) h1 (setF b n t) := by
        intro s1 h1 hs1 e1 e2 e3
        refine hs1.use ⟨n, t, 2⟩ _ (by unfold setF; simp) (fun m hm => by unfold setF; rw [if_neg hm]) (by rw [e1]; exact ht) e3 (by rw [e2]; exact hp) (Nat.le_refl _) (fun _ hh => absurd rfl hh)
      cases hf : frOf s n with
      | some f =>
        dsimp only
        rw [if_pos rfl]
        exact ⟨put s h hs rfl rfl (.inl (by rw [hf]; rfl)), fun _ => ⟨ht, hr, h0⟩, fun _ _ => h0, fun hh => absurd hr hh, fun _ hh => absurd ht hh⟩
      | none =>
        dsimp only
        have hn := frOf_none hf
        obtain ⟨q1, q2, q3⟩ := hs.room h0
        obtain ⟨v1, v2, v3, v4, v5⟩ := roomP_leaves (h := h) hs.ok
        by_cases hz : (roomP s h).1 = 0
        · simp only [if_pos hz, if_true]
          exact ⟨put _ _ q1 v4 v3 (.inr (by rw [v2]; exact v5 hz)), fun _ => ⟨ht, hr, q2 hz⟩, fun _ _ => q2 hz, fun hh => absurd hr hh, fun _ hh => absurd ht hh⟩
        · simp only [if_neg hz]
          exact ⟨q1, fun hh => absurd hh hz, fun _ _ => q3 hz, fun hh => absurd hr hh, fun _ hh => absurd ht hh⟩
    · rw [if_neg ht]
      dsimp only
      rw [if_neg (by omega)]
      exact ⟨hs, fun hh => by omega, fun _ hh => absurd hh ht, fun hh => absurd hr hh, fun _ _ => rfl⟩
  · rw [if_neg hr]
    dsimp only
    rw [if_neg hr]
    exact ⟨hs, fun hh => absurd hh hr, fun hh => absurd hh hr, fun _ => rfl, fun hh => absurd hh hr⟩
theorem sound_fresh {key : Bytes} {round : BitVec 64} {window : Nat} {pages : Int} {text : Nat} (hk : Ok (freshP key round window pages text)) {h : HS} (hp : h.pages = pages) (hz : h.size = text + 28) (hm : Mild h) : Sound (freshP key round window pages text) h (fun _ => List.replicate text 0#8) :=
  ⟨hk, ⟨hp, hz⟩, hm, fun _ => by simp [freshP], fun _ n => ⟨fun f hf => (by unfold frOf freshP at hf; cases hf), fun _ => ⟨fun _ => rfl, fun pl hh => by cases hh⟩⟩⟩
end
end Go.Sl.PagerS

/- pager: what its calls leave of a host; how often it writes; over a host without faults nothing fails. No program in sight. -/
set_option linter.unusedVariables false
set_option linter.unusedSimpArgs false
namespace Go.Sl.PagerS
open Go Go.Sl Go.Sl.HostS
attribute [local irreducible] pgSealB pgOpenR
theorem does_ops (h : HS) (op page : Int) (b : Bytes) (act : HS → HS) (ha : ∀ s, (act s).ops = s.ops) : (does h op page b act).1.ops ≤ h.ops + 1 := by
  have h2 := ha (logged h op page b)
  unfold does
  split
  · exact Nat.le_succ _
  · dsimp only
    split
    · exact Nat.le_refl _
    · split
      · exact Nat.le_of_eq h2
      · exact Nat.le_of_eq h2
theorem writeR_ops (h : HS) (page : Int) (b : Bytes) : (writeR h page b).2.ops ≤ h.ops + 1 := by
  unfold writeR
  split
  · split
    · exact does_ops h 1 page b _ fun _ => rfl
    · exact Nat.le_succ _
  · exact Nat.le_succ _
theorem readR_ops (h : HS) (page : Int) : (readR h page).2.2.ops ≤ h.ops + 1 := by
  have d := does_ops h 0 page [] id fun _ => rfl
  unfold readR
  split
  · dsimp only
    split <;> exact d
  · exact Nat.le_succ _
/-- What goes on behind a call. -/
structure Near (k m : Nat) (s : PS) (h : HS) (s' : PS) (h' : HS) : Prop where
  ops : h'.ops ≤ h.ops + k
  writes : s'.writes ≤ s.writes + m
  pages : h'.pages = h.pages
  size : h'.size = h.size
  spages : s'.pages = s.pages
  text : s'.text = s.text
  key : s'.key = s.key
  round : s'.round = s.round
  window : s'.window = s.window
theorem Near.refl (k m : Nat) (s : PS) (h : HS) : Near k m s h s h := ⟨Nat.le_add_right _ _, Nat.le_add_right _ _, rfl, rfl, rfl, rfl, rfl, rfl, rfl⟩
theorem Near.trans {k m k' m' k2 m2 : Nat} {s s' s2 : PS} {h h' h2 : HS} (a : Near k m s h s' h') (b : Near k' m' s' h' s2 h2) (hk : k + k' ≤ k2) (hm : m + m' ≤ m2) : Near k2 m2 s h s2 h2 :=
  ⟨by have := a.ops; have := b.ops; omega, by have := a.writes; have := b.writes; omega, b.pages.trans a.pages, b.size.trans a.size, b.spages.trans a.spages, b.text.trans a.text, b.key.trans a.key, b.round.trans a.round, b.window.trans a.window⟩
theorem Near.over {k m : Nat} {s s' : PS} {h h' : HS} (a : Near k m s h s' h') (ho : Over s h) : Over s' h' := ⟨a.pages.trans (ho.pages.trans a.spages.symm), by rw [a.size, ho.size, a.text]⟩
theorem near_write (s : PS) (h : HS) (n : Int) : Near 1 1 s h (writeP s h n).2.1 (writeP s h n).2.2 := by
  have w1 := writeR_same h n (boxOf s n)
  have w2 := writeR_ops h n (boxOf s n)
  unfold writeP
  split
  · exact ⟨Nat.le_add_right _ _, Nat.le_add_right _ _, rfl, rfl, rfl, rfl, rfl, rfl, rfl⟩
  · dsimp only
    split
    · exact ⟨w2, Nat.le_refl _, w1.1, w1.2, rfl, rfl, rfl, rfl, rfl⟩
    · exact ⟨w2, Nat.le_add_right _ _, w1.1, w1.2, rfl, rfl, rfl, rfl, rfl⟩
theorem near_held {k m : Nat} {s : PS} {h : HS} {s' : PS} {h' : HS} (a : Near k m s h s' h') (l : List Fr) (n : Nat) : Near k m s h { s' with held := l, most := n } h' := ⟨a.ops, a.writes, a.pages, a.size, a.spages, a.text, a.key, a.round, a.window⟩
theorem near_room (s : PS) (h : HS) : Near 1 1 s h (roomP s h).2.1 (roomP s h).2.2 := by
  unfold roomP
  split
  · exact Near.refl ..
  · dsimp only
    have w := near_write s h ((s.held.head?.map Fr.page).getD 0)
    split
    · split
      · exact near_held w _ _
      · exact w
    · exact near_held (Near.refl 1 1 s h) _ _
theorem near_use {k m : Nat} {s : PS} {h : HS} {s' : PS} {h' : HS} (a : Near k m s h s' h') (f : Fr) : Near k m s h (useP s' f) h' := near_held a _ _
theorem near_fetch (s : PS) (h : HS) (n : Int) : Near 1 0 s h (fetchP s h n).2.1 (fetchP s h n).2.2 := by
  have r1 := readR_same h n
  have r2 := readR_ops h n
  have r : Near 1 0 s h s (readR h n).2.2 := ⟨r2, Nat.le_refl _, r1.1, r1.2, rfl, rfl, rfl, rfl, rfl⟩
  unfold fetchP
  split
  · dsimp only
    split
    · split
      · exact near_use r _
      · exact ⟨r.ops, r.writes, r.pages, r.size, rfl, rfl, rfl, rfl, rfl⟩
    · exact ⟨r.ops, r.writes, r.pages, r.size, rfl, rfl, rfl, rfl, rfl⟩
  · exact near_use (Near.refl 1 0 s h) _
theorem near_load (s : PS) (h : HS) (n : Int) : Near 2 1 s h (loadP s h n).2.1 (loadP s h n).2.2 := by
  unfold loadP
  split
  · split
    · exact near_use (Near.refl 2 1 s h) _
    · have a := near_room s h
      have b := near_fetch (roomP s h).2.1 (roomP s h).2.2 n
      dsimp only
      split
      · exact a.trans b (by omega) (by omega)
      · exact a.trans (Near.refl 0 0 _ _) (by omega) (by omega)
  · exact Near.refl ..
theorem near_save (s : PS) (h : HS) (n : Int) (t : Bytes) : Near 1 1 s h (saveP s h n t).2.1 (saveP s h n t).2.2 := by
  unfold saveP
  split
  · split
    · split
      · exact near_use (Near.refl 1 1 s h) _
      · have a := near_room s h
        dsimp only
        split
        · exact near_use a _
        · exact a
    · exact Near.refl ..
  · exact Near.refl ..
/-- A host without faults, up. -/
structure Calm (h : HS) : Prop where
  up : h.down = false
  calm : ∀ k, h.coming k = []
theorem does_calm {h : HS} (hc : Calm h) (op n : Int) (b : Bytes) (act : HS → HS) : does h op n b act = (act (logged h op n b), 0) := by
  unfold does
  rw [if_neg (by rw [hc.up]; simp), hc.calm h.ops]
  rfl
theorem calm_logged {h : HS} (hc : Calm h) (op n : Int) (b : Bytes) : Calm (logged h op n b) := ⟨hc.up, fun k => by
  show setF h.coming h.ops [] k = []
  unfold setF
  split
  · rfl
  · exact hc.calm k⟩
theorem writeR_calm {h : HS} (hc : Calm h) {n : Int} {b : Bytes} (ht : there h n) (hl : b.length = h.size) : writeR h n b = (0, wrote n b (logged h 1 n b)) := by
  unfold writeR
  rw [if_pos ht, if_pos hl, does_calm hc]
theorem readR_calm {h : HS} (hc : Calm h) {n : Int} (ht : there h n) : readR h n = (back h n 0, 0, logged h 0 n []) := by
  unfold readR
  rw [if_pos ht, does_calm hc]
  dsimp only
  rw [if_pos rfl, hc.calm]; rfl
structure Quiet (s : PS) (h : HS) (b : Int → Bytes) : Prop where
  sound : Sound s h b
  calm : Calm h
  err : s.err = 0
section
variable {s : PS} {h : HS} {b : Int → Bytes}
theorem Quiet.write (hq : Quiet s h b) (hw : s.writes < 4294967295) {n : Int} (hn : n ∈ numbers s) : (writeP s h n).1 = 0 ∧ Quiet (writeP s h n).2.1 (writeP s h n).2.2 b := by
  obtain ⟨f, hf⟩ := frOf_of hn
  obtain ⟨f1, f2⟩ := frOf_mem hf
  obtain ⟨p1, p2⟩ := hq.sound.ok.there f f1
  have ht : there h n := ⟨by omega, by rw [hq.sound.over.pages]; omega⟩
  have hl : (boxOf s n).length = h.size := by
    unfold boxOf textOf
    rw [pgSealB_len, hf, hq.sound.over.size]
    have := hq.sound.ok.len f f1
    simp [this]
  have hr := writeR_calm hq.calm ht hl
  have h0 : (writeP s h n).1 = 0 := by
    unfold writeP
    rw [if_neg (by omega), hr]
    rfl
  obtain ⟨_, hz, e⟩ := writeP_zero h0
  refine ⟨h0, hq.sound.write hq.err hn, ?_, ?_⟩
  · rw [e, hr]
    have := calm_logged hq.calm 1 n (boxOf s n)
    exact ⟨this.up, this.calm⟩
  · rw [e]; exact hq.err
theorem Quiet.room (hq : Quiet s h b) (hw : s.writes < 4294967295) : (roomP s h).1 = 0 ∧ Quiet (roomP s h).2.1 (roomP s h).2.2 b := by
  have key : (roomP s h).1 = 0 ∧ Calm (roomP s h).2.2 := by
    unfold roomP
    split
    · exact ⟨rfl, hq.calm⟩
    · rename_i hl
      dsimp only
      split
      · rename_i hc
        have hn : (s.held.head?.map Fr.page).getD 0 ∈ numbers s := by
          by_cases hh : (s.held.head?.map Fr.page).getD 0 ∈ numbers s
          · exact hh
          · rw [changed_no hh] at hc; cases hc
        obtain ⟨w1, w2⟩ := hq.write hw hn
        rw [if_pos w1]
        exact ⟨rfl, w2.calm⟩
      · exact ⟨rfl, hq.calm⟩
  obtain ⟨q1, q2, q3⟩ := hq.sound.room hq.err
  exact ⟨key.1, q1, key.2, q2 key.1⟩
theorem Quiet.load (hq : Quiet s h b) (hw : s.writes < 4294967295) {n : Int} (h0 : 0 ≤ n) (h1 : n < s.pages) : (loadP s h n).1 = (b n, 0) ∧ Quiet (loadP s h n).2.1 (loadP s h n).2.2 b := by
  have hr : rightP s n = 0 := by
    unfold rightP
    rw [if_neg (by rw [hq.err]; simp), if_neg (by omega)]
  have key : (loadP s h n).1.2 = 0 ∧ Calm (loadP s h n).2.2 := by
    unfold loadP
    rw [if_pos hr]
    cases hf : frOf s n with
    | some f => exact ⟨rfl, hq.calm⟩
    | none =>
      dsimp only
      obtain ⟨r1, r2⟩ := hq.room hw
      obtain ⟨v1, v2, v3, v4, v5⟩ := roomP_leaves (h := h) hq.sound.ok
      rw [if_pos r1]
      have hn1 := v1 n (frOf_none hf)
      have hl1 := v5 r1
      rw [← v2] at hl1
      have hp1 : n < (roomP s h).2.1.pages := by rw [v3]; exact h1
      generalize (roomP s h).2.1 = s1 at *
      generalize (roomP s h).2.2 = h1 at *
      obtain ⟨e, e1, e2, e3⟩ := r2.sound.fetch r2.err hn1 hl1 ⟨h0, hp1⟩
      have ht : there h1 n := ⟨h0, by rw [r2.sound.over.pages]; exact hp1⟩
      have hrd := readR_calm r2.calm ht
      obtain ⟨_, l2⟩ := (r2.sound.right r2.err n).2 (changed_no hn1)
      have hbl := r2.sound.len n
      have ht1 := r2.sound.ok.t1
      unfold fetchP
      cases hl : s1.last n with
      | none => exact ⟨rfl, r2.calm⟩
      | some pl =>
        dsimp only
        rw [hrd]
        dsimp only
        rw [if_pos rfl, l2 pl hl, pg_back _ _ _ (by omega)]
        exact ⟨rfl, calm_logged r2.calm _ _ _⟩
  obtain ⟨e, e1, e2, e3, e4, e5⟩ := hq.sound.load n
  have h2 : (loadP s h n).1.2 = e := by rw [e1]
  rw [key.1] at h2
  subst h2
  exact ⟨by rw [e1, if_pos rfl], e2, key.2, e3 rfl⟩
theorem Quiet.save (hq : Quiet s h b) (hw : s.writes < 4294967295) {n : Int} (h0 : 0 ≤ n) (h1 : n < s.pages) {t : Bytes} (ht : t.length = s.text) : (saveP s h n t).1 = 0 ∧ Quiet (saveP s h n t).2.1 (saveP s h n t).2.2 (setF b n t) := by
  have hr : rightP s n = 0 := by
    unfold rightP
    rw [if_neg (by rw [hq.err]; simp), if_neg (by omega)]
  have key : (saveP s h n t).1 = 0 ∧ Calm (saveP s h n t).2.2 := by
    unfold saveP
    rw [if_pos hr, if_pos ht]
    cases hf : frOf s n with
    | some f => exact ⟨rfl, hq.calm⟩
    | none =>
      dsimp only
      obtain ⟨r1, r2⟩ := hq.room hw
      rw [if_pos r1]
      exact ⟨rfl, r2.calm⟩
  obtain ⟨q1, q2, q3, q4, q5⟩ := hq.sound.save n t
  rw [if_pos key.1] at q1
  exact ⟨key.1, q1, key.2, (q2 key.1).2.2⟩
theorem quiet_fresh {key : Bytes} {round : BitVec 64} {window : Nat} {pages : Int} {text : Nat} (hk : Ok (freshP key round window pages text)) {h : HS} (hp : h.pages = pages) (hz : h.size = text + 28) (hc : Calm h) : Quiet (freshP key round window pages text) h (fun _ => List.replicate text 0#8) :=
  ⟨sound_fresh hk hp hz (fun k f hf => by rw [hc.calm k] at hf; cases hf), hc, rfl⟩
end
theorem calm_fresh (pages : Int) (size : Nat) : Calm (fresh pages size []) := ⟨rfl, fun _ => rfl⟩
end Go.Sl.PagerS

/- pager: how often a host is asked; what a host saw of a pager. No program in sight. -/
set_option linter.unusedVariables false
set_option linter.unusedSimpArgs false
namespace Go.Sl.PagerS
open Go Go.Sl Go.Sl.HostS
attribute [local irreducible] pgSealB pgOpenR
/-- How many held pages are changed. -/
def chg (s : PS) : Nat := s.held.countP fun f => f.is == 2
def pot (s : PS) (h : HS) : Nat := h.ops + chg s + (if s.err = 0 then 1 else 0)
section
variable {s : PS} {h : HS}
theorem chg_cleaned {l : List Fr} (hn : (l.map Fr.page).Nodup) {f : Fr} (hf : f ∈ l) (hc : f.is = 2) : (cleaned l f.page).countP (fun g => g.is == 2) + 1 ≤ l.countP fun g => g.is == 2 := by
  induction l with
  | nil => cases hf
  | cons x r ih =>
    rw [List.map_cons, List.nodup_cons] at hn
    unfold cleaned at ih ⊢
    rw [List.map_cons, List.countP_cons, List.countP_cons]
    rcases List.mem_cons.1 hf with e|hf
    · subst e
      rw [if_pos rfl]
      have : (r.map fun g => if g.page = f.page then { g with is := 1 } else g) = r := by
        conv => rhs; rw [← List.map_id r]
        apply List.map_congr_left
        intro g hg
        rw [if_neg (fun hh => hn.1 (by rw [← hh]; exact List.mem_map.2 ⟨g, hg, rfl⟩))]; rfl
      rw [this]
      simp [hc]
    · have := ih hn.2 hf
      have hne : ¬ x.page = f.page := fun hh => hn.1 (by rw [hh]; exact List.mem_map.2 ⟨f, hf, rfl⟩)
      rw [if_neg hne]
      omega
theorem chg_filter {l : List Fr} {f : Fr} (hf : f ∈ l) : (l.filter fun g => !(g.page == f.page)).countP (fun g => g.is == 2) + (if f.is = 2 then 1 else 0) ≤ l.countP fun g => g.is == 2 := by
  induction l with
  | nil => cases hf
  | cons x r ih =>
    have mono : (r.filter fun g => !(g.page == f.page)).countP (fun g => g.is == 2) ≤ r.countP fun g => g.is == 2 := List.Sublist.countP_le (List.filter_sublist)
    rcases List.mem_cons.1 hf with e|hf
    · subst e
      rw [List.filter_cons_of_neg (by simp), List.countP_cons]
      have : (if (f.is == 2) = true then 1 else 0) = (if f.is = 2 then 1 else 0) := by by_cases h2 : f.is = 2 <;> simp [h2]
      omega
    · have := ih hf
      by_cases e : x.page = f.page
      · rw [List.filter_cons_of_neg (by simp [e]), List.countP_cons]; omega
      · rw [List.filter_cons_of_pos (by simp [e]), List.countP_cons, List.countP_cons]; omega
theorem chg_filter_le (l : List Fr) (n : Int) : (l.filter fun g => !(g.page == n)).countP (fun g => g.is == 2) ≤ l.countP fun g => g.is == 2 := List.Sublist.countP_le (List.filter_sublist)
theorem pot_use (f : Fr) : pot (useP s f) h ≤ pot s h + 1 := by
  have := chg_filter_le s.held f.page
  unfold pot chg useP
  dsimp only
  rw [List.countP_append, List.countP_cons, List.countP_nil]
  split <;> split <;> omega
theorem pot_use0 {f : Fr} (hf : f ∈ s.held ∨ f.is ≠ 2) : pot (useP s f) h ≤ pot s h := by
  unfold pot chg useP
  dsimp only
  rw [List.countP_append, List.countP_cons, List.countP_nil]
  rcases hf with hf|hf
  · have := chg_filter hf
    have e : (if (f.is == 2) = true then 1 else 0) = (if f.is = 2 then 1 else 0) := by by_cases h2 : f.is = 2 <;> simp [h2]
    omega
  · have := chg_filter_le s.held f.page
    have e : (if (f.is == 2) = true then 1 else 0) = 0 := by simp [hf]
    omega
theorem pot_write (hk : Ok s) (h0 : s.err = 0) {n : Int} (hc : changedAt s n = true) : pot (writeP s h n).2.1 (writeP s h n).2.2 ≤ pot s h := by
  have ho := (near_write s h n).ops
  obtain ⟨f, hf⟩ : ∃ f, frOf s n = some f := by
    cases hf : frOf s n with
    | some f => exact ⟨f, rfl⟩
    | none => unfold changedAt at hc; rw [hf] at hc; cases hc
  obtain ⟨f1, f2⟩ := frOf_mem hf
  have h2 : f.is = 2 := by unfold changedAt at hc; rw [hf] at hc; simpa using hc
  by_cases he : (writeP s h n).1 = 0
  · obtain ⟨_, _, e⟩ := writeP_zero he
    have hcl := chg_cleaned hk.once f1 h2
    rw [f2] at hcl
    have e1 : chg (writeP s h n).2.1 + 1 ≤ chg s := by rw [e]; exact hcl
    have e2 : (writeP s h n).2.1.err = s.err := by rw [e]; rfl
    unfold pot
    rw [e2]
    omega
  · obtain ⟨_, e⟩ := writeP_errs s h n he
    have e1 : chg (writeP s h n).2.1 = chg s := by rw [e]; rfl
    have e2 : (writeP s h n).2.1.err = (writeP s h n).1 := by rw [e]; rfl
    unfold pot
    rw [e1, e2, if_neg he, if_pos h0]
    omega
theorem pot_tail : pot { s with held := s.held.tail } h ≤ pot s h := by
  have : (s.held.tail.countP fun f => f.is == 2) ≤ s.held.countP fun f => f.is == 2 := List.Sublist.countP_le (List.tail_sublist _)
  unfold pot chg
  dsimp only
  omega
theorem pot_room (hk : Ok s) (h0 : s.err = 0) : pot (roomP s h).2.1 (roomP s h).2.2 ≤ pot s h := by
  unfold roomP
  split
  · exact Nat.le_refl _
  · dsimp only
    split
    · rename_i hc
      have hw := pot_write (h := h) hk h0 hc
      split
      · exact Nat.le_trans pot_tail hw
      · exact hw
    · exact pot_tail
theorem pot_fetch (h0 : s.err = 0) (n : Int) : pot (fetchP s h n).2.1 (fetchP s h n).2.2 ≤ pot s h + 1 := by
  have ho := readR_ops h n
  have hr : pot s (readR h n).2.2 ≤ pot s h + 1 := by unfold pot; omega
  unfold fetchP
  split
  · dsimp only
    have hd : ∀ e, e ≠ 0 → pot (die s e) (readR h n).2.2 ≤ pot s h + 1 := fun e he => by
      unfold pot die chg
      dsimp only
      rw [if_neg he]
      omega
    split
    · split
      · exact Nat.le_trans (pot_use0 (.inr (show (1 : Nat) ≠ 2 by omega))) hr
      · rename_i hz; exact hd _ hz
    · rename_i hz; exact hd _ hz
  · exact Nat.le_trans (pot_use0 (f := ⟨n, List.replicate s.text 0#8, 0⟩) (.inr (show (0 : Nat) ≠ 2 by omega))) (Nat.le_succ _)
theorem room_err (hk : Ok s) (h0 : s.err = 0) (hz : (roomP s h).1 = 0) : (roomP s h).2.1.err = 0 := by
  unfold roomP at hz ⊢
  split
  · exact h0
  · rename_i hl
    rw [if_neg hl] at hz
    dsimp only at hz ⊢
    split
    · rename_i hc
      rw [if_pos hc] at hz
      split
      · rename_i hw
        obtain ⟨_, _, e⟩ := writeP_zero hw
        rw [e]; exact h0
      · rename_i hw; rw [if_neg hw] at hz; exact absurd hz hw
    · exact h0
theorem pot_load (hk : Ok s) (n : Int) : pot (loadP s h n).2.1 (loadP s h n).2.2 ≤ pot s h + 1 := by
  unfold loadP
  split
  · rename_i hr
    have h0 := (right_zero hr).1
    split
    · rename_i f hf
      exact Nat.le_trans (pot_use0 (.inl (frOf_mem hf).1)) (Nat.le_succ _)
    · have a := pot_room (h := h) hk h0
      dsimp only
      split
      · rename_i hz
        exact Nat.le_trans (pot_fetch (room_err hk h0 hz) n) (Nat.succ_le_succ a)
      · exact Nat.le_trans a (Nat.le_succ _)
  · exact Nat.le_succ _
theorem pot_save (hk : Ok s) (n : Int) (t : Bytes) : pot (saveP s h n t).2.1 (saveP s h n t).2.2 ≤ pot s h + 1 := by
  unfold saveP
  split
  · rename_i hr
    have h0 := (right_zero hr).1
    split
    · split
      · exact pot_use _
      · have a := pot_room (h := h) hk h0
        dsimp only
        split
        · exact Nat.le_trans (pot_use _) (Nat.succ_le_succ a)
        · exact Nat.le_trans a (Nat.le_succ _)
    · exact Nat.le_succ _
  · exact Nat.le_succ _
theorem pot_ops (s : PS) (h : HS) : h.ops ≤ pot s h := by unfold pot; omega
end
end Go.Sl.PagerS

/- pager: how what a host saw begins. No program in sight. -/
set_option linter.unusedVariables false
set_option linter.unusedSimpArgs false
namespace Go.Sl.PagerS
open Go Go.Sl Go.Sl.HostS
attribute [local irreducible] pgSealB pgOpenR
def wrs (l : List HostS.Touch) : Nat := l.countP fun t => t.op == 1
/-- A touch behind others. -/
def Entry (r : BitVec 64) (pages : Int) (size : Nat) (was : List HostS.Touch) (t : HostS.Touch) : Prop :=
  t.len = size ∧ 0 ≤ t.page ∧ t.page < pages ∧ ((t.op = 0 ∧ t.head = List.replicate 12 0#8 ∧ ∃ u ∈ was, u.op = 1 ∧ u.page = t.page) ∨ (t.op = 1 ∧ t.head = leB r 8 ++ leB (BitVec.ofNat 32 (wrs was)) 4))
def Heads (r : BitVec 64) (pages : Int) (size : Nat) (l : List HostS.Touch) : Prop := ∀ i (hi : i < l.length), Entry r pages size (l.take i) l[i]
theorem Heads.snoc {r : BitVec 64} {pages : Int} {size : Nat} {l : List HostS.Touch} {t : HostS.Touch} (h : Heads r pages size l) (ht : Entry r pages size l t) : Heads r pages size (l ++ [t]) := by
  intro i hi
  by_cases e : i < l.length
  · rw [List.getElem_append_left e, List.take_append_of_le_length (Nat.le_of_lt e)]
    exact h i e
  · have e : i = l.length := by rw [List.length_append, List.length_singleton] at hi; omega
    subst e
    rw [List.getElem_append_right (Nat.le_refl _), List.take_left]
    simpa using ht
structure HI (s : PS) (h : HS) : Prop where
  heads : Heads s.round s.pages h.size h.log
  now : s.err = 0 → wrs h.log = s.writes
  then_ : wrs h.log = s.writes ∨ (wrs h.log = s.writes + 1 ∧ s.err = 110)
  last : ∀ n pl, s.last n = some pl → ∃ u ∈ h.log, u.op = 1 ∧ u.page = n
  over : Over s h
theorem does_log (h : HS) (op n : Int) (b : Bytes) (act : HS → HS) (ha : ∀ g, (act g).log = g.log) : ((does h op n b act).1.log = h.log ∧ (does h op n b act).2 = 110) ∨ ((does h op n b act).1.log = h.log ++ [touchOf h op n b] ∧ ((does h op n b act).2 = 0 ∨ (does h op n b act).2 = 110)) := by
  unfold does
  split
  · exact .inl ⟨rfl, rfl⟩
  · dsimp only
    split
    · exact .inl ⟨rfl, rfl⟩
    · split
      · exact .inr ⟨ha _, .inr rfl⟩
      · exact .inr ⟨ha _, .inl rfl⟩
theorem headOf_box (key : Bytes) (p : Plc) (t : Bytes) : headOf (pgSealB key p t) = headB p := by
  unfold headOf
  rw [pgSeal_head, pgSealB_len, show 12 - (t.length + 28) = 0 by omega]; simp
section
variable {s : PS} {h : HS}
theorem HI.there (hi : HI s h) {n : Int} (h0 : 0 ≤ n) (h1 : n < s.pages) : there h n := ⟨h0, by rw [hi.over.pages]; exact h1⟩
theorem box_len (hk : Ok s) {n : Int} (hn : n ∈ numbers s) : (boxOf s n).length = s.text + 28 ∧ 0 ≤ n ∧ n < s.pages := by
  obtain ⟨f, hf⟩ := frOf_of hn
  obtain ⟨f1, f2⟩ := frOf_mem hf
  have := hk.len f f1
  have hp := hk.there f f1
  refine ⟨?_, by omega, by omega⟩
  unfold boxOf textOf
  rw [pgSealB_len, hf]
  simp [this]
theorem HI.write (hi : HI s h) (hk : Ok s) (h0 : s.err = 0) {n : Int} (hn : n ∈ numbers s) : HI (writeP s h n).2.1 (writeP s h n).2.2 := by
  obtain ⟨b1, b2, b3⟩ := box_len hk hn
  have ht := hi.there b2 b3
  have hnow := hi.now h0
  have ho' := (near_write s h n).over hi.over
  have hw : writeR h n (boxOf s n) = ((does h 1 n (boxOf s n) (wrote n (boxOf s n))).2, (does h 1 n (boxOf s n) (wrote n (boxOf s n))).1) := by
    unfold writeR
    rw [if_pos ht, if_pos (b1.trans hi.over.size.symm)]
  have htouch : touchOf h 1 n (boxOf s n) = ⟨1, n, h.size, headB (nextPl s n)⟩ := by
    unfold touchOf
    rw [if_pos rfl]
    unfold boxOf
    rw [headOf_box]
  have hent : Entry s.round s.pages h.size h.log (touchOf h 1 n (boxOf s n)) := by
    rw [htouch]
    refine ⟨rfl, b2, b3, .inr ⟨rfl, ?_⟩⟩
    rw [hnow]; rfl
  have hlw : ∀ l, l = h.log ++ [touchOf h 1 n (boxOf s n)] → wrs l = wrs h.log + 1 := by
    intro l hl
    rw [hl, htouch]
    unfold wrs
    rw [List.countP_append]
    simp
  have hz : (writeP s h n).2.2.size = h.size := (near_write s h n).size
  have hlg := does_log h 1 n (boxOf s n) (wrote n (boxOf s n)) fun _ => rfl
  by_cases he : (writeP s h n).1 = 0
  · obtain ⟨hwn, hwz, e⟩ := writeP_zero he
    rw [hw] at hwz
    dsimp only at hwz
    have hl : (writeP s h n).2.2.log = h.log ++ [touchOf h 1 n (boxOf s n)] := by
      rw [e, hw]
      rcases hlg with ⟨_, hx⟩|⟨hx, _⟩
      · rw [hwz] at hx; cases hx
      · exact hx
    refine ⟨?_, ?_, ?_, ?_, ho'⟩
    · rw [hz, hl, e]; exact hi.heads.snoc hent
    · intro _; rw [hlw _ hl, hnow, e]; rfl
    · left; rw [hlw _ hl, hnow, e]; rfl
    · intro m pl hm
      rw [hl]
      by_cases em : m = n
      · exact ⟨touchOf h 1 n (boxOf s n), by simp, by rw [htouch], by rw [htouch, em]⟩
      · rw [e] at hm
        have : (wroteP s n).last m = s.last m := by unfold wroteP setF; simp [em]
        dsimp only at hm
        rw [this] at hm
        obtain ⟨u, u1, u2⟩ := hi.last m pl hm
        exact ⟨u, List.mem_append_left _ u1, u2⟩
  · obtain ⟨_, e⟩ := writeP_errs s h n he
    have hlast : ∀ L : List HostS.Touch, (∀ u ∈ h.log, u ∈ L) → ∀ m pl, (writeP s h n).2.1.last m = some pl → ∃ u ∈ L, u.op = 1 ∧ u.page = m := by
      intro L hL m pl hm
      rw [e] at hm
      obtain ⟨u, u1, u2⟩ := hi.last m pl hm
      exact ⟨u, hL u u1, u2⟩
    have hwr : (writeP s h n).2.1.writes = s.writes := by rw [e]; rfl
    have herr : (writeP s h n).2.1.err = (writeP s h n).1 := by rw [e]; rfl
    have hro : (writeP s h n).2.1.round = s.round ∧ (writeP s h n).2.1.pages = s.pages := by rw [e]; exact ⟨rfl, rfl⟩
    have hcase : ((writeP s h n).2.2.log = h.log) ∨ ((writeP s h n).2.2.log = h.log ++ [touchOf h 1 n (boxOf s n)] ∧ (writeP s h n).1 = 110) := by
      by_cases hwn : s.writes = 4294967295
      · left
        unfold writeP
        rw [if_pos hwn]
      · have e3 : writeP s h n = if (writeR h n (boxOf s n)).1 = 0 then (0, wroteP s n, (writeR h n (boxOf s n)).2) else ((writeR h n (boxOf s n)).1, die s (writeR h n (boxOf s n)).1, (writeR h n (boxOf s n)).2) := by
          unfold writeP
          rw [if_neg hwn]
        rw [e3] at he ⊢
        rw [hw] at he ⊢
        dsimp only at he ⊢
        split at he
        · exact absurd rfl he
        · rename_i hne
          rw [if_neg hne]
          rcases hlg with ⟨hx, _⟩|⟨hx, hy⟩
          · exact .inl hx
          · rcases hy with hy|hy
            · exact absurd hy hne
            · exact .inr ⟨hx, hy⟩
    rcases hcase with hl|⟨hl, h110⟩
    · refine ⟨by rw [hz, hl, hro.1, hro.2]; exact hi.heads, fun hh => absurd (herr ▸ hh) he, .inl (by rw [hl, hwr]; exact hnow), by rw [hl]; exact hlast _ fun _ h => h, ho'⟩
    · refine ⟨by rw [hz, hl, hro.1, hro.2]; exact hi.heads.snoc hent, fun hh => absurd (herr ▸ hh) he, .inr ⟨by rw [hlw _ hl, hwr, hnow], by rw [herr]; exact h110⟩, by rw [hl]; exact hlast _ fun _ h => List.mem_append_left _ h, ho'⟩
theorem HI.held (hi : HI s h) (l : List Fr) (m : Nat) : HI { s with held := l, most := m } h := ⟨hi.heads, hi.now, hi.then_, hi.last, ⟨hi.over.pages, hi.over.size⟩⟩
theorem HI.room (hi : HI s h) (hk : Ok s) (h0 : s.err = 0) : HI (roomP s h).2.1 (roomP s h).2.2 := by
  unfold roomP
  split
  · exact hi
  · dsimp only
    split
    · rename_i hc
      have hn : (s.held.head?.map Fr.page).getD 0 ∈ numbers s := by
        by_cases hh : (s.held.head?.map Fr.page).getD 0 ∈ numbers s
        · exact hh
        · rw [changed_no hh] at hc; cases hc
      have hw := hi.write hk h0 hn
      split
      · exact hw.held _ _
      · exact hw
    · exact hi.held _ _
theorem readR_log (h : HS) (n : Int) (ht : HostS.there h n) : (readR h n).2.2.log = h.log ∨ (readR h n).2.2.log = h.log ++ [⟨0, n, h.size, List.replicate 12 0#8⟩] := by
  have e : (readR h n).2.2 = (does h 0 n [] id).1 := by
    unfold readR
    rw [if_pos ht]
    dsimp only
    split <;> rfl
  rw [e]
  rcases does_log h 0 n [] id fun _ => rfl with ⟨hx, _⟩|⟨hx, _⟩
  · exact .inl hx
  · exact .inr hx
theorem readR_err3 (h : HS) (n : Int) (ht : HostS.there h n) : (readR h n).2.1 = 0 ∨ (readR h n).2.1 = 110 := by
  have e : (readR h n).2.1 = (does h 0 n [] id).2 := by
    unfold readR
    rw [if_pos ht]
    dsimp only
    split
    · rename_i hz; exact hz.symm
    · rfl
  rw [e]
  rcases does_log h 0 n [] id fun _ => rfl with ⟨_, hx⟩|⟨_, hx⟩
  · exact .inr hx
  · exact hx
theorem HI.read (hi : HI s h) {n : Int} (h0 : 0 ≤ n) (h1 : n < s.pages) {pl : Plc} (hl : s.last n = some pl) : HI s (readR h n).2.2 := by
  have hs := readR_same h n
  have ho : Over s (readR h n).2.2 := ⟨hs.1.trans hi.over.pages, hs.2.trans hi.over.size⟩
  rcases readR_log h n (hi.there h0 h1) with e|e
  · exact ⟨by rw [e, hs.2]; exact hi.heads, by rw [e]; exact hi.now, by rw [e]; exact hi.then_, by rw [e]; exact hi.last, ho⟩
  · have hw : wrs (h.log ++ [⟨0, n, h.size, List.replicate 12 0#8⟩]) = wrs h.log := by unfold wrs; rw [List.countP_append]; simp
    refine ⟨?_, by rw [e, hw]; exact hi.now, by rw [e, hw]; exact hi.then_, ?_, ho⟩
    · rw [e, hs.2]
      exact hi.heads.snoc ⟨rfl, h0, h1, .inl ⟨rfl, rfl, hi.last n pl hl⟩⟩
    · intro m pl hm
      rw [e]
      obtain ⟨u, u1, u2⟩ := hi.last m pl hm
      exact ⟨u, List.mem_append_left _ u1, u2⟩
theorem HI.die (hi : HI s h) (h0 : s.err = 0) (e : Nat) : HI (die s e) h := by
  exact ⟨hi.heads, fun _ => hi.now h0, .inl (hi.now h0), hi.last, ⟨hi.over.pages, hi.over.size⟩⟩
theorem open_err (key : Bytes) (pl : Plc) (b : Bytes) : (pgOpenR key pl b).2 = 0 ∨ (pgOpenR key pl b).2 = 120 := by
  by_cases hh : pgOpens key pl b
  · left; rw [pgOpenR_yes _ _ _ hh]
  · right; rw [pgOpenR_not _ _ _ hh]
theorem HI.use (hi : HI s h) (f : Fr) : HI (useP s f) h := hi.held _ _
theorem HI.fetch (hi : HI s h) (h0 : s.err = 0) {n : Int} (hp : 0 ≤ n ∧ n < s.pages) : HI (fetchP s h n).2.1 (fetchP s h n).2.2 := by
  unfold fetchP
  split
  · rename_i pl hl
    have hr := hi.read hp.1 hp.2 hl
    dsimp only
    split
    · split
      · exact hr.use _
      · exact hr.die h0 _
    · exact hr.die h0 _
  · exact hi.use _
theorem HI.load (hi : HI s h) (hk : Ok s) (n : Int) : HI (loadP s h n).2.1 (loadP s h n).2.2 := by
  unfold loadP
  split
  · rename_i hr
    obtain ⟨h0, hp⟩ := right_zero hr
    split
    · exact hi.use _
    · have a := hi.room hk h0
      dsimp only
      split
      · rename_i hz
        exact a.fetch (room_err hk h0 hz) (by rw [(near_room s h).spages]; exact hp)
      · exact a
  · exact hi
theorem HI.save (hi : HI s h) (hk : Ok s) (n : Int) (t : Bytes) : HI (saveP s h n t).2.1 (saveP s h n t).2.2 := by
  unfold saveP
  split
  · rename_i hr
    obtain ⟨h0, hp⟩ := right_zero hr
    split
    · split
      · exact hi.use _
      · have a := hi.room hk h0
        dsimp only
        split
        · exact a.use _
        · exact a
    · exact hi
  · exact hi
theorem hi_fresh {key : Bytes} {round : BitVec 64} {window : Nat} {pages : Int} {text : Nat} {h : HS} (hl : h.log = []) (ho : Over (freshP key round window pages text) h) : HI (freshP key round window pages text) h :=
  ⟨(by rw [hl]; intro i hi; simp at hi), fun _ => (by rw [hl]; rfl), .inl (by rw [hl]; rfl), fun n pl hh => (by cases hh), ho⟩
end
end Go.Sl.PagerS

/- append that keeps what stood there: in place, or beside it. -/
set_option linter.unusedVariables false
set_option linter.unusedSimpArgs false
namespace Go.Sl
open Go
end Go.Sl

/- trysttop: bytes copied, refitted, compared; touches counted; the heads of writes unlike, walked. -/
set_option maxHeartbeats 4000000
set_option maxRecDepth 10000
set_option linter.unusedVariables false
set_option linter.unusedSimpArgs false
namespace Go.Sl
open Go Go.Proofs
attribute [local irreducible] pt old pur ex all den denOps denS xOps xC cX CX xthen xblk xcut xloop xng retX resX Calls PV Rd Con
attribute [local irreducible] hostA
/-- Bytes cut, or gone on with zeros. -/
def fitB (l : List Byte) (n : Nat) : List Byte := l.take n ++ List.replicate (n - l.length) 0#8
theorem fitB_len (l : List Byte) (n : Nat) : (fitB l n).length = n := by unfold fitB; rw [List.length_append, List.length_take, List.length_replicate]; omega
theorem fit_copy (l : List Byte) (n : Nat) : wr ((List.replicate n 0#8).map u8b).toArray 0 ((l.map u8b).take (min l.length n * 1)) = ((fitB l n).map u8b).toArray := by
  have e1 : (List.replicate n 0#8).map u8b = [] ++ ((List.replicate (min l.length n) 0#8).map u8b ++ (List.replicate (n - l.length) 0#8).map u8b) := by
    rw [List.nil_append, ← List.map_append, List.replicate_append_replicate]
    congr 2
    omega
  have e2 : (l.map u8b).take (min l.length n * 1) = (l.take n).map u8b := by
    rw [List.map_take]
    rw [Nat.mul_one]
    by_cases h : l.length ≤ n
    · rw [Nat.min_eq_left h, List.take_of_length_le (by simp), List.take_of_length_le (by simpa using h)]
    · rw [Nat.min_eq_right (by omega)]
  rw [e1, e2]
  have := wr_mid [] ((List.replicate (min l.length n) 0#8).map u8b) ((List.replicate (n - l.length) 0#8).map u8b) ((l.take n).map u8b) 0 rfl (by simp; omega)
  rw [this]
  unfold fitB
  rw [List.nil_append, List.map_append]
theorem refit_x {L : List Asrt} {vb : Value} {l : List Byte} (hb : Bs L vb l) (n : Nat) (hn : n ≤ 4096) : Con Tryz.prog 11 [vb, nvv n] L (fun r M => ∃ g, r = .slice (some ⟨g, 0, none⟩) n n ∧ M = cl g ((fitB l n).map u8b).toArray 5 :: L) := by
  refine fn_x Tryz.func11 rfl rfl rfl Tryz.mixed (by kernel_rfl) ?_
  intro w0
  refine Y5 ?_
  refine Zm3 (f := u8b) (a := 0#8) rfl rfl rfl qS qS qS ?_; intro b7
  refine Y5 ?_
  refine Zib rfl rfl ((hb.rd.imp Imp.tail)) qR qZ (by first|rfl|exact oneM_u8 _|exact oneL_u8 _|assumption|(simp [oneC]; done)) (fit_copy l n) ?_
  refine V5 ?_
  refine rx1 (Zhc rfl (Zg7)) ?_
  exact ⟨_, ⟨b7, rfl, rfl⟩, qI⟩
theorem copied_x {L : List Asrt} {vb : Value} {l : List Byte} (hb : Bs L vb l) (hl : l.length ≤ 140737488355328) : Con Tryz.prog 13 [vb] L (fun r M => ∃ a c, r = .slice a l.length c ∧ M = ownB a c l :: L) := by
  refine Con.get (fun w0 w F H => hb.sh _ _ _ H) ?_
  rintro ⟨ba, bc, rfl, hbc, hbcm⟩
  refine fn_x Tryz.func13 rfl rfl rfl Tryz.mixed (by kernel_rfl) ?_
  intro w0
  refine Y6 ?_
  refine Zm3 (f := u8b) (a := 0#8) (len := 0) rfl rfl rfl qS qS qS ?_; intro b6
  refine V2 ?_
  refine Zgp (Imp.own_mk (n := 0) (cap := l.length) (size := 1) (xs := []) (by omega) (by omega) (by simp) (by simp)) ?_
  refine Y3 ?_
  refine Zia rfl rfl qH ((hb.rd.imp Imp.tail)) (by first|rfl|exact oneM_u8 _|exact oneL_u8 _|assumption|(simp [oneC]; done)) (by omega) qS ?_; intro a9 c9
  refine V2 ?_
  refine rx1 (Zhc rfl (Zg7)) ?_
  exact ⟨_, ⟨a9, c9, by rw [Nat.zero_add], rfl⟩, by rw [Nat.zero_add]; exact qI⟩
theorem same_t {L : List Asrt} {va vb : Value} {a b : List Byte} (ha : Bs L va a) (hb : Bs L vb b) (h : a = b) : Con Tryz.prog 15 [va, vb] L (fun r M => r = .bool true ∧ L = M) := by
  subst h
  refine Con.get (fun w0 w F H => ha.sh _ _ _ H) ?_
  rintro ⟨aa, ac, rfl, hac, hacm⟩
  refine Con.get (fun w0 w F H => hb.sh _ _ _ H) ?_
  rintro ⟨ba, bc, rfl, hbc, hbcm⟩
  refine fn_x Tryz.func15 rfl rfl rfl Tryz.mixed (by kernel_rfl) ?_
  intro w0
  refine Y9 ?_
  refine Zhn 10 rfl (decide_eq_false ((fun hh => hh rfl))) ?_
  refine V7 ?_
  refine Zgo [(4, 5), (13, 25)] (by kernel_rfl) (fun i : Nat => i ≤ a.length) (fun _ => L) (fun i => [(13, nvv i)]) (fun i => a.length - i) 0 (Nat.zero_le _) qI ⟨rfl, trivial⟩ ?_
  intro i u hi
  refine V3 ?_
  refine Zgg rfl (fun hB => ?_) (fun hB => ?_)
  · refine Zgt (fun F w H => ha.some (by omega) H) ?_
    rintro ⟨a1, a2, rfl⟩
    refine Zgt (fun F w H => hb.some (by omega) H) ?_
    rintro ⟨b1, b2, rfl⟩
    refine V4 ?_
    refine Zij (L) [7] (.q 0 (.q 1 (.q 2 (.q 4 (.q 5 (.q 6 (.r 3 (.r 7 (.q 8 .nil))))))))) (by kernel_rfl) (by kernel_rfl) (Imp.arr qV) ?_
    refine W6 ?_
    refine Zfh rfl rfl ((ha.rd.at hB (getM hB))) ?_
    refine Zfh rfl rfl ((hb.rd.at hB (getM hB))) ?_
    refine Zim rfl (Zjl (x := a[i]) (y := a[i]) rfl rfl) ?_
    refine Zi6 24 rfl (decide_eq_false ((fun hh => hh rfl))) ?_
    refine Zik ?_
    refine V5 ?_
    exact Zgl (i + 1) qO (by omega) qI ⟨rfl, trivial⟩
  · refine V3 ?_
    refine rx1 (Zha rfl (Zg7)) ?_
    exact ⟨_, ⟨rfl, rfl⟩, qI⟩
theorem oc_op (t : OTouch) : ((ocells t).toArray)[0]? = some (.int .i64 t.1.op) := rfl
theorem oc_head (t : OTouch) : ((ocells t).toArray).extract 3 (3 + 12) = (t.1.head.map u8b).toArray := by
  apply Array.ext'
  rw [Array.toList_extract, List.extract_eq_take_drop]
  show (t.1.head.map u8b).take 12 = _
  exact List.take_of_length_le (by simp [t.2.h12])
attribute [local irreducible] ocells
theorem ocells_one (t : OTouch) : (ocells t).toArray.toList.all oneC = true := by with_unfolding_all exact tcells_one _
theorem sameLogs_t {L : List Asrt} {va vb : Value} {a b : List OTouch} (ha : Rd L 15 va a.length (a.flatMap ocells)) (hb : Rd L 15 vb b.length (b.flatMap ocells)) (hal : a.length ≤ 9223372036854775807) (he : a = b) :
    Con Tryz.prog 23 [va, vb] L (fun r M => r = .bool true ∧ L = M) := by
  subst he
  refine Con.get (fun w0 w F H => ha.len H) ?_
  rintro ⟨aa, ac, rfl⟩
  refine Con.get (fun w0 w F H => hb.len H) ?_
  rintro ⟨ba, bc, rfl⟩
  refine fn_x Tryz.func23 rfl rfl rfl Tryz.mixed (by kernel_rfl) ?_
  intro w0
  refine Y9 ?_
  refine Zhn 10 rfl (decide_eq_false ((fun hh => hh rfl))) ?_
  refine V7 ?_
  refine Zgo [(4, 5), (13, 25)] (by kernel_rfl) (fun i : Nat => i ≤ a.length) (fun _ => L) (fun i => [(13, nvv i)]) (fun i => a.length - i) 0 (Nat.zero_le _) qI ⟨rfl, trivial⟩ ?_
  intro i u hi
  refine V3 ?_
  refine Zgg rfl (fun hB => ?_) (fun hB => ?_)
  · refine Zgt (fun F w H => ha.someAt (by omega) H) ?_
    rintro ⟨a1, a2, rfl⟩
    refine Zgt (fun F w H => hb.someAt (by omega) H) ?_
    rintro ⟨b1, b2, rfl⟩
    refine V4 ?_
    refine Zij (L) [7] (.q 0 (.q 1 (.q 2 (.q 4 (.q 5 (.q 6 (.r 3 (.r 7 (.q 8 .nil))))))))) (by kernel_rfl) (by kernel_rfl) (Imp.arr qV) ?_
    refine W6 ?_
    refine Zfj rfl rfl (ha.agN ocells_len (by omega) hB) ?_
    refine Zfj rfl rfl (hb.agN ocells_len (by omega) hB) ?_
    refine Zim rfl (pv_neq_touch a[i] a[i] rfl rfl) ?_
    refine Zi6 24 rfl (decide_eq_false ((fun h => h rfl))) ?_
    refine Zik ?_
    refine V5 ?_
    exact Zgl (i + 1) qO (by omega) qI ⟨rfl, trivial⟩
  · refine V3 ?_
    refine rx1 (Zha rfl (Zg7)) ?_
    exact ⟨_, ⟨rfl, rfl⟩, qI⟩
theorem count_t {L : List Asrt} {va : Value} {a : List OTouch} (ha : Rd L 15 va a.length (a.flatMap ocells)) (hal : a.length ≤ 9223372036854775806) :
    Con Tryz.prog 22 [va, .int .i64 1] L (fun r M => r = nvv (PagerS.wrs (a.map (·.1))) ∧ L = M) := by
  refine Con.get (fun w0 w F H => ha.len H) ?_
  rintro ⟨aa, ac, rfl⟩
  refine fn_x Tryz.func22 rfl rfl rfl Tryz.mixed (by kernel_rfl) ?_
  intro w0
  refine V11 ?_
  refine Zgo [(5, 5), (7, 7), (10, 20)] (by kernel_rfl) (fun i : Nat => i ≤ a.length) (fun _ => L) (fun i => [(10, nvv i), (5, nvv (PagerS.wrs ((a.take i).map (·.1))))]) (fun i => a.length - i) 0 (Nat.zero_le _) qI ⟨rfl, rfl, trivial⟩ ?_
  intro i u hi
  refine V3 ?_
  refine Zgg rfl (fun hB => ?_) (fun hB => ?_)
  · refine Zgt (fun F w H => ha.someAt (by omega) H) ?_
    rintro ⟨a1, a2, rfl⟩
    have hone := ocells_one a[i]
    have hsz : (ocells a[i]).toArray.size = 15 := by rw [List.size_toArray, ocells_len]
    have hle : PagerS.wrs ((a.take i).map (·.1)) ≤ i := Nat.le_trans (List.countP_le_length) (by simp; omega)
    have e1 : PagerS.wrs ((a.take (i + 1)).map (·.1)) = PagerS.wrs ((a.take i).map (·.1)) + (if a[i].1.op = 1 then 1 else 0) := by
      unfold PagerS.wrs
      rw [List.take_succ_eq_append_getElem hB, List.map_append, List.countP_append]
      by_cases h : a[i].1.op = 1 <;> simp [h]
    refine Y2 ?_
    refine Zfg rfl (ha.agN ocells_len (by omega) hB) ?_
    refine Zhz (cs := #[.int .i64 0, .int .i64 0, .int .i64 0, u8b 0#8, u8b 0#8, u8b 0#8, u8b 0#8, u8b 0#8, u8b 0#8, u8b 0#8, u8b 0#8, u8b 0#8, u8b 0#8, u8b 0#8, u8b 0#8]) rfl ?_; intro b7
    first|refine Zhy rfl rfl qR qZ (by first|rfl|exact oneM_u8 _|exact oneL_u8 _|assumption|(simp [oneC]; done)) qZ ?_|refine Zhx rfl rfl qR qZ (by first|rfl|exact oneM_u8 _|exact oneL_u8 _|assumption|(simp [oneC]; done)) qZ rfl ?_
    refine V1 ?_
    by_cases hop : a[i].1.op = 1
    · rw [if_pos hop] at e1
      refine Y2 ?_
      refine Zhp rfl qH (oc_op a[i]) ?_
      refine Y1 ?_
      refine Zhg (Zbr (a := a[i].1.op) (b := 1) rfl rfl) ?_
      refine Zhm 17 rfl (decide_eq_true (hop)) ?_
      refine V11 ?_
      exact Zgl (i + 1) qO (by omega) qI ⟨rfl, by rw [e1]; rfl, trivial⟩
    · rw [if_neg hop, Nat.add_zero] at e1
      refine Y2 ?_
      refine Zhp rfl qH (oc_op a[i]) ?_
      refine Y1 ?_
      refine Zhg (Zbr (a := a[i].1.op) (b := 1) rfl rfl) ?_
      refine Zhn 17 rfl (decide_eq_false (hop)) ?_
      refine V6 ?_
      exact Zgl (i + 1) qO (by omega) qI ⟨rfl, by rw [e1]; rfl, trivial⟩
  · have hie : i = a.length := by omega
    subst hie
    rw [List.take_length]
    refine V4 ?_
    refine rx1 (Zg9 rfl (Zg7)) ?_
    exact ⟨_, ⟨rfl, rfl⟩, qI⟩
def whs (l : List HostS.Touch) : List (List Byte) := (l.filter fun t => t.op == 1).map (·.head)
theorem unlike_t {L : List Asrt} {va : Value} {a : List OTouch} (ha : Rd L 15 va a.length (a.flatMap ocells)) (hal : a.length ≤ 9223372036854775806) (hd : ∀ i, ∀ hi : i < a.length, a[i].1.op = 1 → a[i].1.head ∉ whs ((a.take i).map (·.1))) :
    Con Tryz.prog 19 [va] L (fun r M => r = .bool true ∧ L = M) := by
  refine Con.get (fun w0 w F H => ha.len H) ?_
  rintro ⟨aa, ac, rfl⟩
  refine fn_x Tryz.func19 rfl rfl rfl Tryz.mixed (by kernel_rfl) ?_
  intro w0
  refine Y4 ?_
  refine Zoq 12 ?_; intro b6
  refine V7 ?_
  refine Zgo [(2, 2), (5, 5), (9, 24)] (by kernel_rfl) (fun i : Nat => i ≤ a.length) (fun i => nmA 12 b6 (whs ((a.take i).map (·.1))) :: L) (fun i => [(9, nvv i)]) (fun i => a.length - i) 0 (Nat.zero_le _) qI ⟨rfl, trivial⟩ ?_
  intro i u hi
  refine V3 ?_
  refine Zgg rfl (fun hB => ?_) (fun hB => ?_)
  · refine Zgt (fun F w H => (ha.imp (Imp.tail (A := nmA 12 b6 (whs ((a.take i).map (·.1)))))).someAt (by omega) H) ?_
    rintro ⟨a1, a2, rfl⟩
    have hone := ocells_one a[i]
    have hsz : (ocells a[i]).toArray.size = 15 := by rw [List.size_toArray, ocells_len]
    have h12 := a[i].2.h12
    have hdi := hd i hB
    have e1 : whs ((a.take (i + 1)).map (·.1)) = whs ((a.take i).map (·.1)) ++ (if a[i].1.op = 1 then [a[i].1.head] else []) := by
      unfold whs
      rw [List.take_succ_eq_append_getElem hB, List.map_append, List.filter_append, List.map_append]
      by_cases h : a[i].1.op = 1 <;> simp [h]
    refine Y2 ?_
    refine Zfg rfl ((ha.imp qI).agN ocells_len (by omega) hB) ?_
    refine Zhz (cs := #[.int .i64 0, .int .i64 0, .int .i64 0, u8b 0#8, u8b 0#8, u8b 0#8, u8b 0#8, u8b 0#8, u8b 0#8, u8b 0#8, u8b 0#8, u8b 0#8, u8b 0#8, u8b 0#8, u8b 0#8]) rfl ?_; intro b5
    first|refine Zhy rfl rfl qR qZ (by first|rfl|exact oneM_u8 _|exact oneL_u8 _|assumption|(simp [oneC]; done)) qZ ?_|refine Zhx rfl rfl qR qZ (by first|rfl|exact oneM_u8 _|exact oneL_u8 _|assumption|(simp [oneC]; done)) qZ rfl ?_
    refine V1 ?_
    by_cases hop : a[i].1.op = 1
    · rw [if_pos hop] at e1
      have hdi := hdi hop
      refine Y2 ?_
      refine Zhp rfl qH (oc_op a[i]) ?_
      refine Zhg (Zbr (a := a[i].1.op) (b := 1) rfl rfl) ?_
      refine Zhm 15 rfl (decide_eq_true (hop)) ?_
      refine Y5 ?_
      refine Zhq (n := 12) rfl qH qZ (oc_head a[i]) ?_
      refine Zoo rfl rfl h12 qH ?_; rw [if_neg hdi]
      refine Zhg (Zbs (a := (0 : Int)) (b := 0) rfl rfl) ?_
      refine Zhn 20 rfl (decide_eq_false ((fun hh => hh rfl))) ?_
      refine Y5 ?_
      refine Zhq (n := 12) rfl qH qZ (oc_head a[i]) ?_
      refine Zop rfl rfl rfl h12 hdi qR ?_
      refine V5 ?_
      exact Zgl (i + 1) qO (by omega) (by rw [e1]; exact qI) ⟨rfl, trivial⟩
    · rw [if_neg hop, List.append_nil] at e1
      refine Y2 ?_
      refine Zhp rfl qH (oc_op a[i]) ?_
      refine Zhg (Zbr (a := a[i].1.op) (b := 1) rfl rfl) ?_
      refine Zhn 15 rfl (decide_eq_false (hop)) ?_
      refine V6 ?_
      exact Zgl (i + 1) qO (by omega) (by rw [e1]; exact qI) ⟨rfl, trivial⟩
  · refine V3 ?_
    refine rx1 (Zha rfl (Zg7)) ?_
    exact ⟨_, ⟨rfl, rfl⟩, qI⟩
end Go.Sl

/- trysttop.Book and lists of trysttop.Hold opened. -/
set_option linter.unusedVariables false
set_option linter.unusedSimpArgs false
set_option maxHeartbeats 2000000
namespace Go.Sl
open Go Go.Proofs Go.ChangeShapes Go.WideShapes Go.ChangeAt Go.RowKit
structure BookV where
  key_ : List Byte
  round_ : BitVec 64
  pages_ : Int
  text_ : Int
  window_ : Int
def BookV.cells (x : BookV) : List Value := x.key_.map u8b ++ ([u64b x.round_] ++ ([.int .i64 x.pages_] ++ ([.int .i64 x.text_] ++ ([.int .i64 x.window_]))))
structure BookVOk (w : World) (x : BookV) : Prop where
  triv : True
  key_ : x.key_.length = 32
  pages_ : -9223372036854775808 ≤ x.pages_ ∧ x.pages_ ≤ 9223372036854775807
  text_ : -9223372036854775808 ≤ x.text_ ∧ x.text_ ≤ 9223372036854775807
  window_ : -9223372036854775808 ≤ x.window_ ∧ x.window_ ≤ 9223372036854775807
section
variable {H : Type} {enc : TypeId × Value → H} {w : World} {base : Nat} {spare : Nat → Bool} {held : Bool}
theorem open_BookV {n : Nat} {cs : List Value} {y : DataW H × List MemPlace} (h : DataW.trod enc Tryz.prog w base spare held n 26 cs = some y) (hs : Small Tryz.prog 26 y.1) : ∃ x : BookV, cs = x.cells ∧ BookVOk w x := by
  obtain ⟨xs, m, _, hx, hl, hn, hf⟩ := DataW.trod_struct Tryz.underlying26 h
  rw [show Tryz.prog.cellsOf 26 = 36 by kernel_rfl] at hl
  have hn : xs.length = 5 := hn
  have g : ∀ i (hi : i < xs.length), xs[i]? = some xs[i] := fun i hi => List.getElem?_eq_getElem hi
  rw [hx] at hs
  have e0 : DataW.trod enc Tryz.prog w base spare held m 23 ((cs.drop 0).take (Tryz.prog.cellsOf 23)) = some (xs[0]'(by omega)) := (hf 0 _ rfl).trans (g 0 (by omega))
  rw [show Tryz.prog.cellsOf 23 = 32 by kernel_rfl] at e0
  obtain ⟨l0, c0, ok0⟩ := open_ba e0
  have e1 : DataW.trod enc Tryz.prog w base spare held m 24 ((cs.drop 32).take (Tryz.prog.cellsOf 24)) = some (xs[1]'(by omega)) := (hf 1 _ rfl).trans (g 1 (by omega))
  rw [show Tryz.prog.cellsOf 24 = 1 by kernel_rfl] at e1
  obtain ⟨n1, c1, _, wf1⟩ := DataW.trod_int Tryz.underlying24 e1
  obtain ⟨b1, hb1⟩ := u64_of wf1
  rw [hb1] at c1
  have e2 : DataW.trod enc Tryz.prog w base spare held m 3 ((cs.drop 33).take (Tryz.prog.cellsOf 3)) = some (xs[2]'(by omega)) := (hf 2 _ rfl).trans (g 2 (by omega))
  rw [show Tryz.prog.cellsOf 3 = 1 by kernel_rfl] at e2
  obtain ⟨n2, c2, _, wf2⟩ := DataW.trod_int Tryz.underlying3 e2
  have e3 : DataW.trod enc Tryz.prog w base spare held m 3 ((cs.drop 34).take (Tryz.prog.cellsOf 3)) = some (xs[3]'(by omega)) := (hf 3 _ rfl).trans (g 3 (by omega))
  rw [show Tryz.prog.cellsOf 3 = 1 by kernel_rfl] at e3
  obtain ⟨n3, c3, _, wf3⟩ := DataW.trod_int Tryz.underlying3 e3
  have e4 : DataW.trod enc Tryz.prog w base spare held m 3 ((cs.drop 35).take (Tryz.prog.cellsOf 3)) = some (xs[4]'(by omega)) := (hf 4 _ rfl).trans (g 4 (by omega))
  rw [show Tryz.prog.cellsOf 3 = 1 by kernel_rfl] at e4
  obtain ⟨n4, c4, _, wf4⟩ := DataW.trod_int Tryz.underlying3 e4
  refine ⟨⟨l0, b1, n2, n3, n4⟩, ?_, ⟨trivial, ok0, i64_of wf2, i64_of wf3, i64_of wf4⟩⟩
  have d0 : cs.drop 0 = (cs.drop 0).take 32 ++ cs.drop 32 := by
    have := (List.take_append_drop 32 (cs.drop 0)).symm
    rwa [List.drop_drop] at this
  have d1 : cs.drop 32 = (cs.drop 32).take 1 ++ cs.drop 33 := by
    have := (List.take_append_drop 1 (cs.drop 32)).symm
    rwa [List.drop_drop] at this
  have d2 : cs.drop 33 = (cs.drop 33).take 1 ++ cs.drop 34 := by
    have := (List.take_append_drop 1 (cs.drop 33)).symm
    rwa [List.drop_drop] at this
  have d3 : cs.drop 34 = (cs.drop 34).take 1 ++ cs.drop 35 := by
    have := (List.take_append_drop 1 (cs.drop 34)).symm
    rwa [List.drop_drop] at this
  have d4 : cs.drop 35 = (cs.drop 35).take 1 := by rw [List.take_of_length_le (by simp; omega)]
  show cs = _ ++ (_ ++ (_ ++ (_ ++ (_))))
  have dz : cs = cs.drop 0 := rfl
  rw [dz, d0, d1, d2, d3, d4, c0, c1, c2, c3, c4] <;> rfl
end
structure HoldV where
  save_ : Bool
  page_ : Int
  text_V : Value
  text_ : List Byte
def HoldV.cells (x : HoldV) : List Value := [.bool x.save_] ++ ([.int .i64 x.page_] ++ ([x.text_V]))
structure HoldVOk (w : World) (x : HoldV) : Prop where
  triv : True
  page_ : -9223372036854775808 ≤ x.page_ ∧ x.page_ ≤ 9223372036854775807
  text_ : InB w x.text_V x.text_
theorem HoldV.len {w : World} {x : HoldV} (h : HoldVOk w x) : x.cells.length = 3 := by
  simp [HoldV.cells]
section
variable {H : Type} {enc : TypeId × Value → H} {w : World} {base : Nat} {spare : Nat → Bool} {held : Bool}
theorem open_HoldV {n : Nat} {cs : List Value} {y : DataW H × List MemPlace} (h : DataW.trod enc Tryz.prog w base spare held n 35 cs = some y) (hs : Small Tryz.prog 35 y.1) : ∃ x : HoldV, cs = x.cells ∧ HoldVOk w x := by
  obtain ⟨xs, m, _, hx, hl, hn, hf⟩ := DataW.trod_struct Tryz.underlying35 h
  rw [show Tryz.prog.cellsOf 35 = 3 by kernel_rfl] at hl
  have hn : xs.length = 3 := hn
  have g : ∀ i (hi : i < xs.length), xs[i]? = some xs[i] := fun i hi => List.getElem?_eq_getElem hi
  rw [hx] at hs
  have e0 : DataW.trod enc Tryz.prog w base spare held m 4 ((cs.drop 0).take (Tryz.prog.cellsOf 4)) = some (xs[0]'(by omega)) := (hf 0 _ rfl).trans (g 0 (by omega))
  rw [show Tryz.prog.cellsOf 4 = 1 by kernel_rfl] at e0
  obtain ⟨b0, c0, _⟩ := DataW.trod_bool Tryz.underlying4 e0
  have e1 : DataW.trod enc Tryz.prog w base spare held m 3 ((cs.drop 1).take (Tryz.prog.cellsOf 3)) = some (xs[1]'(by omega)) := (hf 1 _ rfl).trans (g 1 (by omega))
  rw [show Tryz.prog.cellsOf 3 = 1 by kernel_rfl] at e1
  obtain ⟨n1, c1, _, wf1⟩ := DataW.trod_int Tryz.underlying3 e1
  have e2 : DataW.trod enc Tryz.prog w base spare held m 33 ((cs.drop 2).take (Tryz.prog.cellsOf 33)) = some (xs[2]'(by omega)) := (hf 2 _ rfl).trans (g 2 (by omega))
  rw [show Tryz.prog.cellsOf 33 = 1 by kernel_rfl] at e2
  have hs2 := Small.part (j := 2) Tryz.underlying35 hs rfl (by rw [List.getElem?_map, g 2 (by omega)]; rfl)
  obtain ⟨v2, l2, c2, ok2⟩ := open_bs Tryz.underlying33 Tryz.underlying5 (by kernel_rfl) (by kernel_rfl) e2 hs2
  refine ⟨⟨b0, n1, v2, l2⟩, ?_, ⟨trivial, i64_of wf1, ok2⟩⟩
  have d0 : cs.drop 0 = (cs.drop 0).take 1 ++ cs.drop 1 := by
    have := (List.take_append_drop 1 (cs.drop 0)).symm
    rwa [List.drop_drop] at this
  have d1 : cs.drop 1 = (cs.drop 1).take 1 ++ cs.drop 2 := by
    have := (List.take_append_drop 1 (cs.drop 1)).symm
    rwa [List.drop_drop] at this
  have d2 : cs.drop 2 = (cs.drop 2).take 1 := by rw [List.take_of_length_le (by simp; omega)]
  show cs = _ ++ (_ ++ (_))
  have dz : cs = cs.drop 0 := rfl
  rw [dz, d0, d1, d2, c0, c1, c2] <;> rfl
end
/-- A slice of them that comes in. -/
structure InHoldV (W : World) (v : Value) (l : List HoldV) : Prop where
  sl : SlW W 3 v l.length (l.flatMap HoldV.cells)
  sh : ∃ a c, v = .slice a l.length c ∧ l.length ≤ c ∧ c ≤ 9223372036854775807
  el : ∀ x ∈ l, HoldVOk W x
  len : l.length * 40 ≤ 140737488351232
abbrev HoldVS (w : World) := {x : HoldV // HoldVOk w x}
section
variable {H : Type} {enc : TypeId × Value → H} {w : World} {base : Nat} {spare : Nat → Bool} {held : Bool}
theorem opens_HoldV {n : Nat} {cs : List Value} {y : DataW H × List MemPlace} (h : DataW.trod enc Tryz.prog w base spare held n 27 cs = some y) (hs : Small Tryz.prog 27 y.1) : ∃ (v : Value) (l : List HoldV), cs = [v] ∧ InHoldV w v l := by
  obtain ⟨v, l, h1, h2, h3, h4⟩ := open_sls (encd := fun x : HoldVS w => x.1.cells) (good := fun _ => True) Tryz.underlying27 (by kernel_rfl) (by decide) (by kernel_rfl : Tryz.prog.bytesOf 35 = 40) (fun x => HoldV.len x.2) (fun n cs y hy hsm => by
    obtain ⟨x, hx, ok⟩ := open_HoldV hy hsm
    exact ⟨⟨x, ok⟩, hx, trivial⟩) h hs
  obtain ⟨a, len, cap, h5, h6, h7⟩ := slice_shape Tryz.underlying27 h
  rw [h1] at h5
  simp only [List.cons.injEq, and_true] at h5
  obtain ⟨a', k', hv⟩ := h2.len
  rw [h5] at hv
  simp only [Value.slice.injEq] at hv
  obtain ⟨rfl, rfl, rfl⟩ := hv
  have e : (l.map (·.1)).flatMap HoldV.cells = l.flatMap fun x => x.1.cells := by rw [List.flatMap_map]
  refine ⟨v, l.map (·.1), h1, ⟨?_, ?_, ?_, ?_⟩⟩
  · rw [e, List.length_map]; exact h2
  · rw [List.length_map]; exact ⟨_, _, h5, h6, h7⟩
  · intro x hx
    obtain ⟨z, _, rfl⟩ := List.mem_map.1 hx
    exact z.2
  · rw [List.length_map]; exact h4
end
end Go.Sl

/- slices.Values and slices.AppendSeq over it, at ints: a new slice that holds what the old one holds. -/
set_option linter.unusedVariables false
set_option linter.unusedSimpArgs false
namespace Go.Sl
open Go Go.Proofs Go.RowKit Go.Shelf
attribute [local go_sem] Oper.semAt_some
end Go.Sl

/- slices.Sort's contract at this dump, laid in plain words by the kit's program. -/
namespace Go.Proofs
open Go.Shelf
end Go.Proofs

/- The engine over pieces alone: worlds that the kit's contracts hand back. -/
set_option linter.unusedVariables false
set_option linter.unusedSimpArgs false
namespace Go.Sl
open Go Go.RowKit
end Go.Sl

/- slices.Sorted(slices.Values(s)) at ints, as a contract. -/
set_option maxHeartbeats 4000000
set_option maxRecDepth 10000
set_option linter.unusedVariables false
set_option linter.unusedSimpArgs false
namespace Go.Sl
open Go Go.Proofs
attribute [local irreducible] pt old pur ex all den denOps denS xOps xC cX CX xthen xblk xcut xloop xng retX resX Calls PV Rd Con
open Go.RowKit Go.Maps Go.Sort Go.Shelf
abbrev ownI (a : Option Addr) (c : Nat) (zs : List Int) : Asrt := own 3 1 (.slice a zs.length c) zs.length (zs.map (Value.int .i64))
end Go.Sl

/- slices.Index, Delete, Clone at ints and bytes, walked. -/
set_option maxHeartbeats 4000000
set_option maxRecDepth 10000
set_option linter.unusedVariables false
set_option linter.unusedSimpArgs false
namespace Go.Sl
open Go Go.Proofs
attribute [local irreducible] pt old pur ex all den denOps denS xOps xC cX CX xthen xblk xcut xloop xng retX resX Calls PV Rd Con
abbrev zv (zs : List Int) : List Value := zs.map (Value.int .i64)
theorem zv_one (zs : List Int) : (zv zs).all oneC = true := by simp [oneC]
theorem index_yes {L : List Asrt} {a : Option Addr} {c : Nat} {zs : List Int} {n : Int} (h : Rd L 1 (.slice a zs.length c) zs.length (zv zs)) (hl : zs.length ≤ 9223372036854775807) (hn : n ∈ zs) : Con Tryz.prog 79 [.slice a zs.length c, .int .i64 n] L (fun v M => (∃ i, ∃ hi : i < zs.length, zs[i] = n ∧ v = nvv i) ∧ L = M) := by
  refine fn_x Tryz.func79 rfl rfl rfl Tryz.mixed (by kernel_rfl) ?_
  intro w0
  refine V8 ?_
  refine Zgo [(4, 5), (8, 18)] (by kernel_rfl) (fun i : Nat => i < zs.length ∧ n ∉ zs.take i) (fun _ => L) (fun i => [(8, nvv i)]) (fun i => zs.length - i) 0 ⟨List.length_pos_of_mem hn, by simp⟩ qI ⟨rfl, trivial⟩ ?_
  rintro i u ⟨hi, he⟩
  refine Zgt (fun F w H => h.someAt (by omega) H) ?_
  rintro ⟨s1, s2, rfl⟩
  refine Y2 ?_
  refine Zhm 9 rfl (decide_eq_true (hi)) ?_
  refine V6 ?_
  by_cases hz : n = zs[i]
  · refine Y5 ?_
    refine Zff rfl ((h.at hi (by rw [List.getElem?_map, List.getElem?_eq_getElem hi]; rfl))) ?_
    refine Zhg (Zbr (b := zs[i]) rfl rfl) ?_
    refine Zhm 16 rfl (decide_eq_true (hz)) ?_
    refine V6 ?_
    refine rx1 (Zg9 rfl (Zg7)) ?_
    exact ⟨_, ⟨⟨i, hi, hz.symm, rfl⟩, rfl⟩, qI⟩
  · refine Y5 ?_
    refine Zff rfl ((h.at hi (by rw [List.getElem?_map, List.getElem?_eq_getElem hi]; rfl))) ?_
    refine Zhg (Zbr (b := zs[i]) rfl rfl) ?_
    refine Zhn 16 rfl (decide_eq_false (hz)) ?_
    refine V6 ?_
    have he2 : n ∉ zs.take (i + 1) := by
      rw [List.take_succ_eq_append_getElem hi, List.mem_append, List.mem_singleton]
      exact fun hh => hh.elim he hz
    have hi2 : i + 1 < zs.length := by
      by_cases hh : i + 1 < zs.length
      · exact hh
      · exact absurd (by rw [List.take_of_length_le (by omega)]; exact hn) he2
    exact Zgl (i + 1) qO ⟨hi2, he2⟩ qI ⟨rfl, trivial⟩
theorem index_no {L : List Asrt} {a : Option Addr} {c : Nat} {zs : List Int} {n : Int} (h : Rd L 1 (.slice a zs.length c) zs.length (zv zs)) (hl : zs.length ≤ 9223372036854775807) (hn : n ∉ zs) : Con Tryz.prog 79 [.slice a zs.length c, .int .i64 n] L (fun v M => v = .int .i64 (-1) ∧ L = M) := by
  refine fn_x Tryz.func79 rfl rfl rfl Tryz.mixed (by kernel_rfl) ?_
  intro w0
  refine V8 ?_
  refine Zgo [(4, 5), (8, 18)] (by kernel_rfl) (fun i : Nat => i ≤ zs.length) (fun _ => L) (fun i => [(8, nvv i)]) (fun i => zs.length - i) 0 (Nat.zero_le _) qI ⟨rfl, trivial⟩ ?_
  intro i u hi
  refine V3 ?_
  refine Zgg rfl (fun hB => ?_) (fun hB => ?_)
  · refine Zgt (fun F w H => h.someAt (by omega) H) ?_
    rintro ⟨s1, s2, rfl⟩
    refine Y9 ?_
    refine Zff rfl ((h.at hB (by rw [List.getElem?_map, List.getElem?_eq_getElem hB]; rfl))) ?_
    refine Zhg (Zbr (b := zs[i]) rfl rfl) ?_
    refine Zhn 16 rfl (decide_eq_false ((fun hh => hn (hh ▸ List.getElem_mem hB)))) ?_
    refine V6 ?_
    exact Zgl (i + 1) qO (by omega) qI ⟨rfl, trivial⟩
  · refine V3 ?_
    refine rx1 (Zg9 rfl (Zg7)) ?_
    exact ⟨_, ⟨rfl, rfl⟩, qI⟩
theorem del_take (xs rest news : List Value) (z : Value) (i n : Nat) (hx : xs.length = n) (hi : i < n) (hl : news.length = n - (i + 1)) : ((wr (wr (xs ++ rest).toArray i news) (n - 1) [z]).toList).take (n - 1) = xs.take i ++ news := by
  have e1 : ((xs ++ rest).take i ++ news ++ (xs ++ rest).drop (i + news.length)).take (n - 1) = xs.take i ++ news := by
    rw [List.take_append_of_le_length (by simp; omega), List.take_append_of_le_length (show i ≤ xs.length by omega), List.take_of_length_le (by simp; omega)]
  have h2 : n - 1 ≤ (((xs ++ rest).take i ++ news ++ (xs ++ rest).drop (i + news.length)).take (n - 1)).length := by rw [e1]; simp; omega
  rw [wr_toList _ _ _ (by rw [wr_size]; simp; omega), wr_toList _ _ _ (by simp; omega), List.append_assoc, List.take_append_of_le_length h2, List.take_take, Nat.min_self, e1]
theorem rd_cut {M M' : List Asrt} {g c i n E : Nat} {xs rest : List Value} (hm : Has M (cl g (xs ++ rest).toArray E) M') (hx : xs.length = n) (hi : i < n) (hnc : n ≤ c) : Rd M 1 (.slice (some ⟨g, cutOff 0 (i + 1) c 1, none⟩) (n - (i + 1)) (c - (i + 1))) (n - (i + 1)) (xs.drop (i + 1)) := by
  by_cases h0 : n = i + 1
  · rw [show n - (i + 1) = 0 by omega, List.drop_of_length_le (by omega)]; exact Rd.nil
  · unfold cutOff
    rw [if_neg (show ¬ c = i + 1 by omega)]
    refine Rd.cl (o := 0 + (i + 1) * 1) hm (by simp; omega) (by simp; omega) ?_
    simp only [Array.toList_extract, List.extract_eq_take_drop]
    rw [show 0 + (i + 1) * 1 = i + 1 by omega, show i + 1 + (n - (i + 1)) * 1 - (i + 1) = n - (i + 1) by omega, List.drop_append_of_le_length (by omega), List.take_append_of_le_length (by simp; omega), List.take_of_length_le (by simp; omega)]
theorem delete_x {g c i : Nat} {zs : List Int} (hi : i < zs.length) (hzl : zs.length ≤ 1000000) : Con Tryz.prog 78 [.slice (some ⟨g, 0, none⟩) zs.length c, nvv i, nvv (i + 1)] [ownI (some ⟨g, 0, none⟩) c zs] (fun v M => v = .slice (some ⟨g, 0, none⟩) (zs.length - 1) c ∧ M = [own 3 1 (.slice (some ⟨g, 0, none⟩) (zs.length - 1) c) (zs.length - 1) (zv (zs.take i ++ zs.drop (i + 1)))]) := by
  refine Con.get (fun w0 w F H => own_cap (n := zs.length) (c := c) .here H) ?_
  rintro ⟨hc, hcm⟩
  refine fn_x Tryz.func78 rfl rfl rfl Tryz.mixed (by kernel_rfl) ?_
  intro w0
  refine Y9 ?_
  refine Zhg (Zok (l := i) (h := i + 1) (mx := zs.length) rfl rfl rfl rfl (by omega) (by omega) (by omega)) ?_
  refine Y4 ?_
  refine Zhg (Zmj (a := i) (b := i + 1) rfl rfl) ?_
  refine Zhn 16 rfl (decide_eq_false ((by omega))) ?_
  refine V7 ?_
  refine Znz (n := zs.length) (cp := c) .here (by omega) ?_
  intro g' rest hg _ _ hr
  obtain rfl : g = g' := by simpa using hg
  have hlen : (zv zs).length = zs.length := by simp
  have hdl : (zv (zs.drop (i + 1))).length = zs.length - (i + 1) := by simp
  refine Ct.o ?_
  refine Zij ([]) [] (.q 0 (.q 1 (.q 2 (.q 3 (.q 4 (.q 5 (.e 6 false (.q 7 .nil)))))))) (by kernel_rfl) (by kernel_rfl) (Imp.arr Arr.stop) ?_
  refine W2 ?_
  refine Zim rfl (Zm0 (h := i) rfl rfl (by omega)) ?_
  refine W2 ?_
  refine Zim rfl (Zci (l := ((i + 1 : Nat) : Int)) (h := (zs.length : Int)) rfl rfl rfl (by omega) (by omega)) ?_
  refine Ziq rfl ?_; refine Zoi (n := i) (m := zs.length - (i + 1)) (news := zv (zs.drop (i + 1))) (cap := c) (size := 1) rfl rfl (by rw [zv, List.map_drop]; exact rd_cut qH hlen hi (by omega)) qR (zv_one _) (by omega) (by simp; omega) rfl ?_; refine Zg3 ⟨(fun hh => Bool.noConfusion hh), ?_⟩
  refine W2 ?_
  refine Ct.o ?_
  rw [show i + (zs.length - (i + 1)) = zs.length - 1 by omega]
  refine Y5 ?_
  refine Zhg (Zna (l := zs.length - 1) (h := zs.length) rfl rfl rfl (by omega) (by omega) (by omega)) ?_
  refine Zoj (n := 0) (o := zs.length - 1) (z := .int .i64 0) rfl rfl (by rw [show zs.length - (zs.length - 1) = 0 + 1 by omega]; rfl) qR (by rw [wr_size]; simp; omega) rfl ?_
  refine V1 ?_
  refine Zgp ((Imp.arr (N := [cl g (wr (wr (zv zs ++ rest).toArray (i * 1) (zv (zs.drop (i + 1)))) (zs.length - 1) (List.replicate (0 + 1) (Value.int .i64 0))) 3]) qV).trans (Imp.own_mk (E := 3) (size := 1) (n := zs.length - 1) (cap := c) (xs := zv (zs.take i ++ zs.drop (i + 1))) (by omega) (by omega) (by rw [wr_size, wr_size]; simp; omega) (by
    rw [Nat.mul_one, Nat.mul_one, show zv (zs.take i ++ zs.drop (i + 1)) = (zv zs).take i ++ zv (zs.drop (i + 1)) from by simp]
    exact del_take _ _ _ _ _ _ hlen hi hdl))) ?_
  refine V4 ?_
  refine rx1 (Zhc rfl (Zg7)) ?_
  exact ⟨_, ⟨rfl, rfl⟩, qI⟩
theorem clone_x {L : List Asrt} {a : Option Addr} {c : Nat} {zs : List Int} (h : Rd L 1 (.slice a zs.length c) zs.length (zv zs)) (hl : zs.length ≤ 1000000) : Con Tryz.prog 59 [.slice a zs.length c] L (fun v M => ∃ a' c', v = .slice a' zs.length c' ∧ M = ownI a' c' zs :: L) := by
  cases ha : a.isNone with
  | true =>
    obtain rfl : a = none := by simpa using ha
    by_cases h0 : zs.length = 0
    · obtain rfl : zs = [] := List.eq_nil_of_length_eq_zero h0
      refine fn_x Tryz.func59 rfl rfl rfl Tryz.mixed (by kernel_rfl) ?_
      intro w0
      refine Y6 ?_
      refine Zhm 4 rfl (rfl) ?_
      refine V5 ?_
      refine rx1 (Zhc rfl (Zg7)) ?_
      exact ⟨_, ⟨none, 0, rfl, rfl⟩, (Imp.arr (N := L) qV).trans Imp.own_nil⟩
    · refine Con.get (fun w0 w F H => h.someAt (by omega) H) ?_
      rintro ⟨s1, s2, hh⟩
      cases hh
  | false =>
    refine fn_x Tryz.func59 rfl rfl rfl Tryz.mixed (by kernel_rfl) ?_
    intro w0
    refine Y6 ?_
    refine Zhn 4 rfl (ha) ?_
    refine Y3 ?_
    refine Zh7 (cs := #[]) (by omega) (by omega) rfl ?_; intro b5; refine Zgw ((Imp.arr (N := cl b5 #[] 3 :: L) qV).trans (Imp.own_mk (E := 3) (size := 1) (n := 0) (cap := 0) (xs := []) (by omega) (by omega) rfl rfl)) ?_
    refine Y1 ?_
    refine Zia rfl rfl qH (h.imp (Imp.arr qV)) qN (by omega) qS ?_; intro a3 c3
    refine V2 ?_
    rw [Nat.zero_add, List.nil_append]
    refine rx1 (Zhc rfl (Zg7)) ?_
    exact ⟨_, ⟨a3, c3, rfl, rfl⟩, qI⟩
theorem cloneB_x {L : List Asrt} {a : Option Addr} {c : Nat} {b : List Byte} (h : Rd L 1 (.slice a b.length c) b.length (b.map u8b)) (hl : b.length ≤ 1000000) : Con Tryz.prog 56 [.slice a b.length c] L (fun v M => ∃ a' c', v = .slice a' b.length c' ∧ M = own 5 1 (.slice a' b.length c') b.length (b.map u8b) :: L) := by
  cases ha : a.isNone with
  | true =>
    obtain rfl : a = none := by simpa using ha
    by_cases h0 : b.length = 0
    · obtain rfl : b = [] := List.eq_nil_of_length_eq_zero h0
      refine fn_x Tryz.func56 rfl rfl rfl Tryz.mixed (by kernel_rfl) ?_
      intro w0
      refine Y6 ?_
      refine Zhm 4 rfl (rfl) ?_
      refine V5 ?_
      refine rx1 (Zhc rfl (Zg7)) ?_
      exact ⟨_, ⟨none, 0, rfl, rfl⟩, (Imp.arr (N := L) qV).trans Imp.own_nil⟩
    · refine Con.get (fun w0 w F H => h.someAt (by omega) H) ?_
      rintro ⟨s1, s2, hh⟩
      cases hh
  | false =>
    refine fn_x Tryz.func56 rfl rfl rfl Tryz.mixed (by kernel_rfl) ?_
    intro w0
    refine Y6 ?_
    refine Zhn 4 rfl (ha) ?_
    refine Y3 ?_
    refine Zh7 (cs := #[]) (by omega) (by omega) rfl ?_; intro b5; refine Zgw ((Imp.arr (N := cl b5 #[] 5 :: L) qV).trans (Imp.own_mk (E := 5) (size := 1) (n := 0) (cap := 0) (xs := []) (by omega) (by omega) rfl rfl)) ?_
    refine Y1 ?_
    refine Zia rfl rfl qH (h.imp (Imp.arr qV)) qN (by omega) qS ?_; intro a3 c3
    refine V2 ?_
    rw [Nat.zero_add, List.nil_append]
    refine rx1 (Zhc rfl (Zg7)) ?_
    exact ⟨_, ⟨a3, c3, rfl, rfl⟩, qI⟩
end Go.Sl

/- octet: numbers of uint32 as bytes: width, PutLittle. -/
set_option maxHeartbeats 4000000
set_option maxRecDepth 10000
set_option linter.unusedVariables false
set_option linter.unusedSimpArgs false
namespace Go.Sl
open Go Go.Proofs
attribute [local irreducible] pt old pur ex all den denOps denS xOps xC cX CX xthen xblk xcut xloop xng retX resX Calls PV Rd Con
theorem width32_x : Con Tryz.prog 122 [] [] (fun r M => r = nvv 4 ∧ M = []) := by
  refine fn_x Tryz.func122 rfl rfl rfl Tryz.mixed (by kernel_rfl) ?_
  intro w0
  refine Y4 ?_
  refine Zhg (Zk6 rfl) ?_
  refine Zhg (Zkw rfl) ?_
  refine V5 ?_
  refine Zgo [(1, 2), (5, 12)] (by kernel_rfl) (fun i : Nat => i ≤ 4) (fun _ => []) (fun i => [(1, u32b ((~~~ (BitVec.ofInt 32 0)) >>> (8 * i))), (2, nvv i)]) (fun i => 4 - i) 0 (by omega) qI ⟨rfl, rfl, trivial⟩ ?_
  intro i u hi
  have hz : ∀ j : Fin (4 + 1), (~~~ (BitVec.ofInt 32 0)) >>> (8 * j.val) = 0#32 ↔ j.val = 4 := by decide
  have hs : ∀ j : Fin 4, (~~~ (BitVec.ofInt 32 0)) >>> (8 * j.val) >>> 7 >>> 1 = (~~~ (BitVec.ofInt 32 0)) >>> (8 * (j.val + 1)) := by decide
  by_cases hB : i = 4
  · subst hB
    refine Y2 ?_
    refine Zhg (Zkz (y := 0#32) rfl rfl) ?_
    refine Zhn 6 rfl (decide_eq_false ((fun h => h ((hz ⟨4, by omega⟩).2 rfl)))) ?_
    refine V6 ?_
    refine rx1 (Zg9 rfl (Zg7)) ?_
    exact ⟨_, ⟨rfl, rfl⟩, by exact Imp.arr (by repeat (first|exact Arr.nil|exact Arr.stop|refine Arr.cons (by repeat constructor) ?_|refine Arr.skip ?_))⟩
  · refine Y2 ?_
    refine Zhg (Zkz (y := 0#32) rfl rfl) ?_
    refine Zhm 6 rfl (decide_eq_true ((fun h => hB ((hz ⟨i, by omega⟩).1 h)))) ?_
    refine Y4 ?_
    refine Zhg (Zkv (m := 7) rfl rfl) ?_
    refine Y4 ?_
    refine Zhg (Zkv (m := 1) rfl rfl) ?_
    refine V7 ?_
    have e := hs ⟨i, by omega⟩
    dsimp only at e
    exact Zgl (i + 1) qO (by omega) qI ⟨by rw [← e]; rfl, rfl, trivial⟩
theorem put32_x {L : List Asrt} {v : Value} {b : List Byte} (x : BitVec 32) (h : Bs L v b) (hb : b.length ≤ 140737488355000) :
    Con Tryz.prog 105 [v, u32b x] L (fun r M => ∃ a c, r = .slice a (b ++ leB x 4).length c ∧ M = own 5 1 r (b ++ leB x 4).length ((b ++ leB x 4).map u8b) :: L) := by
  refine Con.get (fun w0 w F H => h.sh _ _ _ H) ?_
  rintro ⟨va, vc, rfl, hvc, hvcm⟩
  refine fn_x Tryz.func105 rfl rfl rfl Tryz.mixed (by kernel_rfl) ?_
  intro w0
  refine Y4 ?_
  refine Zh8 rfl (by kernel_rfl) (width32_x) rfl qT ?_
  rintro _ _ ⟨rfl, rfl⟩
  refine Y10 ?_
  refine Zm3 (f := u8b) (a := 0#8) rfl rfl rfl qS qS qS ?_; intro b15
  refine Y5 ?_
  refine Zib rfl rfl (h.rd.imp Imp.tail) qR qZ qN (copy_pre b 4) ?_
  refine V1 ?_
  refine Zgp (Imp.own_mk (n := b.length) (cap := b.length + 4) (size := 1) (xs := b.map u8b) (by omega) (by omega) (by simp) (by simp)) ?_
  refine V4 ?_
  refine Zgo [(6, 7), (20, 31)] (by kernel_rfl) (fun s : Nat × Option Addr × Nat => s.1 ≤ 4) (fun s => own 5 1 (.slice s.2.1 (b ++ leB x s.1).length s.2.2) (b ++ leB x s.1).length ((b ++ leB x s.1).map u8b) :: L)
    (fun s => [(20, nvv s.1), (6, .slice s.2.1 (b ++ leB x s.1).length s.2.2)]) (fun s => 4 - s.1) (0, some ⟨b15, 0, none⟩, b.length + 4) (by show 0 ≤ _; omega) (by show Imp _ (own _ _ (.slice _ (b ++ []).length _) (b ++ []).length ((b ++ []).map u8b) :: L); rw [List.append_nil]; exact qI) ⟨rfl, by show _ = Value.slice _ (b ++ []).length _; rw [List.append_nil]; rfl, trivial⟩ ?_
  rintro ⟨i, a, c⟩ u hi
  dsimp only at hi ⊢
  have hll : (b ++ leB x i).length = b.length + i := by simp [leB_len]
  refine V3 ?_
  refine Zgg rfl (fun hB => ?_) (fun hB => ?_)
  · refine Y8 ?_
    first|refine Zhg (Zmc (a := 8) rfl rfl) ?_|refine Zhg (Zbi rfl rfl) ?_
    refine Zhg (Zkv rfl rfl) ?_
    refine Zhg (Zk8 rfl) ?_
    refine Zh7 (cs := #[.int .u8 _]) (by omega) (by omega) rfl ?_; intro b29
    refine Zia rfl rfl qH (Rd.cl (xs := [u8b ((x >>> (8 * i)).setWidth 8)]) qH rfl qZ rfl) qN (by omega) qS ?_; intro a3 c3
    refine V6 ?_
    have e : (b ++ leB x i) ++ [(x >>> (8 * i)).setWidth 8] = b ++ leB x (i + 1) := by rw [leB_succ, List.append_assoc]
    have e2 : (b ++ leB x i).map u8b ++ [u8b ((x >>> (8 * i)).setWidth 8)] = (b ++ leB x (i + 1)).map u8b := by rw [← e]; simp only [List.map_append, List.map_cons, List.map_nil]
    have e3 : (b ++ leB x i).length + 1 = (b ++ leB x (i + 1)).length := by rw [← e]; simp only [List.length_append, List.length_cons, List.length_nil]
    rw [e2, e3]
    exact Zgl (i + 1, a3, c3) qO qO qI ⟨rfl, rfl, trivial⟩
  · have hie : i = 4 := by omega
    subst hie
    refine V4 ?_
    refine rx1 (Zhc rfl (Zg7)) ?_
    exact ⟨_, ⟨a, c, rfl, rfl⟩, by exact Imp.arr (by repeat (first|exact Arr.nil|exact Arr.stop|refine Arr.cons (by repeat constructor) ?_|refine Arr.skip ?_))⟩
end Go.Sl

/- octet: numbers of uint64 as bytes: width, PutLittle. -/
set_option maxHeartbeats 4000000
set_option maxRecDepth 10000
set_option linter.unusedVariables false
set_option linter.unusedSimpArgs false
namespace Go.Sl
open Go Go.Proofs
attribute [local irreducible] pt old pur ex all den denOps denS xOps xC cX CX xthen xblk xcut xloop xng retX resX Calls PV Rd Con
theorem width64_x : Con Tryz.prog 121 [] [] (fun r M => r = nvv 8 ∧ M = []) := by
  refine fn_x Tryz.func121 rfl rfl rfl Tryz.mixed (by kernel_rfl) ?_
  intro w0
  refine Y4 ?_
  refine Zhg (Zlv rfl) ?_
  refine Zhg (Zll rfl) ?_
  refine V5 ?_
  refine Zgo [(1, 2), (5, 12)] (by kernel_rfl) (fun i : Nat => i ≤ 8) (fun _ => []) (fun i => [(1, u64b ((~~~ (BitVec.ofInt 64 0)) >>> (8 * i))), (2, nvv i)]) (fun i => 8 - i) 0 (by omega) qI ⟨rfl, rfl, trivial⟩ ?_
  intro i u hi
  have hz : ∀ j : Fin (8 + 1), (~~~ (BitVec.ofInt 64 0)) >>> (8 * j.val) = 0#64 ↔ j.val = 8 := by decide
  have hs : ∀ j : Fin 8, (~~~ (BitVec.ofInt 64 0)) >>> (8 * j.val) >>> 7 >>> 1 = (~~~ (BitVec.ofInt 64 0)) >>> (8 * (j.val + 1)) := by decide
  by_cases hB : i = 8
  · subst hB
    refine Y2 ?_
    refine Zhg (Zlo (y := 0#64) rfl rfl) ?_
    refine Zhn 6 rfl (decide_eq_false ((fun h => h ((hz ⟨8, by omega⟩).2 rfl)))) ?_
    refine V6 ?_
    refine rx1 (Zg9 rfl (Zg7)) ?_
    exact ⟨_, ⟨rfl, rfl⟩, by exact Imp.arr (by repeat (first|exact Arr.nil|exact Arr.stop|refine Arr.cons (by repeat constructor) ?_|refine Arr.skip ?_))⟩
  · refine Y2 ?_
    refine Zhg (Zlo (y := 0#64) rfl rfl) ?_
    refine Zhm 6 rfl (decide_eq_true ((fun h => hB ((hz ⟨i, by omega⟩).1 h)))) ?_
    refine Y4 ?_
    refine Zhg (Zlk (m := 7) rfl rfl) ?_
    refine Y4 ?_
    refine Zhg (Zlk (m := 1) rfl rfl) ?_
    refine V7 ?_
    have e := hs ⟨i, by omega⟩
    dsimp only at e
    exact Zgl (i + 1) qO (by omega) qI ⟨by rw [← e]; rfl, rfl, trivial⟩
theorem put64_x {L : List Asrt} {v : Value} {b : List Byte} (x : BitVec 64) (h : Bs L v b) (hb : b.length ≤ 140737488355000) :
    Con Tryz.prog 104 [v, u64b x] L (fun r M => ∃ a c, r = .slice a (b ++ leB x 8).length c ∧ M = own 5 1 r (b ++ leB x 8).length ((b ++ leB x 8).map u8b) :: L) := by
  refine Con.get (fun w0 w F H => h.sh _ _ _ H) ?_
  rintro ⟨va, vc, rfl, hvc, hvcm⟩
  refine fn_x Tryz.func104 rfl rfl rfl Tryz.mixed (by kernel_rfl) ?_
  intro w0
  refine Y4 ?_
  refine Zh8 rfl (by kernel_rfl) (width64_x) rfl qT ?_
  rintro _ _ ⟨rfl, rfl⟩
  refine Y10 ?_
  refine Zm3 (f := u8b) (a := 0#8) rfl rfl rfl qS qS qS ?_; intro b15
  refine Y5 ?_
  refine Zib rfl rfl (h.rd.imp Imp.tail) qR qZ qN (copy_pre b 8) ?_
  refine V1 ?_
  refine Zgp (Imp.own_mk (n := b.length) (cap := b.length + 8) (size := 1) (xs := b.map u8b) (by omega) (by omega) (by simp) (by simp)) ?_
  refine V4 ?_
  refine Zgo [(6, 7), (20, 31)] (by kernel_rfl) (fun s : Nat × Option Addr × Nat => s.1 ≤ 8) (fun s => own 5 1 (.slice s.2.1 (b ++ leB x s.1).length s.2.2) (b ++ leB x s.1).length ((b ++ leB x s.1).map u8b) :: L)
    (fun s => [(20, nvv s.1), (6, .slice s.2.1 (b ++ leB x s.1).length s.2.2)]) (fun s => 8 - s.1) (0, some ⟨b15, 0, none⟩, b.length + 8) (by show 0 ≤ _; omega) (by show Imp _ (own _ _ (.slice _ (b ++ []).length _) (b ++ []).length ((b ++ []).map u8b) :: L); rw [List.append_nil]; exact qI) ⟨rfl, by show _ = Value.slice _ (b ++ []).length _; rw [List.append_nil]; rfl, trivial⟩ ?_
  rintro ⟨i, a, c⟩ u hi
  dsimp only at hi ⊢
  have hll : (b ++ leB x i).length = b.length + i := by simp [leB_len]
  refine V3 ?_
  refine Zgg rfl (fun hB => ?_) (fun hB => ?_)
  · refine Y8 ?_
    first|refine Zhg (Zmc (a := 8) rfl rfl) ?_|refine Zhg (Zbi rfl rfl) ?_
    refine Zhg (Zlk rfl rfl) ?_
    refine Zhg (Zlx rfl) ?_
    refine Zh7 (cs := #[.int .u8 _]) (by omega) (by omega) rfl ?_; intro b29
    refine Zia rfl rfl qH (Rd.cl (xs := [u8b ((x >>> (8 * i)).setWidth 8)]) qH rfl qZ rfl) qN (by omega) qS ?_; intro a3 c3
    refine V6 ?_
    have e : (b ++ leB x i) ++ [(x >>> (8 * i)).setWidth 8] = b ++ leB x (i + 1) := by rw [leB_succ, List.append_assoc]
    have e2 : (b ++ leB x i).map u8b ++ [u8b ((x >>> (8 * i)).setWidth 8)] = (b ++ leB x (i + 1)).map u8b := by rw [← e]; simp only [List.map_append, List.map_cons, List.map_nil]
    have e3 : (b ++ leB x i).length + 1 = (b ++ leB x (i + 1)).length := by rw [← e]; simp only [List.length_append, List.length_cons, List.length_nil]
    rw [e2, e3]
    exact Zgl (i + 1, a3, c3) qO qO qI ⟨rfl, rfl, trivial⟩
  · have hie : i = 8 := by omega
    subst hie
    refine V4 ?_
    refine rx1 (Zhc rfl (Zg7)) ?_
    exact ⟨_, ⟨a, c, rfl, rfl⟩, by exact Imp.arr (by repeat (first|exact Arr.nil|exact Arr.stop|refine Arr.cons (by repeat constructor) ?_|refine Arr.skip ?_))⟩
end Go.Sl

/- octet: a number of uint32 out of its bytes; mask: Bit, Zero, Same; bits: RotateLeft32. -/
set_option maxHeartbeats 4000000
set_option maxRecDepth 10000
set_option linter.unusedVariables false
set_option linter.unusedSimpArgs false
namespace Go.Sl
open Go Go.Proofs
attribute [local irreducible] pt old pur ex all den denOps denS xOps xC cX CX xthen xblk xcut xloop xng retX resX Calls PV Rd Con
theorem fits32_x {L : List Asrt} {v : Value} {b : List Byte} (h : Bs L v b) (hb : b.length = 4) : Con Tryz.prog 190 [v] L (fun r M => r = nvv 0 ∧ L = M) := by
  refine Con.get (fun w0 w F H => h.sh _ _ _ H) ?_
  rintro ⟨va, vc, rfl, hvc, hvcm⟩
  refine fn_x Tryz.func190 rfl rfl rfl Tryz.mixed (by kernel_rfl) ?_
  intro w0
  refine Y4 ?_
  refine Zh8 rfl (by kernel_rfl) (width32_x) rfl qT ?_
  rintro _ _ ⟨rfl, rfl⟩
  refine Y8 ?_
  refine Zhn 8 rfl (decide_eq_false (by omega)) ?_
  refine Y7 ?_
  refine Zhn 12 rfl (decide_eq_false (by omega)) ?_
  refine V5 ?_
  refine rx1 (Zg9 rfl (Zg7)) ?_
  exact ⟨_, ⟨rfl, rfl⟩, by exact Imp.arr (by repeat (first|exact Arr.nil|exact Arr.stop|refine Arr.cons (by repeat constructor) ?_|refine Arr.skip ?_))⟩
theorem low32_x {L : List Asrt} {v : Value} {b : List Byte} (h : Bs L v b) (hb : b.length ≤ 140737488355000) : Con Tryz.prog 117 [v] L (fun r M => r = u32b (lowB 32 b) ∧ L = M) := by
  refine Con.get (fun w0 w F H => h.sh _ _ _ H) ?_
  rintro ⟨va, vc, rfl, hvc, hvcm⟩
  refine fn_x Tryz.func117 rfl rfl rfl Tryz.mixed (by kernel_rfl) ?_
  intro w0
  refine V11 ?_
  refine Zgo [(3, 5), (8, 20)] (by kernel_rfl) (fun i : Nat => i ≤ b.length) (fun _ => L) (fun i => [(3, u32b (lowB 32 (b.take i))), (8, nvv i)]) (fun i => b.length - i) 0 (by omega) qI ⟨by rw [List.take_zero]; rfl, rfl, trivial⟩ ?_
  intro i u hi
  refine V3 ?_
  refine Zgg rfl (fun hB => ?_) (fun hB => ?_)
  · refine Zgt (fun F w H => h.some (by omega) H) ?_
    rintro ⟨a1, a2, rfl⟩
    refine Y3 ?_
    refine Zff rfl (h.rd.at hB (getM hB)) ?_
    refine Y6 ?_
    refine Zhg (Zjw rfl) ?_
    refine Y1 ?_
    first|refine Zhg (Zmc (a := 8) rfl rfl) ?_|refine Zhg (Zbi rfl rfl) ?_
    refine Zhg (Zku rfl rfl) ?_
    refine V7 ?_
    have e : lowB 32 (b.take (i + 1)) = lowB 32 (b.take i) ||| (b[i].setWidth 32) <<< (8 * i) := by
      rw [List.take_succ_eq_append_getElem hB, lowB_snoc, List.length_take, Nat.min_eq_left hi]
    exact Zgl (i + 1) qO (by omega) qI ⟨by rw [e]; rfl, rfl, trivial⟩
  · have hie : i = b.length := by omega
    subst hie
    rw [List.take_length]
    refine V4 ?_
    refine rx1 (Zg9 rfl (Zg7)) ?_
    exact ⟨_, ⟨rfl, rfl⟩, by exact Imp.arr (by repeat (first|exact Arr.nil|exact Arr.stop|refine Arr.cons (by repeat constructor) ?_|refine Arr.skip ?_))⟩
theorem little32_x {L : List Asrt} {v : Value} {b : List Byte} (h : Bs L v b) (hb : b.length = 4) : Con Tryz.prog 184 [v] L (fun r M => r = .tuple #[u32b (lowB 32 b), nvv 0] ∧ L = M) := by
  refine Con.get (fun w0 w F H => h.sh _ _ _ H) ?_
  rintro ⟨va, vc, rfl, hvc, hvcm⟩
  refine fn_x Tryz.func184 rfl rfl rfl Tryz.mixed (by kernel_rfl) ?_
  intro w0
  refine Y6 ?_
  refine Zh8 rfl (by kernel_rfl) (fits32_x h hb) rfl qT ?_
  rintro _ _ ⟨rfl, rfl⟩
  refine Y6 ?_
  refine Zhn 8 rfl (rfl) ?_
  refine Y4 ?_
  refine Zh8 rfl (by kernel_rfl) (low32_x h (by omega)) rfl qT ?_
  rintro _ _ ⟨rfl, rfl⟩
  refine V4 ?_
  refine rx2 (Zg9 rfl (Zg9 rfl (Zg7))) ?_
  exact ⟨_, ⟨rfl, rfl⟩, by exact Imp.arr (by repeat (first|exact Arr.nil|exact Arr.stop|refine Arr.cons (by repeat constructor) ?_|refine Arr.skip ?_))⟩
theorem bit_x (x : BitVec 64) : Con Tryz.prog 164 [u64b x] [] (fun r M => r = u64b (0#64 - (x &&& 1#64)) ∧ M = []) := by
  refine fn_x Tryz.func164 rfl rfl rfl Tryz.mixed (by kernel_rfl) ?_
  intro w0
  refine Y5 ?_
  refine Zhg (Zlf (y := 1#64) rfl rfl) ?_
  refine Zhg (Zld (x := 0#64) rfl rfl) ?_
  refine V2 ?_
  refine rx1 (Zg9 rfl (Zg7)) ?_
  exact ⟨_, ⟨rfl, rfl⟩, by exact Imp.arr (by repeat (first|exact Arr.nil|exact Arr.stop|refine Arr.cons (by repeat constructor) ?_|refine Arr.skip ?_))⟩
def zeroB (x : BitVec 64) : BitVec 64 := 0#64 - ((((x ||| (0#64 - x)) >>> 63) ^^^ 1#64) &&& 1#64)
theorem zero_x (x : BitVec 64) : Con Tryz.prog 144 [u64b x] [] (fun r M => r = u64b (zeroB x) ∧ M = []) := by
  refine fn_x Tryz.func144 rfl rfl rfl Tryz.mixed (by kernel_rfl) ?_
  intro w0
  refine Y6 ?_
  refine Zhg (Zld (x := 0#64) rfl rfl) ?_
  refine Y1 ?_
  refine Zhg (Zlk (m := 63) rfl rfl) ?_
  refine Zhg (Zlh (y := 1#64) rfl rfl) ?_
  refine Zh8 rfl (by kernel_rfl) (bit_x _) rfl qT ?_
  rintro _ _ ⟨rfl, rfl⟩
  refine V3 ?_
  refine rx1 (Zg9 rfl (Zg7)) ?_
  exact ⟨_, ⟨rfl, rfl⟩, by exact Imp.arr (by repeat (first|exact Arr.nil|exact Arr.stop|refine Arr.cons (by repeat constructor) ?_|refine Arr.skip ?_))⟩
/-- All unlike bits of two lists of bytes. -/
def offB (a b : List Byte) : BitVec 64 := (List.zip a b).foldl (fun (d : BitVec 64) (x : Byte × Byte) => d ||| (x.1 ^^^ x.2).setWidth 64) 0#64
theorem offB_take {a b : List Byte} {i : Nat} (ha : i < a.length) (hb : i < b.length) : offB (a.take (i + 1)) (b.take (i + 1)) = offB (a.take i) (b.take i) ||| (a[i] ^^^ b[i]).setWidth 64 := by
  unfold offB
  rw [List.take_succ_eq_append_getElem ha, List.take_succ_eq_append_getElem hb, List.zip_append (by simp; omega), List.foldl_append]
  rfl
theorem zeroB_byte (x : Byte) : zeroB (x.setWidth 64) = if x = 0#8 then 18446744073709551615#64 else 0#64 := by
  have h : ∀ n : Fin 256, zeroB ((BitVec.ofFin n : Byte).setWidth 64) = if (BitVec.ofFin n : Byte) = 0#8 then 18446744073709551615#64 else 0#64 := by decide +kernel
  exact h x.toFin
theorem offB_byte : ∀ (a b : List Byte) (d : Byte), ∃ e : Byte, (List.zip a b).foldl (fun (d : BitVec 64) (x : Byte × Byte) => d ||| (x.1 ^^^ x.2).setWidth 64) (d.setWidth 64) = e.setWidth 64 ∧ (e = 0#8 ↔ d = 0#8 ∧ ∀ x ∈ List.zip a b, x.1 = x.2)
  | [], b, d => ⟨d, by simp, by simp⟩
  | x :: a, [], d => ⟨d, by simp, by simp⟩
  | x :: a, y :: b, d => by
    obtain ⟨e, h1, h2⟩ := offB_byte a b (d ||| (x ^^^ y))
    refine ⟨e, ?_, ?_⟩
    · rw [List.zip_cons_cons, List.foldl_cons, ← h1, BitVec.setWidth_or]
    · rw [h2]
      have e1 : (d ||| (x ^^^ y)) = 0#8 ↔ d = 0#8 ∧ x = y := by
        constructor
        · intro h
          have hd : d = 0#8 := by
            apply BitVec.eq_of_getLsbD_eq
            intro i hi
            have := congrArg (fun z => z.getLsbD i) h
            simp only [BitVec.getLsbD_or, BitVec.getLsbD_zero, Bool.or_eq_false_iff] at this
            rw [this.1]; simp
          rw [hd, BitVec.zero_or] at h
          refine ⟨hd, ?_⟩
          have := congrArg (fun z => z ^^^ y) h
          simp only [BitVec.xor_assoc, BitVec.xor_self, BitVec.xor_zero, BitVec.zero_xor] at this
          exact this
        · rintro ⟨rfl, rfl⟩; simp
      rw [e1, List.zip_cons_cons]
      simp only [List.mem_cons, forall_eq_or_imp]
      constructor
      · rintro ⟨⟨h1, h2⟩, h3⟩; exact ⟨h1, h2, h3⟩
      · rintro ⟨h1, h2, h3⟩; exact ⟨⟨h1, h2⟩, h3⟩
theorem zip_all_eq : ∀ (a b : List Byte), a.length = b.length → ((∀ x ∈ List.zip a b, x.1 = x.2) ↔ a = b)
  | [], [], _ => by simp
  | x :: a, y :: b, h => by
    have ih := zip_all_eq a b (by simpa using h)
    rw [List.zip_cons_cons]
    simp only [List.mem_cons, forall_eq_or_imp, ih, List.cons.injEq]
  | [], _ :: _, h => by simp at h
  | _ :: _, [], h => by simp at h
theorem same_val (a b : List Byte) (h : a.length = b.length) : zeroB (offB a b) = if a = b then 18446744073709551615#64 else 0#64 := by
  obtain ⟨e, h1, h2⟩ := offB_byte a b 0#8
  unfold offB
  rw [show (0#64 : BitVec 64) = (0#8 : Byte).setWidth 64 by decide, h1, zeroB_byte]
  have : e = 0#8 ↔ a = b := by rw [h2, zip_all_eq a b h]; simp
  by_cases hab : a = b
  · rw [if_pos hab, if_pos (this.2 hab)]
  · rw [if_neg hab, if_neg (fun h => hab (this.1 h))]; decide
theorem same_x {L : List Asrt} {va vb : Value} {a b : List Byte} (ha : Bs L va a) (hb : Bs L vb b) (hl : a.length = b.length) : Con Tryz.prog 119 [va, vb] L (fun r M => r = u64b (if a = b then 18446744073709551615#64 else 0#64) ∧ L = M) := by
  rw [← same_val a b hl]
  refine Con.get (fun w0 w F H => ha.sh _ _ _ H) ?_
  rintro ⟨aa, ac, rfl, hac, hacm⟩
  refine Con.get (fun w0 w F H => hb.sh _ _ _ H) ?_
  rintro ⟨ba, bc, rfl, hbc, hbcm⟩
  refine fn_x Tryz.func119 rfl rfl rfl Tryz.mixed (by kernel_rfl) ?_
  intro w0
  refine Y9 ?_
  refine Zhn 11 rfl (decide_eq_false ((fun h => h hl))) ?_
  refine V10 ?_
  refine Zgo [(5, 6), (14, 29)] (by kernel_rfl) (fun i : Nat => i ≤ a.length) (fun _ => L) (fun i => [(5, u64b (offB (a.take i) (b.take i))), (14, nvv i)]) (fun i => a.length - i) 0 (by omega) qI ⟨by rw [List.take_zero, List.take_zero]; rfl, rfl, trivial⟩ ?_
  intro i u hi
  refine V3 ?_
  refine Zgg rfl (fun hB => ?_) (fun hB => ?_)
  · refine Zgt (fun F w H => ha.some (by omega) H) ?_
    rintro ⟨a1, a2, rfl⟩
    refine Zgt (fun F w H => hb.some (by omega) H) ?_
    rintro ⟨a3, a4, rfl⟩
    have hB2 : i < b.length := by omega
    refine V4 ?_
    refine Zij (_) [8] (.q 0 (.q 1 (.q 2 (.q 3 (.q 5 (.q 6 (.q 7 (.r 4 (.r 8 (.q 9 (.q 10 (.q 11 (.q 12 .nil))))))))))))) (by kernel_rfl) (by kernel_rfl) (Imp.refl _) ?_
    refine W7 ?_
    refine Zfh rfl rfl (ha.rd.at hB (getM hB)) ?_
    refine Zfh rfl rfl (hb.rd.at hB2 (getM hB2)) ?_
    refine W1 ?_
    refine Zim rfl (Zjx rfl) ?_
    refine W3 ?_
    refine V4 ?_
    exact Zgl (i + 1) qO (by omega) qI ⟨by rw [offB_take hB hB2]; rfl, rfl, trivial⟩
  · have hie : i = a.length := by omega
    rw [List.take_of_length_le (by omega), List.take_of_length_le (by omega)]
    refine Y2 ?_
    refine Zh8 rfl (by kernel_rfl) (zero_x _) rfl qT ?_
    rintro _ _ ⟨rfl, rfl⟩
    refine V3 ?_
    refine rx1 (Zg9 rfl (Zg7)) ?_
    exact ⟨_, ⟨rfl, rfl⟩, by exact Imp.arr (by repeat (first|exact Arr.nil|exact Arr.stop|refine Arr.cons (by repeat constructor) ?_|refine Arr.skip ?_))⟩
theorem rotl_x (x : Wd) (n : Nat) (hn : n = 7 ∨ n = 8 ∨ n = 12 ∨ n = 16) : Con Tryz.prog 185 [u32b x, nvv n] [] (fun r M => r = u32b (rotW x n) ∧ M = []) := by
  refine fn_x Tryz.func185 rfl rfl rfl Tryz.mixed (by kernel_rfl) ?_
  intro w0
  refine Y5 ?_
  refine Zhg (Zlv rfl) ?_
  refine Zhg (Zlf (y := 31#64) rfl rfl) ?_
  refine Y5 ?_
  refine Zhg (Zku rfl rfl) ?_
  refine Y2 ?_
  refine Zhg (Zld (x := 32#64) rfl rfl) ?_
  refine Zhg (Zkv rfl rfl) ?_
  refine V3 ?_
  refine rx1 (Zg9 rfl (Zg7)) ?_
  rcases hn with rfl|rfl|rfl|rfl <;> exact ⟨_, ⟨rfl, rfl⟩, qI⟩
end Go.Sl

/- stream: the quarter round, words, the state, two rounds, walked. -/
set_option maxHeartbeats 4000000
set_option maxRecDepth 10000
set_option linter.unusedVariables false
set_option linter.unusedSimpArgs false
namespace Go.Sl
open Go Go.Proofs
attribute [local irreducible] pt old pur ex all den denOps denS xOps xC cX CX xthen xblk xcut xloop xng retX resX Calls PV Rd Con
theorem quarter_x (a b c d : Wd) : Con Tryz.prog 177 [u32b a, u32b b, u32b c, u32b d] [] (fun r M => r = .tuple #[u32b (quarterW a b c d).1, u32b (quarterW a b c d).2.1, u32b (quarterW a b c d).2.2.1, u32b (quarterW a b c d).2.2.2] ∧ M = []) := by
  refine fn_x Tryz.func177 rfl rfl rfl Tryz.mixed (by kernel_rfl) ?_
  intro w0
  refine Y20 ?_
  refine Zh8 rfl (by kernel_rfl) (rotl_x _ 16 (by omega)) rfl qT ?_
  rintro _ _ ⟨rfl, rfl⟩
  refine Y17 ?_
  refine Zh8 rfl (by kernel_rfl) (rotl_x _ 12 (by omega)) rfl qT ?_
  rintro _ _ ⟨rfl, rfl⟩
  refine Y17 ?_
  refine Zh8 rfl (by kernel_rfl) (rotl_x _ 8 (by omega)) rfl qT ?_
  rintro _ _ ⟨rfl, rfl⟩
  refine Y17 ?_
  refine Zh8 rfl (by kernel_rfl) (rotl_x _ 7 (by omega)) rfl qT ?_
  rintro _ _ ⟨rfl, rfl⟩
  refine V13 ?_
  refine rx4 (Zg9 rfl (Zg9 rfl (Zg9 rfl (Zg9 rfl (Zg7))))) ?_
  exact ⟨_, ⟨rfl, rfl⟩, by exact Imp.arr (by repeat (first|exact Arr.nil|exact Arr.stop|refine Arr.cons (by repeat constructor) ?_|refine Arr.skip ?_))⟩
theorem word_x {L : List Asrt} {v : Value} {b : List Byte} (h : Bs L v b) (hb : b.length = 4) : Con Tryz.prog 176 [v] L (fun r M => r = u32b (lowB 32 b) ∧ L = M) := by
  refine Con.get (fun w0 w F H => h.sh _ _ _ H) ?_
  rintro ⟨va, vc, rfl, hvc, hvcm⟩
  refine fn_x Tryz.func176 rfl rfl rfl Tryz.mixed (by kernel_rfl) ?_
  intro w0
  refine Y5 ?_
  refine Zh8 rfl (by kernel_rfl) (little32_x h hb) rfl qT ?_
  rintro _ _ ⟨rfl, rfl⟩
  refine V11 ?_
  refine rx1 (Zg9 rfl (Zg7)) ?_
  exact ⟨_, ⟨rfl, rfl⟩, by exact Imp.arr (by repeat (first|exact Arr.nil|exact Arr.stop|refine Arr.cons (by repeat constructor) ?_|refine Arr.skip ?_))⟩
def st0 : List Wd := [1634760805#32, 857760878#32, 2036477234#32, 1797285236#32]
/-- The state while it is filled. -/
def stK (key : List Byte) (n : Nat) : List Wd := st0 ++ ((List.range n).map (fun i => lowB 32 ((key.drop (4 * i)).take 4)) ++ List.replicate (12 - n) 0#32)
def stN (key : List Byte) (ctr : Wd) (nonce : List Byte) (n : Nat) : List Wd := st0 ++ ((List.range 8).map (fun i => lowB 32 ((key.drop (4 * i)).take 4)) ++ (ctr :: ((List.range n).map (fun i => lowB 32 ((nonce.drop (4 * i)).take 4)) ++ List.replicate (3 - n) 0#32)))
theorem stK_len (key : List Byte) (n : Nat) (h : n ≤ 8) : (stK key n).length = 16 := by simp [stK, st0]; omega
theorem stN_len (key : List Byte) (ctr : Wd) (nonce : List Byte) (n : Nat) (h : n ≤ 3) : (stN key ctr nonce n).length = 16 := by simp [stN, st0]; omega
theorem stK_set (key : List Byte) (n : Nat) (h : n < 8) : (stK key n).set (4 + n) (lowB 32 ((key.drop (4 * n)).take 4)) = stK key (n + 1) := by
  unfold stK
  rw [List.set_append_right _ _ (by simp [st0]), List.set_append_right _ _ (by simp [st0])]
  simp only [st0, List.length_cons, List.length_nil, List.length_map, List.length_range]
  rw [show 4 + n - (0 + 1 + 1 + 1 + 1) - n = 0 by omega, show 12 - n = (12 - (n + 1)) + 1 by omega, List.replicate_succ, List.set_cons_zero, List.range_succ, List.map_append, List.append_assoc]
  rfl
theorem stK_ctr (key : List Byte) (ctr : Wd) (nonce : List Byte) : (stK key 8).set 12 ctr = stN key ctr nonce 0 := rfl
theorem stN_set (key : List Byte) (ctr : Wd) (nonce : List Byte) (n : Nat) (h : n < 3) : (stN key ctr nonce n).set (13 + n) (lowB 32 ((nonce.drop (4 * n)).take 4)) = stN key ctr nonce (n + 1) := by
  match n, h with
  | 0, _ => rfl
  | 1, _ => rfl
  | 2, _ => rfl
theorem stN_end (key : List Byte) (ctr : Wd) (nonce : List Byte) : stN key ctr nonce 3 = stateW key ctr nonce := rfl
attribute [local irreducible] lowB stK stN
theorem state_x (key : List Byte) (ctr : Wd) (nonce : List Byte) (hk : key.length = 32) (hn : nonce.length = 12) : Con Tryz.prog 158 [.agg (key.map u8b).toArray, u32b ctr, .agg (nonce.map u8b).toArray] [] (fun r M => r = .agg ((stateW key ctr nonce).map u32b).toArray ∧ M = []) := by
  have hk0 : stK key 0 = [1634760805#32, 857760878#32, 2036477234#32, 1797285236#32, 0#32, 0#32, 0#32, 0#32, 0#32, 0#32, 0#32, 0#32, 0#32, 0#32, 0#32, 0#32] := by unfold stK; rfl
  refine fn_x Tryz.func158 rfl rfl rfl Tryz.mixed (by kernel_rfl) ?_
  intro w0
  refine Y1 ?_
  refine Zh5 rfl ?_; intro b3
  refine Zh5 rfl ?_; intro b5
  refine Zhz (cs := ((List.replicate 16 0#32).map u32b).toArray) rfl ?_; intro b6
  refine Y2 ?_
  refine Zhg (Zdn (cs := #[u32b 1634760805#32, u32b 857760878#32, u32b 2036477234#32, u32b 1797285236#32, u32b 0#32, u32b 0#32, u32b 0#32, u32b 0#32, u32b 0#32, u32b 0#32, u32b 0#32, u32b 0#32, u32b 0#32, u32b 0#32, u32b 0#32, u32b 0#32]) (by kernel_rfl)) ?_
  refine Zhz (cs := ((List.replicate 16 0#32).map u32b).toArray) rfl ?_; intro b7
  first|refine Zhy rfl rfl qR qZ qN qZ ?_|refine Zhx rfl rfl qR qZ qN qZ rfl ?_
  refine V4 ?_
  refine Zgo [(8, 8), (11, 24)] (by kernel_rfl) (fun i : Nat => i ≤ 8) (fun i => [cl b7 ((stK key i).map u32b).toArray 229, cl b6 ((List.replicate 16 0#32).map u32b).toArray 229, cl b5 (nonce.map u8b).toArray 63, cl b3 (key.map u8b).toArray 23])
    (fun i => [(11, nvv i)]) (fun i => 8 - i) 0 (by omega) (by rw [hk0]; exact qI) ⟨rfl, trivial⟩ ?_
  intro i u hi
  have hkl := stK_len key i hi
  refine V3 ?_
  refine Zgg rfl (fun hB => ?_) (fun hB => ?_)
  · refine Y6 ?_
    first|refine Zhg (Zma (a := 4) rfl rfl) ?_|refine Zhg (Zbg rfl rfl) ?_
    refine Y1 ?_
    first|refine Zhg (Zmc (a := 4) rfl rfl) ?_|refine Zhg (Zbi rfl rfl) ?_
    refine Y1 ?_
    first|refine Zhg (Zmc (a := 4) rfl rfl) ?_|refine Zhg (Zbi rfl rfl) ?_
    refine Y1 ?_
    first|refine Zhg (Zm9 (l := 4 * i) (h := 4 * i + 4) rfl qB qB) ?_|refine Zhg (Zmx (l := 4 * i) (h := 4 * i + 4) rfl qB qB) ?_
    refine Zh8 rfl (by kernel_rfl) (word_x (L := [cl b3 (key.map u8b).toArray 23]) (b := (key.drop (4 * i)).take (4 * i + 4 - 4 * i)) (bs_piece (o := 4 * i) (n := 4 * i + 4 - 4 * i) (c := 32 - 4 * i) qH (by omega) (by omega) (by omega)) (by simp; omega)) rfl qT ?_
    rintro _ _ ⟨rfl, rfl⟩
    refine Y1 ?_
    first|refine Zhg (Zl5 (n := 4 + i) rfl (int_eq (by push_cast; omega))) ?_|refine Zhg (Zl3 (n := 4 + i) rfl (int_eq (by push_cast; omega))) ?_
    refine Zht rfl rfl qR qZ (setL (f := u32b) (l := stK key i)) ?_
    refine V1 ?_
    rw [show 4 * i + 4 - 4 * i = 4 by omega, stK_set key i hB]
    refine V4 ?_
    exact Zgl (i + 1) qO (by omega) qI ⟨rfl, trivial⟩
  · have hie : i = 8 := by omega
    subst hie
    refine Y2 ?_
    first|refine Zhg (Zl5 (n := 12) rfl rfl) ?_|refine Zhg (Zl3 (n := 12) rfl rfl) ?_
    refine Zht rfl rfl qR qZ (setL (f := u32b) (l := stK key 8)) ?_
    refine V1 ?_
    rw [stK_ctr key ctr nonce]
    refine V3 ?_
    refine Zgo [(9, 9), (27, 40)] (by kernel_rfl) (fun i : Nat => i ≤ 3) (fun i => [cl b7 ((stN key ctr nonce i).map u32b).toArray 229, cl b6 ((List.replicate 16 0#32).map u32b).toArray 229, cl b5 (nonce.map u8b).toArray 63, cl b3 (key.map u8b).toArray 23])
      (fun i => [(27, nvv i)]) (fun i => 3 - i) 0 (by omega) qI ⟨rfl, trivial⟩ ?_
    intro i u2 hi
    have hkl := stN_len key ctr nonce i hi
    refine V3 ?_
    refine Zgg rfl (fun hB => ?_) (fun hB => ?_)
    · refine Y6 ?_
      first|refine Zhg (Zma (a := 13) rfl rfl) ?_|refine Zhg (Zbg rfl rfl) ?_
      refine Y1 ?_
      first|refine Zhg (Zmc (a := 4) rfl rfl) ?_|refine Zhg (Zbi rfl rfl) ?_
      refine Y1 ?_
      first|refine Zhg (Zmc (a := 4) rfl rfl) ?_|refine Zhg (Zbi rfl rfl) ?_
      refine Y1 ?_
      first|refine Zhg (Zm9 (l := 4 * i) (h := 4 * i + 4) rfl qB qB) ?_|refine Zhg (Zmx (l := 4 * i) (h := 4 * i + 4) rfl qB qB) ?_
      refine Zh8 rfl (by kernel_rfl) (word_x (L := [cl b5 (nonce.map u8b).toArray 63]) (b := (nonce.drop (4 * i)).take (4 * i + 4 - 4 * i)) (bs_piece (o := 4 * i) (n := 4 * i + 4 - 4 * i) (c := 12 - 4 * i) qH (by omega) (by omega) (by omega)) (by simp; omega)) rfl qT ?_
      rintro _ _ ⟨rfl, rfl⟩
      refine Y1 ?_
      first|refine Zhg (Zl5 (n := 13 + i) rfl (int_eq (by push_cast; omega))) ?_|refine Zhg (Zl3 (n := 13 + i) rfl (int_eq (by push_cast; omega))) ?_
      refine Zht rfl rfl qR qZ (setL (f := u32b) (l := stN key ctr nonce i)) ?_
      refine V1 ?_
      rw [show 4 * i + 4 - 4 * i = 4 by omega, stN_set key ctr nonce i hB]
      refine V4 ?_
      exact Zgl (i + 1) qO (by omega) qI ⟨rfl, trivial⟩
    · have hie : i = 3 := by omega
      subst hie
      rw [stN_end]
      have hsl := stateW_len key ctr nonce
      refine Y2 ?_
      first|refine Zhy rfl rfl qR qZ qN qZ ?_|refine Zhx rfl rfl qR qZ qN qZ rfl ?_
      refine V1 ?_
      refine rx1 (Zhe rfl qH qZ (Zg7)) ?_
      exact ⟨_, ⟨rfl, rfl⟩, by exact Imp.arr (by repeat (first|exact Arr.nil|exact Arr.stop|refine Arr.cons (by repeat constructor) ?_|refine Arr.skip ?_))⟩
end Go.Sl

/- octet: a reader of bytes: NewReader, take, U64, U32, Err, walked; low of uint64. -/
set_option maxHeartbeats 4000000
set_option maxRecDepth 10000
set_option linter.unusedVariables false
set_option linter.unusedSimpArgs false
namespace Go.Sl
open Go Go.Proofs
attribute [local irreducible] pt old pur ex all den denOps denS xOps xC cX CX xthen xblk xcut xloop xng retX resX Calls PV Rd Con
theorem low64_x {L : List Asrt} {v : Value} {b : List Byte} (h : Bs L v b) (hb : b.length ≤ 140737488355000) : Con Tryz.prog 115 [v] L (fun r M => r = u64b (lowB 64 b) ∧ L = M) := by
  refine Con.get (fun w0 w F H => h.sh _ _ _ H) ?_
  rintro ⟨va, vc, rfl, hvc, hvcm⟩
  refine fn_x Tryz.func115 rfl rfl rfl Tryz.mixed (by kernel_rfl) ?_
  intro w0
  refine V11 ?_
  refine Zgo [(3, 5), (8, 20)] (by kernel_rfl) (fun i : Nat => i ≤ b.length) (fun _ => L) (fun i => [(3, u64b (lowB 64 (b.take i))), (8, nvv i)]) (fun i => b.length - i) 0 (by omega) qI ⟨by rw [List.take_zero]; rfl, rfl, trivial⟩ ?_
  intro i u hi
  refine V3 ?_
  refine Zgg rfl (fun hB => ?_) (fun hB => ?_)
  · refine Zgt (fun F w H => h.some (by omega) H) ?_
    rintro ⟨a1, a2, rfl⟩
    refine Y3 ?_
    refine Zff rfl (h.rd.at hB (getM hB)) ?_
    refine Y6 ?_
    refine Zhg (Zjx rfl) ?_
    refine Y1 ?_
    first|refine Zhg (Zmc (a := 8) rfl rfl) ?_|refine Zhg (Zbi rfl rfl) ?_
    refine Zhg (Zlj rfl rfl) ?_
    refine V7 ?_
    have e : lowB 64 (b.take (i + 1)) = lowB 64 (b.take i) ||| (b[i].setWidth 64) <<< (8 * i) := by
      rw [List.take_succ_eq_append_getElem hB, lowB_snoc, List.length_take, Nat.min_eq_left hi]
    exact Zgl (i + 1) qO (by omega) qI ⟨by rw [e]; rfl, rfl, trivial⟩
  · have hie : i = b.length := by omega
    subst hie
    rw [List.take_length]
    refine V4 ?_
    refine rx1 (Zg9 rfl (Zg7)) ?_
    exact ⟨_, ⟨rfl, rfl⟩, by exact Imp.arr (by repeat (first|exact Arr.nil|exact Arr.stop|refine Arr.cons (by repeat constructor) ?_|refine Arr.skip ?_))⟩
/-- A reader's cells. -/
abbrev rdc (g o len c : Nat) : Array Value := #[.slice (some ⟨g, o, none⟩) len c, nvv 0]
theorem newReader_x {L : List Asrt} {v : Value} {b : List Byte} (h : Bs L v b) (hb : b.length ≤ 140737488351232) :
    Con Tryz.prog 99 [v] L (fun r M => ∃ p g, r = .pointer (some ⟨p, 0, none⟩) ∧ M = cl p (rdc g 0 b.length b.length) 174 :: cl g (b.map u8b).toArray 5 :: L) := by
  refine Con.get (fun w0 w F H => h.sh _ _ _ H) ?_
  rintro ⟨va, vc, rfl, hvc, hvcm⟩
  refine fn_x Tryz.func99 rfl rfl rfl Tryz.mixed (by kernel_rfl) ?_
  intro w0
  refine Y6 ?_
  refine Zm3 (f := u8b) (a := 0#8) rfl rfl rfl qS qS qS ?_; intro b6
  refine Y5 ?_
  refine Zib rfl rfl (h.rd.imp Imp.tail) qR qZ qN ((by have := copy_pre b 0; simpa using this)) ?_
  refine Y3 ?_
  refine Zhg (Zdm (cs := #[.slice _ _ _, .int .i64 0]) rfl) ?_
  refine Zh5 rfl ?_; intro b12
  refine V2 ?_
  refine rx1 (Zhb rfl (Zg7)) ?_
  exact ⟨_, ⟨b12, b6, rfl, rfl⟩, qI⟩
theorem take_x {p g o len c n : Nat} (hn : n ≤ len) (hc : n < c) (h0 : 0 < n) (hcm : c ≤ 9223372036854775807) (hlc : len ≤ c) :
    Con Tryz.prog 116 [.pointer (some ⟨p, 0, none⟩), nvv n] [cl p (rdc g o len c) 174] (fun r M => r = .slice (some ⟨g, o, none⟩) n n ∧ M = [cl p (rdc g (o + n) (len - n) (c - n)) 174]) := by
  refine fn_x Tryz.func116 rfl rfl rfl Tryz.mixed (by kernel_rfl) ?_
  intro w0
  refine Y12 ?_
  refine Zhn 13 rfl (decide_eq_false (by decide)) ?_
  refine Y6 ?_
  refine Zhn 17 rfl (decide_eq_false (by omega)) ?_
  refine Y11 ?_
  refine Zhn 28 rfl (decide_eq_false (by omega)) ?_
  refine Y9 ?_
  refine Zhn 36 rfl (decide_eq_false (by decide)) ?_
  refine Y9 ?_
  refine Zhg (Zns (h := n) rfl rfl rfl (by omega) h0) ?_
  refine Y9 ?_
  first|refine Zhg (Zna (l := n) (h := len) rfl qB qB) ?_|refine Zhg (Zmz (l := n) (h := len) rfl qB qB) ?_
  refine V8 ?_
  refine rx1 (Zhc rfl (Zg7)) ?_
  exact ⟨_, ⟨rfl, rfl⟩, qI⟩
theorem u64_x {p g o len c : Nat} (l : List Byte) (hl : o + 8 ≤ l.length) (hn : 8 ≤ len) (hc : 8 < c) (hcm : c ≤ 9223372036854775807) (hlc : len ≤ c) :
    Con Tryz.prog 100 [.pointer (some ⟨p, 0, none⟩)] [cl p (rdc g o len c) 174, cl g (l.map u8b).toArray 5] (fun r M => r = u64b (lowB 64 ((l.drop o).take 8)) ∧ M = [cl p (rdc g (o + 8) (len - 8) (c - 8)) 174, cl g (l.map u8b).toArray 5]) := by
  have hll : ((l.drop o).take 8).length = 8 := by simp; omega
  refine fn_x Tryz.func100 rfl rfl rfl Tryz.mixed (by kernel_rfl) ?_
  intro w0
  refine Y5 ?_
  refine Zh8 rfl (by kernel_rfl) (take_x (n := 8) hn hc (by omega) hcm hlc) rfl qT ?_
  rintro _ _ ⟨rfl, rfl⟩
  refine Y1 ?_
  refine Zh8 rfl (by kernel_rfl) (low64_x (L := [cl g (l.map u8b).toArray 5]) (b := (l.drop o).take 8) (bs_piece (o := o) (n := 8) (c := 8) .here hl (by omega) (by omega)) (by omega)) rfl qT ?_
  rintro _ _ ⟨rfl, rfl⟩
  refine V3 ?_
  refine rx1 (Zg9 rfl (Zg7)) ?_
  exact ⟨_, ⟨rfl, rfl⟩, qI⟩
theorem u32_x {p g o len c : Nat} (l : List Byte) (hl : o + 4 ≤ l.length) (hn : 4 ≤ len) (hc : 4 < c) (hcm : c ≤ 9223372036854775807) (hlc : len ≤ c) :
    Con Tryz.prog 101 [.pointer (some ⟨p, 0, none⟩)] [cl p (rdc g o len c) 174, cl g (l.map u8b).toArray 5] (fun r M => r = u32b (lowB 32 ((l.drop o).take 4)) ∧ M = [cl p (rdc g (o + 4) (len - 4) (c - 4)) 174, cl g (l.map u8b).toArray 5]) := by
  have hll : ((l.drop o).take 4).length = 4 := by simp; omega
  refine fn_x Tryz.func101 rfl rfl rfl Tryz.mixed (by kernel_rfl) ?_
  intro w0
  refine Y5 ?_
  refine Zh8 rfl (by kernel_rfl) (take_x (n := 4) hn hc (by omega) hcm hlc) rfl qT ?_
  rintro _ _ ⟨rfl, rfl⟩
  refine Y1 ?_
  refine Zh8 rfl (by kernel_rfl) (low32_x (L := [cl g (l.map u8b).toArray 5]) (b := (l.drop o).take 4) (bs_piece (o := o) (n := 4) (c := 4) .here hl (by omega) (by omega)) (by omega)) rfl qT ?_
  rintro _ _ ⟨rfl, rfl⟩
  refine V3 ?_
  refine rx1 (Zg9 rfl (Zg7)) ?_
  exact ⟨_, ⟨rfl, rfl⟩, qI⟩
theorem rerr_x {p g o len c : Nat} : Con Tryz.prog 102 [.pointer (some ⟨p, 0, none⟩)] [cl p (rdc g o len c) 174] (fun r M => r = nvv 0 ∧ M = [cl p (rdc g o len c) 174]) := by
  refine fn_x Tryz.func102 rfl rfl rfl Tryz.mixed (by kernel_rfl) ?_
  intro w0
  refine Y6 ?_
  refine Zhn 4 rfl (rfl) ?_
  refine V9 ?_
  refine rx1 (Zg9 rfl (Zg7)) ?_
  exact ⟨_, ⟨rfl, rfl⟩, qI⟩
end Go.Sl

/- stream: two rounds, a block, walked. -/
set_option maxHeartbeats 4000000
set_option maxRecDepth 10000
set_option linter.unusedVariables false
set_option linter.unusedSimpArgs false
namespace Go.Sl
open Go Go.Proofs
attribute [local irreducible] pt old pur ex all den denOps denS xOps xC cX CX xthen xblk xcut xloop xng retX resX Calls PV Rd Con
attribute [local irreducible] qAt twiceN quarterW
theorem getW {l : List Wd} (j : Nat) (h : j < l.length) : ((l.map u32b).toArray)[j]? = some (u32b (l.getD j 0#32)) := by
  rw [getL h, List.getD_eq_getElem?_getD, List.getElem?_eq_getElem h]; rfl
theorem qAt_is (s : List Wd) (a b c d : Nat) : qAt s (a, b, c, d) = (((s.set a (quarterW (s.getD a 0#32) (s.getD b 0#32) (s.getD c 0#32) (s.getD d 0#32)).1).set b (quarterW (s.getD a 0#32) (s.getD b 0#32) (s.getD c 0#32) (s.getD d 0#32)).2.1).set c (quarterW (s.getD a 0#32) (s.getD b 0#32) (s.getD c 0#32) (s.getD d 0#32)).2.2.1).set d (quarterW (s.getD a 0#32) (s.getD b 0#32) (s.getD c 0#32) (s.getD d 0#32)).2.2.2 := by
  unfold qAt; rfl
theorem twice_x (s : List Wd) (hs : s.length = 16) : Con Tryz.prog 159 [.agg (s.map u32b).toArray] [] (fun r M => r = .agg ((twiceW s).map u32b).toArray ∧ M = []) := by
  have ht0 : twiceN s 0 = s := by unfold twiceN; rfl
  have hl : ∀ n, (twiceN s n).length = 16 := fun n => by rw [twiceN_len, hs]
  refine fn_x Tryz.func159 rfl rfl rfl Tryz.mixed (by kernel_rfl) ?_
  intro w0
  refine Y1 ?_
  refine Zh5 rfl ?_; intro b1
  refine Zhz (cs := ((List.replicate 16 0#32).map u32b).toArray) rfl ?_; intro b2
  refine V4 ?_
  refine Zgo [(3, 58)] (by kernel_rfl) (fun t : Nat => t ≤ 2) (fun t => [cl b1 ((twiceN s (4 * t)).map u32b).toArray 229, cl b2 ((List.replicate 16 0#32).map u32b).toArray 229]) (fun t => [(8, nvv t)]) (fun t => 2 - t) 0 (by omega) (by rw [ht0]; exact qI) ⟨rfl, trivial⟩ ?_
  intro t u ht
  have hlt := hl (4 * t)
  refine V3 ?_
  refine Zgg rfl (fun hA => ?_) (fun hA => ?_)
  · refine V7 ?_
    refine Zgo [(4, 7), (11, 57)] (by kernel_rfl) (fun i : Nat => i ≤ 4) (fun i => [cl b1 ((twiceN s (4 * t + i)).map u32b).toArray 229, cl b2 ((List.replicate 16 0#32).map u32b).toArray 229]) (fun i => [(11, nvv i)]) (fun i => 4 - i) 0 (by omega) qI ⟨rfl, trivial⟩ ?_
    intro i u2 hi
    have hli := hl (4 * t + i)
    refine V3 ?_
    refine Zgg rfl (fun hB => ?_) (fun hB => ?_)
    · have h1 : (i + t) % 4 < 4 := Nat.mod_lt _ (by omega)
      have h2 : (i + 2 * t) % 4 < 4 := Nat.mod_lt _ (by omega)
      have h3 : (i + 3 * t) % 4 < 4 := Nat.mod_lt _ (by omega)
      have hsucc := twiceN_succ s (4 * t + i) (by omega)
      rw [show (4 * t + i) / 4 = t by omega, show (4 * t + i) % 4 = i by omega, quadOf, qAt_is] at hsucc
      generalize twiceN s (4 * t + i) = S at hli hsucc
      refine Y9 ?_
      first|refine Zhg (Zma (a := 4) rfl rfl) ?_|refine Zhg (Zbg rfl rfl) ?_
      refine Y2 ?_
      first|refine Zhg (Zmc (a := 2) rfl rfl) ?_|refine Zhg (Zbi rfl rfl) ?_
      refine Y2 ?_
      first|refine Zhg (Zma (a := 8) rfl rfl) ?_|refine Zhg (Zbg rfl rfl) ?_
      refine Y2 ?_
      first|refine Zhg (Zmc (a := 3) rfl rfl) ?_|refine Zhg (Zbi rfl rfl) ?_
      refine Y2 ?_
      first|refine Zhg (Zma (a := 12) rfl rfl) ?_|refine Zhg (Zbg rfl rfl) ?_
      refine V4 ?_
      refine Zij (_) [9, 12, 15] (.q 0 (.q 1 (.q 2 (.q 3 (.q 4 (.q 5 (.q 7 (.q 8 (.q 10 (.q 11 (.q 13 (.q 14 (.r 6 (.r 9 (.r 12 (.r 15 (.e 16 false (.q 17 (.q 18 (.q 19 (.q 20 (.q 21 (.q 22 (.e 23 false (.q 24 (.e 25 false (.q 26 (.e 27 false (.q 28 (.e 29 false .nil)))))))))))))))))))))))))))))) (by kernel_rfl) (by kernel_rfl) (Imp.refl _) ?_
      refine W5 ?_
      first|refine Zim rfl (Zl5 (n := i) rfl (int_eq (by push_cast; omega))) ?_|refine Zim rfl (Zl3 (n := i) rfl (int_eq (by push_cast; omega))) ?_
      refine W1 ?_
      first|refine Zim rfl (Zl5 (n := 4 + (i + t) % 4) rfl (int_eq (by push_cast; omega))) ?_|refine Zim rfl (Zl3 (n := 4 + (i + t) % 4) rfl (int_eq (by push_cast; omega))) ?_
      refine W1 ?_
      first|refine Zim rfl (Zl5 (n := 8 + (i + 2 * t) % 4) rfl (int_eq (by push_cast; omega))) ?_|refine Zim rfl (Zl3 (n := 8 + (i + 2 * t) % 4) rfl (int_eq (by push_cast; omega))) ?_
      refine W1 ?_
      first|refine Zim rfl (Zl5 (n := 12 + (i + 3 * t) % 4) rfl (int_eq (by push_cast; omega))) ?_|refine Zim rfl (Zl3 (n := 12 + (i + 3 * t) % 4) rfl (int_eq (by push_cast; omega))) ?_
      refine Ziv rfl rfl qH (getW i (by omega)) ?_
      refine Ziv rfl rfl qH (getW _ (by omega)) ?_
      refine Ziv rfl rfl qH (getW _ (by omega)) ?_
      refine Ziv rfl rfl qH (getW _ (by omega)) ?_
      refine Ziq rfl ?_
      refine Zh8 rfl (by kernel_rfl) (quarter_x _ _ _ _) rfl qT ?_
      rintro _ _ ⟨rfl, rfl⟩
      refine Y1 ?_
      refine Zg3 ⟨(fun hh => Bool.noConfusion hh), ?_⟩
      refine W5 ?_
      first|refine Zim rfl (Zl5 (n := i) rfl (int_eq (by push_cast; omega))) ?_|refine Zim rfl (Zl3 (n := i) rfl (int_eq (by push_cast; omega))) ?_
      refine Ziq rfl ?_
      refine Zht rfl rfl qR qZ (setL (f := u32b)) ?_
      refine Zg3 ⟨(fun hh => Bool.noConfusion hh), ?_⟩
      first|refine Zim rfl (Zl5 (n := 4 + (i + t) % 4) rfl (int_eq (by push_cast; omega))) ?_|refine Zim rfl (Zl3 (n := 4 + (i + t) % 4) rfl (int_eq (by push_cast; omega))) ?_
      refine Ziq rfl ?_
      refine Zht rfl rfl qR qZ (setL (f := u32b)) ?_
      refine Zg3 ⟨(fun hh => Bool.noConfusion hh), ?_⟩
      first|refine Zim rfl (Zl5 (n := 8 + (i + 2 * t) % 4) rfl (int_eq (by push_cast; omega))) ?_|refine Zim rfl (Zl3 (n := 8 + (i + 2 * t) % 4) rfl (int_eq (by push_cast; omega))) ?_
      refine Ziq rfl ?_
      refine Zht rfl rfl qR qZ (setL (f := u32b)) ?_
      refine Zg3 ⟨(fun hh => Bool.noConfusion hh), ?_⟩
      first|refine Zim rfl (Zl5 (n := 12 + (i + 3 * t) % 4) rfl (int_eq (by push_cast; omega))) ?_|refine Zim rfl (Zl3 (n := 12 + (i + 3 * t) % 4) rfl (int_eq (by push_cast; omega))) ?_
      refine Ziq rfl ?_
      refine Zht rfl rfl qR qZ (setL (f := u32b)) ?_
      refine Zg3 ⟨(fun hh => Bool.noConfusion hh), ?_⟩
      refine Zik ?_
      refine Ct.o ?_
      rw [← hsucc]
      refine V4 ?_
      exact Zgl (i + 1) qO (by omega) qI ⟨rfl, trivial⟩
    · have hie : i = 4 := by omega
      subst hie
      refine V4 ?_
      exact Zgl (t + 1) qO (by omega) qI ⟨rfl, trivial⟩
  · have hie : t = 2 := by omega
    subst hie
    refine Y2 ?_
    first|refine Zhy rfl rfl qR qZ qN qZ ?_|refine Zhx rfl rfl qR qZ qN qZ rfl ?_
    refine V1 ?_
    refine rx1 (Zhe rfl qH qZ (Zg7)) ?_
    exact ⟨_, ⟨by unfold twiceW; rfl, rfl⟩, qI⟩
/-- The block while it is filled. -/
def outK (s f : List Wd) (i : Nat) : List Byte := outW64 s f i ++ List.replicate (64 - 4 * i) 0#8
theorem outK_len (s f : List Wd) (i : Nat) (h : i ≤ 16) : (outK s f i).length = 64 := by simp [outK, outW64_len]; omega
theorem outK_wr (s f : List Wd) (i : Nat) (h : i < 16) (w : Wd) (hw : w = sumW s f i) : wr (((outK s f i).map u8b).toArray) (4 * i) ((([] ++ leB w 4).map u8b).take (min ([] ++ leB w 4).length (64 - 4 * i) * 1)) = ((outK s f (i + 1)).map u8b).toArray := by
  have hl := leB_len w 4
  have ho := outW64_len s f i
  rw [List.nil_append, hl, Nat.min_eq_left (by omega), Nat.mul_one, List.take_of_length_le (by simp [hl])]
  apply Array.ext'
  rw [wr_toList _ _ _ (by simp [hl, outK_len s f i (by omega)]; omega)]
  simp only [outK]
  rw [outW64_succ, ← hw, show 64 - 4 * i = 4 + (64 - 4 * (i + 1)) by omega, ← List.replicate_append_replicate]
  simp only [List.map_append, List.length_map, hl]
  rw [List.take_append_of_le_length (by simp [ho]), List.take_of_length_le (by simp [ho]), List.drop_append, List.drop_of_length_le (by simp [ho])]
  simp [ho, show 4 * i + 4 - 4 * i = 4 by omega]
attribute [local irreducible] outK outW64 stateW twiceW iterW
theorem block_x (key : List Byte) (ctr : Wd) (nonce : List Byte) (hk : key.length = 32) (hn : nonce.length = 12) : Con Tryz.prog 140 [.agg (key.map u8b).toArray, u32b ctr, .agg (nonce.map u8b).toArray] [] (fun r M => r = .agg ((blockB key ctr nonce).map u8b).toArray ∧ M = []) := by
  have hsl := stateW_len key ctr nonce
  have hsc := state_x key ctr nonce hk hn
  obtain ⟨S, hS⟩ : ∃ S, S = stateW key ctr nonce := ⟨_, rfl⟩
  rw [← hS] at hsl hsc
  have hi0 : iterW 0 S = S := by unfold iterW; rfl
  have his : ∀ n, iterW (n + 1) S = twiceW (iterW n S) := fun n => by conv => lhs; unfold iterW
  have hbl : blockB key ctr nonce = outK (iterW 10 S) S 16 := by unfold blockB outK; rw [← hS]; simp
  have hil : ∀ n, (iterW n S).length = 16 := fun n => by rw [iterW_len, hsl]
  have ho0 : outK (iterW 10 S) S 0 = List.replicate 64 0#8 := by unfold outK outW64; simp
  have hol := outK_len (iterW 10 S) S
  refine fn_x Tryz.func140 rfl rfl rfl Tryz.mixed (by kernel_rfl) ?_
  intro w0
  refine Y1 ?_
  refine Zh5 rfl ?_; intro b3
  refine Zh5 rfl ?_; intro b5
  refine Zhz (cs := ((List.replicate 64 0#8).map u8b).toArray) rfl ?_; intro b6
  refine Y5 ?_
  refine Zh8 rfl (by kernel_rfl) (hsc) rfl qT ?_
  rintro _ _ ⟨rfl, rfl⟩
  refine Y1 ?_
  refine Zhz (cs := ((List.replicate 16 0#32).map u32b).toArray) rfl ?_; intro b7
  first|refine Zhy rfl rfl qR qZ qN qZ ?_|refine Zhx rfl rfl qR qZ qN qZ rfl ?_
  refine Y3 ?_
  refine Zhz (cs := ((List.replicate 16 0#32).map u32b).toArray) rfl ?_; intro b8
  first|refine Zhy rfl rfl qR qZ qN qZ ?_|refine Zhx rfl rfl qR qZ qN qZ rfl ?_
  refine V4 ?_
  refine Zgo [(17, 21)] (by kernel_rfl) (fun i : Nat => i ≤ 10) (fun i => [cl b8 ((iterW i S).map u32b).toArray 229, cl b7 (S.map u32b).toArray 229, cl b6 ((List.replicate 64 0#8).map u8b).toArray 199])
    (fun i => [(17, nvv i)]) (fun i => 10 - i) 0 (by omega) (by rw [hi0]; exact qI) ⟨rfl, trivial⟩ ?_
  intro i u hi
  have hli := hil i
  refine V3 ?_
  refine Zgg rfl (fun hB => ?_) (fun hB => ?_)
  · have htl := twiceW_len (iterW i S)
    refine Y2 ?_
    refine Zh8 rfl (by kernel_rfl) (twice_x (iterW i S) hli) rfl qT ?_
    rintro _ _ ⟨rfl, rfl⟩
    refine Y1 ?_
    first|refine Zhy rfl rfl qR qZ qN qZ ?_|refine Zhx rfl rfl qR qZ qN qZ rfl ?_
    refine V1 ?_
    rw [← his]
    refine V4 ?_
    exact Zgl (i + 1) qO (by omega) qI ⟨rfl, trivial⟩
  · have hie : i = 10 := by omega
    subst hie
    refine Y1 ?_
    refine Zhz (cs := ((List.replicate 64 0#8).map u8b).toArray) rfl ?_; intro b9
    refine V5 ?_
    refine Zgo [(10, 11), (23, 37)] (by kernel_rfl) (fun i : Nat => i ≤ 16) (fun i => [cl b9 ((outK (iterW 10 S) S i).map u8b).toArray 199, cl b7 (S.map u32b).toArray 229, cl b6 ((List.replicate 64 0#8).map u8b).toArray 199])
      (fun i => [(23, nvv i)]) (fun i => 16 - i) 0 (by omega) (by rw [ho0]; exact qI) ⟨rfl, trivial⟩ ?_
    intro i u2 hi
    have hli := hol i hi
    refine V3 ?_
    refine Zgg rfl (fun hB => ?_) (fun hB => ?_)
    · refine Y2 ?_
      refine Zhg (Znb rfl rfl (getW i (by omega))) ?_
      refine V3 ?_
      refine Zij (_) [] (.q 0 (.q 1 (.q 2 (.q 3 (.q 4 (.q 5 (.r 6 (.q 7 (.e 8 false (.e 9 false .nil)))))))))) (by kernel_rfl) (by kernel_rfl) (Imp.refl _) ?_
      refine W1 ?_
      first|refine Zim rfl (Zmc (a := 4) rfl rfl) ?_|refine Zim rfl (Zbi rfl rfl) ?_
      first|refine Zim rfl (Zm9 (l := 4 * i) (h := 64) rfl qB qB) ?_|refine Zim rfl (Zmx (l := 4 * i) (h := 64) rfl qB qB) ?_
      refine W2 ?_
      first|refine Zim rfl (Zl5 (n := i) rfl (int_eq (by push_cast; omega))) ?_|refine Zim rfl (Zl3 (n := i) rfl (int_eq (by push_cast; omega))) ?_
      refine Ziv rfl rfl qH (getW i (by omega)) ?_
      refine W1 ?_
      refine Ziq rfl ?_
      refine Zh8 rfl (by kernel_rfl) (put32_x (L := []) _ Bs.nil (by simp)) rfl qT ?_
      rintro _ _ ⟨a3, c3, rfl, rfl⟩
      refine Y1 ?_
      refine Zg3 ⟨(fun hh => Bool.noConfusion hh), ?_⟩
      refine Ziq rfl ?_
      refine Zib rfl rfl (Rd.own qH) qR qZ qN (outK_wr (iterW 10 S) S i hB _ rfl) ?_
      refine Zg3 ⟨(fun hh => Bool.noConfusion hh), ?_⟩
      refine Zik ?_
      refine V4 ?_
      exact Zgl (i + 1) qO (by omega) qI ⟨rfl, trivial⟩
    · have hie : i = 16 := by omega
      subst hie
      rw [← hbl]
      have hbll := blockB_len key ctr nonce
      refine Y2 ?_
      first|refine Zhy rfl rfl qR qZ qN qZ ?_|refine Zhx rfl rfl qR qZ qN qZ rfl ?_
      refine V1 ?_
      refine rx1 (Zhe rfl qH qZ (Zg7)) ?_
      exact ⟨_, ⟨rfl, rfl⟩, by exact Imp.arr (by repeat (first|exact Arr.nil|exact Arr.stop|refine Arr.cons (by repeat constructor) ?_|refine Arr.skip ?_))⟩
end Go.Sl

/- stream: New, Xor, walked. -/
set_option maxHeartbeats 4000000
set_option maxRecDepth 10000
set_option linter.unusedVariables false
set_option linter.unusedSimpArgs false
namespace Go.Sl
open Go Go.Proofs
attribute [local irreducible] pt old pur ex all den denOps denS xOps xC cX CX xthen xblk xcut xloop xng retX resX Calls PV Rd Con
attribute [local irreducible] blockB ksB
/-- The cells of a stream. -/
def scl (key nonce : List Byte) (p : BitVec 64) : Array Value := (key.map u8b ++ (nonce.map u8b ++ [u64b p])).toArray
section
variable {key nonce : List Byte} {p q : BitVec 64} (hk : key.length = 32) (hn : nonce.length = 12)
theorem scl_size (hk : key.length = 32) (hn : nonce.length = 12) : (scl key nonce p).size = 45 := by simp [scl, hk, hn]
theorem scl_key (hk : key.length = 32) : (scl key nonce p).extract 0 32 = (key.map u8b).toArray := by
  apply Array.ext'; simp [scl, List.extract_eq_take_drop, hk]
theorem scl_nonce (hk : key.length = 32) (hn : nonce.length = 12) : (scl key nonce p).extract 32 44 = (nonce.map u8b).toArray := by
  apply Array.ext'; simp [scl, List.extract_eq_take_drop, hk, hn]
theorem scl_p (hk : key.length = 32) (hn : nonce.length = 12) : (scl key nonce p)[44]? = some (u64b p) := by simp [scl, List.getElem?_append, List.getElem?_cons, hk, hn]
theorem scl_set (hk : key.length = 32) (hn : nonce.length = 12) : (scl key nonce p).setIfInBounds 44 (u64b q) = scl key nonce q := by
  apply Array.ext'; simp [scl, List.set_append, hk, hn]
end
def z44 : List Value := List.replicate 44 (Value.int .u8 0)
theorem new_fill {pl : Nat → Option (Nat × Nat)} (key nonce : List Byte) (p : BitVec 64) (hk : key.length = 32) (hn : nonce.length = 12) (h0 : pl 0 = some (0, 32)) (h1 : pl 1 = some (32, 12)) (h2 : pl 2 = some (44, 1)) :
    Instr.fill pl ((z44 ++ [Value.int .u64 0]).toArray) [(0, .agg (key.map u8b).toArray), (1, .agg (nonce.map u8b).toArray), (2, u64b p)] = some (scl key nonce p) := by
  refine fill_part (z' := (key.map u8b ++ (List.replicate 12 (Value.int .u8 0) ++ [Value.int .u64 0])).toArray) h0 (by simp [Value.cells, hk]) (by simp [z44]) ?_ (fill_part (z' := (key.map u8b ++ (nonce.map u8b ++ [Value.int .u64 0])).toArray) h1 (by simp [Value.cells, hn]) (by simp [hk]) ?_ (fill_part (z' := scl key nonce p) h2 (by simp [Value.cells]) (by simp [hk, hn]) ?_ fill_end))
  · apply Array.ext'
    rw [wr_toList _ _ _ (by simp [Value.cells, hk, z44])]
    simp [Value.cells, hk, z44]
  · apply Array.ext'
    rw [wr_toList _ _ _ (by simp [Value.cells, hk, hn])]
    simp [Value.cells, hk, hn, List.drop_append]
  · apply Array.ext'
    rw [wr_toList _ _ _ (by simp [Value.cells, hk, hn])]
    simp only [Value.cells, scl, List.take_append, List.drop_append, List.length_map, hk, hn]
    rw [List.take_of_length_le (l := key.map u8b) (by simp [hk]), List.drop_of_length_le (l := key.map u8b) (by simp [hk]), List.drop_of_length_le (l := nonce.map u8b) (by simp [hn]), List.take_of_length_le (l := nonce.map u8b) (by simp [hn])]
    simp
theorem snew_x (key nonce : List Byte) (ctr : Wd) (hk : key.length = 32) (hn : nonce.length = 12) : Con Tryz.prog 145 [.agg (key.map u8b).toArray, .agg (nonce.map u8b).toArray, u32b ctr] [] (fun r M => ∃ s, r = .pointer (some ⟨s, 0, none⟩) ∧ M = [cl s (scl key nonce (64#64 * ctr.setWidth 64)) 242]) := by
  refine fn_x Tryz.func145 rfl rfl rfl Tryz.mixed (by kernel_rfl) ?_
  intro w0
  refine Y1 ?_
  refine Zh5 rfl ?_; intro b3
  refine Zh5 rfl ?_; intro b4
  refine Y6 ?_
  refine Zhg (Zlb rfl) ?_
  refine Zhg (Zle (x := 64#64) rfl rfl) ?_
  refine Zhg (Zdm (cs := scl key nonce (64#64 * ctr.setWidth 64)) (new_fill key nonce _ hk hn rfl rfl rfl)) ?_
  refine Zh5 rfl ?_; intro b13
  refine V2 ?_
  refine rx1 (Zhb rfl (Zg7)) ?_
  exact ⟨_, ⟨b13, rfl, rfl⟩, qI⟩
/-- What is laid over, up to a place. -/
def xK (key nonce : List Byte) (p : Nat) (b : List Byte) (n : Nat) : List Byte := (List.range b.length).map fun j => if j < n then b.getD j 0#8 ^^^ ksB key nonce (p + j) else 0#8
theorem xK_len (key nonce : List Byte) (p : Nat) (b : List Byte) (n : Nat) : (xK key nonce p b n).length = b.length := by simp [xK]
theorem xK_zero (key nonce : List Byte) (p : Nat) (b : List Byte) : xK key nonce p b 0 = List.replicate b.length 0#8 := by
  apply List.ext_getElem (by simp [xK]); intro j h1 h2; simp [xK]
theorem xK_end (key nonce : List Byte) (p : Nat) (b : List Byte) : xK key nonce p b b.length = xorB key nonce p b := by
  apply List.ext_getElem (by simp [xK, xorB]); intro j h1 h2
  have : j < b.length := by simpa [xK] using h1
  simp [xK, xorB, this]
theorem xK_set (key nonce : List Byte) (p : Nat) (b : List Byte) (n : Nat) (h : n < b.length) (x y : Byte) (hx : x = b[n]) (hy : y = ksB key nonce (p + n)) : (xK key nonce p b n).set n (x ^^^ y) = xK key nonce p b (n + 1) := by
  subst hx; subst hy
  apply List.ext_getElem (by simp [xK])
  intro j h1 h2
  simp only [xK, List.getElem_set, List.getElem_map, List.getElem_range]
  by_cases e : n = j
  · subst e; rw [if_pos rfl, if_pos (by omega), List.getD_eq_getElem?_getD, List.getElem?_eq_getElem h]; rfl
  · rw [if_neg e]
    by_cases h3 : j < n
    · rw [if_pos h3, if_pos (by omega)]
    · rw [if_neg h3, if_neg (by omega)]
theorem ctr_eq (q : Nat) (hq : q < 18446744073709551616) : (BitVec.ofNat 64 q / 64#64).setWidth 32 = BitVec.ofNat 32 (q / 64) := by
  apply BitVec.eq_of_toNat_eq
  rw [BitVec.toNat_setWidth, BitVec.toNat_udiv, BitVec.toNat_ofNat, BitVec.toNat_ofNat, BitVec.toNat_ofNat, Nat.mod_eq_of_lt (show q < 2 ^ 64 by omega)]
theorem rem_eq (q : Nat) (hq : q < 18446744073709551616) : (BitVec.ofNat 64 q % 64#64).toNat = q % 64 := by
  rw [BitVec.toNat_umod, BitVec.toNat_ofNat, BitVec.toNat_ofNat, Nat.mod_eq_of_lt (show q < 2 ^ 64 by omega)]
theorem plus_eq (q n : Nat) : BitVec.ofNat 64 q + BitVec.ofInt 64 ((n : Nat) : Int) = BitVec.ofNat 64 (q + n) := by
  rw [show BitVec.ofInt 64 ((n : Nat) : Int) = BitVec.ofNat 64 n from BitVec.ofInt_natCast .., ← BitVec.ofNat_add]
theorem ks_in (key nonce : List Byte) (q i : Nat) (h : q % 64 + i < 64) : ksB key nonce (q + i) = (blockB key (BitVec.ofNat 32 (q / 64)) nonce).getD (q % 64 + i) 0#8 := by
  unfold ksB
  rw [show (q + i) / 64 = q / 64 by omega, show (q + i) % 64 = q % 64 + i by omega]
attribute [local irreducible] scl xK xorB
theorem sxor_x {L : List Asrt} {s : Nat} (key nonce : List Byte) (hk : key.length = 32) (hn : nonce.length = 12) (p : Nat) (hp : p + 1099511627776 ≤ 18446744073709551616) {v : Value} {b : List Byte} (h : Bs L v b) (hb : b.length + p ≤ 274877906944) :
    Con Tryz.prog 146 [.pointer (some ⟨s, 0, none⟩), v] (cl s (scl key nonce (BitVec.ofNat 64 p)) 242 :: L)
      (fun r M => ∃ g, r = .tuple #[.slice (some ⟨g, 0, none⟩) b.length b.length, nvv 0] ∧ M = cl g ((xorB key nonce p b).map u8b).toArray 5 :: cl s (scl key nonce (BitVec.ofNat 64 (p + b.length))) 242 :: L) := by
  refine Con.get (fun w0 w F H => (h.imp Imp.tail).sh _ _ _ H) ?_
  rintro ⟨va, vc, rfl, hvc, hvcm⟩
  have hsz := fun q => scl_size (p := q) hk hn
  refine fn_x Tryz.func146 rfl rfl rfl Tryz.mixed (by kernel_rfl) ?_
  intro w0
  refine V9 ?_
  have hle : ¬ ((274877906944#64 - BitVec.ofNat 64 p).toNat < (BitVec.ofInt 64 ((b.length : Nat) : Int)).toNat) := by
    rw [BitVec.toNat_sub, BitVec.toNat_ofNat, BitVec.toNat_ofNat, BitVec.toNat_ofInt]
    omega
  refine Y3 ?_
  refine Zhg (Zlv rfl) ?_
  refine Y3 ?_
  refine Zhp rfl qH (scl_p hk hn) ?_
  refine Zhg (Zld (x := 274877906944#64) rfl rfl) ?_
  refine Zhg (Zlr rfl rfl) ?_
  refine Zhn 22 rfl (decide_eq_false (hle)) ?_
  refine Y5 ?_
  refine Zm3 (f := u8b) (a := 0#8) rfl rfl rfl qS qS qS ?_; intro b25
  refine V5 ?_
  refine Zgo [(7, 11), (26, 90)] (by kernel_rfl) (fun d : Nat => d ≤ b.length) (fun d => cl b25 ((xK key nonce p b d).map u8b).toArray 5 :: cl s (scl key nonce (BitVec.ofNat 64 (p + d))) 242 :: L) (fun d => [(7, nvv d)]) (fun d => b.length - d) 0 (by omega) (by rw [xK_zero]; exact qI) ⟨rfl, trivial⟩ ?_
  intro d u hd
  have hxl := xK_len key nonce p b
  refine V6 ?_
  refine Zgg rfl (fun hA => ?_) (fun hA => ?_)
  · refine Zgt (fun F w H => (h.imp (Imp.arr qV)).some (by omega) H) ?_
    rintro ⟨a1, a2, rfl⟩
    have hbl := fun c => blockB_len key c nonce
    have hs1 := hsz (BitVec.ofNat 64 (p + d))
    have hb1 := hbl ((BitVec.ofNat 64 (p + d) / 64#64).setWidth 32)
    refine Ct.o ?_
    refine Zij (_) [7, 8, 9, 13, 14, 15] (.q 0 (.q 1 (.q 2 (.q 4 (.q 5 (.q 6 (.q 10 (.q 11 (.q 12 (.r 3 (.r 7 (.r 8 (.r 9 (.r 13 (.e 14 true (.a 15 (.e 16 false .nil))))))))))))))))) (by kernel_rfl) (by kernel_rfl) (Imp.refl _) ?_
    refine W9 ?_
    refine Zix (n := 32) rfl rfl qH qZ (scl_key hk) ?_
    refine Ziv rfl rfl qH (scl_p hk hn) ?_
    refine Ziz rfl (Zlt (y := 64#64) rfl rfl) ?_
    refine Ziz rfl (Zlz rfl) ?_
    refine Zfj rfl rfl (RdAg.cl (n := 12) (o := 32) qH (by omega) (scl_nonce hk hn)) ?_
    refine Ziq rfl ?_
    refine Zh8 rfl (by kernel_rfl) (block_x key _ nonce hk hn) rfl qT ?_
    rintro _ _ ⟨rfl, rfl⟩
    refine Y1 ?_
    refine Zg3 ⟨fun _ => Imp.arr qV, ?_⟩
    refine Zir rfl (cs := ((List.replicate 64 0#8).map u8b).toArray) rfl ?_; intro b8
    refine Ziq rfl ?_
    first|refine Zhy rfl rfl qR qZ qN qZ ?_|refine Zhx rfl rfl qR qZ qN qZ rfl ?_
    refine Zg3 ⟨(fun hh => Bool.noConfusion hh), ?_⟩
    refine Zik ?_
    refine Ct.o ?_
    rw [ctr_eq (p + d) (by omega)]
    generalize hBL : blockB key (BitVec.ofNat 32 ((p + d) / 64)) nonce = BL
    have hBll : BL.length = 64 := by rw [← hBL]; exact hbl _
    have hoff : (p + d) % 64 < 64 := Nat.mod_lt _ (by omega)
    refine Y4 ?_
    refine Zhp rfl qH (scl_p hk hn) ?_
    refine Zhg (PV.eq (v' := .int .u64 (((p + d) % 64 : Nat) : Int)) (Zlu (y := 64#64) rfl rfl) (by rw [rem_eq (p + d) (by omega)])) ?_
    first|refine Zhg (Zm9 (l := (p + d) % 64) (h := 64) rfl qB qB) ?_|refine Zhg (Zmx (l := (p + d) % 64) (h := 64) rfl qB qB) ?_
    refine V2 ?_
    obtain ⟨n, hn0⟩ : ∃ n, n = min (64 - (p + d) % 64) (b.length - d) := ⟨_, rfl⟩
    refine Y7 ?_
    refine Zhg (PV.eq (v' := nvv n) (Zcw rfl rfl) (int_eq (by rw [hn0]; omega))) ?_
    refine V2 ?_
    have hn1 : 0 < n := by omega
    have hn2 : n ≤ b.length - d := by omega
    have hn3 : (p + d) % 64 + n ≤ 64 := by omega
    clear hn0
    refine V4 ?_
    refine Zgo [(11, 11), (59, 78)] (by kernel_rfl) (fun i : Nat => i ≤ n) (fun i => cl b8 (BL.map u8b).toArray 199 :: cl b25 ((xK key nonce p b (d + i)).map u8b).toArray 5 :: cl s (scl key nonce (BitVec.ofNat 64 (p + d))) 242 :: L) (fun i => [(59, nvv i)]) (fun i => n - i) 0 (by omega) qI ⟨rfl, trivial⟩ ?_
    intro i u2 hi
    refine V3 ?_
    refine Zgg rfl (fun hB => ?_) (fun hB => ?_)
    · have hdi : d + i < b.length := by omega
      have hx2 := hxl (d + i)
      have hk2 : BL.getD ((p + d) % 64 + i) 0#8 = ksB key nonce (p + (d + i)) := by rw [← Nat.add_assoc, ks_in key nonce (p + d) i (by omega), hBL]
      have hg : ((BL.map u8b).toArray)[(p + d) % 64 + i]? = some (u8b (BL.getD ((p + d) % 64 + i) 0#8)) := by
        rw [getL (by omega), List.getD_eq_getElem?_getD, List.getElem?_eq_getElem (by omega)]; rfl
      refine V4 ?_
      refine Zij (_) [13] (.q 0 (.q 1 (.q 2 (.q 3 (.q 4 (.q 5 (.q 6 (.q 7 (.q 8 (.q 10 (.q 11 (.q 12 (.r 9 (.r 13 (.q 14 (.q 15 (.e 16 false .nil))))))))))))))))) (by kernel_rfl) (by kernel_rfl) (Imp.refl _) ?_
      refine W8 ?_
      first|refine Zim rfl (Zl4 (n := d + i) rfl (int_eq (by push_cast; omega))) ?_|refine Zim rfl (Zl1 (n := d + i) rfl (int_eq (by push_cast; omega))) ?_
      refine W2 ?_
      first|refine Zim rfl (Zl4 (n := i) rfl (int_eq (by push_cast; omega))) ?_|refine Zim rfl (Zl1 (n := i) rfl (int_eq (by push_cast; omega))) ?_
      refine Zfh rfl rfl (((h.imp (Imp.arr qV)).rd.at hdi (getM hdi))) ?_
      refine Ziv rfl rfl qH (hg) ?_
      refine W1 ?_
      first|refine Zim rfl (Zl4 (n := d + i) rfl (int_eq (by push_cast; omega))) ?_|refine Zim rfl (Zl1 (n := d + i) rfl (int_eq (by push_cast; omega))) ?_
      refine Ziq rfl ?_
      refine Zht rfl rfl qR qZ (setL (f := u8b)) ?_
      refine Zg3 ⟨(fun hh => Bool.noConfusion hh), ?_⟩
      refine Zik ?_
      refine Ct.o ?_
      rw [xK_set key nonce p b (d + i) hdi _ _ rfl hk2, Nat.add_assoc]
      refine V4 ?_
      exact Zgl (i + 1) qO (by omega) qI ⟨rfl, trivial⟩
    · have hie : i = n := by omega
      subst hie
      refine Y10 ?_
      refine Zhp rfl qH (scl_p hk hn) ?_
      refine Y1 ?_
      refine Zhg (Zlv rfl) ?_
      refine Y3 ?_
      refine Zht rfl rfl qR qZ (scl_set hk hn) ?_
      refine V1 ?_
      rw [plus_eq, Nat.add_assoc]
      exact Zgl (d + i) qO (by omega) qI ⟨rfl, trivial⟩
  · have hie : d = b.length := by omega
    subst hie
    rw [xK_end]
    refine V5 ?_
    refine rx2 (Zhc rfl (Zg9 rfl (Zg7))) ?_
    exact ⟨_, ⟨b25, rfl, rfl⟩, qI⟩
theorem xor_x {L : List Asrt} (key nonce : List Byte) (hk : key.length = 32) (hn : nonce.length = 12) {v : Value} {b : List Byte} (h : Bs L v b) (hb : b.length ≤ 274877906880) :
    Con Tryz.prog 120 [.agg (key.map u8b).toArray, .agg (nonce.map u8b).toArray, u32b 1#32, v] L
      (fun r M => ∃ g, r = .tuple #[.slice (some ⟨g, 0, none⟩) b.length b.length, nvv 0] ∧ M = cl g ((xorB key nonce 64 b).map u8b).toArray 5 :: L) := by
  refine Con.get (fun w0 w F H => h.sh _ _ _ H) ?_
  rintro ⟨va, vc, rfl, hvc, hvcm⟩
  have hnew := snew_x key nonce 1#32 hk hn
  rw [show 64#64 * (1#32 : Wd).setWidth 64 = BitVec.ofNat 64 64 by decide] at hnew
  refine fn_x Tryz.func120 rfl rfl rfl Tryz.mixed (by kernel_rfl) ?_
  intro w0
  refine Y1 ?_
  refine Zh5 rfl ?_; intro b4
  refine Zh5 rfl ?_; intro b5
  refine Y7 ?_
  refine Zh8 rfl (by kernel_rfl) (hnew) rfl qT ?_
  rintro _ _ ⟨s, rfl, rfl⟩
  refine Y2 ?_
  refine Zh8 rfl (by kernel_rfl) (sxor_x (L := L) (s := s) key nonce hk hn 64 (by omega) h (by omega)) rfl qT ?_
  rintro _ _ ⟨g, rfl, rfl⟩
  refine V6 ?_
  refine rx2 (Zhc rfl (Zg9 rfl (Zg7))) ?_
  exact ⟨_, ⟨g, rfl, rfl⟩, qI⟩
end Go.Sl

/- errors.Is of two numbers of api.Errno; page: fails, head, more, walked. -/
set_option maxHeartbeats 4000000
set_option maxRecDepth 10000
set_option linter.unusedVariables false
set_option linter.unusedSimpArgs false
namespace Go.Sl
open Go Go.Proofs
attribute [local irreducible] pt old pur ex all den denOps denS xOps xC cX CX xthen xblk xcut xloop xng retX resX Calls PV Rd Con
theorem ext_typeOf (e : Int) : extv Tryz.prog 123 [.iface 37 (.int .i64 e)] (.iface 211 (.agg #[.pointer (some ⟨0, 37, none⟩)])) :=
  extv_of Tryz.func123 (by kernel_rfl) (by kernel_rfl) (by kernel_rfl) (e := Extern.ReflectliteType.typeOf) (by kernel_rfl) (by intro w; kernel_rfl)
theorem ext_comparable : extv Tryz.prog 225 [.agg #[.pointer (some ⟨0, 37, none⟩)]] (.bool true) :=
  extv_of Tryz.func225 (by kernel_rfl) (by kernel_rfl) (by kernel_rfl) (e := Extern.ReflectliteType.method fun t => do Extern.Rtype.noPackHeld "Comparable" t; pure (.bool (← typeInfo t).comparable)) (by kernel_rfl) (by intro w; kernel_rfl)
theorem met_comparable : Met Tryz.prog 211 (.agg #[.pointer (some ⟨0, 37, none⟩)]) "Comparable" 225 (.agg #[.pointer (some ⟨0, 37, none⟩)]) := by intro w; kernel_rfl
theorem is2_x (e : Int) : Con Tryz.prog 124 [.iface 37 (.int .i64 e), .iface 37 (.int .i64 0), .bool true] [] (fun r M => r = .bool (decide (e = 0)) ∧ M = []) := by
  refine fn_x Tryz.func124 rfl rfl rfl Tryz.mixed (by kernel_rfl) ?_
  intro w0
  refine V3 ?_
  refine Zgo [(0, 0), (6, 10), (12, 53)] (by kernel_rfl) (fun _ : Unit => True) (fun _ => []) (fun _ => [(0, .iface 37 (.int .i64 e))]) (fun _ => 0) () trivial qI ⟨rfl, trivial⟩ ?_
  intro _ u _
  by_cases h : e = 0
  · refine Y5 ?_
    first|refine Y0 ?_|(refine Zhh rfl ?_; (refine Zhg (Zny (q := .i64) rfl (by kernel_rfl) (by kernel_rfl) rfl rfl) ?_))
    refine Zhm 18 rfl (decide_eq_true (h)) ?_
    refine V6 ?_
    refine rx1 (Zha rfl (Zg7)) ?_
    exact ⟨_, ⟨by simp [h], rfl⟩, qI⟩
  · refine Y5 ?_
    first|refine Y0 ?_|(refine Zhh rfl ?_; (refine Zhg (Zny (q := .i64) rfl (by kernel_rfl) (by kernel_rfl) rfl rfl) ?_))
    refine Zhn 18 rfl (decide_eq_false (h)) ?_
    refine Y5 ?_
    refine Zhg (Znv rfl rfl (by kernel_rfl) rfl) ?_
    refine Y11 ?_
    refine Zhi rfl ?_
    refine Y7 ?_
    refine Zhg (Znv rfl rfl (by kernel_rfl) rfl) ?_
    refine Y5 ?_
    refine Zhg (Znv rfl rfl (by kernel_rfl) rfl) ?_
    refine V10 ?_
    refine rx1 (Zha rfl (Zg7)) ?_
    exact ⟨_, ⟨by simp [h], rfl⟩, qI⟩
theorem is_x (e : Int) : Con Tryz.prog 106 [.iface 37 (.int .i64 e), .iface 37 (.int .i64 0)] [] (fun r M => r = .bool (decide (e = 0)) ∧ M = []) := by
  refine fn_x Tryz.func106 rfl rfl rfl Tryz.mixed (by kernel_rfl) ?_
  intro w0
  refine Y5 ?_
  refine Zhg (Znw (by kernel_rfl) rfl rfl) ?_
  refine Y2 ?_
  first|refine Y0 ?_|(refine Zhh rfl ?_; (refine Zhg (Znw (by kernel_rfl) rfl rfl) ?_))
  refine Y5 ?_
  refine Zhg (Zh9 rfl (ext_typeOf 0) rfl) ?_
  refine Zhg (Znu rfl met_comparable ext_comparable rfl) ?_
  refine Y6 ?_
  refine Zh8 rfl (by kernel_rfl) (is2_x e) rfl qT ?_
  rintro _ _ ⟨rfl, rfl⟩
  refine V3 ?_
  refine rx1 (Zha rfl (Zg7)) ?_
  exact ⟨_, ⟨rfl, rfl⟩, qI⟩
theorem fails_x (e : Int) : Con Tryz.prog 84 [.iface 37 (.int .i64 e)] [] (fun r M => r = .bool (!decide (e = 0)) ∧ M = []) := by
  refine fn_x Tryz.func84 rfl rfl rfl Tryz.mixed (by kernel_rfl) ?_
  intro w0
  refine Y6 ?_
  refine Zh8 rfl (by kernel_rfl) (is_x e) rfl qT ?_
  rintro _ _ ⟨rfl, rfl⟩
  refine Y1 ?_
  refine Zhg (Zb0 rfl) ?_
  refine V2 ?_
  refine rx1 (Zha rfl (Zg7)) ?_
  exact ⟨_, ⟨rfl, rfl⟩, qI⟩
end Go.Sl

/- page: head, more, Head, walked; two places compared. -/
set_option maxHeartbeats 4000000
set_option maxRecDepth 10000
set_option linter.unusedVariables false
set_option linter.unusedSimpArgs false
namespace Go.Sl
open Go Go.Proofs
attribute [local irreducible] pt old pur ex all den denOps denS xOps xC cX CX xthen xblk xcut xloop xng retX resX Calls PV Rd Con
abbrev plc (p : Plc) : Array Value := #[u64b p.round, u32b p.counter, u32b p.page, u32b p.version]
def plits (p : Plc) : List Lit := [.int .u64 p.round.toNat, .int .u32 p.counter.toNat, .int .u32 p.page.toNat, .int .u32 p.version.toNat]
theorem wf_u64 (x : BitVec 64) : (Lit.int .u64 (x.toNat : Int)).wf = true := by
  have := x.isLt
  simp only [Lit.wf, Bool.and_eq_true, decide_eq_true_eq]
  have e1 : IntKind.u64.min = 0 := by decide
  have e2 : IntKind.u64.max = 18446744073709551615 := by decide
  omega
theorem wf_u32 (x : BitVec 32) : (Lit.int .u32 (x.toNat : Int)).wf = true := by
  have := x.isLt
  simp only [Lit.wf, Bool.and_eq_true, decide_eq_true_eq]
  have e1 : IntKind.u32.min = 0 := by decide
  have e2 : IntKind.u32.max = 4294967295 := by decide
  omega
theorem plits_is (p : Plc) : Tryz.prog.keyLits 4 108 (plc p).toList = some (plits p) := by
  have i1 := lits_int (d := 2) Tryz.underlying24 (wf_u64 p.round)
  have i2 := lits_int (d := 2) Tryz.underlying50 (wf_u32 p.counter)
  have i3 := lits_int (d := 2) Tryz.underlying50 (wf_u32 p.page)
  have i4 := lits_int (d := 2) Tryz.underlying50 (wf_u32 p.version)
  have c1 : Tryz.prog.cellsOf 24 = 1 := by kernel_rfl
  have c2 : Tryz.prog.cellsOf 50 = 1 := by kernel_rfl
  have c4 : Tryz.prog.cellsOf 108 = 4 := by kernel_rfl
  unfold Program.keyLits
  rw [Tryz.underlying108]
  simp only [plc, List.length_cons, List.length_nil, c4]
  rw [if_pos (by simp)]
  simp only [List.mapM_cons, List.mapM_nil, c1, c2, List.drop_zero, List.drop_succ_cons, List.take_succ_cons, List.take_zero]
  simp only [i1, i2, i3, i4]
  simp [plits]
theorem plc_form (p : Plc) : (Value.agg (plc p)).formed Tryz.prog 108 = true := by
  have c4 : Tryz.prog.cellsOf 108 = 4 := by kernel_rfl
  simp [Value.formed, Tryz.underlying108, c4]
theorem plits_inj (a b : Plc) : a = b ↔ plits a = plits b := by
  constructor
  · rintro rfl; rfl
  · intro h
    obtain ⟨a1, a2, a3, a4⟩ := a
    obtain ⟨b1, b2, b3, b4⟩ := b
    simp only [plits, List.cons.injEq, Lit.int.injEq, true_and, and_true] at h
    obtain ⟨h1, h2, h3, h4⟩ := h
    have h1 : a1 = b1 := BitVec.eq_of_toNat_eq (by omega)
    have h2 : a2 = b2 := BitVec.eq_of_toNat_eq (by omega)
    have h3 : a3 = b3 := BitVec.eq_of_toNat_eq (by omega)
    have h4 : a4 = b4 := BitVec.eq_of_toNat_eq (by omega)
    rw [h1, h2, h3, h4]
theorem pv_neq_plc {ρ : Env} {x y : Operand} {T' : Nat} (a b : Plc) (hx : ev ρ x = .agg (plc a)) (hy : ev ρ y = .agg (plc b)) : PV Tryz.prog (.binOp .neq 108 x y T') ρ (.bool (decide (¬ a = b))) :=
  Zf7 (m := 4) hx hy (by kernel_rfl) (by omega) (by kernel_rfl) (plc_form a) (plc_form b) (plits_is a) (plits_is b) (plits_inj a b)
attribute [local irreducible] leB
theorem pghead_x (p : Plc) : Con Tryz.prog 82 [.agg (plc p)] [] (fun r M => r = .agg ((headB p).map u8b).toArray ∧ M = []) := by
  have hl := headB_len p
  have hhb : ([] ++ leB p.round 8) ++ leB p.counter 4 = headB p := rfl
  refine fn_x Tryz.func82 rfl rfl rfl Tryz.mixed (by kernel_rfl) ?_
  intro w0
  refine Y1 ?_
  refine Zh5 rfl ?_; intro b1
  refine Zhz (cs := ((List.replicate 12 0#8).map u8b).toArray) rfl ?_; intro b2
  refine Y4 ?_
  refine Zh8 rfl (by kernel_rfl) (put64_x (L := []) p.round Bs.nil (by simp)) rfl qT ?_
  rintro _ _ ⟨pa, pc1, rfl, rfl⟩
  refine Y7 ?_
  refine Zh8 rfl (by kernel_rfl) (put32_x (L := [own 5 1 (.slice pa ([] ++ leB p.round 8).length pc1) ([] ++ leB p.round 8).length (([] ++ leB p.round 8).map u8b)]) p.counter (Bs.own .here) (by simp [leB_len])) rfl qT ?_
  rintro _ _ ⟨qa, qc, rfl, rfl⟩
  refine Y1 ?_
  rw [hhb, hl]; refine Zg0 (fun F w H => own_some (a := qa) qH (by omega) H) ?_; rintro ⟨g, rfl⟩; refine Zhg (Zl9 rfl (by omega)) ?_
  refine Zfg rfl ((Rd.ag0 (Rd.own qH) (by omega))) ?_
  first|refine Zhy rfl rfl qR qZ qN qZ ?_|refine Zhx rfl rfl qR qZ qN qZ rfl ?_
  refine V1 ?_
  refine rx1 (Zhe rfl qH qZ (Zg7)) ?_
  exact ⟨_, ⟨rfl, rfl⟩, qI⟩
theorem pgmore_x (p : Plc) : Con Tryz.prog 83 [.agg (plc p)] [] (fun r M => ∃ a c, r = .slice a (moreB p).length c ∧ M = [own 5 1 r (moreB p).length ((moreB p).map u8b)]) := by
  have hmb : ([] ++ leB p.page 4) ++ leB p.version 4 = moreB p := rfl
  refine fn_x Tryz.func83 rfl rfl rfl Tryz.mixed (by kernel_rfl) ?_
  intro w0
  refine Y1 ?_
  refine Zh5 rfl ?_; intro b1
  refine V2 ?_
  refine Zij ([cl b1 (plc p) 108]) [2, 4] (.q 0 (.q 3 (.r 1 (.r 4 (.e 2 true (.e 5 false (.q 6 .nil))))))) (by kernel_rfl) (by kernel_rfl) (Imp.arr qV) ?_
  refine W4 ?_
  refine Ziq rfl ?_
  refine Zh8 rfl (by kernel_rfl) (put32_x (L := []) p.page Bs.nil (by simp)) rfl qT ?_
  rintro _ _ ⟨pa, pc1, rfl, rfl⟩
  refine Y1 ?_
  refine Zg3 ⟨fun _ => Imp.arr qV, ?_⟩
  refine Ziq rfl ?_
  refine Zh8 rfl (by kernel_rfl) (put32_x (L := [own 5 1 (.slice pa ([] ++ leB p.page 4).length pc1) ([] ++ leB p.page 4).length (([] ++ leB p.page 4).map u8b)]) p.version (Bs.own .here) (by simp [leB_len])) rfl qT ?_
  rintro _ _ ⟨qa, qc, rfl, rfl⟩
  refine Y1 ?_
  refine Zg3 ⟨(fun hh => Bool.noConfusion hh), ?_⟩
  refine W2 ?_
  refine Ct.o ?_
  rw [hmb]
  refine rx1 (Zhc rfl (Zg7)) ?_
  exact ⟨_, ⟨qa, qc, rfl, rfl⟩, qI⟩
theorem pgHead_x {L : List Asrt} {v : Value} {b : List Byte} (h : Bs L v b) (hb : b.length ≤ 140737488351232) :
    Con Tryz.prog 80 [v] L (fun r M => r = .tuple #[u64b (pgHeadR b).1, u32b (pgHeadR b).2.1, nvv (pgHeadR b).2.2] ∧ L = M) := by
  refine Con.get (fun w0 w F H => h.sh _ _ _ H) ?_
  rintro ⟨va, vc, rfl, hvc, hvcm⟩
  by_cases h28 : b.length < 28
  · have e : pgHeadR b = (0#64, 0#32, 20) := if_pos h28
    rw [e]
    refine fn_x Tryz.func80 rfl rfl rfl Tryz.mixed (by kernel_rfl) ?_
    intro w0
    refine Y9 ?_
    refine Zhm 10 rfl (decide_eq_true (h28)) ?_
    refine V7 ?_
    refine rx3 (Zg9 rfl (Zg9 rfl (Zg9 rfl (Zg7)))) ?_
    exact ⟨_, ⟨rfl, rfl⟩, qI⟩
  · have e : pgHeadR b = (lowB 64 (b.take 8), lowB 32 ((b.drop 8).take 4), 0) := if_neg h28
    rw [e]
    have hu := fun p g => u64_x (p := p) (g := g) (o := 0) (len := b.length) (c := b.length) b (by omega) (by omega) (by omega) (by omega) (Nat.le_refl _)
    have hv := fun p g => u32_x (p := p) (g := g) (o := 0 + 8) (len := b.length - 8) (c := b.length - 8) b (by omega) (by omega) (by omega) (by omega) (Nat.le_refl _)
    simp only [List.drop_zero] at hu
    simp only [Nat.zero_add] at hu hv
    refine fn_x Tryz.func80 rfl rfl rfl Tryz.mixed (by kernel_rfl) ?_
    intro w0
    refine Y9 ?_
    refine Zhn 10 rfl (decide_eq_false (h28)) ?_
    refine Y4 ?_
    refine Zh8 rfl (by kernel_rfl) (newReader_x h hb) rfl qT ?_
    rintro _ _ ⟨p, g, rfl, rfl⟩
    refine Y5 ?_
    refine Zh8 rfl (by kernel_rfl) (hu p g) rfl qT ?_
    rintro _ _ ⟨rfl, rfl⟩
    refine Y5 ?_
    refine Zh8 rfl (by kernel_rfl) (hv p g) rfl qT ?_
    rintro _ _ ⟨rfl, rfl⟩
    refine Y7 ?_
    refine Zh8 rfl (by kernel_rfl) (rerr_x) rfl qT ?_
    rintro _ _ ⟨rfl, rfl⟩
    refine V5 ?_
    refine rx3 (Zg9 rfl (Zg9 rfl (Zg9 rfl (Zg7)))) ?_
    exact ⟨_, ⟨rfl, rfl⟩, qI⟩
end Go.Sl

/- pager: a pager's cells; its small methods, walked. -/
set_option maxHeartbeats 4000000
set_option maxRecDepth 10000
set_option linter.unusedVariables false
set_option linter.unusedSimpArgs false
namespace Go.Sl
open Go Go.Proofs
attribute [local irreducible] pt old pur ex all den denOps denS xOps xC cX CX xthen xblk xcut xloop xng retX resX Calls PV Rd Con
attribute [local irreducible] hostA
open PagerS (PS)
abbrev stV (ph : Nat) : Value := .iface 28 (hp ph)
structure PC where
  ph : Nat
  bh : Nat
  oa : Option Addr
  n : Nat
  oc : Nat
  bl : Nat
abbrev phead (s : PS) (c : PC) : List Value := stV c.ph :: s.key.map u8b
abbrev ptail (s : PS) (c : PC) : List Value := [u64b s.round, nvv s.window, .int .i64 s.pages, nvv s.text, .map (some c.bh), .slice c.oa c.n c.oc, .map (some c.bl), nvv s.most, u32b (BitVec.ofNat 32 s.writes), nvv s.err]
def pcl (s : PS) (c : PC) : Array Value := (phead s c ++ ptail s c).toArray
section
variable {s s' : PS} {c c' : PC} {k : Nat} {v : Value}
theorem pg_f (hk : s.key.length = 32) (h : (ptail s c)[k]? = some v) : (pcl s c)[33 + k]? = some v := by
  unfold pcl
  rw [List.getElem?_toArray, List.getElem?_append_right (by simp [hk]), show 33 + k - (phead s c).length = k by simp [hk]]
  exact h
theorem pg_s (hk : s.key.length = 32) (h : (ptail s c).set k v = ptail s' c') (h2 : s'.key = s.key) (h3 : c'.ph = c.ph) : (pcl s c).setIfInBounds (33 + k) v = pcl s' c' := by
  unfold pcl
  apply Array.ext'
  rw [Array.toList_setIfInBounds]
  show (phead s c ++ ptail s c).set (33 + k) v = phead s' c' ++ ptail s' c'
  rw [List.set_append_right _ _ (by simp [hk]), show 33 + k - (phead s c).length = k by simp [hk], h, show phead s' c' = phead s c from by unfold phead; rw [h2, h3]]
theorem pg_size (hk : s.key.length = 32) : (pcl s c).size = 43 := by unfold pcl; simp [hk]
theorem pg_st : (pcl s c)[0]? = some (stV c.ph) := by unfold pcl; simp
theorem pg_key (hk : s.key.length = 32) : (pcl s c).extract 1 (1 + 32) = (s.key.map u8b).toArray := by
  unfold pcl
  apply Array.ext'
  rw [Array.toList_extract, List.extract_eq_take_drop]
  show ((phead s c ++ ptail s c).drop 1).take (1 + 32 - 1) = _
  rw [List.cons_append, List.drop_one, List.tail_cons, List.take_append_of_le_length (by simp [hk]), List.take_of_length_le (by simp [hk])]
end
section
variable {p : Nat} {s : PS} {c : PC}
theorem pPages_x (hk : s.key.length = 32) : Con Tryz.prog 51 [hp p] [cl p (pcl s c) 102] (fun r M => r = .int .i64 s.pages ∧ M = [cl p (pcl s c) 102]) := by
  refine fn_x Tryz.func51 rfl rfl rfl Tryz.mixed (by kernel_rfl) ?_
  intro w0
  refine Y6 ?_
  refine Zhn 4 rfl (rfl) ?_
  refine Y6 ?_
  refine Zhp rfl qH (pg_f hk (k := 2) rfl) ?_
  refine V2 ?_
  refine rx1 (Zg9 rfl (Zg7)) ?_
  exact ⟨_, ⟨rfl, rfl⟩, qI⟩
theorem pText_x (hk : s.key.length = 32) : Con Tryz.prog 52 [hp p] [cl p (pcl s c) 102] (fun r M => r = nvv s.text ∧ M = [cl p (pcl s c) 102]) := by
  refine fn_x Tryz.func52 rfl rfl rfl Tryz.mixed (by kernel_rfl) ?_
  intro w0
  refine Y6 ?_
  refine Zhn 4 rfl (rfl) ?_
  refine Y6 ?_
  refine Zhp rfl qH (pg_f hk (k := 3) rfl) ?_
  refine V2 ?_
  refine rx1 (Zg9 rfl (Zg7)) ?_
  exact ⟨_, ⟨rfl, rfl⟩, qI⟩
theorem pMost_x (hk : s.key.length = 32) : Con Tryz.prog 17 [hp p] [cl p (pcl s c) 102] (fun r M => r = nvv s.most ∧ M = [cl p (pcl s c) 102]) := by
  refine fn_x Tryz.func17 rfl rfl rfl Tryz.mixed (by kernel_rfl) ?_
  intro w0
  refine Y6 ?_
  refine Zhn 4 rfl (rfl) ?_
  refine Y6 ?_
  refine Zhp rfl qH (pg_f hk (k := 7) rfl) ?_
  refine V2 ?_
  refine rx1 (Zg9 rfl (Zg7)) ?_
  exact ⟨_, ⟨rfl, rfl⟩, qI⟩
theorem pWrites_x (hk : s.key.length = 32) : Con Tryz.prog 21 [hp p] [cl p (pcl s c) 102] (fun r M => r = u32b (BitVec.ofNat 32 s.writes) ∧ M = [cl p (pcl s c) 102]) := by
  refine fn_x Tryz.func21 rfl rfl rfl Tryz.mixed (by kernel_rfl) ?_
  intro w0
  refine Y6 ?_
  refine Zhn 4 rfl (rfl) ?_
  refine Y6 ?_
  refine Zhp rfl qH (pg_f hk (k := 8) rfl) ?_
  refine V2 ?_
  refine rx1 (Zg9 rfl (Zg7)) ?_
  exact ⟨_, ⟨rfl, rfl⟩, qI⟩
theorem pErr_x (hk : s.key.length = 32) : Con Tryz.prog 18 [hp p] [cl p (pcl s c) 102] (fun r M => r = nvv s.err ∧ M = [cl p (pcl s c) 102]) := by
  refine fn_x Tryz.func18 rfl rfl rfl Tryz.mixed (by kernel_rfl) ?_
  intro w0
  refine Y6 ?_
  refine Zhn 4 rfl (rfl) ?_
  refine Y6 ?_
  refine Zhp rfl qH (pg_f hk (k := 9) rfl) ?_
  refine V2 ?_
  refine rx1 (Zg9 rfl (Zg7)) ?_
  exact ⟨_, ⟨rfl, rfl⟩, qI⟩
theorem die_x (hk : s.key.length = 32) (e : Nat) : Con Tryz.prog 58 [hp p, nvv e] [cl p (pcl s c) 102] (fun r M => r = nvv e ∧ M = [cl p (pcl (PagerS.die s e) c) 102]) := by
  have hsz := pg_size (c := c) hk
  refine fn_x Tryz.func58 rfl rfl rfl Tryz.mixed (by kernel_rfl) ?_
  intro w0
  refine Y8 ?_
  refine Zht rfl rfl qR qZ (pg_s (s' := PagerS.die s e) (c' := c) hk (k := 9) rfl rfl rfl) ?_
  refine V5 ?_
  refine rx1 (Zg9 rfl (Zg7)) ?_
  exact ⟨_, ⟨rfl, rfl⟩, qI⟩
theorem right_x (hk : s.key.length = 32) (n : Int) : Con Tryz.prog 53 [hp p, .int .i64 n] [cl p (pcl s c) 102] (fun r M => r = nvv (PagerS.rightP s n) ∧ M = [cl p (pcl s c) 102]) := by
  unfold PagerS.rightP
  by_cases he : s.err = 0
  · rw [if_neg (fun h => h he)]
    by_cases h0 : n < 0
    · rw [if_pos (.inl h0)]
      refine fn_x Tryz.func53 rfl rfl rfl Tryz.mixed (by kernel_rfl) ?_
      intro w0
      refine Y6 ?_
      refine Zhn 6 rfl (rfl) ?_
      refine Y6 ?_
      refine Zhp rfl qH (pg_f hk (k := 9) rfl) ?_
      refine Y1 ?_
      refine Zhn 11 rfl (decide_eq_false ((fun h => h he))) ?_
      refine Y4 ?_
      refine Zhg (Zbn (b := 0) rfl rfl) ?_
      refine Zhm 17 rfl (decide_eq_true (h0)) ?_
      refine V13 ?_
      refine rx1 (Zg9 rfl (Zg7)) ?_
      exact ⟨_, ⟨rfl, rfl⟩, qI⟩
    · by_cases h1 : s.pages ≤ n
      · rw [if_pos (.inr h1)]
        refine fn_x Tryz.func53 rfl rfl rfl Tryz.mixed (by kernel_rfl) ?_
        intro w0
        refine Y6 ?_
        refine Zhn 6 rfl (rfl) ?_
        refine Y6 ?_
        refine Zhp rfl qH (pg_f hk (k := 9) rfl) ?_
        refine Y1 ?_
        refine Zhn 11 rfl (decide_eq_false ((fun h => h he))) ?_
        refine Y4 ?_
        refine Zhg (Zbn (b := 0) rfl rfl) ?_
        refine Zhn 17 rfl (decide_eq_false (h0)) ?_
        refine Y5 ?_
        first|refine Y0 ?_|(refine Zhh rfl ?_; (refine Zhp rfl qH (pg_f hk (k := 2) rfl) ?_))
        refine Y1 ?_
        refine Zhm 24 rfl (decide_eq_true (h1)) ?_
        refine V6 ?_
        refine rx1 (Zg9 rfl (Zg7)) ?_
        exact ⟨_, ⟨rfl, rfl⟩, qI⟩
      · rw [if_neg (fun h => h.elim h0 h1)]
        refine fn_x Tryz.func53 rfl rfl rfl Tryz.mixed (by kernel_rfl) ?_
        intro w0
        refine Y6 ?_
        refine Zhn 6 rfl (rfl) ?_
        refine Y6 ?_
        refine Zhp rfl qH (pg_f hk (k := 9) rfl) ?_
        refine Y1 ?_
        refine Zhn 11 rfl (decide_eq_false ((fun h => h he))) ?_
        refine Y4 ?_
        refine Zhg (Zbn (b := 0) rfl rfl) ?_
        refine Zhn 17 rfl (decide_eq_false (h0)) ?_
        refine Y5 ?_
        first|refine Y0 ?_|(refine Zhh rfl ?_; (refine Zhp rfl qH (pg_f hk (k := 2) rfl) ?_))
        refine Y1 ?_
        refine Zhn 24 rfl (decide_eq_false (h1)) ?_
        refine V6 ?_
        refine rx1 (Zg9 rfl (Zg7)) ?_
        exact ⟨_, ⟨rfl, rfl⟩, qI⟩
  · rw [if_pos he]
    refine fn_x Tryz.func53 rfl rfl rfl Tryz.mixed (by kernel_rfl) ?_
    intro w0
    refine Y6 ?_
    refine Zhn 6 rfl (rfl) ?_
    refine Y6 ?_
    refine Zhp rfl qH (pg_f hk (k := 9) rfl) ?_
    refine Y1 ?_
    refine Zhm 11 rfl (decide_eq_true (he)) ?_
    refine Y6 ?_
    refine Zhp rfl qH (pg_f hk (k := 9) rfl) ?_
    refine V2 ?_
    refine rx1 (Zg9 rfl (Zg7)) ?_
    exact ⟨_, ⟨rfl, rfl⟩, qI⟩
end
end Go.Sl

/- pager: what a pager holds, as pieces; use, walked. -/
set_option maxHeartbeats 4000000
set_option maxRecDepth 10000
set_option linter.unusedVariables false
set_option linter.unusedSimpArgs false
namespace Go.Sl
open Go Go.Proofs
attribute [local irreducible] pt old pur ex all den denOps denS xOps xC cX CX xthen xblk xcut xloop xng retX resX Calls PV Rd Con
attribute [local irreducible] hostA pcl
open PagerS (PS)
abbrev FV := PagerS.Fr × Nat × Option Addr × Nat
/-- A held page's frame. -/
def frA (e : FV) : Asrt := all [cl e.2.1 #[.slice e.2.2.1 e.1.text.length e.2.2.2, nvv e.1.is] 106, ownB e.2.2.1 e.2.2.2 e.1.text]
def heldF (l : List FV) : Int → Option Value := fun n => (l.find? fun e => e.1.page == n).map fun e => hp e.2.1
def lastF (last : Int → Option Plc) : Int → Option Value := fun n => (last n).map fun q => .agg (plc q)
abbrev fpages (l : List FV) : List Int := l.map fun e => e.1.page
theorem filter_at {zs : List Int} {n : Int} {i : Nat} (hi : i < zs.length) (h : zs[i] = n) (hn : zs.Nodup) : zs.take i ++ zs.drop (i + 1) = zs.filter fun z => !(z == n) := by
  have e : zs = zs.take i ++ (n :: zs.drop (i + 1)) := by rw [← h, ← List.drop_eq_getElem_cons hi, List.take_append_drop]
  have hn2 := hn
  rw [e, List.nodup_append] at hn2
  obtain ⟨_, h2, h3⟩ := hn2
  rw [List.nodup_cons] at h2
  conv => rhs; rw [e]
  rw [List.filter_append, List.filter_cons_of_neg (by simp)]
  have f1 : (zs.take i).filter (fun z => !(z == n)) = zs.take i := List.filter_eq_self.2 fun z hz => by
    have := h3 z hz n (List.mem_cons_self ..)
    simpa using this
  have f2 : (zs.drop (i + 1)).filter (fun z => !(z == n)) = zs.drop (i + 1) := List.filter_eq_self.2 fun z hz => by
    simp only [Bool.not_eq_true', beq_eq_false_iff_ne, ne_eq]
    rintro rfl
    exact h2.1 hz
  rw [f1, f2]
theorem filter_no {zs : List Int} {n : Int} (h : n ∉ zs) : zs.filter (fun z => !(z == n)) = zs := List.filter_eq_self.2 fun z hz => by
  simp only [Bool.not_eq_true', beq_eq_false_iff_ne, ne_eq]
  rintro rfl
  exact h hz
def used (zs : List Int) (n : Int) : List Int := (zs.filter fun z => !(z == n)) ++ [n]
section
variable {p : Nat} {s : PS} {c : PC}
theorem use_x (hk : s.key.length = 32) {zs : List Int} (hz : zs.length ≤ 16) (hn : zs.Nodup) {F : Int → Option Value} (n : Int) (fb : Nat) (hmost : s.most ≤ 16) (hcn : c.n = zs.length) :
    Con Tryz.prog 55 [hp p, .int .i64 n, hp fb] [cl p (pcl s c) 102, fmA c.bh F, ownI c.oa c.oc zs] (fun r M => ∃ oa' oc', M = [cl p (pcl { s with most := max s.most (used zs n).length } { c with oa := oa', n := (used zs n).length, oc := oc' }) 102, fmA c.bh (fput F n (some (hp fb))), ownI oa' oc' (used zs n)]) := by
  obtain ⟨ph, bh, oa, cn, oc, bl⟩ := c
  dsimp only at hcn ⊢
  subst hcn
  by_cases hin : n ∈ zs
  · refine Con.get (fun w0 w F H => own_someN (n := zs.length) (a := oa) (.there (.there .here)) (List.length_pos_of_mem hin) H) ?_
    rintro ⟨g, rfl⟩
    refine fn_x Tryz.func55 rfl rfl rfl Tryz.mixed (by kernel_rfl) ?_
    intro w0
    refine Y4 ?_
    refine Zhp rfl qH (pg_f hk (k := 4) rfl) ?_
    refine Y2 ?_
    refine Zof rfl rfl rfl qR ?_
    refine Y5 ?_
    refine Zhp rfl qH (pg_f hk (k := 5) rfl) ?_
    refine Y1 ?_
    refine Zh8 rfl (by kernel_rfl) (index_yes (L := [ownI (some ⟨g, 0, none⟩) oc zs]) (Rd.own .here) (by omega) hin) rfl qT ?_
    rintro _ _ ⟨⟨i, hi, hzi, rfl⟩, rfl⟩
    refine V3 ?_
    have hs1 := pg_size (s := s) (c := ⟨ph, bh, some ⟨g, 0, none⟩, zs.length, oc, bl⟩) hk
    have hs2 := pg_size (s := s) (c := ⟨ph, bh, some ⟨g, 0, none⟩, zs.length - 1, oc, bl⟩) hk
    refine Y3 ?_
    refine Zhm 20 rfl (decide_eq_true (Nat.zero_le i)) ?_
    refine Y7 ?_
    refine Zhp rfl qH (pg_f hk (k := 5) rfl) ?_
    refine Y3 ?_
    refine Zh8 rfl (by kernel_rfl) (delete_x hi (by omega)) rfl qT ?_
    rintro _ _ ⟨rfl, rfl⟩
    refine Y3 ?_
    refine Zhw rfl rfl qR qZ (pg_s (s := s) (c := ⟨ph, bh, some ⟨g, 0, none⟩, zs.length, oc, bl⟩) (s' := s) (c' := ⟨ph, bh, some ⟨g, 0, none⟩, zs.length - 1, oc, bl⟩) hk (k := 5) rfl rfl rfl) ?_
    refine V1 ?_
    rw [filter_at hi hzi hn]
    have hfl : (zs.filter fun z => !(z == n)).length = zs.length - 1 := by rw [← filter_at hi hzi hn]; simp; omega
    have ez : zv (used zs n) = zv (zs.filter fun z => !(z == n)) ++ [.int .i64 n] := by unfold used; simp
    have hul : (used zs n).length = zs.length - 1 + 1 := by unfold used; rw [List.length_append, hfl]; rfl
    refine Y5 ?_
    refine Zhp rfl qH (pg_f hk (k := 5) rfl) ?_
    refine Y1 ?_
    refine Zh7 (cs := #[.int .i64 _]) (by omega) (by omega) rfl ?_; intro b38
    refine Zia rfl rfl qH (Rd.cl (xs := [.int .i64 n]) qH rfl qZ rfl) qN (by omega) qS ?_; intro a3 c3
    refine Y2 ?_
    refine Zhw rfl rfl qR qZ (pg_s (s := s) (c := ⟨ph, bh, some ⟨g, 0, none⟩, zs.length - 1, oc, bl⟩) (s' := s) (c' := ⟨ph, bh, a3, zs.length - 1 + 1, c3, bl⟩) hk (k := 5) rfl rfl rfl) ?_
    refine V1 ?_
    rw [← hul, ← ez]
    have hs3 := pg_size (s := s) (c := ⟨ph, bh, a3, (used zs n).length, c3, bl⟩) hk
    have hmx : ((max s.most (used zs n).length : Nat) : Int) = max (s.most : Int) ((used zs n).length : Int) := by omega
    refine Ct.o ?_
    refine Zij ([cl p (pcl s ⟨ph, bh, a3, (used zs n).length, c3, bl⟩) 102]) [8, 9] (.q 0 (.q 1 (.q 2 (.q 3 (.q 5 (.q 6 (.q 7 (.r 4 (.r 8 (.r 9 (.q 10 (.q 11 (.q 12 (.e 13 false .nil)))))))))))))) (by kernel_rfl) (by kernel_rfl) (Imp.arr qV) ?_
    refine W7 ?_
    refine Ziv rfl rfl qH (pg_f hk (k := 7) rfl) ?_
    refine Ziv rfl rfl qH (pg_f hk (k := 5) rfl) ?_
    refine W4 ?_
    refine Ziq rfl ?_
    refine Zht rfl rfl qR qZ (pg_s (s := s) (c := ⟨ph, bh, a3, (used zs n).length, c3, bl⟩) (s' := { s with most := max s.most (used zs n).length }) (c' := ⟨ph, bh, a3, (used zs n).length, c3, bl⟩) hk (k := 7) (by rw [← hmx]; rfl) rfl rfl) ?_
    refine Zg3 ⟨(fun hh => Bool.noConfusion hh), ?_⟩
    refine Zik ?_
    refine Ct.o ?_
    first|refine rx0 ?_|refine rx0n ?_
    exact ⟨_, ⟨a3, c3, rfl⟩, qI⟩
  · refine fn_x Tryz.func55 rfl rfl rfl Tryz.mixed (by kernel_rfl) ?_
    intro w0
    refine Y4 ?_
    refine Zhp rfl qH (pg_f hk (k := 4) rfl) ?_
    refine Y2 ?_
    refine Zof rfl rfl rfl qR ?_
    refine Y5 ?_
    refine Zhp rfl qH (pg_f hk (k := 5) rfl) ?_
    refine Y1 ?_
    refine Zh8 rfl (by kernel_rfl) (index_no (L := [ownI oa oc zs]) (Rd.own .here) (by omega) hin) rfl qT ?_
    rintro _ _ ⟨rfl, rfl⟩
    refine Y5 ?_
    refine Zhg (Zbq (a := -1) (b := 0) rfl rfl) ?_
    refine Zhn 20 rfl (decide_eq_false ((by omega))) ?_
    refine V2 ?_
    have hfl := filter_no hin
    have ez : zv (used zs n) = zv zs ++ [.int .i64 n] := by unfold used; rw [hfl]; simp
    have hs1 := pg_size (s := s) (c := ⟨ph, bh, oa, zs.length, oc, bl⟩) hk
    have hul : (used zs n).length = zs.length + 1 := by unfold used; rw [List.length_append, hfl]; rfl
    refine Y5 ?_
    refine Zhp rfl qH (pg_f hk (k := 5) rfl) ?_
    refine Y1 ?_
    refine Zh7 (cs := #[.int .i64 _]) (by omega) (by omega) rfl ?_; intro b38
    refine Zia rfl rfl qH (Rd.cl (xs := [.int .i64 n]) qH rfl qZ rfl) qN (by omega) qS ?_; intro a3 c3
    refine Y2 ?_
    refine Zhw rfl rfl qR qZ (pg_s (s := s) (c := ⟨ph, bh, oa, zs.length, oc, bl⟩) (s' := s) (c' := ⟨ph, bh, a3, zs.length + 1, c3, bl⟩) hk (k := 5) rfl rfl rfl) ?_
    refine V1 ?_
    rw [← hul, ← ez]
    have hs3 := pg_size (s := s) (c := ⟨ph, bh, a3, (used zs n).length, c3, bl⟩) hk
    have hmx : ((max s.most (used zs n).length : Nat) : Int) = max (s.most : Int) ((used zs n).length : Int) := by omega
    refine Ct.o ?_
    refine Zij ([cl p (pcl s ⟨ph, bh, a3, (used zs n).length, c3, bl⟩) 102]) [8, 9] (.q 0 (.q 1 (.q 2 (.q 3 (.q 5 (.q 6 (.q 7 (.r 4 (.r 8 (.r 9 (.q 10 (.q 11 (.q 12 (.e 13 false .nil)))))))))))))) (by kernel_rfl) (by kernel_rfl) (Imp.arr qV) ?_
    refine W7 ?_
    refine Ziv rfl rfl qH (pg_f hk (k := 7) rfl) ?_
    refine Ziv rfl rfl qH (pg_f hk (k := 5) rfl) ?_
    refine W4 ?_
    refine Ziq rfl ?_
    refine Zht rfl rfl qR qZ (pg_s (s := s) (c := ⟨ph, bh, a3, (used zs n).length, c3, bl⟩) (s' := { s with most := max s.most (used zs n).length }) (c' := ⟨ph, bh, a3, (used zs n).length, c3, bl⟩) hk (k := 7) (by rw [← hmx]; rfl) rfl rfl) ?_
    refine Zg3 ⟨(fun hh => Bool.noConfusion hh), ?_⟩
    refine Zik ?_
    refine Ct.o ?_
    first|refine rx0 ?_|refine rx0n ?_
    exact ⟨_, ⟨a3, c3, rfl⟩, qI⟩
end
end Go.Sl

/- tag: New, take, Write, walked. -/
set_option maxHeartbeats 4000000
set_option maxRecDepth 10000
set_option linter.unusedVariables false
set_option linter.unusedSimpArgs false
namespace Go.Sl
open Go Go.Proofs
attribute [local irreducible] pt old pur ex all den denOps denS xOps xC cX CX xthen xblk xcut xloop xng retX resX Calls PV Rd Con
theorem new_c (key : List Byte) (hk : key.length = 32) : Con Tryz.prog 141 [.agg (key.map u8b).toArray] [] (fun v M => ∃ p, v = .pointer (some ⟨p, 0, none⟩) ∧ M = [cl p (pc (newS key)) 235]) := by
  refine fn_x Tryz.func141 rfl rfl rfl Tryz.mixed (by kernel_rfl) ?_
  intro w0
  refine Y1 ?_
  refine Zh5 rfl ?_; intro b1
  refine Y3 ?_
  refine Zhg (Zdm (cs := #[u64b 0#64, u64b 0#64, u64b 0#64, u64b 0#64, u64b 0#64, u64b 0#64, u64b 0#64, u8b 0#8, u8b 0#8, u8b 0#8, u8b 0#8, u8b 0#8, u8b 0#8, u8b 0#8, u8b 0#8, u8b 0#8, u8b 0#8, u8b 0#8, u8b 0#8, u8b 0#8, u8b 0#8, u8b 0#8, u8b 0#8, .int .i64 0]) (by kernel_rfl)) ?_
  refine Zh5 rfl ?_; intro b5
  refine V2 ?_
  refine Zij (_) [] (.q 0 (.q 1 (.q 2 (.q 6 (.q 7 (.r 3 (.e 4 false (.q 5 (.q 8 (.e 9 false .nil)))))))))) (by kernel_rfl) (by kernel_rfl) (Imp.refl _) ?_
  refine W1 ?_
  refine Zim rfl (Zmy (h := 8) rfl rfl) ?_
  refine Zim rfl (Zl9 rfl) ?_
  refine W2 ?_
  refine Zix (n := 8) rfl rfl qH qZ (ext_map _ _ _) ?_
  refine Ziq rfl ?_
  refine Zh8 rfl (by kernel_rfl) (word_c (List.take 8 key) (by simp; omega)) rfl qT ?_
  rintro _ _ ⟨rfl, rfl⟩
  refine Y1 ?_
  refine Zg3 ⟨(fun hh => Bool.noConfusion hh), ?_⟩
  refine Zim rfl (Zlf (y := 1152921487695413247#64) rfl rfl) ?_
  first|refine Zim rfl (Zl5 (n := 0) rfl rfl) ?_|refine Zim rfl (Zl3 (n := 0) rfl rfl) ?_
  refine Ziq rfl ?_
  refine Y1 ?_
  refine Zg3 ⟨(fun hh => Bool.noConfusion hh), ?_⟩
  refine Zik ?_
  refine Ct.o ?_
  refine Zij (_) [] (.q 0 (.q 1 (.q 2 (.q 6 (.q 7 (.r 3 (.e 4 false (.q 5 (.q 8 (.e 9 false .nil)))))))))) (by kernel_rfl) (by kernel_rfl) (Imp.refl _) ?_
  refine W1 ?_
  refine Zim rfl (Zmx (l := 8) (h := 16) rfl rfl rfl) ?_
  refine Zim rfl (Zl9 rfl) ?_
  refine W2 ?_
  refine Zix (n := 8) rfl rfl qH qZ (ext_map _ _ _) ?_
  refine Ziq rfl ?_
  refine Zh8 rfl (by kernel_rfl) (word_c ((key.drop 8).take 8) (by simp; omega)) rfl qT ?_
  rintro _ _ ⟨rfl, rfl⟩
  refine Y1 ?_
  refine Zg3 ⟨(fun hh => Bool.noConfusion hh), ?_⟩
  refine Zim rfl (Zlf (y := 1152921487695413244#64) rfl rfl) ?_
  first|refine Zim rfl (Zl5 (n := 1) rfl rfl) ?_|refine Zim rfl (Zl3 (n := 1) rfl rfl) ?_
  refine Ziq rfl ?_
  refine Y1 ?_
  refine Zg3 ⟨(fun hh => Bool.noConfusion hh), ?_⟩
  refine Zik ?_
  refine Ct.o ?_
  refine Zij (_) [] (.q 0 (.q 1 (.q 2 (.q 5 (.q 6 (.r 3 (.e 4 false (.q 7 (.e 8 false .nil))))))))) (by kernel_rfl) (by kernel_rfl) (Imp.refl _) ?_
  refine W1 ?_
  refine Zim rfl (Zmx (l := 16) (h := 24) rfl rfl rfl) ?_
  refine Zim rfl (Zl9 rfl) ?_
  refine W2 ?_
  refine Zix (n := 8) rfl rfl qH qZ (ext_map _ _ _) ?_
  refine Ziq rfl ?_
  refine Zh8 rfl (by kernel_rfl) (word_c ((key.drop 16).take 8) (by simp; omega)) rfl qT ?_
  rintro _ _ ⟨rfl, rfl⟩
  refine Y1 ?_
  refine Zg3 ⟨(fun hh => Bool.noConfusion hh), ?_⟩
  first|refine Zim rfl (Zl5 (n := 0) rfl rfl) ?_|refine Zim rfl (Zl3 (n := 0) rfl rfl) ?_
  refine Ziq rfl ?_
  refine Y1 ?_
  refine Zg3 ⟨(fun hh => Bool.noConfusion hh), ?_⟩
  refine Zik ?_
  refine Ct.o ?_
  refine Zij (_) [] (.q 0 (.q 1 (.q 2 (.q 5 (.q 6 (.r 3 (.e 4 false (.q 7 (.e 8 false .nil))))))))) (by kernel_rfl) (by kernel_rfl) (Imp.refl _) ?_
  refine W1 ?_
  refine Zim rfl (Zmx (l := 24) (h := 32) rfl rfl rfl) ?_
  refine Zim rfl (Zl9 rfl) ?_
  refine W2 ?_
  refine Zix (n := 8) rfl rfl qH qZ (ext_map _ _ _) ?_
  refine Ziq rfl ?_
  refine Zh8 rfl (by kernel_rfl) (word_c ((key.drop 24).take 8) (by simp; omega)) rfl qT ?_
  rintro _ _ ⟨rfl, rfl⟩
  refine Y1 ?_
  refine Zg3 ⟨(fun hh => Bool.noConfusion hh), ?_⟩
  first|refine Zim rfl (Zl5 (n := 1) rfl rfl) ?_|refine Zim rfl (Zl3 (n := 1) rfl rfl) ?_
  refine Ziq rfl ?_
  refine Y1 ?_
  refine Zg3 ⟨(fun hh => Bool.noConfusion hh), ?_⟩
  refine Zik ?_
  refine V4 ?_
  refine rx1 (Zhb rfl (Zg7)) ?_
  have e : (key.drop 24).take 8 = key.drop 24 := List.take_of_length_le (by simp; omega)
  rw [e]
  exact ⟨_, ⟨b5, rfl, rfl⟩, by exact Imp.arr (by repeat (first|exact Arr.nil|exact Arr.stop|refine Arr.cons (by repeat constructor) ?_|refine Arr.skip ?_))⟩
theorem take_c {p : Nat} (t : PolyS) (ht : t.rest.length = 16) (b : List Byte) (hb : b.length = 16) (top : BitVec 64) : Con Tryz.prog 161 [.pointer (some ⟨p, 0, none⟩), .agg (b.map u8b).toArray, u64b top] [cl p (pc t) 235]
    (fun v M => v = .tuple #[] ∧ M = [cl p (pc (setH t (takeW t.h t.r b top))) 235]) := by
  have hsz := pc_size ht
  refine fn_x Tryz.func161 rfl rfl rfl Tryz.mixed (by kernel_rfl) ?_
  intro w0
  refine Y1 ?_
  refine Zh5 rfl ?_; intro b4
  refine Y5 ?_
  refine Zhq (n := 3) rfl qH qZ (pc_h t) ?_
  refine Zhz (cs := #[u64b 0#64, u64b 0#64, u64b 0#64]) rfl ?_; intro b6
  first|refine Zhy rfl rfl qR qZ qN qZ ?_|refine Zhx rfl rfl qR qZ qN qZ rfl ?_
  refine V4 ?_
  refine Zij (_) [4, 5] (.q 0 (.q 2 (.q 3 (.r 1 (.r 4 (.e 5 true (.q 6 (.q 7 (.q 8 (.q 9 (.q 10 (.e 11 false (.q 12 .nil))))))))))))) (by kernel_rfl) (by kernel_rfl) (Imp.refl _) ?_
  first|refine Zim rfl (Zl5 (n := 0) rfl rfl) ?_|refine Zim rfl (Zl3 (n := 0) rfl rfl) ?_
  refine Zim rfl (Zmy (h := 8) rfl rfl) ?_
  refine Zim rfl (Zl9 rfl) ?_
  refine W1 ?_
  refine Zix (n := 8) rfl rfl qH qZ (ext_map _ _ _) ?_
  refine Ziq rfl ?_
  refine Zh8 rfl (by kernel_rfl) (word_c _ (by simp; omega)) rfl qT ?_
  rintro _ _ ⟨rfl, rfl⟩
  refine Y1 ?_
  refine Zg3 ⟨fun _ => Imp.arr qV, ?_⟩
  refine Zim rfl (Zh9 rfl (ext_add64 _ _ 0#64 (by decide)) rfl) ?_
  refine W3 ?_
  first|refine Zim rfl (Zl5 (n := 0) rfl rfl) ?_|refine Zim rfl (Zl3 (n := 0) rfl rfl) ?_
  refine Ziq rfl ?_
  refine Y1 ?_
  refine Zg3 ⟨(fun hh => Bool.noConfusion hh), ?_⟩
  refine W2 ?_
  refine Ct.o ?_
  refine Zij (_) [4, 5] (.q 0 (.q 2 (.q 3 (.q 6 (.r 1 (.r 4 (.e 5 true (.q 7 (.q 8 (.q 9 (.q 10 (.q 11 (.e 12 false (.q 13 .nil)))))))))))))) (by kernel_rfl) (by kernel_rfl) (Imp.refl _) ?_
  first|refine Zim rfl (Zl5 (n := 1) rfl rfl) ?_|refine Zim rfl (Zl3 (n := 1) rfl rfl) ?_
  refine Zim rfl (Zmx (l := 8) (h := 16) rfl rfl rfl) ?_
  refine Zim rfl (Zl9 rfl) ?_
  refine W2 ?_
  refine Zix (n := 8) rfl rfl qH qZ (ext_map _ _ _) ?_
  refine Ziq rfl ?_
  refine Zh8 rfl (by kernel_rfl) (word_c _ (by simp; omega)) rfl qT ?_
  rintro _ _ ⟨rfl, rfl⟩
  refine Y1 ?_
  refine Zg3 ⟨fun _ => Imp.arr qV, ?_⟩
  refine Zim rfl (Zh9 rfl (ext_add64 _ _ _ (carry_le _ _ _ (by decide))) rfl) ?_
  refine W3 ?_
  first|refine Zim rfl (Zl5 (n := 1) rfl rfl) ?_|refine Zim rfl (Zl3 (n := 1) rfl rfl) ?_
  refine Ziq rfl ?_
  refine Y1 ?_
  refine Zg3 ⟨(fun hh => Bool.noConfusion hh), ?_⟩
  refine W2 ?_
  refine Y1 ?_
  first|refine Zhg (Zl5 (n := 2) rfl rfl) ?_|refine Zhg (Zl3 (n := 2) rfl rfl) ?_
  refine Y5 ?_
  first|refine Zhg (Zl5 (n := 2) rfl rfl) ?_|refine Zhg (Zl3 (n := 2) rfl rfl) ?_
  refine V2 ?_
  refine Zij (_) [5] (.q 0 (.q 2 (.q 3 (.q 4 (.r 1 (.r 5 (.e 6 false (.q 7 (.q 8 (.e 9 false .nil)))))))))) (by kernel_rfl) (by kernel_rfl) (Imp.refl _) ?_
  refine W5 ?_
  refine Zix (n := 2) rfl rfl qH qZ (pc_r t) ?_
  refine Ziq rfl ?_
  refine Zh8 rfl (by kernel_rfl) (times_c (_, _, _) _) rfl qT ?_
  rintro _ _ ⟨rfl, rfl⟩
  refine Y1 ?_
  refine Zg3 ⟨(fun hh => Bool.noConfusion hh), ?_⟩
  refine W2 ?_
  refine Ziq rfl ?_
  first|refine Zhy rfl rfl qR qZ qN qZ ?_|refine Zhx rfl rfl qR qZ qN qZ (pc_setH _ _) ?_
  refine Zg3 ⟨(fun hh => Bool.noConfusion hh), ?_⟩
  refine Zik ?_
  refine Ct.o ?_
  first|refine rx0 ?_|refine rx0n ?_
  have e : (b.drop 8).take (16 - 8) = b.drop 8 := List.take_of_length_le (by simp; omega)
  rw [e]
  exact ⟨_, ⟨rfl, rfl⟩, by exact Imp.arr (by repeat (first|exact Arr.nil|exact Arr.stop|refine Arr.cons (by repeat constructor) ?_|refine Arr.skip ?_))⟩
end Go.Sl

/- tag: Write, walked. -/
set_option maxHeartbeats 4000000
set_option maxRecDepth 10000
set_option linter.unusedVariables false
set_option linter.unusedSimpArgs false
namespace Go.Sl
open Go Go.Proofs
attribute [local irreducible] pt old pur ex all den denOps denS xOps xC cX CX xthen xblk xcut xloop xng retX resX Calls PV Rd Con
attribute [local irreducible] pc writeS takeW full put1 setU setH
theorem setU_put1 (t : PolyS) (x : List Byte) : setU (setU (put1 t x) t.used) (t.used + x.length) = put1 t x := by unfold setU put1; rfl
theorem setU_used {t : PolyS} {n : Nat} (h : (setU t n).rest.length = 16) : (pc (setU t n))[23]? = some (.int .i64 n) := by
  rw [pc_used h]; unfold setU; rfl
theorem write_c {p : Nat} {L : List Asrt} (t : PolyS) (ht : PolyOk t) (b : List Byte) (a : Option Addr) (c : Nat) (hc : b.length ≤ c) (hcm : c ≤ 9223372036854775807) (hv : Rd L 1 (.slice a b.length c) b.length (b.map u8b)) :
    Con Tryz.prog 142 [.pointer (some ⟨p, 0, none⟩), .slice a b.length c] (cl p (pc t) 235 :: L)
      (fun v M => v = .tuple #[.int .i64 b.length, .nilIface] ∧ M = cl p (pc (writeS t b)) 235 :: L) := by
  refine fn_x Tryz.func142 rfl rfl rfl Tryz.mixed (by kernel_rfl) ?_
  intro w0
  refine V13 ?_
  refine Zgo [(6, 7), (12, 49)] (by kernel_rfl)
    (fun s : Nat × Option Addr × Nat × Nat => s.2.2.2 = b.length - s.1 ∧ s.1 ≤ b.length ∧ b.length - s.1 ≤ s.2.2.1 ∧ Rd L 1 (.slice s.2.1 (b.length - s.1) s.2.2.1) (b.length - s.1) ((b.drop s.1).map u8b))
    (fun s => cl p (pc (writeS t (b.take s.1))) 235 :: L) (fun s => [(6, .slice s.2.1 s.2.2.2 s.2.2.1)]) (fun s => b.length - s.1) (0, a, c, b.length) ⟨rfl, Nat.zero_le _, hc, hv⟩ (by dsimp only; rw [writeS_zero]; exact Imp.refl _) ⟨rfl, trivial⟩ ?_
  rintro ⟨i, a, c, n⟩ u ⟨hn, hi, hc, hv⟩
  dsimp only at hn hi hc hv ⊢
  subst hn
  have hti : PolyOk (writeS t (b.take i)) := writeS_ok ht
  generalize hT : writeS t (b.take i) = T at hti
  have hu := hti.used
  have hsz := pc_size hti.rest
  refine V5 ?_
  refine Zgg rfl (fun hB => ?_) (fun hB => ?_)
  · obtain ⟨m, hm⟩ : ∃ m, m = min (b.length - i) (16 - T.used) := ⟨_, rfl⟩
    have hm0 : 0 < m := by omega
    obtain ⟨x, hx⟩ : ∃ x, x = (b.drop i).take m := ⟨_, rfl⟩
    have hxl : x.length = m := by rw [hx]; simp; omega
    have htot : b.take (i + m) = b.take i ++ x := by rw [hx, List.take_add]
    have hw : writeS t (b.take (i + m)) = full (put1 T x) := by rw [htot, writeS_append, hT, write_put hti (by omega)]
    have hcp : wr (pc T) (7 + T.used) (((b.drop i).map u8b).take (m * 1)) = pc (setU (put1 T x) T.used) := by
      rw [← pc_copy hti.rest (by omega), ← List.map_take, Nat.mul_one, ← hx]
    have hpr : (put1 T x).rest.length = 16 := put1_rest hti (by omega)
    have hpru : (setU (put1 T x) T.used).rest.length = 16 := by unfold setU; exact hpr
    have hsz2 : (pc (setU (put1 T x) T.used)).size = 24 := pc_size hpru
    have hsz3 : (pc (put1 T x)).size = 24 := pc_size hpr
    have hs1 : (pc (setU (put1 T x) T.used)).setIfInBounds 23 (.int .i64 ((T.used + m : Nat) : Int)) = pc (put1 T x) := by
      rw [pc_setUsed (t := setU (put1 T x) T.used) hpru (T.used + m), ← hxl, setU_put1]
    have hv2 : Rd L 1 (.slice (if c = m then a else a.map (·.add (m * 1))) (b.length - (i + m)) (c - m)) (b.length - (i + m)) ((b.drop (i + m)).map u8b) := by
      have := hv.cut (l := m) (by omega) hc
      rw [← List.map_drop, List.drop_drop] at this
      rwa [show b.length - (i + m) = b.length - i - m by omega]
    refine Ct.o ?_
    refine Zij (_) [] (.q 0 (.q 1 (.q 2 (.q 3 (.q 4 (.q 5 (.q 8 (.r 6 (.q 7 (.e 9 false (.q 10 .nil))))))))))) (by kernel_rfl) (by kernel_rfl) (Imp.refl _) ?_
    refine W7 ?_
    refine Ziv rfl rfl qH (pc_used hti.rest) ?_
    refine Zim rfl (Zmx (h := 16) rfl rfl rfl) ?_
    refine Ziq rfl ?_; refine Zib (c' := pc (setU (put1 T x) T.used)) rfl rfl (hv.imp Imp.tail) qR (by rw [hsz]; omega) (oneM_u8 _) (by rw [← hm]; exact hcp) ?_; refine Zg3 ⟨(fun hh => Bool.noConfusion hh), ?_⟩
    refine W2 ?_
    refine Ct.o ?_
    rw [← hm]
    refine Y4 ?_
    refine Zhp rfl qH (setU_used hpru) ?_
    refine Y4 ?_
    refine Zht rfl rfl qR qZ (hs1) ?_
    refine Y4 ?_
    refine Zhg (Zm1 (l := m) (h := b.length - i) rfl rfl rfl (by omega) (by omega)) ?_
    refine Y6 ?_
    refine Zhp rfl qH (pc_used hpr) ?_
    refine V2 ?_
    rw [show b.length - i - m = b.length - (i + m) by omega]
    refine Zgg rfl (fun hB2 => ?_) (fun hB2 => ?_)
    · have hprh : (setH (put1 T x) (takeW (put1 T x).h (put1 T x).r (put1 T x).rest 1#64)).rest.length = 16 := by unfold setH; exact hpr
      have hfull : full (put1 T x) = setU (setH (put1 T x) (takeW (put1 T x).h (put1 T x).r (put1 T x).rest 1#64)) 0 := by rw [full, if_pos hB2]
      have hsz4 : (pc (setH (put1 T x) (takeW (put1 T x).h (put1 T x).r (put1 T x).rest 1#64))).size = 24 := pc_size hprh
      have hs2 : (pc (setH (put1 T x) (takeW (put1 T x).h (put1 T x).r (put1 T x).rest 1#64))).setIfInBounds 23 (.int .i64 0) = pc (writeS t (b.take (i + m))) := by
        rw [hw, hfull]
        exact pc_setUsed hprh 0
      refine Y5 ?_
      refine Zhq (n := 16) rfl qH qZ (pc_rest hpr) ?_
      refine Zh8 rfl (by kernel_rfl) (take_c _ hpr _ hpr 1#64) rfl qT ?_
      rintro _ _ ⟨rfl, rfl⟩
      refine Y6 ?_
      refine Zht rfl rfl qR qZ (hs2) ?_
      refine V1 ?_
      exact Zgl (i + m, _, _, _) (by dsimp only; omega) ⟨rfl, by dsimp only; omega, by dsimp only; omega, hv2⟩ qI ⟨rfl, trivial⟩
    · have hw2 : writeS t (b.take (i + m)) = put1 T x := by rw [hw, full, if_neg hB2]
      rw [← hw2]
      refine Ct.o ?_
      exact Zgl (i + m, _, _, _) (by dsimp only; omega) ⟨rfl, by dsimp only; omega, by dsimp only; omega, hv2⟩ qI ⟨rfl, trivial⟩
  · have hie : i = b.length := by omega
    have hw : T = writeS t b := by rw [← hT, List.take_of_length_le (by omega)]
    refine V6 ?_
    refine rx2 (Zg9 rfl (Zg8 rfl (Zg7))) ?_
    rw [hw]
    exact ⟨_, ⟨rfl, rfl⟩, by exact Imp.arr (by repeat (first|exact Arr.nil|exact Arr.stop|refine Arr.cons (by repeat constructor) ?_|refine Arr.skip ?_))⟩
end Go.Sl

/- tag: Sum, walked. -/
set_option maxHeartbeats 4000000
set_option maxRecDepth 10000
set_option linter.unusedVariables false
set_option linter.unusedSimpArgs false
namespace Go.Sl
open Go Go.Proofs
attribute [local irreducible] pt old pur ex all den denOps denS xOps xC cX CX xthen xblk xcut xloop xng retX resX Calls PV Rd Con
attribute [local irreducible] pc writeS takeW full put1 setU setH
theorem sum_c {p : Nat} (t : PolyS) (ht : PolyOk t) : Con Tryz.prog 143 [.pointer (some ⟨p, 0, none⟩)] [cl p (pc t) 235] (fun v M => v = .agg ((sumS t).map u8b).toArray ∧ M = [cl p (pc t) 235]) := by
  have hr := ht.rest
  have hu := ht.used
  have hsz := pc_size hr
  refine fn_x Tryz.func143 rfl rfl rfl Tryz.mixed (by kernel_rfl) ?_
  intro w0
  refine Y1 ?_
  refine Zhz (cs := ((List.replicate 16 0#8).map u8b).toArray) rfl ?_; intro b2
  refine Y10 ?_
  refine Zhz (cs := #[u64b 0#64, u64b 0#64, u64b 0#64, u64b 0#64, u64b 0#64, u64b 0#64, u64b 0#64, u8b 0#8, u8b 0#8, u8b 0#8, u8b 0#8, u8b 0#8, u8b 0#8, u8b 0#8, u8b 0#8, u8b 0#8, u8b 0#8, u8b 0#8, u8b 0#8, u8b 0#8, u8b 0#8, u8b 0#8, u8b 0#8, .int .i64 0]) rfl ?_; intro b3
  first|refine Zhy rfl rfl qR qZ (by first|rfl|exact oneM_u8 _|exact oneL_u8 _|exact pc_one _|(simp [oneC]; done)) qZ ?_|refine Zhx rfl rfl qR qZ (by first|rfl|exact oneM_u8 _|exact oneL_u8 _|exact pc_one _|(simp [oneC]; done)) qZ rfl ?_
  refine Y3 ?_
  refine Zhp rfl qH (pc_used hr) ?_
  refine V2 ?_
  refine Zgn [(4, 4), (22, 32)] (by kernel_rfl) (fun _ : Unit => True) (fun _ => [cl b3 (pc (finS t)) 235, cl b2 ((List.replicate 16 0#8).map u8b).toArray 178, cl p (pc t) 235]) (fun _ => []) ?_ ?_
  · refine Zgg rfl (fun hB => ?_) (fun hB => ?_)
    · refine Y1 ?_
      refine Zhz (cs := ((List.replicate 16 0#8).map u8b).toArray) rfl ?_; intro b4
      refine V1 ?_
      refine Zij (_) [] (.q 0 (.q 1 (.q 2 (.r 3 (.q 4 (.e 5 false .nil)))))) (by kernel_rfl) (by kernel_rfl) (Imp.refl _) ?_
      refine Zim rfl (Zmy (h := 16) rfl rfl) ?_
      refine W2 ?_
      refine Ziv rfl rfl qH (pc_used hr) ?_
      refine Zim rfl (Zmy (h := t.used) rfl rfl (by omega) (by omega)) ?_
      refine Ziq rfl ?_
      refine Zib rfl rfl (Rd.cl (xs := (t.rest.take t.used).map u8b) qH (by simp; omega) (by rw [hsz]; omega) (pc_restTake hr (by omega))) qR qZ (by first|rfl|exact oneM_u8 _|exact oneL_u8 _|exact pc_one _|(simp [oneC]; done)) ((by rw [List.take_of_length_le (by simp; omega)]; exact copy_last hr hu : _ = ((t.rest.take t.used ++ List.replicate (16 - t.used) 0#8).map u8b).toArray)) ?_
      refine Zg3 ⟨(fun hh => Bool.noConfusion hh), ?_⟩
      refine Zik ?_
      refine Y2 ?_
      refine Zhp rfl qH (pc_used hr) ?_
      refine Y1 ?_
      refine Zhs rfl (v := u8b 1#8) rfl rfl qR qZ (setL (f := u8b) (l := t.rest.take t.used ++ List.replicate (16 - t.used) 0#8)) ?_
      refine Y3 ?_
      refine Zh8 rfl (by kernel_rfl) (take_c t hr (lastB t) (lastB_len hr (by omega)) 0#64) rfl qT ?_
      rintro _ _ ⟨rfl, rfl⟩
      refine V2 ?_
      have e : finS t = setH t (takeW t.h t.r (lastB t) 0#64) := by rw [finS, if_pos hB]
      exact Zgk () trivial (by rw [e]; exact Imp.arr (by repeat (first|exact Arr.nil|exact Arr.stop|refine Arr.cons (by repeat constructor) ?_|refine Arr.skip ?_))) trivial
    · refine Ct.o ?_
      have e : finS t = t := by rw [finS, if_neg hB]
      exact Zgk () trivial (by rw [e]; exact Imp.arr (by repeat (first|exact Arr.nil|exact Arr.stop|refine Arr.cons (by repeat constructor) ?_|refine Arr.skip ?_))) trivial
  rintro _ u _
  have hszf : (pc (finS t)).size = 24 := pc_size (by rw [finS_rest]; exact hr)
  refine Y2 ?_
  refine Zhq (n := 3) rfl qH qZ (pc_h _) ?_
  refine Zhz (cs := #[u64b 0#64, u64b 0#64, u64b 0#64]) rfl ?_; intro b5
  first|refine Zhy rfl rfl qR qZ (by first|rfl|exact oneM_u8 _|exact oneL_u8 _|exact pc_one _|(simp [oneC]; done)) qZ ?_|refine Zhx rfl rfl qR qZ (by first|rfl|exact oneM_u8 _|exact oneL_u8 _|exact pc_one _|(simp [oneC]; done)) qZ rfl ?_
  refine Y2 ?_
  first|refine Zhg (Zl5 (n := 0) rfl rfl) ?_|refine Zhg (Zl3 (n := 0) rfl rfl) ?_
  refine Y1 ?_
  refine Zhg (Zh9 rfl (ext_sub64 _ 18446744073709551611#64 0#64 (by decide)) rfl) ?_
  refine Y7 ?_
  first|refine Zhg (Zl5 (n := 1) rfl rfl) ?_|refine Zhg (Zl3 (n := 1) rfl rfl) ?_
  refine Y2 ?_
  refine Zhg (Zh9 rfl (ext_sub64 _ 18446744073709551615#64 _ (borrow_le _ _ _)) rfl) ?_
  refine Y7 ?_
  first|refine Zhg (Zl5 (n := 2) rfl rfl) ?_|refine Zhg (Zl3 (n := 2) rfl rfl) ?_
  refine Y2 ?_
  refine Zhg (Zh9 rfl (ext_sub64 _ 3#64 _ (borrow_le _ _ _)) rfl) ?_
  refine Y7 ?_
  refine Zhg (Zlm rfl) ?_
  refine Y3 ?_
  first|refine Zhg (Zl5 (n := 0) rfl rfl) ?_|refine Zhg (Zl3 (n := 0) rfl rfl) ?_
  refine Y5 ?_
  refine Zhg (Zli rfl rfl) ?_
  refine Y1 ?_
  first|refine Zhg (Zl5 (n := 0) rfl rfl) ?_|refine Zhg (Zl3 (n := 0) rfl rfl) ?_
  refine Y3 ?_
  first|refine Zhg (Zl5 (n := 1) rfl rfl) ?_|refine Zhg (Zl3 (n := 1) rfl rfl) ?_
  refine Y5 ?_
  refine Zhg (Zli rfl rfl) ?_
  refine Y1 ?_
  first|refine Zhg (Zl5 (n := 1) rfl rfl) ?_|refine Zhg (Zl3 (n := 1) rfl rfl) ?_
  refine Y6 ?_
  first|refine Zhg (Zl5 (n := 0) rfl rfl) ?_|refine Zhg (Zl3 (n := 0) rfl rfl) ?_
  refine Y2 ?_
  first|refine Zhg (Zl5 (n := 0) rfl rfl) ?_|refine Zhg (Zl3 (n := 0) rfl rfl) ?_
  refine Zhp rfl qH (pc_s0 _) ?_
  refine Zhg (Zh9 rfl (ext_add64 _ _ 0#64 (by decide)) rfl) ?_
  refine Y3 ?_
  first|refine Zhg (Zl5 (n := 0) rfl rfl) ?_|refine Zhg (Zl3 (n := 0) rfl rfl) ?_
  refine Y4 ?_
  first|refine Zhg (Zl5 (n := 1) rfl rfl) ?_|refine Zhg (Zl3 (n := 1) rfl rfl) ?_
  refine Y2 ?_
  first|refine Zhg (Zl5 (n := 1) rfl rfl) ?_|refine Zhg (Zl3 (n := 1) rfl rfl) ?_
  refine Zhp rfl qH (pc_s1 _) ?_
  refine Y1 ?_
  refine Zhg (Zh9 rfl (ext_add64 _ _ _ (carry_le _ _ _ (by decide))) rfl) ?_
  refine Y3 ?_
  first|refine Zhg (Zl5 (n := 1) rfl rfl) ?_|refine Zhg (Zl3 (n := 1) rfl rfl) ?_
  refine Y3 ?_
  refine Zhz (cs := ((List.replicate 16 0#8).map u8b).toArray) rfl ?_; intro b11
  refine V4 ?_
  refine Zgo [(12, 12), (96, 110)] (by kernel_rfl) (fun i : Nat => i ≤ 16)
    (fun i => [cl b11 ((upto (outB (outW (finS t).h (finS t).s)) i).map u8b).toArray 178, cl b5 (hA ((outW (finS t).h (finS t).s).1, (outW (finS t).h (finS t).s).2, (finS t).h.2.2)) 233, cl b2 ((List.replicate 16 0#8).map u8b).toArray 178, cl p (pc t) 235])
    (fun i => [(96, .int .i64 (i : Int))]) (fun i => 16 - i) 0 (by omega) (by rw [upto_zero]; exact Imp.arr (by repeat (first|exact Arr.nil|exact Arr.stop|refine Arr.cons (by repeat constructor) ?_|refine Arr.skip ?_))) ⟨rfl, trivial⟩ ?_
  intro i u hi
  try dsimp only at hi
  try dsimp only
  generalize hO : outW (finS t).h (finS t).s = O
  have hul : (upto (outB O) i).length = 16 := by simp [upto]
  refine V3 ?_
  refine Zgg rfl (fun hB => ?_) (fun hB => ?_)
  · have hld : (hA (O.1, O.2, (finS t).h.2.2))[i / 8]? = some (u64b (if i / 8 = 0 then O.1 else O.2)) := by
      have : i / 8 = 0 ∨ i / 8 = 1 := by omega
      rcases this with h|h <;> rw [h] <;> rfl
    refine Y9 ?_
    refine Zhp rfl qH (hld) ?_
    refine Y2 ?_
    first|refine Zhg (Zmc (a := 8) rfl rfl) ?_|refine Zhg (Zbi rfl rfl) ?_
    refine Zhg (Zlk rfl rfl) ?_
    refine Zhg (Zlx rfl) ?_
    refine Y1 ?_
    refine Zht rfl rfl qR qZ (setL (f := u8b) (l := upto (outB O) i)) ?_
    refine V5 ?_
    refine Zgl (i + 1) qO qO ?_ ⟨rfl, trivial⟩
    try dsimp only
    rw [← upto_set]
    exact Imp.arr (by repeat (first|exact Arr.nil|exact Arr.stop|refine Arr.cons (by repeat constructor) ?_|refine Arr.skip ?_))
  · have hi16 : i = 16 := by omega
    subst hi16
    rw [upto_end]
    refine Y2 ?_
    first|refine Zhy rfl rfl qR qZ (by first|rfl|exact oneM_u8 _|exact oneL_u8 _|exact pc_one _|(simp [oneC]; done)) qZ ?_|refine Zhx rfl rfl qR qZ (by first|rfl|exact oneM_u8 _|exact oneL_u8 _|exact pc_one _|(simp [oneC]; done)) qZ rfl ?_
    refine V1 ?_
    refine rx1 (Zhe rfl qH qZ (Zg7)) ?_
    rw [← hO]
    exact ⟨_, ⟨rfl, rfl⟩, by exact Imp.arr (by repeat (first|exact Arr.nil|exact Arr.stop|refine Arr.cons (by repeat constructor) ?_|refine Arr.skip ?_))⟩
end Go.Sl

/- seal: the tag of a cover, walked. -/
set_option maxHeartbeats 4000000
set_option maxRecDepth 10000
set_option linter.unusedVariables false
set_option linter.unusedSimpArgs false
namespace Go.Sl
open Go Go.Proofs
attribute [local irreducible] pt old pur ex all den denOps denS xOps xC cX CX xthen xblk xcut xloop xng retX resX Calls PV Rd Con
attribute [local irreducible] pc writeS takeW full put1 setU setH code sumS blockB ksB xorB
theorem writeB_x {p : Nat} {L : List Asrt} (t : PolyS) (ht : PolyOk t) {v : Value} {l : List Byte} (h : Bs L v l) :
    Con Tryz.prog 142 [.pointer (some ⟨p, 0, none⟩), v] (cl p (pc t) 235 :: L) (fun r M => r = .tuple #[.int .i64 l.length, .nilIface] ∧ cl p (pc (writeS t l)) 235 :: L = M) := by
  refine Con.get (fun w0 w F H => (h.imp Imp.tail).sh _ _ _ H) ?_
  rintro ⟨a, c, rfl, h1, h2⟩
  refine (write_c (L := L) t ht l a c h1 h2 h.rd).mono ?_
  rintro v M ⟨rfl, rfl⟩
  exact ⟨_, Imp.refl _, rfl, rfl⟩
/-- What has been written ahead of a part. -/
def msgB (more cover : List Byte) (i : Nat) : List Byte := if i = 0 then [] else if i = 1 then more ++ padB more else (more ++ padB more) ++ (cover ++ padB cover)
theorem msgB_succ (more cover : List Byte) (i : Nat) (h : i < 2) : msgB more cover (i + 1) = (msgB more cover i ++ (if i = 0 then more else cover)) ++ padB (if i = 0 then more else cover) := by
  match i, h with
  | 0, _ => simp [msgB]
  | 1, _ => simp [msgB]
theorem key_cp (b : List Byte) (h : b.length = 64) : wr (((List.replicate 32 0#8).map u8b).toArray) 0 ((b.map u8b).take (min 64 32 * 1)) = ((b.take 32).map u8b).toArray := by
  rw [show min 64 32 * 1 = 32 from rfl, ← List.map_take]
  have := wr_all (((b.take 32).map u8b).toArray) (((List.replicate 32 0#8).map u8b).toArray) (by simp [h])
  exact this
theorem vouch_x {L : List Asrt} (key nonce : List Byte) (hk : key.length = 32) (hn : nonce.length = 12) {vm vc : Value} {more cover : List Byte} (hm : Bs L vm more) (hc : Bs L vc cover) (hml : more.length ≤ 140737488351232) (hcl : cover.length ≤ 140737488351232) :
    Con Tryz.prog 118 [.agg (key.map u8b).toArray, .agg (nonce.map u8b).toArray, vm, vc] L (fun r M => r = .agg ((vouchB key nonce more cover).map u8b).toArray ∧ L = M) := by
  refine Con.get (fun w0 w F H => hm.sh _ _ _ H) ?_
  rintro ⟨ma, mc, rfl, hmc, hmcm⟩
  refine Con.get (fun w0 w F H => hc.sh _ _ _ H) ?_
  rintro ⟨ca, cc, rfl, hcc, hccm⟩
  have hbl := blockB_len key 0#32 nonce
  have hol := oneKey_len key nonce
  have hone : (blockB key 0#32 nonce).take 32 = oneKey key nonce := rfl
  refine fn_x Tryz.func118 rfl rfl rfl Tryz.mixed (by kernel_rfl) ?_
  intro w0
  refine Y1 ?_
  refine Zh5 rfl ?_; intro b4
  refine Zh5 rfl ?_; intro b5
  refine Zhz (cs := ((List.replicate 16 0#8).map u8b).toArray) rfl ?_; intro b8
  refine Y2 ?_
  refine Zhz (cs := ((List.replicate 32 0#8).map u8b).toArray) rfl ?_; intro b9
  refine Y4 ?_
  refine Zh8 rfl (by kernel_rfl) (block_x key 0#32 nonce hk hn) rfl qT ?_
  rintro _ _ ⟨rfl, rfl⟩
  refine Y1 ?_
  refine Zhz (cs := ((List.replicate 64 0#8).map u8b).toArray) rfl ?_; intro b10
  first|refine Zhy rfl rfl qR qZ (by first|rfl|exact oneM_u8 _|exact oneL_u8 _|exact pc_one _|(simp [oneC]; done)) qZ ?_|refine Zhx rfl rfl qR qZ (by first|rfl|exact oneM_u8 _|exact oneL_u8 _|exact pc_one _|(simp [oneC]; done)) qZ rfl ?_
  refine V1 ?_
  refine Zij ([]) [] (.q 0 (.q 1 (.e 2 false .nil))) (by kernel_rfl) (by kernel_rfl) (Imp.arr Arr.stop) ?_
  refine Zim rfl (Zmy (h := 32) rfl rfl) ?_
  refine Zim rfl (Zmy (h := 64) rfl rfl) ?_
  refine Ziq rfl ?_
  refine Zib rfl rfl (Rd.cl (o := 0) (xs := (blockB key 0#32 nonce).map u8b) qH (by simp [hbl]) (by simp [hbl]) (by simp; exact List.take_of_length_le (by simp [hbl]))) qR qZ (by first|rfl|exact oneM_u8 _|exact oneL_u8 _|exact pc_one _|(simp [oneC]; done)) (key_cp _ hbl) ?_
  refine Zg3 ⟨(fun hh => Bool.noConfusion hh), ?_⟩
  refine Zik ?_
  refine Ct.o ?_
  rw [hone]
  generalize hone2 : oneKey key nonce = one at hol
  refine Y2 ?_
  refine Zh8 rfl (by kernel_rfl) (new_c one hol) rfl qT ?_
  rintro _ _ ⟨p, rfl, rfl⟩
  refine Y4 ?_
  refine Zhz (cs := ((List.replicate 16 0#8).map u8b).toArray) rfl ?_; intro b12
  refine Y4 ?_
  refine Zh7 (cs := #[.slice ma more.length mc, .slice ca cover.length cc]) (by omega) (by omega) qF ?_; intro b25
  refine V3 ?_
  refine Zgo [(14, 14), (27, 42)] (by kernel_rfl) (fun i : Nat => i ≤ 2) (fun i => cl p (pc (writeS (newS one) (msgB more cover i))) 235 :: cl b25 #[.slice ma more.length mc, .slice ca cover.length cc] 33 :: cl b12 ((List.replicate 16 0#8).map u8b).toArray 177 :: cl b8 ((List.replicate 16 0#8).map u8b).toArray 178 :: L)
    (fun i => [(27, nvv i)]) (fun i => 2 - i) 0 (by omega) (by show Imp _ (cl p (pc (writeS (newS one) [])) _ :: _); rw [writeS_nil]; exact qI) ⟨rfl, trivial⟩ ?_
  intro i u hi
  have hok : PolyOk (writeS (newS one) (msgB more cover i)) := writeS_ok (newS_ok one)
  refine V3 ?_
  refine Zgg rfl (fun hB => ?_) (fun hB => ?_)
  · obtain ⟨x, hx⟩ : ∃ x, x = if i = 0 then more else cover := ⟨_, rfl⟩
    obtain ⟨xa, xc, hxv, hxb, hxl⟩ : ∃ xa xc, (#[.slice ma more.length mc, .slice ca cover.length cc] : Array Value)[i]? = some (.slice xa x.length xc) ∧ Bs L (.slice xa x.length xc) x ∧ x.length ≤ 140737488351232 := by
      match i, hB with
      | 0, _ => exact ⟨ma, mc, by rw [hx]; rfl, by rw [hx]; exact hm, by rw [hx]; exact hml⟩
      | 1, _ => exact ⟨ca, cc, by rw [hx]; rfl, by rw [hx]; exact hc, by rw [hx]; exact hcl⟩
    have hk16 : (16 - x.length % 16) % 16 ≤ 16 := by omega
    refine Y2 ?_
    refine Zhp rfl qH (hxv) ?_
    refine Y5 ?_
    refine Zh8 rfl (by kernel_rfl) (writeB_x (L := L) _ hok hxb) rfl qT ?_
    rintro _ _ ⟨rfl, rfl⟩
    refine V2 ?_
    rw [← writeS_append]
    have hok2 : PolyOk (writeS (newS one) (msgB more cover i ++ x)) := writeS_ok (newS_ok one)
    have hz := bs_piece (M := [cl b12 ((List.replicate 16 0#8).map u8b).toArray 177]) (o := 0) (n := (16 - x.length % 16) % 16) (c := 16) .here (by simp; omega) (by omega) (by omega)
    have hpd : ((List.replicate 16 0#8).drop 0).take ((16 - x.length % 16) % 16) = padB x := by
      unfold padB; rw [List.drop_zero, List.take_replicate]; congr 1; omega
    rw [hpd] at hz
    refine Y5 ?_
    first|refine Zhg (Zmb (a := 16) rfl rfl) ?_|refine Zhg (Zbh rfl rfl) ?_
    refine Y1 ?_
    refine Zhg (Zmy (h := (16 - x.length % 16) % 16) rfl rfl (by omega) (by omega)) ?_
    refine Zh8 rfl (by kernel_rfl) (writeB_x (L := [cl b12 ((List.replicate 16 0#8).map u8b).toArray 177]) _ hok2 hz) rfl qT ?_
    rintro _ _ ⟨rfl, rfl⟩
    refine V2 ?_
    rw [← writeS_append, hx, ← msgB_succ more cover i hB]
    refine V4 ?_
    exact Zgl (i + 1) qO (by omega) qI ⟨rfl, trivial⟩
  · have hie : i = 2 := by omega
    subst hie
    refine Y4 ?_
    refine Zhg (Zlv rfl) ?_
    refine Zh8 rfl (by kernel_rfl) (put64_x (L := []) (BitVec.ofNat 64 more.length) Bs.nil (by simp)) rfl qT ?_
    rintro _ _ ⟨pa, pcc, rfl, rfl⟩
    refine Y3 ?_
    refine Zhg (Zlv rfl) ?_
    refine Zh8 rfl (by kernel_rfl) (put64_x (L := [own 5 1 (.slice pa ([] ++ leB (BitVec.ofNat 64 more.length) 8).length pcc) ([] ++ leB (BitVec.ofNat 64 more.length) 8).length (([] ++ leB (BitVec.ofNat 64 more.length) 8).map u8b)]) (BitVec.ofNat 64 cover.length) (Bs.own .here) (by simp [leB_len])) rfl qT ?_
    rintro _ _ ⟨qa, qc, rfl, rfl⟩
    refine Y1 ?_
    refine Zh8 rfl (by kernel_rfl) (writeB_x (L := [own 5 1 (.slice qa (([] ++ leB (BitVec.ofNat 64 more.length) 8) ++ leB (BitVec.ofNat 64 cover.length) 8).length qc) (([] ++ leB (BitVec.ofNat 64 more.length) 8) ++ leB (BitVec.ofNat 64 cover.length) 8).length ((([] ++ leB (BitVec.ofNat 64 more.length) 8) ++ leB (BitVec.ofNat 64 cover.length) 8).map u8b)]) _ hok (Bs.own .here)) rfl qT ?_
    rintro _ _ ⟨rfl, rfl⟩
    refine V2 ?_
    rw [← writeS_append]
    have hok2 : PolyOk (writeS (newS one) (msgB more cover 2 ++ (([] ++ leB (BitVec.ofNat 64 more.length) 8) ++ leB (BitVec.ofNat 64 cover.length) 8))) := writeS_ok (newS_ok one)
    have hfin : sumS (writeS (newS one) (msgB more cover 2 ++ (([] ++ leB (BitVec.ofNat 64 more.length) 8) ++ leB (BitVec.ofNat 64 cover.length) 8))) = vouchB key nonce more cover := by
      unfold vouchB code macB; rw [hone2, List.nil_append]; rfl
    have hvl := vouchB_len key nonce more cover
    have hfl := congrArg List.length hfin
    refine Y2 ?_
    refine Zh8 rfl (by kernel_rfl) (sum_c _ hok2) rfl qT ?_
    rintro _ _ ⟨rfl, rfl⟩
    refine Y1 ?_
    first|refine Zhy rfl rfl qR qZ (by first|rfl|exact oneM_u8 _|exact oneL_u8 _|exact pc_one _|(simp [oneC]; done)) qZ ?_|refine Zhx rfl rfl qR qZ (by first|rfl|exact oneM_u8 _|exact oneL_u8 _|exact pc_one _|(simp [oneC]; done)) qZ rfl ?_
    refine V1 ?_
    rw [hfin]
    refine rx1 (Zhe rfl qH qZ (Zg7)) ?_
    exact ⟨_, ⟨rfl, rfl⟩, qI⟩
end Go.Sl
