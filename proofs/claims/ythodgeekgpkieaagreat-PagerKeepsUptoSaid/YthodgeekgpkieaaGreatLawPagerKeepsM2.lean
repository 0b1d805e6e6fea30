/- Parts of the proof, joined: HbS, StrS, TagA, TagS, SealS, PgS, PgrS, HbA, HbE, HbB, HbC. -/
import Derived.Test.YthodgeekgpkieaaGreatLawPagerKeepsM0
import Derived.Test.YthodgeekgpkieaaGreatLawPagerKeepsM1
import Derived.Laws.Externs
import Derived.Lib.Mul64
/- host: what a host is and does, in plain Lean; bytes as they are. No program in sight. -/
set_option linter.unusedVariables false
namespace Go.Sl.HostS
open Go Go.Sl

structure Fault where
  (at_ kind page byte : Int)
  by_ : Byte
  back : Int
structure Touch where
  (op page len : Int)
  head : List Byte
theorem Touch.eq_iff (a b : Touch) : (a.op = b.op ∧ a.page = b.page ∧ a.len = b.len ∧ a.head = b.head) ↔ a = b := by
  constructor
  · rintro ⟨h1, h2, h3, h4⟩
    cases a; cases b
    simp only at h1 h2 h3 h4
    rw [h1, h2, h3, h4]
  · rintro rfl
    exact ⟨rfl, rfl, rfl, rfl⟩
instance : DecidableEq Touch := fun a b => decidable_of_iff _ (Touch.eq_iff a b)
abbrev Bytes := List Byte

structure HS where
  pages : Int
  size : Nat
  lay : Int → List Bytes
  reg : BitVec 64
  coming : Int → List Fault
  ops : Nat
  log : List Touch
  down : Bool

def setF {α : Type} (f : Int → α) (k : Int) (x : α) : Int → α := fun k' => if k' = k then x else f k'

/-- What lay on a page so many writes ago. -/
def back (s : HS) (page writes : Int) : Bytes :=
  let l := s.lay page
  let at_ : Int := (l.length : Int) - 1 - max writes 0
  if 0 ≤ at_ then l.getD at_.toNat [] else List.replicate s.size 0#8
def there (s : HS) (page : Int) : Prop := 0 ≤ page ∧ page < s.pages
instance (s : HS) (page : Int) : Decidable (there s page) := inferInstanceAs (Decidable (_ ∧ _))
/-- The first twelve bytes. -/
def headOf (b : Bytes) : List Byte := b.take 12 ++ List.replicate (12 - b.length) 0#8
def touchOf (s : HS) (op page : Int) (b : Bytes) : Touch :=
  if op = 1 then ⟨1, page, s.size, headOf b⟩
  else if op = 0 then ⟨0, page, s.size, List.replicate 12 0#8⟩
  else ⟨op, 0, 8, List.replicate 12 0#8⟩
structure FOk (f : Fault) : Prop where
  b0 : -9223372036854775808 ≤ f.back
  b1 : f.back ≤ 9223372036854775807
structure Ok (s : HS) : Prop where
  p0 : 0 ≤ s.pages
  p1 : s.pages ≤ 65536
  z0 : 1 ≤ s.size
  z1 : s.size ≤ 4124
  row : ∀ p, ∀ r ∈ s.lay p, r.length = s.size
  many : ∀ p, (s.lay p).length ≤ s.ops
  log : s.log.length ≤ s.ops
  flt : ∀ k, ∀ f ∈ s.coming k, FOk f
  fln : ∀ k, (s.coming k).length ≤ 2932031007401
/-- What a read answers. -/
def spoil1 (s : HS) (page : Int) (b : Bytes) (f : Fault) : Bytes :=
  if f.kind = 0 then (if 0 ≤ f.byte ∧ f.byte < (b.length : Int) then b.set f.byte.toNat (b.getD f.byte.toNat 0#8 ^^^ f.by_) else b)
  else if f.kind = 1 then back s page f.back
  else if f.kind = 2 then (if there s f.page then back s f.page 0 else b)
  else b
def spoilt (s : HS) (page : Int) (l : List Fault) : Bytes := l.foldl (spoil1 s page) (back s page 0)
/-- The beginning of an operation: what befalls it is told. -/
def taken (s : HS) : HS := { s with coming := setF s.coming s.ops [], ops := s.ops + 1 }
/-- The operation is told. -/
def logged (s : HS) (op page : Int) (b : Bytes) : HS := { taken s with log := s.log ++ [touchOf s op page b] }
def before (fl : List Fault) : Bool := fl.any fun f => f.kind == 3
def behind (fl : List Fault) : Bool := fl.any fun f => f.kind == 4
/-- An operation: act is what it does. The answer: an error's number. -/
def does (s : HS) (op page : Int) (b : Bytes) (act : HS → HS) : HS × Nat :=
  if s.down then (s, 110) else
  let fl := s.coming s.ops
  if before fl then ({ taken s with down := true }, 110) else
  let s2 := act (logged s op page b)
  if behind fl then ({ s2 with down := true }, 110) else (s2, 0)
/-- Is it done? -/
def done (s : HS) : Bool := !s.down && !before (s.coming s.ops)
def wrote (page : Int) (b : Bytes) (s : HS) : HS := { s with lay := setF s.lay page (s.lay page ++ [b]) }
/-- What an operation answers, and the host behind it. -/
def readR (s : HS) (page : Int) : Bytes × Nat × HS :=
  if there s page then
    let r := does s 0 page [] id
    if r.2 = 0 then (spoilt s page (s.coming s.ops), 0, r.1) else ([], r.2, r.1)
  else ([], 2, s)
def writeR (s : HS) (page : Int) (b : Bytes) : Nat × HS :=
  if there s page then
    if b.length = s.size then
      let r := does s 1 page b (wrote page b)
      (r.2, r.1)
    else (4, s)
  else (2, s)
/-- A new host. -/
def comes (fl : List Fault) : Int → List Fault := fun k => fl.filter fun f => f.at_ == k
def fresh (pages : Int) (size : Nat) (fl : List Fault) : HS := ⟨pages, size, fun _ => [], 0#64, comes fl, 0, [], false⟩
def kindly (f : Fault) : Bool := decide (0 ≤ f.kind) && decide (f.kind ≤ 4)
def mayBe (pages size : Int) (fl : List Fault) : Prop := (0 ≤ pages ∧ pages ≤ 65536 ∧ 1 ≤ size ∧ size ≤ 4124) ∧ fl.all kindly = true
/-- A step of a script, and what it is told. -/
structure Step where
  (do_ page : Int)
  v : BitVec 64
  data : Bytes
end Go.Sl.HostS

/- stream: the key stream in plain Lean. No program in sight. -/
set_option linter.unusedVariables false
set_option linter.unusedSimpArgs false
namespace Go.Sl
open Go
abbrev Wd := BitVec 32
/-- The n lowest bytes of a number, the lowest first. -/
def leB {w : Nat} (x : BitVec w) (n : Nat) : List Byte := (List.range n).map fun i => (x >>> (8 * i)).setWidth 8
theorem leB_len {w : Nat} (x : BitVec w) (n : Nat) : (leB x n).length = n := by simp [leB]
theorem leB_succ {w : Nat} (x : BitVec w) (n : Nat) : leB x (n + 1) = leB x n ++ [(x >>> (8 * n)).setWidth 8] := by simp [leB, List.range_succ]
/-- A number out of its bytes, the lowest first. -/
def lowB (w : Nat) (b : List Byte) : BitVec w := (b.zipIdx).foldl (fun (v : BitVec w) (x : Byte × Nat) => v ||| (x.1.setWidth w) <<< (8 * x.2)) 0#w
theorem lowB_snoc (w : Nat) (b : List Byte) (x : Byte) : lowB w (b ++ [x]) = lowB w b ||| (x.setWidth w) <<< (8 * b.length) := by
  unfold lowB
  rw [List.zipIdx_append, List.foldl_append]
  simp
def rotW (x : Wd) (n : Nat) : Wd := x <<< n ||| x >>> (32 - n)
def quarterW (a b c d : Wd) : Wd × Wd × Wd × Wd :=
  let a1 := a + b
  let d1 := rotW (d ^^^ a1) 16
  let c1 := c + d1
  let b1 := rotW (b ^^^ c1) 12
  let a2 := a1 + b1
  let d2 := rotW (d1 ^^^ a2) 8
  let c2 := c1 + d2
  let b2 := rotW (b1 ^^^ c2) 7
  (a2, b2, c2, d2)
abbrev Quad := Nat × Nat × Nat × Nat
def qAt (s : List Wd) (q : Quad) : List Wd :=
  let r := quarterW (s.getD q.1 0) (s.getD q.2.1 0) (s.getD q.2.2.1 0) (s.getD q.2.2.2 0)
  (((s.set q.1 r.1).set q.2.1 r.2.1).set q.2.2.1 r.2.2.1).set q.2.2.2 r.2.2.2
theorem qAt_len (s : List Wd) (q : Quad) : (qAt s q).length = s.length := by simp [qAt]
/-- The quarter of a turn at a place. -/
def quadOf (turn i : Nat) : Quad := (i, 4 + (i + turn) % 4, 8 + (i + 2 * turn) % 4, 12 + (i + 3 * turn) % 4)
def quads : List Quad := [quadOf 0 0, quadOf 0 1, quadOf 0 2, quadOf 0 3, quadOf 1 0, quadOf 1 1, quadOf 1 2, quadOf 1 3]
def twiceN (s : List Wd) (n : Nat) : List Wd := (quads.take n).foldl qAt s
def twiceW (s : List Wd) : List Wd := twiceN s 8
theorem foldq_len (l : List Quad) (s : List Wd) : (l.foldl qAt s).length = s.length := by
  induction l generalizing s with
  | nil => rfl
  | cons q l ih => rw [List.foldl_cons, ih, qAt_len]
theorem twiceN_len (s : List Wd) (n : Nat) : (twiceN s n).length = s.length := foldq_len _ _
theorem twiceW_len (s : List Wd) : (twiceW s).length = s.length := twiceN_len _ _
theorem twiceN_succ (s : List Wd) (n : Nat) (h : n < 8) : twiceN s (n + 1) = qAt (twiceN s n) (quadOf (n / 4) (n % 4)) := by
  have e : ∀ m : Fin 8, quads.take (m.val + 1) = quads.take m.val ++ [quadOf (m.val / 4) (m.val % 4)] := by decide
  unfold twiceN
  rw [e ⟨n, h⟩, List.foldl_append]; rfl
def iterW : Nat → List Wd → List Wd
  | 0, s => s
  | n + 1, s => twiceW (iterW n s)
theorem iterW_len (n : Nat) (s : List Wd) : (iterW n s).length = s.length := by
  induction n with
  | zero => rfl
  | succ n ih => rw [iterW, twiceW_len, ih]
/-- The state: of a key, a counter and a nonce. -/
def stateW (key : List Byte) (ctr : Wd) (nonce : List Byte) : List Wd :=
  [1634760805#32, 857760878#32, 2036477234#32, 1797285236#32] ++ ((List.range 8).map (fun i => lowB 32 ((key.drop (4 * i)).take 4)) ++ (ctr :: (List.range 3).map (fun i => lowB 32 ((nonce.drop (4 * i)).take 4))))
theorem stateW_len (key : List Byte) (ctr : Wd) (nonce : List Byte) : (stateW key ctr nonce).length = 16 := by simp [stateW]
def sumW (s f : List Wd) (i : Nat) : Wd := s.getD i 0 + f.getD i 0
def outW64 (s f : List Wd) (n : Nat) : List Byte := (List.range n).flatMap fun i => leB (sumW s f i) 4
theorem outW64_len (s f : List Wd) (n : Nat) : (outW64 s f n).length = 4 * n := by
  induction n with
  | zero => rfl
  | succ n ih => rw [outW64, List.range_succ, List.flatMap_append, List.length_append]; rw [outW64] at ih; rw [ih]; simp [leB_len]; omega
theorem outW64_succ (s f : List Wd) (n : Nat) : outW64 s f (n + 1) = outW64 s f n ++ leB (sumW s f n) 4 := by
  unfold outW64; rw [List.range_succ, List.flatMap_append]; simp
/-- A block of the key stream. -/
def blockB (key : List Byte) (ctr : Wd) (nonce : List Byte) : List Byte := outW64 (iterW 10 (stateW key ctr nonce)) (stateW key ctr nonce) 16
theorem blockB_len (key : List Byte) (ctr : Wd) (nonce : List Byte) : (blockB key ctr nonce).length = 64 := outW64_len _ _ _
/-- The byte of the key stream at a place. -/
def ksB (key nonce : List Byte) (p : Nat) : Byte := (blockB key (BitVec.ofNat 32 (p / 64)) nonce).getD (p % 64) 0#8
def xorB (key nonce : List Byte) (p : Nat) (b : List Byte) : List Byte := (List.range b.length).map fun j => b.getD j 0#8 ^^^ ksB key nonce (p + j)
theorem xorB_len (key nonce : List Byte) (p : Nat) (b : List Byte) : (xorB key nonce p b).length = b.length := by simp [xorB]
theorem xorB_get (key nonce : List Byte) (p : Nat) (b : List Byte) (j : Nat) (h : j < b.length) : (xorB key nonce p b)[j]'(by rw [xorB_len]; exact h) = b[j] ^^^ ksB key nonce (p + j) := by
  simp only [xorB, List.getElem_map, List.getElem_range]
  rw [List.getD_eq_getElem?_getD, List.getElem?_eq_getElem h]; rfl
theorem xorB_back (key nonce : List Byte) (p : Nat) (b : List Byte) : xorB key nonce p (xorB key nonce p b) = b := by
  apply List.ext_getElem (by rw [xorB_len, xorB_len])
  intro j h1 h2
  rw [xorB_get _ _ _ _ _ (by rw [xorB_len]; exact h2), xorB_get _ _ _ _ _ h2, BitVec.xor_assoc, BitVec.xor_self, BitVec.xor_zero]
end Go.Sl

/- tag: numbers of 64 bits; products and sums of 128 bits. -/
set_option maxHeartbeats 4000000
set_option maxRecDepth 10000
set_option linter.unusedVariables false
set_option linter.unusedSimpArgs false
namespace Go.Sl
open Go Go.Proofs
attribute [local irreducible] cl pt own old pur ex all den denOps denS xOps xC cX CX xthen xblk xcut xloop xgo xng retX resX Calls PV Rd Con
def carry (x y c : BitVec 64) : BitVec 64 := BitVec.ofNat 64 ((x.toNat + y.toNat + c.toNat) / 18446744073709551616)
def borrow (x y c : BitVec 64) : BitVec 64 := if x.toNat < y.toNat + c.toNat then 1#64 else 0#64
theorem ext_add64 (x y c : BitVec 64) (hc : c.toNat ≤ 1) : extv Tryz.prog 163 [u64b x, u64b y, u64b c] (.tuple #[u64b (x + y + c), u64b (carry x y c)]) := by
  intro w
  show (callFunc _ #[u64b x, u64b y, u64b c]).run _ w = _
  rw [run_callFunc_extern Tryz.func163 (by kernel_rfl) (by kernel_rfl) (by kernel_rfl) (e := add64Entry) (by kernel_rfl), run_add64 _ _ _ (by omega) (by omega) (by omega) (by omega)]
  simp only [Result.andThen]
  have hx := x.isLt; have hy := y.isLt; have hz := c.isLt
  have e1 : ((x + y + c).toNat : Int) = (x.toNat + y.toNat + c.toNat) % 18446744073709551616 := by simp only [BitVec.toNat_add]; omega
  have e2 : ((carry x y c).toNat : Int) = (x.toNat + y.toNat + c.toNat) / 18446744073709551616 := by simp only [carry, BitVec.toNat_ofNat]; omega
  rw [← e1, ← e2]
def sub64E : Array Value → Sem Value := fun args => do
  let (x, y, b) ← Extern.MathBitsCarry.three "Sub64" args
  pure (Extern.MathBitsCarry.pair ((x + Extern.MathBitsCarry.m64 - y - b) % Extern.MathBitsCarry.m64) (if x < y + b then 1 else 0))
theorem run_sub64E {P : Program} (x y b : Nat) (hb : b ≤ 1) (w : World) :
    (sub64E #[.int .u64 x, .int .u64 y, .int .u64 b]).run P w =
      .ok (.tuple #[.int .u64 (((x + 18446744073709551616 - y - b) % 18446744073709551616 : Nat) : Int), .int .u64 ((if x < y + b then 1 else 0 : Nat) : Int)]) w := by
  have : b = 0 ∨ b = 1 := by omega
  rcases this with rfl|rfl <;> rfl
theorem ext_sub64 (x y c : BitVec 64) (hc : c.toNat ≤ 1) : extv Tryz.prog 162 [u64b x, u64b y, u64b c] (.tuple #[u64b (x - y - c), u64b (borrow x y c)]) := by
  intro w
  show (callFunc _ #[u64b x, u64b y, u64b c]).run _ w = _
  rw [run_callFunc_extern Tryz.func162 (by kernel_rfl) (by kernel_rfl) (by kernel_rfl) (e := sub64E) (by kernel_rfl), run_sub64E _ _ _ hc]
  simp only [Result.andThen]
  have hx := x.isLt; have hy := y.isLt; have hz := c.isLt
  have e1 : (x - y - c).toNat = (x.toNat + 18446744073709551616 - y.toNat - c.toNat) % 18446744073709551616 := by simp only [BitVec.toNat_sub]; omega
  have e2 : (borrow x y c).toNat = if x.toNat < y.toNat + c.toNat then 1 else 0 := by unfold borrow; split <;> rfl
  rw [← e1, ← e2]
/-- Eight bytes as a number, the lowest first. -/
def wordB (b : List (BitVec 8)) : BitVec 64 := b.foldr (fun x a => a <<< 8 ||| x.setWidth 64) 0#64
theorem word_c (b : List (BitVec 8)) (hb : b.length = 8) : Con Tryz.prog 160 [.agg (b.map u8b).toArray] [] (fun v M => v = u64b (wordB b) ∧ M = []) := by
  refine fn_x Tryz.func160 rfl rfl rfl Tryz.mixed (by kernel_rfl) ?_
  intro w0
  refine Y1 ?_
  refine Zh5 rfl ?_; intro b1
  refine V8 ?_
  refine Zgo [(3, 15)] (by kernel_rfl) (fun i : Nat => i ≤ 8) (fun _ => [cl b1 (b.map u8b).toArray 237]) (fun i => [(3, u64b (wordB (b.drop i))), (4, .int .i64 ((i : Int) - 1))]) (fun i => i) 8 (by omega) qI ⟨by rw [List.drop_of_length_le (by omega)]; rfl, rfl, trivial⟩ ?_
  intro i u hi
  refine V4 ?_
  refine Zgg rfl (fun hB => ?_) (fun hB => ?_)
  · obtain ⟨k, rfl⟩ : ∃ k, i = k + 1 := ⟨i - 1, by omega⟩
    refine Y2 ?_
    refine Zhg (Zlj (m := 8) rfl rfl) ?_
    refine Y1 ?_
    first|refine Zhg (Zl5 (n := k) rfl (int_eq (by push_cast; omega))) ?_|refine Zhg (Zl3 (n := k) rfl (int_eq (by push_cast; omega))) ?_
    refine Zhp rfl qH (getL (by omega)) ?_
    refine Zhg (Zjx rfl) ?_
    refine V8 ?_
    refine Zgl k qO qO qI ⟨?_, ?_, trivial⟩
    · rw [List.drop_eq_getElem_cons (show k < b.length by omega)]; rfl
    · show Value.int _ _ = _; congr 1; omega
  · have : i = 0 := by omega
    subst this
    refine V4 ?_
    refine rx1 (Zg9 rfl (Zg7)) ?_
    exact ⟨_, ⟨rfl, rfl⟩, by exact Imp.arr (by repeat (first|exact Arr.nil|exact Arr.stop|refine Arr.cons (by repeat constructor) ?_|refine Arr.skip ?_))⟩
theorem carry_le (x y c : BitVec 64) (hc : c.toNat ≤ 1) : (carry x y c).toNat ≤ 1 := by
  have hx := x.isLt; have hy := y.isLt
  simp only [carry, BitVec.toNat_ofNat]; omega
theorem borrow_le (x y c : BitVec 64) : (borrow x y c).toNat ≤ 1 := by
  unfold borrow; split <;> simp
def mulHi (x y : BitVec 64) : BitVec 64 := BitVec.ofNat 64 (x.toNat * y.toNat / 18446744073709551616)
theorem mulHi_eq (x y : BitVec 64) : (x >>> 32) * (y >>> 32) + (((x >>> 32) * (y &&& 4294967295#64) + ((x &&& 4294967295#64) * (y &&& 4294967295#64)) >>> 32) >>> 32) +
    ((((x >>> 32) * (y &&& 4294967295#64) + ((x &&& 4294967295#64) * (y &&& 4294967295#64)) >>> 32) &&& 4294967295#64) + (x &&& 4294967295#64) * (y >>> 32)) >>> 32 = mulHi x y := by
  have hx := x.isLt; have hy := y.isLt
  obtain ⟨h1, h2, h3, h4⟩ := Lib.mul64_hi x.toNat y.toNat hx hy
  have m : ∀ a : BitVec 64, (a &&& 4294967295#64).toNat = a.toNat % 4294967296 := fun a => by
    rw [BitVec.toNat_and]; exact Nat.and_two_pow_sub_one_eq_mod a.toNat 32
  have s : ∀ a : BitVec 64, (a >>> 32).toNat = a.toNat / 4294967296 := fun a => by
    rw [BitVec.toNat_ushiftRight, Nat.shiftRight_eq_div_pow]
  have ha := Lib.half_mul_le (a := x.toNat / 4294967296) (b := y.toNat / 4294967296) (by omega) (by omega)
  have hb := Lib.half_mul_le (a := x.toNat / 4294967296) (b := y.toNat % 4294967296) (by omega) (by omega)
  have hc := Lib.half_mul_le (a := x.toNat % 4294967296) (b := y.toNat / 4294967296) (by omega) (by omega)
  have hd := Lib.half_mul_le (a := x.toNat % 4294967296) (b := y.toNat % 4294967296) (by omega) (by omega)
  apply BitVec.eq_of_toNat_eq
  simp only [BitVec.toNat_add, BitVec.toNat_mul, m, s, mulHi, BitVec.toNat_ofNat]
  rw [← h4]
  generalize x.toNat / 4294967296 * (y.toNat / 4294967296) = a at *
  generalize x.toNat / 4294967296 * (y.toNat % 4294967296) = b at *
  generalize x.toNat % 4294967296 * (y.toNat / 4294967296) = c at *
  generalize x.toNat % 4294967296 * (y.toNat % 4294967296) = d at *
  omega
theorem mul64_c (x y : BitVec 64) : Con Tryz.prog 191 [u64b x, u64b y] [] (fun v M => v = .tuple #[u64b (mulHi x y), u64b (x * y)] ∧ M = []) := by
  refine fn_x Tryz.func191 rfl rfl rfl Tryz.mixed (by kernel_rfl) ?_
  intro w0
  refine Y6 ?_
  refine Zhg (Zlf (y := 4294967295#64) rfl rfl) ?_
  refine Y4 ?_
  refine Zhg (Zlk (m := 32) rfl rfl) ?_
  refine Y4 ?_
  refine Zhg (Zlf (y := 4294967295#64) rfl rfl) ?_
  refine Y4 ?_
  refine Zhg (Zlk (m := 32) rfl rfl) ?_
  refine Y5 ?_
  refine Zhg (Zle rfl rfl) ?_
  refine Y5 ?_
  refine Zhg (Zle rfl rfl) ?_
  refine Y1 ?_
  refine Zhg (Zlk (m := 32) rfl rfl) ?_
  refine Y5 ?_
  refine Zhg (Zlf (y := 4294967295#64) rfl rfl) ?_
  refine Y4 ?_
  refine Zhg (Zlk (m := 32) rfl rfl) ?_
  refine Y6 ?_
  refine Zhg (Zle rfl rfl) ?_
  refine Y6 ?_
  refine Zhg (Zle rfl rfl) ?_
  refine Y3 ?_
  refine Zhg (Zlk (m := 32) rfl rfl) ?_
  refine Y6 ?_
  refine Zhg (Zle rfl rfl) ?_
  refine V2 ?_
  rw [mulHi_eq]
  refine rx2 (Zg9 rfl (Zg9 rfl (Zg7))) ?_
  exact ⟨_, ⟨rfl, rfl⟩, by exact Imp.arr (by repeat (first|exact Arr.nil|exact Arr.stop|refine Arr.cons (by repeat constructor) ?_|refine Arr.skip ?_))⟩
abbrev W128 := BitVec 64 × BitVec 64
abbrev W192 := BitVec 64 × BitVec 64 × BitVec 64
def wA (x : W128) : Array Value := #[u64b x.1, u64b x.2]
def hA (x : W192) : Array Value := #[u64b x.1, u64b x.2.1, u64b x.2.2]
def mulW (x y : BitVec 64) : W128 := (x * y, mulHi x y)
theorem mul_c (x y : BitVec 64) : Con Tryz.prog 186 [u64b x, u64b y] [] (fun v M => v = .agg (wA (mulW x y)) ∧ M = []) := by
  refine fn_x Tryz.func186 rfl rfl rfl Tryz.mixed (by kernel_rfl) ?_
  intro w0
  refine Y1 ?_
  refine Zhz (cs := #[u64b 0#64, u64b 0#64]) rfl ?_; intro b4
  refine Y4 ?_
  refine Zh8 rfl (by kernel_rfl) (mul64_c _ _) rfl qT ?_
  rintro _ _ ⟨rfl, rfl⟩
  refine Y10 ?_
  refine Zhg (Zdm (cs := #[.int .u64 _, .int .u64 _]) rfl) ?_
  first|refine Zhy rfl rfl qR qZ qN qZ ?_|refine Zhx rfl rfl qR qZ qN qZ rfl ?_
  refine V1 ?_
  refine rx1 (Zhe rfl qH qZ (Zg7)) ?_
  exact ⟨_, ⟨rfl, rfl⟩, by exact Imp.arr (by repeat (first|exact Arr.nil|exact Arr.stop|refine Arr.cons (by repeat constructor) ?_|refine Arr.skip ?_))⟩
def addW (x y : W128) : W128 := (x.1 + y.1 + 0#64, x.2 + y.2 + carry x.1 y.1 0#64)
theorem add_c (x y : W128) : Con Tryz.prog 187 [.agg (wA x), .agg (wA y)] [] (fun v M => v = .agg (wA (addW x y)) ∧ M = []) := by
  refine fn_x Tryz.func187 rfl rfl rfl Tryz.mixed (by kernel_rfl) ?_
  intro w0
  refine Y1 ?_
  refine Zh5 rfl ?_; intro b2
  refine Zh5 rfl ?_; intro b3
  refine Zhz (cs := #[u64b 0#64, u64b 0#64]) rfl ?_; intro b4
  refine Y6 ?_
  refine Zhg (Zh9 rfl (ext_add64 _ _ 0#64 (by decide)) rfl) ?_
  refine Y12 ?_
  refine Zhg (Zh9 rfl (ext_add64 _ _ _ (carry_le _ _ _ (by decide))) rfl) ?_
  refine Y9 ?_
  refine Zhg (Zdm (cs := #[.int .u64 _, .int .u64 _]) rfl) ?_
  first|refine Zhy rfl rfl qR qZ qN qZ ?_|refine Zhx rfl rfl qR qZ qN qZ rfl ?_
  refine V1 ?_
  refine rx1 (Zhe rfl qH qZ (Zg7)) ?_
  exact ⟨_, ⟨rfl, rfl⟩, by exact Imp.arr (by repeat (first|exact Arr.nil|exact Arr.stop|refine Arr.cons (by repeat constructor) ?_|refine Arr.skip ?_))⟩
def plusW (h : W192) (x : W128) : W192 := (h.1 + x.1 + 0#64, h.2.1 + x.2 + carry h.1 x.1 0#64, h.2.2 + carry h.2.1 x.2 (carry h.1 x.1 0#64))
theorem plus_c (h : W192) (x : W128) : Con Tryz.prog 188 [.agg (hA h), .agg (wA x)] [] (fun v M => v = .agg (hA (plusW h x)) ∧ M = []) := by
  refine fn_x Tryz.func188 rfl rfl rfl Tryz.mixed (by kernel_rfl) ?_
  intro w0
  refine Y1 ?_
  refine Zh5 rfl ?_; intro b2
  refine Zh5 rfl ?_; intro b3
  refine Zhz (cs := #[u64b 0#64, u64b 0#64, u64b 0#64]) rfl ?_; intro b4
  refine Y5 ?_
  first|refine Zhg (Zl5 (n := 0) rfl rfl) ?_|refine Zhg (Zl3 (n := 0) rfl rfl) ?_
  refine Y3 ?_
  refine Zhg (Zh9 rfl (ext_add64 _ _ 0#64 (by decide)) rfl) ?_
  refine Y3 ?_
  first|refine Zhg (Zl5 (n := 0) rfl rfl) ?_|refine Zhg (Zl3 (n := 0) rfl rfl) ?_
  refine Y4 ?_
  first|refine Zhg (Zl5 (n := 1) rfl rfl) ?_|refine Zhg (Zl3 (n := 1) rfl rfl) ?_
  refine Y4 ?_
  refine Zhg (Zh9 rfl (ext_add64 _ _ _ (carry_le _ _ _ (by decide))) rfl) ?_
  refine Y3 ?_
  first|refine Zhg (Zl5 (n := 1) rfl rfl) ?_|refine Zhg (Zl3 (n := 1) rfl rfl) ?_
  refine Y4 ?_
  first|refine Zhg (Zl5 (n := 2) rfl rfl) ?_|refine Zhg (Zl3 (n := 2) rfl rfl) ?_
  refine Y3 ?_
  first|refine Zhg (Zl5 (n := 2) rfl rfl) ?_|refine Zhg (Zl3 (n := 2) rfl rfl) ?_
  refine Y4 ?_
  first|refine Zhy rfl rfl qR qZ qN qZ ?_|refine Zhx rfl rfl qR qZ qN qZ rfl ?_
  refine V1 ?_
  refine rx1 (Zhe rfl qH qZ (Zg7)) ?_
  exact ⟨_, ⟨rfl, rfl⟩, by exact Imp.arr (by repeat (first|exact Arr.nil|exact Arr.stop|refine Arr.cons (by repeat constructor) ?_|refine Arr.skip ?_))⟩
def timesW (h : W192) (r : W128) : W192 :=
  let m0 := mulW h.1 r.1
  let m1 := addW (mulW h.2.1 r.1) (mulW h.1 r.2)
  let m2 := addW (mulW h.2.2 r.1) (mulW h.2.1 r.2)
  let m3 := mulW h.2.2 r.2
  let t1 := m1.1 + m0.2 + 0#64
  let c1 := carry m1.1 m0.2 0#64
  let t2 := m2.1 + m1.2 + c1
  let c2 := carry m2.1 m1.2 c1
  let t3 := m3.1 + m2.2 + c2
  let f : W128 := (t2 &&& ~~~ 3#64, t3)
  plusW (plusW (m0.1, t1, t2 &&& 3#64) f) (f.1 >>> 2 ||| f.2 <<< 62, f.2 >>> 2)
theorem times_c (h : W192) (r : W128) : Con Tryz.prog 178 [.agg (hA h), .agg (wA r)] [] (fun v M => v = .agg (hA (timesW h r)) ∧ M = []) := by
  refine fn_x Tryz.func178 rfl rfl rfl Tryz.mixed (by kernel_rfl) ?_
  intro w0
  refine Y1 ?_
  refine Zh5 rfl ?_; intro b2
  refine Zh5 rfl ?_; intro b3
  refine Zhz (cs := #[u64b 0#64, u64b 0#64, u64b 0#64]) rfl ?_; intro b4
  refine Y2 ?_
  first|refine Zhg (Zl5 (n := 0) rfl rfl) ?_|refine Zhg (Zl3 (n := 0) rfl rfl) ?_
  refine Y1 ?_
  first|refine Zhg (Zl5 (n := 0) rfl rfl) ?_|refine Zhg (Zl3 (n := 0) rfl rfl) ?_
  refine Y1 ?_
  refine Zh8 rfl (by kernel_rfl) (mul_c _ _) rfl qT ?_
  rintro _ _ ⟨rfl, rfl⟩
  refine Y1 ?_
  refine Zhz (cs := #[u64b 0#64, u64b 0#64]) rfl ?_; intro b5
  first|refine Zhy rfl rfl qR qZ qN qZ ?_|refine Zhx rfl rfl qR qZ qN qZ rfl ?_
  refine V1 ?_
  refine Zij (_) [3, 4, 6, 8, 9, 10, 11] (.q 0 (.q 2 (.q 5 (.q 7 (.r 1 (.r 3 (.r 6 (.r 8 (.e 4 true (.e 9 true (.e 10 true (.a 11 (.e 12 false .nil))))))))))))) (by kernel_rfl) (by kernel_rfl) (Imp.refl _) ?_
  first|refine Zim rfl (Zl5 (n := 1) rfl rfl) ?_|refine Zim rfl (Zl3 (n := 1) rfl rfl) ?_
  first|refine Zim rfl (Zl5 (n := 0) rfl rfl) ?_|refine Zim rfl (Zl3 (n := 0) rfl rfl) ?_
  first|refine Zim rfl (Zl5 (n := 0) rfl rfl) ?_|refine Zim rfl (Zl3 (n := 0) rfl rfl) ?_
  first|refine Zim rfl (Zl5 (n := 1) rfl rfl) ?_|refine Zim rfl (Zl3 (n := 1) rfl rfl) ?_
  refine W4 ?_
  refine Ziq rfl ?_
  refine Zh8 rfl (by kernel_rfl) (mul_c _ _) rfl qT ?_
  rintro _ _ ⟨rfl, rfl⟩
  refine Y1 ?_
  refine Zg3 ⟨fun _ => Imp.arr qV, ?_⟩
  refine Ziq rfl ?_
  refine Zh8 rfl (by kernel_rfl) (mul_c _ _) rfl qT ?_
  rintro _ _ ⟨rfl, rfl⟩
  refine Y1 ?_
  refine Zg3 ⟨fun _ => Imp.arr qV, ?_⟩
  refine Ziq rfl ?_
  refine Zh8 rfl (by kernel_rfl) (add_c _ _) rfl qT ?_
  rintro _ _ ⟨rfl, rfl⟩
  refine Y1 ?_
  refine Zg3 ⟨fun _ => Imp.arr qV, ?_⟩
  refine Zir rfl (cs := #[u64b 0#64, u64b 0#64]) rfl ?_; intro b6
  refine Ziq rfl ?_
  first|refine Zhy rfl rfl qR qZ qN qZ ?_|refine Zhx rfl rfl qR qZ qN qZ rfl ?_
  refine Zg3 ⟨(fun hh => Bool.noConfusion hh), ?_⟩
  refine Zik ?_
  refine Ct.o ?_
  refine Zij (_) [3, 4, 6, 8, 9, 10, 11] (.q 0 (.q 2 (.q 5 (.q 7 (.r 1 (.r 3 (.r 6 (.r 8 (.e 4 true (.e 9 true (.e 10 true (.a 11 (.e 12 false .nil))))))))))))) (by kernel_rfl) (by kernel_rfl) (Imp.refl _) ?_
  first|refine Zim rfl (Zl5 (n := 2) rfl rfl) ?_|refine Zim rfl (Zl3 (n := 2) rfl rfl) ?_
  first|refine Zim rfl (Zl5 (n := 0) rfl rfl) ?_|refine Zim rfl (Zl3 (n := 0) rfl rfl) ?_
  first|refine Zim rfl (Zl5 (n := 1) rfl rfl) ?_|refine Zim rfl (Zl3 (n := 1) rfl rfl) ?_
  first|refine Zim rfl (Zl5 (n := 1) rfl rfl) ?_|refine Zim rfl (Zl3 (n := 1) rfl rfl) ?_
  refine W4 ?_
  refine Ziq rfl ?_
  refine Zh8 rfl (by kernel_rfl) (mul_c _ _) rfl qT ?_
  rintro _ _ ⟨rfl, rfl⟩
  refine Y1 ?_
  refine Zg3 ⟨fun _ => Imp.arr qV, ?_⟩
  refine Ziq rfl ?_
  refine Zh8 rfl (by kernel_rfl) (mul_c _ _) rfl qT ?_
  rintro _ _ ⟨rfl, rfl⟩
  refine Y1 ?_
  refine Zg3 ⟨fun _ => Imp.arr qV, ?_⟩
  refine Ziq rfl ?_
  refine Zh8 rfl (by kernel_rfl) (add_c _ _) rfl qT ?_
  rintro _ _ ⟨rfl, rfl⟩
  refine Y1 ?_
  refine Zg3 ⟨fun _ => Imp.arr qV, ?_⟩
  refine Zir rfl (cs := #[u64b 0#64, u64b 0#64]) rfl ?_; intro b7
  refine Ziq rfl ?_
  first|refine Zhy rfl rfl qR qZ qN qZ ?_|refine Zhx rfl rfl qR qZ qN qZ rfl ?_
  refine Zg3 ⟨(fun hh => Bool.noConfusion hh), ?_⟩
  refine Zik ?_
  refine Y1 ?_
  first|refine Zhg (Zl5 (n := 2) rfl rfl) ?_|refine Zhg (Zl3 (n := 2) rfl rfl) ?_
  refine Y1 ?_
  first|refine Zhg (Zl5 (n := 1) rfl rfl) ?_|refine Zhg (Zl3 (n := 1) rfl rfl) ?_
  refine Y1 ?_
  refine Zh8 rfl (by kernel_rfl) (mul_c _ _) rfl qT ?_
  rintro _ _ ⟨rfl, rfl⟩
  refine Y1 ?_
  refine Zhz (cs := #[u64b 0#64, u64b 0#64]) rfl ?_; intro b8
  first|refine Zhy rfl rfl qR qZ qN qZ ?_|refine Zhx rfl rfl qR qZ qN qZ rfl ?_
  refine Y11 ?_
  refine Zhg (Zh9 rfl (ext_add64 _ _ 0#64 (by decide)) rfl) ?_
  refine Y12 ?_
  refine Zhg (Zh9 rfl (ext_add64 _ _ _ (carry_le _ _ _ (by decide))) rfl) ?_
  refine Y12 ?_
  refine Zhg (Zh9 rfl (ext_add64 _ _ _ (carry_le _ _ _ (carry_le _ _ _ (by decide)))) rfl) ?_
  refine Y10 ?_
  refine Zhg (Zlf (y := 3#64) rfl rfl) ?_
  refine Zhg (Zdn (cs := #[.int .u64 _, .int .u64 _, .int .u64 _]) rfl) ?_
  refine Zhz (cs := #[u64b 0#64, u64b 0#64, u64b 0#64]) rfl ?_; intro b15
  first|refine Zhy rfl rfl qR qZ qN qZ ?_|refine Zhx rfl rfl qR qZ qN qZ rfl ?_
  refine Y3 ?_
  refine Zhg (Zli (y := 3#64) rfl rfl) ?_
  refine Y1 ?_
  refine Zhg (Zdm (cs := #[.int .u64 _, .int .u64 _]) rfl) ?_
  refine Zhz (cs := #[u64b 0#64, u64b 0#64]) rfl ?_; intro b16
  first|refine Zhy rfl rfl qR qZ qN qZ ?_|refine Zhx rfl rfl qR qZ qN qZ rfl ?_
  refine Y4 ?_
  refine Zh8 rfl (by kernel_rfl) (plus_c (_, _, _) (_, _)) rfl qT ?_
  rintro _ _ ⟨rfl, rfl⟩
  refine Y1 ?_
  first|refine Zhy rfl rfl qR qZ qN qZ ?_|refine Zhx rfl rfl qR qZ qN qZ rfl ?_
  refine Y5 ?_
  refine Zhg (Zlk (m := 2) rfl rfl) ?_
  refine Y2 ?_
  refine Zhg (Zlj (m := 62) rfl rfl) ?_
  refine Y3 ?_
  refine Zhg (Zlk (m := 2) rfl rfl) ?_
  refine Zhg (Zdm (cs := #[.int .u64 _, .int .u64 _]) rfl) ?_
  refine Zh8 rfl (by kernel_rfl) (plus_c _ (_, _)) rfl qT ?_
  rintro _ _ ⟨rfl, rfl⟩
  refine Y1 ?_
  first|refine Zhy rfl rfl qR qZ qN qZ ?_|refine Zhx rfl rfl qR qZ qN qZ rfl ?_
  refine V1 ?_
  refine rx1 (Zhe rfl qH qZ (Zg7)) ?_
  exact ⟨_, ⟨rfl, rfl⟩, by exact Imp.arr (by repeat (first|exact Arr.nil|exact Arr.stop|refine Arr.cons (by repeat constructor) ?_|refine Arr.skip ?_))⟩
end Go.Sl

/- tag: a poly's state, in plain Lean. -/
set_option linter.unusedVariables false
set_option linter.unusedSimpArgs false
namespace Go.Sl
open Go
structure PolyS where
  r : W128
  s : W128
  h : W192
  rest : List Byte
  used : Nat
def setU (t : PolyS) (n : Nat) : PolyS := ⟨t.r, t.s, t.h, t.rest, n⟩
def setH (t : PolyS) (h : W192) : PolyS := ⟨t.r, t.s, h, t.rest, t.used⟩
/-- The cells of a Poly. -/
def pc (t : PolyS) : Array Value :=
  (u64b t.r.1 :: u64b t.r.2 :: u64b t.s.1 :: u64b t.s.2 :: u64b t.h.1 :: u64b t.h.2.1 :: u64b t.h.2.2 :: (t.rest.map u8b ++ [.int .i64 t.used])).toArray
def takeW (h : W192) (r : W128) (b : List Byte) (top : BitVec 64) : W192 :=
  let c0 := carry h.1 (wordB (b.take 8)) 0#64
  timesW (h.1 + wordB (b.take 8) + 0#64, h.2.1 + wordB (b.drop 8) + c0, h.2.2 + (carry h.2.1 (wordB (b.drop 8)) c0 + top)) r
def newS (key : List Byte) : PolyS :=
  ⟨(wordB (key.take 8) &&& 1152921487695413247#64, wordB ((key.drop 8).take 8) &&& 1152921487695413244#64), (wordB ((key.drop 16).take 8), wordB (key.drop 24)), (0#64, 0#64, 0#64), List.replicate 16 0#8, 0⟩
/-- One byte more. -/
def push (t : PolyS) (x : Byte) : PolyS :=
  if t.used + 1 = 16 then { t with h := takeW t.h t.r (t.rest.set t.used x) 1#64, rest := t.rest.set t.used x, used := 0 }
  else { t with rest := t.rest.set t.used x, used := t.used + 1 }
def writeS (t : PolyS) (b : List Byte) : PolyS := b.foldl push t
structure PolyOk (t : PolyS) : Prop where
  rest : t.rest.length = 16
  used : t.used < 16
theorem newS_ok (key : List Byte) : PolyOk (newS key) := ⟨by simp [newS], by simp [newS]⟩
theorem push_ok {t : PolyS} (h : PolyOk t) (x : Byte) : PolyOk (push t x) := by
  have hu := h.used
  unfold push
  split
  · exact ⟨by simp [h.rest], by simp⟩
  · exact ⟨by simp [h.rest], by show t.used + 1 < 16; omega⟩
theorem writeS_ok {b : List Byte} : ∀ {t : PolyS}, PolyOk t → PolyOk (writeS t b) := by
  induction b with
  | nil => exact fun h => h
  | cons x b ih => exact fun h => ih (push_ok h x)
theorem writeS_nil (t : PolyS) : writeS t [] = t := rfl
theorem writeS_zero (t : PolyS) (b : List Byte) : writeS t (b.take 0) = t := rfl
theorem writeS_append (t : PolyS) (a b : List Byte) : writeS t (a ++ b) = writeS (writeS t a) b := by simp [writeS, List.foldl_append]
/-- What a copy into the rest leaves. -/
def put1 (t : PolyS) (x : List Byte) : PolyS := { t with rest := t.rest.take t.used ++ x ++ t.rest.drop (t.used + x.length), used := t.used + x.length }
def full (t : PolyS) : PolyS := if t.used = 16 then setU (setH t (takeW t.h t.r t.rest 1#64)) 0 else t
theorem set_split {l : List Byte} {i : Nat} {x : Byte} (h : i < l.length) : l.set i x = l.take i ++ x :: l.drop (i + 1) := by
  rw [List.set_eq_take_append_cons_drop, if_pos h]
theorem write_put {x : List Byte} : ∀ {t : PolyS}, PolyOk t → t.used + x.length ≤ 16 → writeS t x = full (put1 t x) := by
  induction x with
  | nil =>
    intro t ht _
    have := ht.used
    show t = full (put1 t [])
    have e : put1 t [] = t := by simp [put1]
    rw [e, full, if_neg (by omega)]
  | cons a x ih =>
    intro t ht hl
    simp only [List.length_cons] at hl
    have hr := ht.rest
    have hu := ht.used
    show writeS (push t a) x = _
    by_cases h16 : t.used + 1 = 16
    · have hx : x = [] := List.eq_nil_of_length_eq_zero (by omega)
      subst hx
      show push t a = _
      have e : put1 t [a] = { t with rest := t.rest.set t.used a, used := t.used + 1 } := by
        simp only [put1, List.length_cons, List.length_nil, set_split (show t.used < t.rest.length by omega)]
        simp
      rw [e, full, if_pos h16, push, if_pos h16]; rfl
    · have hp : push t a = { t with rest := t.rest.set t.used a, used := t.used + 1 } := by rw [push, if_neg h16]
      rw [ih (push_ok ht a) (by rw [hp]; show t.used + 1 + x.length ≤ 16; omega)]
      congr 1
      rw [hp]
      simp only [put1, List.length_cons]
      have e : List.take (t.used + 1) (t.rest.set t.used a) = t.rest.take t.used ++ [a] := by
        rw [set_split (by omega), List.take_append, List.take_take]
        have e2 : (t.rest.take t.used).length = t.used := by simp; omega
        rw [e2]
        simp
      have e3 : List.drop (t.used + 1 + x.length) (t.rest.set t.used a) = t.rest.drop (t.used + (x.length + 1)) := by
        rw [List.drop_set_of_lt (by omega)]; congr 1; omega
      rw [e, e3]
      simp; omega
theorem put1_rest {t : PolyS} {x : List Byte} (ht : PolyOk t) (h : t.used + x.length ≤ 16) : (put1 t x).rest.length = 16 := by
  have := ht.rest
  simp [put1]; omega
theorem pc_size {t : PolyS} (h : t.rest.length = 16) : (pc t).size = 24 := by simp [pc, h]
theorem pc_used {t : PolyS} (h : t.rest.length = 16) : (pc t)[23]? = some (.int .i64 t.used) := by
  simp [pc, List.getElem?_append, h]
theorem pc_rest {t : PolyS} (h : t.rest.length = 16) : (pc t).extract 7 23 = (t.rest.map u8b).toArray := by
  apply Array.ext'
  simp only [pc, Array.toList_extract, List.extract_eq_take_drop]
  simp [h]
theorem pc_setUsed {t : PolyS} (h : t.rest.length = 16) (n : Nat) : (pc t).setIfInBounds 23 (.int .i64 n) = pc (setU t n) := by
  apply Array.ext'
  simp [pc, setU, List.set_append, h]
theorem pc_copy {t : PolyS} {x : List Byte} (h : t.rest.length = 16) (hx : t.used + x.length ≤ 16) : wr (pc t) (7 + t.used) (x.map u8b) = pc (setU (put1 t x) t.used) := by
  apply Array.ext'
  rw [wr_toList _ _ _ (by rw [pc_size h, List.length_map]; omega)]
  have e : (pc t).toList = [u64b t.r.1, u64b t.r.2, u64b t.s.1, u64b t.s.2, u64b t.h.1, u64b t.h.2.1, u64b t.h.2.2] ++ (t.rest.map u8b ++ [.int .i64 t.used]) := rfl
  rw [e, List.take_append, List.drop_append]
  have l7 : [u64b t.r.1, u64b t.r.2, u64b t.s.1, u64b t.s.2, u64b t.h.1, u64b t.h.2.1, u64b t.h.2.2].length = 7 := rfl
  rw [l7, List.take_of_length_le (by rw [l7]; omega), List.drop_of_length_le (by rw [l7, List.length_map]; omega)]
  have e1 : 7 + t.used - 7 = t.used := by omega
  have e2 : 7 + t.used + (x.map u8b).length - 7 = t.used + x.length := by rw [List.length_map]; omega
  rw [e1, e2, List.take_append_of_le_length (by simp; omega), List.drop_append_of_le_length (by simp; omega)]
  simp [pc, setU, put1, ← List.map_take, ← List.map_drop]
theorem pc_h (t : PolyS) : (pc t).extract 4 7 = hA t.h := by
  apply Array.ext'
  simp [pc, hA, List.extract_eq_take_drop]
theorem pc_r (t : PolyS) : (pc t).extract 0 2 = wA t.r := by
  apply Array.ext'
  simp [pc, wA, List.extract_eq_take_drop]
theorem pc_setH (t : PolyS) (h : W192) : wr (pc t) 4 (hA h).toList = pc (setH t h) := rfl
theorem ext_map (b : List Byte) (i j : Nat) : ((b.map u8b).toArray).extract i j = (((b.drop i).take (j - i)).map u8b).toArray := by
  apply Array.ext'
  simp [List.extract_eq_take_drop]
/-- The end of it. -/
def lastB (t : PolyS) : List Byte := (t.rest.take t.used ++ List.replicate (16 - t.used) 0#8).set t.used 1#8
def finS (t : PolyS) : PolyS := if 0 < t.used then setH t (takeW t.h t.r (lastB t) 0#64) else t
def outW (h : W192) (s : W128) : W128 :=
  let b0 := borrow h.1 18446744073709551611#64 0#64
  let l0 := h.1 - 18446744073709551611#64 - 0#64
  let l1 := h.2.1 - 18446744073709551615#64 - b0
  let b1 := borrow h.2.1 18446744073709551615#64 b0
  let keep := - borrow h.2.2 3#64 b1
  let k0 := h.1 &&& keep ||| l0 &&& ~~~ keep
  let k1 := h.2.1 &&& keep ||| l1 &&& ~~~ keep
  (k0 + s.1 + 0#64, k1 + s.2 + carry k0 s.1 0#64)
def outB (o : W128) (i : Nat) : Byte := ((if i / 8 = 0 then o.1 else o.2) >>> (8 * (i % 8))).setWidth 8
def bytesOf (o : W128) : List Byte := (List.range 16).map (outB o)
def sumS (t : PolyS) : List Byte := bytesOf (outW (finS t).h (finS t).s)
def code (key all : List Byte) : List Byte := sumS (writeS (newS key) all)
def upto (f : Nat → Byte) (i : Nat) : List Byte := (List.range 16).map fun j => if j < i then f j else 0#8
theorem upto_set (f : Nat → Byte) (i : Nat) : (upto f i).set i (f i) = upto f (i + 1) := by
  apply List.ext_getElem (by simp [upto])
  intro j h1 h2
  simp only [upto, List.getElem_set, List.getElem_map, List.getElem_range]
  by_cases e : i = j
  · subst e; simp
  · rw [if_neg e]
    by_cases h : j < i
    · rw [if_pos h, if_pos (by omega)]
    · rw [if_neg h, if_neg (by omega)]
theorem upto_zero (f : Nat → Byte) : upto f 0 = List.replicate 16 0#8 := by simp [upto, List.range_succ]
theorem upto_end (f : Nat → Byte) : upto f 16 = (List.range 16).map f := by
  apply List.map_congr_left
  intro j hj
  rw [if_pos (by simpa using hj)]
theorem pc_restTake {t : PolyS} (h : t.rest.length = 16) (hu : t.used ≤ 16) : ((pc t).extract 7 (7 + t.used * 1)).toList = (t.rest.take t.used).map u8b := by
  simp only [pc, Array.toList_extract, List.extract_eq_take_drop, Nat.mul_one]
  have e : 7 + t.used - 7 = t.used := by omega
  rw [e]
  show List.take t.used (t.rest.map u8b ++ [.int .i64 t.used]) = _
  rw [List.take_append_of_le_length (by simp; omega), List.map_take]
theorem copy_last {t : PolyS} (h : t.rest.length = 16) (hu : t.used < 16) : wr ((List.replicate 16 0#8).map u8b).toArray 0 ((t.rest.take t.used).map u8b) = ((t.rest.take t.used ++ List.replicate (16 - t.used) 0#8).map u8b).toArray := by
  apply Array.ext'
  rw [wr_toList _ _ _ (by simp; omega)]
  have e : (0 + ((t.rest.take t.used).map u8b).length) = t.used := by simp; omega
  rw [e, List.map_replicate, List.map_append, List.map_replicate]
  show List.take 0 (List.replicate 16 (u8b 0#8)) ++ _ ++ List.drop t.used (List.replicate 16 (u8b 0#8)) = _
  rw [List.drop_replicate]; rfl
theorem pc_one (t : PolyS) : (pc t).toList.all oneC = true := by simp [pc, oneC]
theorem pc_s0 (t : PolyS) : (pc t)[2]? = some (u64b t.s.1) := rfl
theorem pc_s1 (t : PolyS) : (pc t)[3]? = some (u64b t.s.2) := rfl
theorem finS_rest (t : PolyS) : (finS t).rest = t.rest := by unfold finS; split <;> rfl
theorem lastB_len {t : PolyS} (h : t.rest.length = 16) (hu : t.used ≤ 16) : (lastB t).length = 16 := by simp [lastB, h]; omega
theorem bytesOf_len (o : W128) : (bytesOf o).length = 16 := by simp [bytesOf]
theorem code_len (key all : List Byte) : (code key all).length = 16 := bytesOf_len _
end Go.Sl

/- seal: what is sealed and opened, in plain Lean. No program in sight. -/
set_option linter.unusedVariables false
namespace Go.Sl
open Go
/-- Bytes 0 up to a multiple of 16. -/
def padB (b : List Byte) : List Byte := List.replicate ((16 - b.length % 16) % 16) 0#8
/-- What is vouched for. -/
def macB (more cover : List Byte) : List Byte := ((more ++ padB more) ++ (cover ++ padB cover)) ++ (leB (BitVec.ofNat 64 more.length) 8 ++ leB (BitVec.ofNat 64 cover.length) 8)
def oneKey (key nonce : List Byte) : List Byte := (blockB key 0#32 nonce).take 32
theorem oneKey_len (key nonce : List Byte) : (oneKey key nonce).length = 32 := by simp [oneKey, blockB_len]
def vouchB (key nonce more cover : List Byte) : List Byte := code (oneKey key nonce) (macB more cover)
theorem vouchB_len (key nonce more cover : List Byte) : (vouchB key nonce more cover).length = 16 := code_len _ _
/-- A text's box. -/
def sealB (key nonce more text : List Byte) : List Byte := xorB key nonce 64 text ++ vouchB key nonce more (xorB key nonce 64 text)
theorem sealB_len (key nonce more text : List Byte) : (sealB key nonce more text).length = text.length + 16 := by simp [sealB, xorB_len, vouchB_len]
/-- The cover of a box, its tag, whether that is right, the text. -/
def coverB (box : List Byte) : List Byte := box.take (box.length - 16)
def tagB (box : List Byte) : List Byte := box.drop (box.length - 16)
def rightB (key nonce more box : List Byte) : Bool := decide (vouchB key nonce more (coverB box) = tagB box)
def textB (key nonce box : List Byte) : List Byte := xorB key nonce 64 (coverB box)
theorem textB_len (key nonce box : List Byte) : (textB key nonce box).length = box.length - 16 := by simp [textB, xorB_len, coverB]
theorem cover_seal (key nonce more text : List Byte) : coverB (sealB key nonce more text) = xorB key nonce 64 text := by
  unfold coverB; rw [sealB_len, Nat.add_sub_cancel]
  unfold sealB; rw [List.take_append_of_le_length (by rw [xorB_len]; exact Nat.le_refl _), List.take_of_length_le (by rw [xorB_len]; exact Nat.le_refl _)]
theorem tag_seal (key nonce more text : List Byte) : tagB (sealB key nonce more text) = vouchB key nonce more (xorB key nonce 64 text) := by
  unfold tagB; rw [sealB_len, Nat.add_sub_cancel]
  unfold sealB; rw [List.drop_append_of_le_length (by rw [xorB_len]; exact Nat.le_refl _), List.drop_of_length_le (by rw [xorB_len]; exact Nat.le_refl _)]; rfl
/-- What is sealed opens. -/
theorem right_seal (key nonce more text : List Byte) : rightB key nonce more (sealB key nonce more text) = true := by
  unfold rightB; rw [cover_seal, tag_seal]; exact decide_eq_true rfl
theorem text_seal (key nonce more text : List Byte) : textB key nonce (sealB key nonce more text) = text := by
  unfold textB; rw [cover_seal, xorB_back]
/-- What opens is what is sealed of the text. -/
theorem seal_text (key nonce more box : List Byte) (h : rightB key nonce more box = true) : sealB key nonce more (textB key nonce box) = box := by
  unfold rightB at h
  have h := of_decide_eq_true h
  unfold sealB textB
  rw [xorB_back, h]
  unfold coverB tagB
  exact List.take_append_drop _ _
end Go.Sl

/- page: what a page is, in plain Lean. No program in sight. -/
set_option linter.unusedVariables false
set_option linter.unusedSimpArgs false
namespace Go.Sl
open Go
theorem lowB_bitn (w : Nat) : ∀ (n : Nat) (b : List Byte), b.length = n → ∀ i, i < w → (lowB w b).getLsbD i = (b.getD (i / 8) 0#8).getLsbD (i % 8) := by
  intro n
  induction n with
  | zero => intro b hb i hi; obtain rfl := List.eq_nil_of_length_eq_zero hb; simp [lowB]
  | succ n ihn =>
    intro b' hb'
    obtain ⟨b, x, rfl⟩ : ∃ b x, b' = b ++ [x] := by
      rcases List.eq_nil_or_concat b' with rfl|⟨b, x, rfl⟩
      · simp at hb'
      · exact ⟨b, x, by simp⟩
    have ih := ihn b (by simpa using hb')
    intro i hi
    rw [lowB_snoc, BitVec.getLsbD_or, BitVec.getLsbD_shiftLeft, ih i hi, BitVec.getLsbD_setWidth]
    have h8 : i = 8 * (i / 8) + i % 8 := by omega
    by_cases h1 : i / 8 < b.length
    · have h2 : i < 8 * b.length := by omega
      simp [List.getD_eq_getElem?_getD, List.getElem?_append_left h1, h2, hi]
    · by_cases h2 : i / 8 = b.length
      · have h3 : ¬ i < 8 * b.length := by omega
        have h4 : i - 8 * b.length = i % 8 := by omega
        have h5 : i % 8 < w := by omega
        simp [List.getD_eq_getElem?_getD, h2, h3, h4, h5, hi]
      · have h3 : ¬ i < 8 * b.length := by omega
        have h6 : x.getLsbD (i - 8 * b.length) = false := BitVec.getLsbD_of_ge _ _ (by omega)
        have h7 : (b ++ [x])[i / 8]? = none := List.getElem?_eq_none (by simp; omega)
        have h8 : b[i / 8]? = none := List.getElem?_eq_none (by omega)
        simp [List.getD_eq_getElem?_getD, h6, h7, h8]
theorem lowB_bit (w : Nat) (b : List Byte) (i : Nat) (hi : i < w) : (lowB w b).getLsbD i = (b.getD (i / 8) 0#8).getLsbD (i % 8) := lowB_bitn w _ b rfl i hi
theorem leB_get {w : Nat} (x : BitVec w) (n j : Nat) (h : j < n) : (leB x n).getD j 0#8 = (x >>> (8 * j)).setWidth 8 := by
  simp [leB, List.getD_eq_getElem?_getD, h]
theorem low_le {w n : Nat} (x : BitVec w) (h : w = 8 * n) : lowB w (leB x n) = x := by
  apply BitVec.eq_of_getLsbD_eq
  intro i hi
  rw [lowB_bit _ _ _ hi, leB_get _ _ _ (by omega), BitVec.getLsbD_setWidth, BitVec.getLsbD_ushiftRight]
  rw [show 8 * (i / 8) + i % 8 = i from by omega]
  simp; omega
theorem le_low {w n : Nat} (b : List Byte) (h : w = 8 * n) (hb : b.length = n) : leB (lowB w b) n = b := by
  apply List.ext_getElem (by rw [leB_len, hb])
  intro j h1 h2
  rw [leB_len] at h1
  have e := leB_get (lowB w b) n j h1
  rw [List.getD_eq_getElem?_getD, List.getElem?_eq_getElem (by rw [leB_len]; exact h1), Option.getD_some] at e
  rw [e]
  apply BitVec.eq_of_getLsbD_eq
  intro i hi
  rw [BitVec.getLsbD_setWidth, BitVec.getLsbD_ushiftRight, lowB_bit _ _ _ (by omega), show (8 * j + i) / 8 = j from by omega, show (8 * j + i) % 8 = i from by omega, List.getD_eq_getElem?_getD, List.getElem?_eq_getElem h2]
  simp [hi]
/-- What a page's seal holds it to. -/
structure Plc where
  round : BitVec 64
  counter : BitVec 32
  page : BitVec 32
  version : BitVec 32
theorem Plc.eq_iff (a b : Plc) : (a.round = b.round ∧ a.counter = b.counter ∧ a.page = b.page ∧ a.version = b.version) ↔ a = b := by
  constructor
  · rintro ⟨h1, h2, h3, h4⟩
    cases a; cases b
    simp only at h1 h2 h3 h4
    rw [h1, h2, h3, h4]
  · rintro rfl
    exact ⟨rfl, rfl, rfl, rfl⟩
instance : DecidableEq Plc := fun a b => decidable_of_iff _ (Plc.eq_iff a b)
def headB (p : Plc) : List Byte := leB p.round 8 ++ leB p.counter 4
def moreB (p : Plc) : List Byte := leB p.page 4 ++ leB p.version 4
theorem headB_len (p : Plc) : (headB p).length = 12 := by simp [headB, leB_len]
theorem moreB_len (p : Plc) : (moreB p).length = 8 := by simp [moreB, leB_len]
def pgSealB (key : List Byte) (p : Plc) (text : List Byte) : List Byte := headB p ++ sealB key (headB p) (moreB p) text
theorem pgSealB_len (key : List Byte) (p : Plc) (text : List Byte) : (pgSealB key p text).length = text.length + 28 := by simp [pgSealB, headB_len, sealB_len]; omega
def pgSealR (key : List Byte) (p : Plc) (text : List Byte) : List Byte × Nat := if 4096 < text.length then ([], 3) else (pgSealB key p text, 0)
def pgHeadR (b : List Byte) : BitVec 64 × BitVec 32 × Nat := if b.length < 28 then (0#64, 0#32, 20) else (lowB 64 (b.take 8), lowB 32 ((b.drop 8).take 4), 0)
def pgFits (p : Plc) (box : List Byte) : Prop := 28 ≤ box.length ∧ box.length ≤ 4124 ∧ box.take 12 = headB p
instance (p : Plc) (box : List Byte) : Decidable (pgFits p box) := inferInstanceAs (Decidable (_ ∧ _))
def pgOpens (key : List Byte) (p : Plc) (box : List Byte) : Prop := pgFits p box ∧ rightB key (headB p) (moreB p) (box.drop 12) = true
instance (key : List Byte) (p : Plc) (box : List Byte) : Decidable (pgOpens key p box) := inferInstanceAs (Decidable (_ ∧ _))
def pgOpenR (key : List Byte) (p : Plc) (box : List Byte) : List Byte × Nat := if pgOpens key p box then (textB key (headB p) (box.drop 12), 0) else ([], 120)
/-- A head is its round and its counter. -/
theorem head_is (p : Plc) (box : List Byte) (h : 12 ≤ box.length) : box.take 12 = headB p ↔ lowB 64 (box.take 8) = p.round ∧ lowB 32 ((box.drop 8).take 4) = p.counter := by
  have e : box.take 12 = box.take 8 ++ (box.drop 8).take 4 := by
    rw [show (12 : Nat) = 8 + 4 from rfl, List.take_add]
  have l8 : (box.take 8).length = 8 := by simp; omega
  have l4 : ((box.drop 8).take 4).length = 4 := by simp; omega
  rw [e]
  constructor
  · intro hh
    unfold headB at hh
    have h2 := List.append_inj hh (by rw [l8, leB_len])
    rw [h2.1, h2.2, low_le (n := 8) _ rfl, low_le (n := 4) _ rfl]
    exact ⟨rfl, rfl⟩
  · rintro ⟨h1, h2⟩
    unfold headB
    rw [← h1, ← h2, le_low (n := 8) _ rfl l8, le_low (n := 4) _ rfl l4]
theorem pgSeal_head (key : List Byte) (p : Plc) (text : List Byte) : (pgSealB key p text).take 12 = headB p := by
  unfold pgSealB
  rw [List.take_append_of_le_length (by rw [headB_len]; exact Nat.le_refl _), List.take_of_length_le (by rw [headB_len]; exact Nat.le_refl _)]
theorem pgSeal_drop (key : List Byte) (p : Plc) (text : List Byte) : (pgSealB key p text).drop 12 = sealB key (headB p) (moreB p) text := by
  unfold pgSealB
  rw [List.drop_append_of_le_length (by rw [headB_len]; exact Nat.le_refl _), List.drop_of_length_le (by rw [headB_len]; exact Nat.le_refl _)]; rfl
/-- What is sealed opens. -/
theorem pg_back (key : List Byte) (p : Plc) (text : List Byte) (h : text.length ≤ 4096) : pgOpenR key p (pgSealB key p text) = (text, 0) := by
  unfold pgOpenR
  rw [if_pos ⟨⟨by rw [pgSealB_len]; omega, by rw [pgSealB_len]; omega, pgSeal_head key p text⟩, by rw [pgSeal_drop]; exact right_seal _ _ _ _⟩, pgSeal_drop, text_seal]
/-- What opens is what is sealed of the text. -/
theorem pg_form (key : List Byte) (p : Plc) (box : List Byte) (h : pgOpens key p box) : pgSealB key p (pgOpenR key p box).1 = box ∧ (pgOpenR key p box).1.length + 28 = box.length := by
  obtain ⟨⟨h1, h2, h3⟩, h4⟩ := h
  unfold pgOpenR
  rw [if_pos ⟨⟨h1, h2, h3⟩, h4⟩]
  constructor
  · unfold pgSealB
    dsimp only
    rw [seal_text _ _ _ _ h4, ← h3, List.take_append_drop]
  · dsimp only
    rw [textB_len, List.length_drop]; omega
theorem pgSealR_ok (key : List Byte) (p : Plc) (text : List Byte) (h : ¬ 4096 < text.length) : pgSealR key p text = (pgSealB key p text, 0) := by unfold pgSealR; rw [if_neg h]
theorem pgOpenR_not (key : List Byte) (p : Plc) (box : List Byte) (h : ¬ pgOpens key p box) : pgOpenR key p box = ([], 120) := by unfold pgOpenR; rw [if_neg h]
end Go.Sl

/- pager: what a pager is and does, in plain Lean. No program in sight. -/
set_option linter.unusedVariables false
set_option linter.unusedSimpArgs false
namespace Go.Sl.PagerS
open Go Go.Sl Go.Sl.HostS
/-- A held page: is: 0 fresh, 1 clean, 2 changed. -/
structure Fr where
  page : Int
  text : Bytes
  is : Nat
structure PS where
  key : Bytes
  round : BitVec 64
  window : Nat
  pages : Int
  text : Nat
  held : List Fr
  last : Int → Option Plc
  most : Nat
  writes : Nat
  err : Nat
def frOf (s : PS) (n : Int) : Option Fr := s.held.find? fun f => f.page == n
def verOf (s : PS) (n : Int) : BitVec 32 := ((s.last n).map Plc.version).getD 0#32
def nextPl (s : PS) (n : Int) : Plc := ⟨s.round, BitVec.ofNat 32 s.writes, BitVec.ofInt 32 n, verOf s n + 1#32⟩
def die (s : PS) (e : Nat) : PS := { s with err := e }
def cleaned (l : List Fr) (n : Int) : List Fr := l.map fun f => if f.page = n then { f with is := 1 } else f
def wroteP (s : PS) (n : Int) : PS := { s with last := setF s.last n (some (nextPl s n)), writes := s.writes + 1, held := cleaned s.held n }
def textOf (s : PS) (n : Int) : Bytes := ((frOf s n).map Fr.text).getD []
def boxOf (s : PS) (n : Int) : Bytes := pgSealB s.key (nextPl s n) (textOf s n)
abbrev PH := PS × HS
/-- A held page is written. -/
def writeP (s : PS) (h : HS) (n : Int) : Nat × PH :=
  if s.writes = 4294967295 then (130, die s 130, h)
  else
    let r := writeR h n (boxOf s n)
    if r.1 = 0 then (0, wroteP s n, r.2) else (r.1, die s r.1, r.2)
def changedAt (s : PS) (n : Int) : Bool := ((frOf s n).map Fr.is).getD 0 == 2
/-- Room is made. -/
def roomP (s : PS) (h : HS) : Nat × PH :=
  if s.held.length < s.window then (0, s, h)
  else
    let n := (s.held.head?.map Fr.page).getD 0
    if changedAt s n then
      let r := writeP s h n
      if r.1 = 0 then (0, { r.2.1 with held := r.2.1.held.tail }, r.2.2) else r
    else (0, { s with held := s.held.tail }, h)
def useP (s : PS) (f : Fr) : PS :=
  { s with held := (s.held.filter fun g => !(g.page == f.page)) ++ [f], most := max s.most ((s.held.filter fun g => !(g.page == f.page)) ++ [f]).length }
def rightP (s : PS) (n : Int) : Nat := if s.err ≠ 0 then s.err else if n < 0 ∨ s.pages ≤ n then 2 else 0
/-- A page that is not held comes in. -/
def fetchP (s : PS) (h : HS) (n : Int) : (Bytes × Nat) × PH :=
  match s.last n with
  | some pl =>
    let r := readR h n
    if r.2.1 = 0 then
      let o := pgOpenR s.key pl r.1
      if o.2 = 0 then ((o.1, 0), useP s ⟨n, o.1, 1⟩, r.2.2) else (([], o.2), die s o.2, r.2.2)
    else (([], r.2.1), die s r.2.1, r.2.2)
  | none => ((List.replicate s.text 0#8, 0), useP s ⟨n, List.replicate s.text 0#8, 0⟩, h)
def loadP (s : PS) (h : HS) (n : Int) : (Bytes × Nat) × PH :=
  if rightP s n = 0 then
    match frOf s n with
    | some f => ((f.text, 0), useP s f, h)
    | none =>
      let r := roomP s h
      if r.1 = 0 then fetchP r.2.1 r.2.2 n else (([], r.1), r.2)
  else (([], rightP s n), s, h)
def saveP (s : PS) (h : HS) (n : Int) (t : Bytes) : Nat × PH :=
  if rightP s n = 0 then
    if t.length = s.text then
      match frOf s n with
      | some _ => (0, useP s ⟨n, t, 2⟩, h)
      | none =>
        let r := roomP s h
        if r.1 = 0 then (0, useP r.2.1 ⟨n, t, 2⟩, r.2.2) else r
    else (4, s, h)
  else (rightP s n, s, h)
def flushL : List Int → PS → HS → Nat × PH
  | [], s, h => (0, s, h)
  | n :: r, s, h =>
    if changedAt s n then
      let x := writeP s h n
      if x.1 = 0 then flushL r x.2.1 x.2.2 else x
    else flushL r s h
def numbers (s : PS) : List Int := s.held.map Fr.page
def flushP (s : PS) (h : HS) : Nat × PH :=
  if s.err = 0 then flushL ((numbers s).mergeSort fun x y => decide (x ≤ y)) s h else (s.err, s, h)
def freshP (key : Bytes) (round : BitVec 64) (window : Nat) (pages : Int) (text : Nat) : PS := ⟨key, round, window, pages, text, [], fun _ => none, 0, 0, 0⟩
/-- What is known of a pager. -/
structure Ok (s : PS) : Prop where
  key : s.key.length = 32
  w0 : 2 ≤ s.window
  w1 : s.window ≤ 16
  p0 : 0 ≤ s.pages
  p1 : s.pages ≤ 65536
  t0 : 1 ≤ s.text
  t1 : s.text ≤ 4096
  once : (numbers s).Nodup
  there : ∀ f ∈ s.held, 0 ≤ f.page ∧ f.page < s.pages
  len : ∀ f ∈ s.held, f.text.length = s.text
  is : ∀ f ∈ s.held, f.is ≤ 2
  many : s.held.length ≤ s.window
  most : s.most ≤ s.window
  writes : s.writes ≤ 4294967295
  err : s.err ≤ 1000
/-- It stands over that host. -/
structure Over (s : PS) (h : HS) : Prop where
  pages : h.pages = s.pages
  size : h.size = s.text + 28
theorem frOf_mem {s : PS} {n : Int} {f : Fr} (h : frOf s n = some f) : f ∈ s.held ∧ f.page = n := by
  unfold frOf at h
  exact ⟨List.mem_of_find?_eq_some h, by have := List.find?_some h; simpa using this⟩
theorem frOf_none {s : PS} {n : Int} (h : frOf s n = none) : n ∉ numbers s := by
  unfold frOf at h
  rw [List.find?_eq_none] at h
  unfold numbers
  rw [List.mem_map]
  rintro ⟨f, hf, rfl⟩
  exact h f hf (by simp)
theorem frOf_of {s : PS} {n : Int} (h : n ∈ numbers s) : ∃ f, frOf s n = some f := by
  cases hf : frOf s n with
  | some f => exact ⟨f, rfl⟩
  | none => exact absurd h (frOf_none hf)
theorem ok_die {s : PS} (h : Ok s) (e : Nat) (he : e ≤ 1000) : Ok (die s e) := ⟨h.key, h.w0, h.w1, h.p0, h.p1, h.t0, h.t1, h.once, h.there, h.len, h.is, h.many, h.most, h.writes, he⟩
theorem cleaned_pages (l : List Fr) (n : Int) : (cleaned l n).map Fr.page = l.map Fr.page := by
  unfold cleaned
  rw [List.map_map]
  apply List.map_congr_left
  intro f _
  simp only [Function.comp]
  split <;> rfl
theorem cleaned_mem {l : List Fr} {n : Int} {f : Fr} (h : f ∈ cleaned l n) : ∃ g ∈ l, f.page = g.page ∧ f.text = g.text ∧ (f.is = 1 ∨ f.is = g.is) := by
  unfold cleaned at h
  obtain ⟨g, hg, rfl⟩ := List.mem_map.1 h
  refine ⟨g, hg, ?_⟩
  split
  · exact ⟨rfl, rfl, .inl rfl⟩
  · exact ⟨rfl, rfl, .inr rfl⟩
theorem ok_wrote {s : PS} (h : Ok s) (n : Int) (hw : s.writes < 4294967295) : Ok (wroteP s n) := by
  refine ⟨h.key, h.w0, h.w1, h.p0, h.p1, h.t0, h.t1, ?_, ?_, ?_, ?_, ?_, h.most, by show s.writes + 1 ≤ _; omega, h.err⟩
  · show ((cleaned s.held n).map Fr.page).Nodup
    rw [cleaned_pages]; exact h.once
  · intro f hf
    obtain ⟨g, hg, e, _⟩ := cleaned_mem hf
    rw [e]; exact h.there g hg
  · intro f hf
    obtain ⟨g, hg, _, e, _⟩ := cleaned_mem hf
    rw [e]; exact h.len g hg
  · intro f hf
    obtain ⟨g, hg, _, _, e⟩ := cleaned_mem hf
    rcases e with e|e
    · omega
    · rw [e]; exact h.is g hg
  · show (cleaned s.held n).length ≤ _
    unfold cleaned; rw [List.length_map]; exact h.many
theorem ok_tail {s : PS} (h : Ok s) : Ok { s with held := s.held.tail } := by
  refine ⟨h.key, h.w0, h.w1, h.p0, h.p1, h.t0, h.t1, ?_, fun f hf => h.there f (List.mem_of_mem_tail hf), fun f hf => h.len f (List.mem_of_mem_tail hf), fun f hf => h.is f (List.mem_of_mem_tail hf), ?_, h.most, h.writes, h.err⟩
  · show (s.held.tail.map Fr.page).Nodup
    rw [List.map_tail]
    exact h.once.sublist (List.tail_sublist _)
  · show s.held.tail.length ≤ s.window
    have := h.many
    rw [List.length_tail]; omega
theorem use_len {s : PS} {f : Fr} (h : Ok s) (hr : (frOf s f.page).isSome = true ∨ s.held.length < s.window) : ((s.held.filter fun g => !(g.page == f.page)) ++ [f]).length ≤ s.window := by
  rw [List.length_append, List.length_singleton]
  have hle := List.length_filter_le (fun g : Fr => !(g.page == f.page)) s.held
  have hm := h.many
  rcases hr with hr|hr
  · obtain ⟨g, hg⟩ := Option.isSome_iff_exists.1 hr
    obtain ⟨hg1, hg2⟩ := frOf_mem hg
    have : (s.held.filter fun g => !(g.page == f.page)).length < s.held.length := by
      refine List.length_filter_lt_length_iff_exists.2 ⟨g, hg1, by simp [hg2]⟩
    omega
  · omega
theorem ok_use {s : PS} {f : Fr} (h : Ok s) (hr : (frOf s f.page).isSome = true ∨ s.held.length < s.window) (hp : 0 ≤ f.page ∧ f.page < s.pages) (hl : f.text.length = s.text) (hi : f.is ≤ 2) : Ok (useP s f) := by
  have hlen := use_len h hr
  refine ⟨h.key, h.w0, h.w1, h.p0, h.p1, h.t0, h.t1, ?_, ?_, ?_, ?_, hlen, ?_, h.writes, h.err⟩
  · show (((s.held.filter fun g => !(g.page == f.page)) ++ [f]).map Fr.page).Nodup
    rw [List.map_append, List.nodup_append]
    refine ⟨h.once.sublist (List.filter_sublist.map _), by simp, ?_⟩
    intro a ha b hb
    simp only [List.map_cons, List.map_nil, List.mem_singleton] at hb
    subst hb
    obtain ⟨g, hg, rfl⟩ := List.mem_map.1 ha
    have := (List.mem_filter.1 hg).2
    intro e
    rw [e] at this
    simp at this
  · intro g hg
    simp only [useP, List.mem_append, List.mem_singleton] at hg
    rcases hg with hg|rfl
    · exact h.there g (List.mem_filter.1 hg).1
    · exact hp
  · intro g hg
    simp only [useP, List.mem_append, List.mem_singleton] at hg
    rcases hg with hg|rfl
    · exact h.len g (List.mem_filter.1 hg).1
    · exact hl
  · intro g hg
    simp only [useP, List.mem_append, List.mem_singleton] at hg
    rcases hg with hg|rfl
    · exact h.is g (List.mem_filter.1 hg).1
    · exact hi
  · show max s.most _ ≤ s.window
    have := h.most
    omega
theorem ok_fresh {key : Bytes} {round : BitVec 64} {window : Nat} {pages : Int} {text : Nat} (hk : key.length = 32) (hw : 2 ≤ window ∧ window ≤ 16) (hp : 0 ≤ pages ∧ pages ≤ 65536) (ht : 1 ≤ text ∧ text ≤ 4096) : Ok (freshP key round window pages text) :=
  ⟨hk, hw.1, hw.2, hp.1, hp.2, ht.1, ht.2, List.nodup_nil, fun f hf => (by cases hf), fun f hf => (by cases hf), fun f hf => (by cases hf), Nat.zero_le _, Nat.zero_le _, Nat.zero_le _, Nat.zero_le _⟩
end Go.Sl.PagerS

/- host: the small methods, and what lay on a page. -/
set_option maxHeartbeats 2000000
set_option linter.unusedVariables false
set_option linter.unusedSimpArgs false
namespace Go.Sl
open Go Go.Proofs
attribute [local irreducible] cl pt own old den denOps denS thenK blockK cutK loopK retK Calls PV
def bytesA (v : Value) (b : HostS.Bytes) : Asrt := own 5 1 v b.length (b.map u8b)
def fcells (f : HostS.Fault) : List Value := [.int .i64 f.at_, .int .i64 f.kind, .int .i64 f.page, .int .i64 f.byte, u8b f.by_, .int .i64 f.back]
def faultsA (v : Value) (l : List HostS.Fault) : Asrt := own 70 6 v l.length (l.flatMap fcells)
def tcells (t : HostS.Touch) : List Value := [.int .i64 t.op, .int .i64 t.page, .int .i64 t.len] ++ t.head.map u8b
def logA (v : Value) (l : List HostS.Touch) : Asrt := own 65 15 v l.length (l.flatMap tcells)
def rowsB (vs : List Value) (l : List HostS.Bytes) : Asrt := all ((vs.zip l).map fun e => bytesA e.1 e.2)
def rowsA (v : Value) (l : List HostS.Bytes) : Asrt := ex fun vs : List Value => all [pur (vs.length = l.length ∧ vs.all oneC = true), own 33 1 v l.length vs, rowsB vs l]
def powerOf (s : HostS.HS) : Int := if s.down then 1 else 0
def hostB (p bl bc : Nat) (logv : Value) (s : HostS.HS) : Asrt :=
  cl p #[.int .i64 s.pages, .int .i64 s.size, .map (some bl), u64b s.reg, .map (some bc), .int .i64 s.ops, logv, .int .i64 (powerOf s)] 117
def hostL (p bl bc : Nat) (logv : Value) (s : HostS.HS) : List Asrt :=
  [pur (HostS.Ok s), hostB p bl bc logv s, omap bl rowsA [] s.lay, omap bc faultsA [] s.coming, logA logv s.log]
def hostA (p : Nat) (s : HostS.HS) : Asrt := ex fun bl : Nat => ex fun bc : Nat => ex fun logv : Value => all (hostL p bl bc logv s)
theorem St.host_get {w0 w : World} {L : List Asrt} {p : Nat} {s : HostS.HS} (H : St w0 w (hostA p s :: L)) : ∃ bl bc logv, HostS.Ok s ∧
    St w0 w (hostB p bl bc logv s :: omap bl rowsA [] s.lay :: omap bc faultsA [] s.coming :: logA logv s.log :: L) := by
  obtain ⟨bl, H⟩ := H.ex_get; obtain ⟨bc, H⟩ := H.ex_get; obtain ⟨logv, H⟩ := H.ex_get
  have H := H.all_get
  exact ⟨bl, bc, logv, H.pur_get, H.drop⟩
theorem St.host_mk {w0 w : World} {L : List Asrt} {p bl bc : Nat} {logv : Value} {s : HostS.HS} (hs : HostS.Ok s)
    (H : St w0 w (hostB p bl bc logv s :: omap bl rowsA [] s.lay :: omap bc faultsA [] s.coming :: logA logv s.log :: L)) : St w0 w (hostA p s :: L) :=
  St.ex_mk bl (St.ex_mk bc (St.ex_mk logv (St.all_mk (hostL p bl bc logv s) (H.pur_mk hs))))
theorem rows_nil : (rowsA (.slice none 0 0) []).on (fun _ => none) := by
  refine ⟨[], ?_⟩
  refine ⟨fun _ => none, fun _ => none, ⟨rfl, rfl⟩, ?_, Frag.none_disj _, Frag.none_sub _, Frag.none_sub _⟩
  refine ⟨fun _ => none, fun _ => none, ?_, ?_, Frag.none_disj _, Frag.none_sub _, Frag.none_sub _⟩
  · unfold own
    exact ⟨rfl, .inl ⟨rfl, rfl⟩⟩
  · exact ⟨fun _ => none, fun _ => none, trivial, trivial, Frag.none_disj _, Frag.none_sub _, Frag.none_sub _⟩
theorem faults_nil : (faultsA (.slice none 0 0) []).on (fun _ => none) := by
  unfold faultsA own
  exact ⟨rfl, .inl ⟨rfl, rfl⟩⟩
attribute [local irreducible] hostA omap ohole oheld rowsB
theorem u8_one (l : List Byte) : (l.map u8b).all oneC = true := by simp [u8b, oneC]

theorem St.rows_sl {w0 w : World} {L : List Asrt} {vs : List Value} {l : List HostS.Bytes} (H : St w0 w (rowsB vs l :: L)) (hl : vs.length = l.length) (i : Nat) (hi : i < l.length) :
    ∃ v, vs[i]? = some v ∧ SlW w 1 v (l.getD i []).length ((l.getD i []).map u8b) := by
  unfold rowsB at H
  have H := H.all_get
  have hmem : bytesA (vs[i]'(by omega)) l[i] ∈ (vs.zip l).map (fun e => bytesA e.1 e.2) := by
    refine List.mem_map.2 ⟨(vs[i]'(by omega), l[i]), ?_, rfl⟩
    have : (vs.zip l)[i]'(by simp; omega) = (vs[i]'(by omega), l[i]) := by simp
    rw [← this]; exact List.getElem_mem _
  obtain ⟨L', hh⟩ := Has.of_mem (List.mem_append_left L hmem)
  refine ⟨vs[i]'(by omega), List.getElem?_eq_getElem (by omega), ?_⟩
  have : l.getD i [] = l[i] := by simp [hi]
  rw [this]
  unfold bytesA at hh
  exact (H.pick hh).own_sl
theorem there_c {p : Nat} {s : HostS.HS} {w0 w : World} {L : List Asrt} (page : Int) (H : St w0 w (hostA p s :: L)) :
    Calls Tryz.prog 74 #[.pointer (some ⟨p, 0, none⟩), .int .i64 page] w (Ret fun v w' => v = .bool (decide (HostS.there s page)) ∧ w' = w) := by
  obtain ⟨bl, bc, logv, hs, H⟩ := H.host_get
  unfold hostB at H
  refine calls_den [_, _] Tryz.func74 rfl rfl rfl Tryz.mixed (by kernel_rfl) ?_
  repeat (first|(refine Zd1 ?_; first|refine Zcx ?_|(refine Zd3 ?_; first|refine Zc0 rfl ?_|refine Zc1 rfl ?_|refine Zc2 rfl ?_)|refine Zcz (by first|exact Zat rfl|exact Zav rfl|exact Zaw rfl|exact Zaz rfl|exact Za2 rfl|exact Za1 rfl|exact Zau rfl|exact Za0 rfl|exact Zba rfl|exact Zce rfl (by omega)|exact Zbn rfl rfl|exact Zbr rfl rfl|exact Zbs rfl rfl|exact Zbq rfl rfl|exact Zbp rfl rfl|exact Zbo rfl rfl|exact Zcr rfl|exact Zbg rfl rfl (by omega)|exact Zbh rfl rfl (by omega)|exact Zbi rfl rfl (by omega)|exact Zco rfl rfl|exact Zdz rfl rfl|exact Zd0 rfl rfl|exact Za8 rfl rfl|exact Za9 rfl rfl|exact Za6 rfl rfl|exact Za7 rfl rfl|exact Zb1 rfl|exact Zca rfl rfl|exact Zcb rfl rfl|exact Zcv rfl rfl|exact Zcw rfl rfl|exact Zax rfl|exact Za3 rfl|exact Zay rfl|exact Zcl rfl rfl|exact Zb0 rfl|exact Zct|exact Zf3|exact Zar rfl|exact Zas rfl) ?_|(refine Zd4 ?_; refine Zc5 H rfl (by repeat constructor) rfl ?_)|(refine Zd5 ?_; (first|refine Zdb H rfl rfl (by repeat constructor) (by first|(simp only [wr_size, Array.size_setIfInBounds, List.size_toArray, List.length_cons, List.length_nil]; omega)|omega|(simp; done)|(simp; omega)) ?_|refine Zde H rfl rfl (by repeat constructor) (by first|(simp only [wr_size, Array.size_setIfInBounds, List.size_toArray, List.length_cons, List.length_nil]; omega)|omega|(simp; done)|(simp; omega)) ?_|refine Zdd H rfl rfl (by repeat constructor) (by first|(simp only [wr_size, Array.size_setIfInBounds, List.size_toArray, List.length_cons, List.length_nil]; omega)|omega|(simp; done)|(simp; omega)) ?_|refine Zdc H rfl rfl (by repeat constructor) (by first|(simp only [wr_size, Array.size_setIfInBounds, List.size_toArray, List.length_cons, List.length_nil]; omega)|omega|(simp; done)|(simp; omega)) ?_|refine Zda H rfl rfl rfl (by repeat constructor) (by first|(simp only [wr_size, Array.size_setIfInBounds, List.size_toArray, List.length_cons, List.length_nil]; omega)|omega|(simp; done)|(simp; omega)) ?_); clear H; intro w H))|(refine Zd6 ?_; first|refine Zd9 ?_|refine Zeb ?_|refine Zeh ?_|refine Zef ?_|refine Zed ?_|refine Zec ?_|refine Zee ?_|refine Zeg ?_|(refine Zd7 ?_; first|refine Zao rfl ?_|refine Zap rfl ?_))|(first|refine Zei ?_|refine Zej ?_|refine Zek ?_|refine Zel ?_|refine Zen ?_|refine Zem ?_|refine Zeo rfl ?_|refine Zep ?_|refine Zeq ?_|refine Zes ?_|refine Zet ?_))
  refine Zex rfl rfl (fun hG => ?_) (fun hG => ?_)
  · repeat (first|(refine Zd1 ?_; first|refine Zcx ?_|(refine Zd3 ?_; first|refine Zc0 rfl ?_|refine Zc1 rfl ?_|refine Zc2 rfl ?_)|refine Zcz (by first|exact Zat rfl|exact Zav rfl|exact Zaw rfl|exact Zaz rfl|exact Za2 rfl|exact Za1 rfl|exact Zau rfl|exact Za0 rfl|exact Zba rfl|exact Zce rfl (by omega)|exact Zbn rfl rfl|exact Zbr rfl rfl|exact Zbs rfl rfl|exact Zbq rfl rfl|exact Zbp rfl rfl|exact Zbo rfl rfl|exact Zcr rfl|exact Zbg rfl rfl (by omega)|exact Zbh rfl rfl (by omega)|exact Zbi rfl rfl (by omega)|exact Zco rfl rfl|exact Zdz rfl rfl|exact Zd0 rfl rfl|exact Za8 rfl rfl|exact Za9 rfl rfl|exact Za6 rfl rfl|exact Za7 rfl rfl|exact Zb1 rfl|exact Zca rfl rfl|exact Zcb rfl rfl|exact Zcv rfl rfl|exact Zcw rfl rfl|exact Zax rfl|exact Za3 rfl|exact Zay rfl|exact Zcl rfl rfl|exact Zb0 rfl|exact Zct|exact Zf3|exact Zar rfl|exact Zas rfl) ?_|(refine Zd4 ?_; refine Zc5 H rfl (by repeat constructor) rfl ?_)|(refine Zd5 ?_; (first|refine Zdb H rfl rfl (by repeat constructor) (by first|(simp only [wr_size, Array.size_setIfInBounds, List.size_toArray, List.length_cons, List.length_nil]; omega)|omega|(simp; done)|(simp; omega)) ?_|refine Zde H rfl rfl (by repeat constructor) (by first|(simp only [wr_size, Array.size_setIfInBounds, List.size_toArray, List.length_cons, List.length_nil]; omega)|omega|(simp; done)|(simp; omega)) ?_|refine Zdd H rfl rfl (by repeat constructor) (by first|(simp only [wr_size, Array.size_setIfInBounds, List.size_toArray, List.length_cons, List.length_nil]; omega)|omega|(simp; done)|(simp; omega)) ?_|refine Zdc H rfl rfl (by repeat constructor) (by first|(simp only [wr_size, Array.size_setIfInBounds, List.size_toArray, List.length_cons, List.length_nil]; omega)|omega|(simp; done)|(simp; omega)) ?_|refine Zda H rfl rfl rfl (by repeat constructor) (by first|(simp only [wr_size, Array.size_setIfInBounds, List.size_toArray, List.length_cons, List.length_nil]; omega)|omega|(simp; done)|(simp; omega)) ?_); clear H; intro w H))|(refine Zd6 ?_; first|refine Zd9 ?_|refine Zeb ?_|refine Zeh ?_|refine Zef ?_|refine Zed ?_|refine Zec ?_|refine Zee ?_|refine Zeg ?_|(refine Zd7 ?_; first|refine Zao rfl ?_|refine Zap rfl ?_))|(first|refine Zei ?_|refine Zej ?_|refine Zek ?_|refine Zel ?_|refine Zen ?_|refine Zem ?_|refine Zeo rfl ?_|refine Zep ?_|refine Zeq ?_|refine Zes ?_|refine Zet ?_))
    first|refine Ze6 rfl ?_|refine Ze7 rfl ?_|refine Ze8 rfl ?_|refine Ze9 rfl ?_|refine Zfa rfl rfl ?_|refine Zfb rfl rfl ?_|refine Zfc rfl rfl ?_|refine Ze2 ?_|refine Ze3 ?_
    exact ⟨by simp [hG, HostS.there], rfl⟩
  · repeat (first|(refine Zd1 ?_; first|refine Zcx ?_|(refine Zd3 ?_; first|refine Zc0 rfl ?_|refine Zc1 rfl ?_|refine Zc2 rfl ?_)|refine Zcz (by first|exact Zat rfl|exact Zav rfl|exact Zaw rfl|exact Zaz rfl|exact Za2 rfl|exact Za1 rfl|exact Zau rfl|exact Za0 rfl|exact Zba rfl|exact Zce rfl (by omega)|exact Zbn rfl rfl|exact Zbr rfl rfl|exact Zbs rfl rfl|exact Zbq rfl rfl|exact Zbp rfl rfl|exact Zbo rfl rfl|exact Zcr rfl|exact Zbg rfl rfl (by omega)|exact Zbh rfl rfl (by omega)|exact Zbi rfl rfl (by omega)|exact Zco rfl rfl|exact Zdz rfl rfl|exact Zd0 rfl rfl|exact Za8 rfl rfl|exact Za9 rfl rfl|exact Za6 rfl rfl|exact Za7 rfl rfl|exact Zb1 rfl|exact Zca rfl rfl|exact Zcb rfl rfl|exact Zcv rfl rfl|exact Zcw rfl rfl|exact Zax rfl|exact Za3 rfl|exact Zay rfl|exact Zcl rfl rfl|exact Zb0 rfl|exact Zct|exact Zf3|exact Zar rfl|exact Zas rfl) ?_|(refine Zd4 ?_; refine Zc5 H rfl (by repeat constructor) rfl ?_)|(refine Zd5 ?_; (first|refine Zdb H rfl rfl (by repeat constructor) (by first|(simp only [wr_size, Array.size_setIfInBounds, List.size_toArray, List.length_cons, List.length_nil]; omega)|omega|(simp; done)|(simp; omega)) ?_|refine Zde H rfl rfl (by repeat constructor) (by first|(simp only [wr_size, Array.size_setIfInBounds, List.size_toArray, List.length_cons, List.length_nil]; omega)|omega|(simp; done)|(simp; omega)) ?_|refine Zdd H rfl rfl (by repeat constructor) (by first|(simp only [wr_size, Array.size_setIfInBounds, List.size_toArray, List.length_cons, List.length_nil]; omega)|omega|(simp; done)|(simp; omega)) ?_|refine Zdc H rfl rfl (by repeat constructor) (by first|(simp only [wr_size, Array.size_setIfInBounds, List.size_toArray, List.length_cons, List.length_nil]; omega)|omega|(simp; done)|(simp; omega)) ?_|refine Zda H rfl rfl rfl (by repeat constructor) (by first|(simp only [wr_size, Array.size_setIfInBounds, List.size_toArray, List.length_cons, List.length_nil]; omega)|omega|(simp; done)|(simp; omega)) ?_); clear H; intro w H))|(refine Zd6 ?_; first|refine Zd9 ?_|refine Zeb ?_|refine Zeh ?_|refine Zef ?_|refine Zed ?_|refine Zec ?_|refine Zee ?_|refine Zeg ?_|(refine Zd7 ?_; first|refine Zao rfl ?_|refine Zap rfl ?_))|(first|refine Zei ?_|refine Zej ?_|refine Zek ?_|refine Zel ?_|refine Zen ?_|refine Zem ?_|refine Zeo rfl ?_|refine Zep ?_|refine Zeq ?_|refine Zes ?_|refine Zet ?_))
    first|refine Ze6 rfl ?_|refine Ze7 rfl ?_|refine Ze8 rfl ?_|refine Ze9 rfl ?_|refine Zfa rfl rfl ?_|refine Zfb rfl rfl ?_|refine Zfc rfl rfl ?_|refine Ze2 ?_|refine Ze3 ?_
    exact ⟨by simp [hG, HostS.there], rfl⟩

theorem back_end {p bl bc b : Nat} {logv : Value} {s : HostS.HS} {w0 w : World} {L : List Asrt} {page : Int} {vs : List Value} {a : Option Addr} {k : Nat} {x : HostS.Bytes} (hs : HostS.Ok s) (hvl : vs.length = (s.lay page).length) (hv1 : vs.all oneC = true) (hx : x.length = s.size)
    (H : St w0 w (cl b (x.map u8b).toArray 5 :: own 33 1 (.slice a (s.lay page).length k) (s.lay page).length vs :: rowsB vs (s.lay page) :: ohole bl rowsA [] s.lay page (.slice a (s.lay page).length k) :: hostB p bl bc logv s :: omap bc faultsA [] s.coming :: logA logv s.log :: L)) :
    St w0 w (bytesA (.slice (some ⟨b, 0, none⟩) s.size s.size) x :: hostA p s :: L) := by
  have hz1 := hs.z1
  have H1 := (H.arr (M := own 33 1 (.slice a (s.lay page).length k) (s.lay page).length vs :: rowsB vs (s.lay page) :: ohole bl rowsA [] s.lay page (.slice a (s.lay page).length k) :: hostB p bl bc logv s :: omap bc faultsA [] s.coming :: logA logv s.log :: cl b (x.map u8b).toArray 5 :: L) (by repeat (first|exact Arr.nil|exact Arr.stop|refine Arr.cons (by repeat constructor) ?_|refine Arr.skip ?_)))
  have H2 := St.ex_mk (F := fun vs : List Value => all [pur (vs.length = (s.lay page).length ∧ vs.all oneC = true), own 33 1 (.slice a (s.lay page).length k) (s.lay page).length vs, rowsB vs (s.lay page)]) vs (St.all_mk _ (H1.pur_mk ⟨hvl, hv1⟩))
  have H3 := St.omap_close (A := rowsA) (d := []) (f := s.lay) (k := page) H2
  have H4 := St.host_mk (p := p) hs (H3.arr (M := hostB p bl bc logv s :: omap bl rowsA [] s.lay :: omap bc faultsA [] s.coming :: logA logv s.log :: cl b (x.map u8b).toArray 5 :: L) (by repeat (first|exact Arr.nil|exact Arr.stop|refine Arr.cons (by repeat constructor) ?_|refine Arr.skip ?_)))
  have H5 := St.own_full (n := s.size) (size := 1) H4.swap (by omega) (by simp [hx])
  unfold bytesA
  rw [hx]
  exact H5

theorem back_c {p : Nat} {s : HostS.HS} {w0 w : World} {L : List Asrt} (page writes : Int) (hw : -9223372036854775808 ≤ writes ∧ writes ≤ 9223372036854775807) (hops : s.ops ≤ 3518437208880) (H : St w0 w (hostA p s :: L)) :
    Calls Tryz.prog 75 #[.pointer (some ⟨p, 0, none⟩), .int .i64 page, .int .i64 writes] w (Ret fun v w' => ∃ a k, v = .slice a s.size k ∧ St w0 w' (bytesA v (HostS.back s page writes) :: hostA p s :: L)) := by
  obtain ⟨bl, bc, logv, hs, H⟩ := H.host_get
  obtain ⟨v, H⟩ := ((H.pick (.there .here)).omap_open rows_nil page)
  obtain ⟨vs, H⟩ := H.ex_get
  have H := H.all_get
  simp only [List.cons_append, List.nil_append] at H
  obtain ⟨hvl, hv1⟩ := H.pur_get
  have H := H.drop
  obtain ⟨a, k, rfl⟩ := H.own_sl.len
  have hm := hs.many page
  have hz0 := hs.z0
  have hz1 := hs.z1
  unfold hostB at H
  refine calls_den [_, _, _] Tryz.func75 rfl rfl rfl Tryz.mixed (by kernel_rfl) ?_
  repeat (first|(refine Zd1 ?_; first|refine Zcx ?_|(refine Zd3 ?_; first|refine Zc0 rfl ?_|refine Zc1 rfl ?_|refine Zc2 rfl ?_)|refine Zcz (by first|exact Zat rfl|exact Zav rfl|exact Zaw rfl|exact Zaz rfl|exact Za2 rfl|exact Za1 rfl|exact Zau rfl|exact Za0 rfl|exact Zba rfl|exact Zce rfl (by omega)|exact Zbn rfl rfl|exact Zbr rfl rfl|exact Zbs rfl rfl|exact Zbq rfl rfl|exact Zbp rfl rfl|exact Zbo rfl rfl|exact Zcr rfl|exact Zbg rfl rfl (by omega)|exact Zbh rfl rfl (by omega)|exact Zbi rfl rfl (by omega)|exact Zco rfl rfl|exact Zdz rfl rfl|exact Zd0 rfl rfl|exact Za8 rfl rfl|exact Za9 rfl rfl|exact Za6 rfl rfl|exact Za7 rfl rfl|exact Zb1 rfl|exact Zca rfl rfl|exact Zcb rfl rfl|exact Zcv rfl rfl|exact Zcw rfl rfl|exact Zax rfl|exact Za3 rfl|exact Zay rfl|exact Zcl rfl rfl|exact Zb0 rfl|exact Zct|exact Zf3|exact Zar rfl|exact Zas rfl) ?_|(refine Zd4 ?_; refine Zc5 H rfl (by repeat constructor) rfl ?_)|(refine Zd5 ?_; (first|refine Zdb H rfl rfl (by repeat constructor) (by first|(simp only [wr_size, Array.size_setIfInBounds, List.size_toArray, List.length_cons, List.length_nil]; omega)|omega|(simp; done)|(simp; omega)) ?_|refine Zde H rfl rfl (by repeat constructor) (by first|(simp only [wr_size, Array.size_setIfInBounds, List.size_toArray, List.length_cons, List.length_nil]; omega)|omega|(simp; done)|(simp; omega)) ?_|refine Zdd H rfl rfl (by repeat constructor) (by first|(simp only [wr_size, Array.size_setIfInBounds, List.size_toArray, List.length_cons, List.length_nil]; omega)|omega|(simp; done)|(simp; omega)) ?_|refine Zdc H rfl rfl (by repeat constructor) (by first|(simp only [wr_size, Array.size_setIfInBounds, List.size_toArray, List.length_cons, List.length_nil]; omega)|omega|(simp; done)|(simp; omega)) ?_|refine Zda H rfl rfl rfl (by repeat constructor) (by first|(simp only [wr_size, Array.size_setIfInBounds, List.size_toArray, List.length_cons, List.length_nil]; omega)|omega|(simp; done)|(simp; omega)) ?_); clear H; intro w H))|(refine Zd6 ?_; first|refine Zd9 ?_|refine Zeb ?_|refine Zeh ?_|refine Zef ?_|refine Zed ?_|refine Zec ?_|refine Zee ?_|refine Zeg ?_|(refine Zd7 ?_; first|refine Zao rfl ?_|refine Zap rfl ?_))|(first|refine Zei ?_|refine Zej ?_|refine Zek ?_|refine Zel ?_|refine Zen ?_|refine Zem ?_|refine Zeo rfl ?_|refine Zep ?_|refine Zeq ?_|refine Zes ?_|refine Zet ?_))
  refine Zdk H rfl rfl (Nat.le_refl _) ?_ ?_ ?_ ?_; (next => omega); (next => omega); (next => omega); clear H; intro w b H
  repeat (first|(refine Zd1 ?_; first|refine Zcx ?_|(refine Zd3 ?_; first|refine Zc0 rfl ?_|refine Zc1 rfl ?_|refine Zc2 rfl ?_)|refine Zcz (by first|exact Zat rfl|exact Zav rfl|exact Zaw rfl|exact Zaz rfl|exact Za2 rfl|exact Za1 rfl|exact Zau rfl|exact Za0 rfl|exact Zba rfl|exact Zce rfl (by omega)|exact Zbn rfl rfl|exact Zbr rfl rfl|exact Zbs rfl rfl|exact Zbq rfl rfl|exact Zbp rfl rfl|exact Zbo rfl rfl|exact Zcr rfl|exact Zbg rfl rfl (by omega)|exact Zbh rfl rfl (by omega)|exact Zbi rfl rfl (by omega)|exact Zco rfl rfl|exact Zdz rfl rfl|exact Zd0 rfl rfl|exact Za8 rfl rfl|exact Za9 rfl rfl|exact Za6 rfl rfl|exact Za7 rfl rfl|exact Zb1 rfl|exact Zca rfl rfl|exact Zcb rfl rfl|exact Zcv rfl rfl|exact Zcw rfl rfl|exact Zax rfl|exact Za3 rfl|exact Zay rfl|exact Zcl rfl rfl|exact Zb0 rfl|exact Zct|exact Zf3|exact Zar rfl|exact Zas rfl) ?_|(refine Zd4 ?_; refine Zc5 H rfl (by repeat constructor) rfl ?_)|(refine Zd5 ?_; (first|refine Zdb H rfl rfl (by repeat constructor) (by first|(simp only [wr_size, Array.size_setIfInBounds, List.size_toArray, List.length_cons, List.length_nil]; omega)|omega|(simp; done)|(simp; omega)) ?_|refine Zde H rfl rfl (by repeat constructor) (by first|(simp only [wr_size, Array.size_setIfInBounds, List.size_toArray, List.length_cons, List.length_nil]; omega)|omega|(simp; done)|(simp; omega)) ?_|refine Zdd H rfl rfl (by repeat constructor) (by first|(simp only [wr_size, Array.size_setIfInBounds, List.size_toArray, List.length_cons, List.length_nil]; omega)|omega|(simp; done)|(simp; omega)) ?_|refine Zdc H rfl rfl (by repeat constructor) (by first|(simp only [wr_size, Array.size_setIfInBounds, List.size_toArray, List.length_cons, List.length_nil]; omega)|omega|(simp; done)|(simp; omega)) ?_|refine Zda H rfl rfl rfl (by repeat constructor) (by first|(simp only [wr_size, Array.size_setIfInBounds, List.size_toArray, List.length_cons, List.length_nil]; omega)|omega|(simp; done)|(simp; omega)) ?_); clear H; intro w H))|(refine Zd6 ?_; first|refine Zd9 ?_|refine Zeb ?_|refine Zeh ?_|refine Zef ?_|refine Zed ?_|refine Zec ?_|refine Zee ?_|refine Zeg ?_|(refine Zd7 ?_; first|refine Zao rfl ?_|refine Zap rfl ?_))|(first|refine Zei ?_|refine Zej ?_|refine Zek ?_|refine Zel ?_|refine Zen ?_|refine Zem ?_|refine Zeo rfl ?_|refine Zep ?_|refine Zeq ?_|refine Zes ?_|refine Zet ?_))
  refine Zfm H rfl rfl (by repeat constructor) ?_
  repeat (first|(refine Zd1 ?_; first|refine Zcx ?_|(refine Zd3 ?_; first|refine Zc0 rfl ?_|refine Zc1 rfl ?_|refine Zc2 rfl ?_)|refine Zcz (by first|exact Zat rfl|exact Zav rfl|exact Zaw rfl|exact Zaz rfl|exact Za2 rfl|exact Za1 rfl|exact Zau rfl|exact Za0 rfl|exact Zba rfl|exact Zce rfl (by omega)|exact Zbn rfl rfl|exact Zbr rfl rfl|exact Zbs rfl rfl|exact Zbq rfl rfl|exact Zbp rfl rfl|exact Zbo rfl rfl|exact Zcr rfl|exact Zbg rfl rfl (by omega)|exact Zbh rfl rfl (by omega)|exact Zbi rfl rfl (by omega)|exact Zco rfl rfl|exact Zdz rfl rfl|exact Zd0 rfl rfl|exact Za8 rfl rfl|exact Za9 rfl rfl|exact Za6 rfl rfl|exact Za7 rfl rfl|exact Zb1 rfl|exact Zca rfl rfl|exact Zcb rfl rfl|exact Zcv rfl rfl|exact Zcw rfl rfl|exact Zax rfl|exact Za3 rfl|exact Zay rfl|exact Zcl rfl rfl|exact Zb0 rfl|exact Zct|exact Zf3|exact Zar rfl|exact Zas rfl) ?_|(refine Zd4 ?_; refine Zc5 H rfl (by repeat constructor) rfl ?_)|(refine Zd5 ?_; (first|refine Zdb H rfl rfl (by repeat constructor) (by first|(simp only [wr_size, Array.size_setIfInBounds, List.size_toArray, List.length_cons, List.length_nil]; omega)|omega|(simp; done)|(simp; omega)) ?_|refine Zde H rfl rfl (by repeat constructor) (by first|(simp only [wr_size, Array.size_setIfInBounds, List.size_toArray, List.length_cons, List.length_nil]; omega)|omega|(simp; done)|(simp; omega)) ?_|refine Zdd H rfl rfl (by repeat constructor) (by first|(simp only [wr_size, Array.size_setIfInBounds, List.size_toArray, List.length_cons, List.length_nil]; omega)|omega|(simp; done)|(simp; omega)) ?_|refine Zdc H rfl rfl (by repeat constructor) (by first|(simp only [wr_size, Array.size_setIfInBounds, List.size_toArray, List.length_cons, List.length_nil]; omega)|omega|(simp; done)|(simp; omega)) ?_|refine Zda H rfl rfl rfl (by repeat constructor) (by first|(simp only [wr_size, Array.size_setIfInBounds, List.size_toArray, List.length_cons, List.length_nil]; omega)|omega|(simp; done)|(simp; omega)) ?_); clear H; intro w H))|(refine Zd6 ?_; first|refine Zd9 ?_|refine Zeb ?_|refine Zeh ?_|refine Zef ?_|refine Zed ?_|refine Zec ?_|refine Zee ?_|refine Zeg ?_|(refine Zd7 ?_; first|refine Zao rfl ?_|refine Zap rfl ?_))|(first|refine Zei ?_|refine Zej ?_|refine Zek ?_|refine Zel ?_|refine Zen ?_|refine Zem ?_|refine Zeo rfl ?_|refine Zep ?_|refine Zeq ?_|refine Zes ?_|refine Zet ?_))
  refine Zd8 ?_
  repeat (first|(refine Zd1 ?_; first|refine Zcx ?_|(refine Zd3 ?_; first|refine Zc0 rfl ?_|refine Zc1 rfl ?_|refine Zc2 rfl ?_)|refine Zcz (by first|exact Zat rfl|exact Zav rfl|exact Zaw rfl|exact Zaz rfl|exact Za2 rfl|exact Za1 rfl|exact Zau rfl|exact Za0 rfl|exact Zba rfl|exact Zce rfl (by omega)|exact Zbn rfl rfl|exact Zbr rfl rfl|exact Zbs rfl rfl|exact Zbq rfl rfl|exact Zbp rfl rfl|exact Zbo rfl rfl|exact Zcr rfl|exact Zbg rfl rfl (by omega)|exact Zbh rfl rfl (by omega)|exact Zbi rfl rfl (by omega)|exact Zco rfl rfl|exact Zdz rfl rfl|exact Zd0 rfl rfl|exact Za8 rfl rfl|exact Za9 rfl rfl|exact Za6 rfl rfl|exact Za7 rfl rfl|exact Zb1 rfl|exact Zca rfl rfl|exact Zcb rfl rfl|exact Zcv rfl rfl|exact Zcw rfl rfl|exact Zax rfl|exact Za3 rfl|exact Zay rfl|exact Zcl rfl rfl|exact Zb0 rfl|exact Zct|exact Zf3|exact Zar rfl|exact Zas rfl) ?_|(refine Zd4 ?_; refine Zc5 H rfl (by repeat constructor) rfl ?_)|(refine Zd5 ?_; (first|refine Zdb H rfl rfl (by repeat constructor) (by first|(simp only [wr_size, Array.size_setIfInBounds, List.size_toArray, List.length_cons, List.length_nil]; omega)|omega|(simp; done)|(simp; omega)) ?_|refine Zde H rfl rfl (by repeat constructor) (by first|(simp only [wr_size, Array.size_setIfInBounds, List.size_toArray, List.length_cons, List.length_nil]; omega)|omega|(simp; done)|(simp; omega)) ?_|refine Zdd H rfl rfl (by repeat constructor) (by first|(simp only [wr_size, Array.size_setIfInBounds, List.size_toArray, List.length_cons, List.length_nil]; omega)|omega|(simp; done)|(simp; omega)) ?_|refine Zdc H rfl rfl (by repeat constructor) (by first|(simp only [wr_size, Array.size_setIfInBounds, List.size_toArray, List.length_cons, List.length_nil]; omega)|omega|(simp; done)|(simp; omega)) ?_|refine Zda H rfl rfl rfl (by repeat constructor) (by first|(simp only [wr_size, Array.size_setIfInBounds, List.size_toArray, List.length_cons, List.length_nil]; omega)|omega|(simp; done)|(simp; omega)) ?_); clear H; intro w H))|(refine Zd6 ?_; first|refine Zd9 ?_|refine Zeb ?_|refine Zeh ?_|refine Zef ?_|refine Zed ?_|refine Zec ?_|refine Zee ?_|refine Zeg ?_|(refine Zd7 ?_; first|refine Zao rfl ?_|refine Zap rfl ?_))|(first|refine Zei ?_|refine Zej ?_|refine Zek ?_|refine Zel ?_|refine Zen ?_|refine Zem ?_|refine Zeo rfl ?_|refine Zep ?_|refine Zeq ?_|refine Zes ?_|refine Zet ?_))
  refine Zaq rfl (fun hB => ?_) (fun hB => ?_)
  · have hat : 0 ≤ (((s.lay page).length : Int) - 1 - max writes 0) ∧ (((s.lay page).length : Int) - 1 - max writes 0).toNat < (s.lay page).length := by omega
    obtain ⟨xb, xo, xk, xc, xE, xfr, hxv, hxb, hxs, hxe⟩ := (H.pick (.there .here)).own_sl.elem1 (by omega)
    simp only [Value.slice.injEq] at hxv
    obtain ⟨rfl, _, rfl⟩ := hxv
    obtain ⟨v, hvi, hsl⟩ := (H.pick (.there (.there .here))).rows_sl hvl _ hat.2
    have hrow : ((s.lay page).getD (((s.lay page).length : Int) - 1 - max writes 0).toNat []).length = s.size := by
      have : (s.lay page).getD (((s.lay page).length : Int) - 1 - max writes 0).toNat [] = (s.lay page)[(((s.lay page).length : Int) - 1 - max writes 0).toNat]'hat.2 := by simp [hat.2]
      rw [this]; exact hs.row page _ (List.getElem_mem _)
    have hbk : HostS.back s page writes = (s.lay page).getD (((s.lay page).length : Int) - 1 - max writes 0).toNat [] := by simp only [HostS.back]; rw [if_pos hat.1]
    rw [← hbk] at hsl hrow
    repeat (first|(refine Zd1 ?_; first|refine Zcx ?_|(refine Zd3 ?_; first|refine Zc0 rfl ?_|refine Zc1 rfl ?_|refine Zc2 rfl ?_)|refine Zcz (by first|exact Zat rfl|exact Zav rfl|exact Zaw rfl|exact Zaz rfl|exact Za2 rfl|exact Za1 rfl|exact Zau rfl|exact Za0 rfl|exact Zba rfl|exact Zce rfl (by omega)|exact Zbn rfl rfl|exact Zbr rfl rfl|exact Zbs rfl rfl|exact Zbq rfl rfl|exact Zbp rfl rfl|exact Zbo rfl rfl|exact Zcr rfl|exact Zbg rfl rfl (by omega)|exact Zbh rfl rfl (by omega)|exact Zbi rfl rfl (by omega)|exact Zco rfl rfl|exact Zdz rfl rfl|exact Zd0 rfl rfl|exact Za8 rfl rfl|exact Za9 rfl rfl|exact Za6 rfl rfl|exact Za7 rfl rfl|exact Zb1 rfl|exact Zca rfl rfl|exact Zcb rfl rfl|exact Zcv rfl rfl|exact Zcw rfl rfl|exact Zax rfl|exact Za3 rfl|exact Zay rfl|exact Zcl rfl rfl|exact Zb0 rfl|exact Zct|exact Zf3|exact Zar rfl|exact Zas rfl) ?_|(refine Zd4 ?_; refine Zc5 H rfl (by repeat constructor) rfl ?_)|(refine Zd5 ?_; (first|refine Zdb H rfl rfl (by repeat constructor) (by first|(simp only [wr_size, Array.size_setIfInBounds, List.size_toArray, List.length_cons, List.length_nil]; omega)|omega|(simp; done)|(simp; omega)) ?_|refine Zde H rfl rfl (by repeat constructor) (by first|(simp only [wr_size, Array.size_setIfInBounds, List.size_toArray, List.length_cons, List.length_nil]; omega)|omega|(simp; done)|(simp; omega)) ?_|refine Zdd H rfl rfl (by repeat constructor) (by first|(simp only [wr_size, Array.size_setIfInBounds, List.size_toArray, List.length_cons, List.length_nil]; omega)|omega|(simp; done)|(simp; omega)) ?_|refine Zdc H rfl rfl (by repeat constructor) (by first|(simp only [wr_size, Array.size_setIfInBounds, List.size_toArray, List.length_cons, List.length_nil]; omega)|omega|(simp; done)|(simp; omega)) ?_|refine Zda H rfl rfl rfl (by repeat constructor) (by first|(simp only [wr_size, Array.size_setIfInBounds, List.size_toArray, List.length_cons, List.length_nil]; omega)|omega|(simp; done)|(simp; omega)) ?_); clear H; intro w H))|(refine Zd6 ?_; first|refine Zd9 ?_|refine Zeb ?_|refine Zeh ?_|refine Zef ?_|refine Zed ?_|refine Zec ?_|refine Zee ?_|refine Zeg ?_|(refine Zd7 ?_; first|refine Zao rfl ?_|refine Zap rfl ?_))|(first|refine Zei ?_|refine Zej ?_|refine Zek ?_|refine Zel ?_|refine Zen ?_|refine Zem ?_|refine Zeo rfl ?_|refine Zep ?_|refine Zeq ?_|refine Zes ?_|refine Zet ?_))
    refine Zcz (Zfq rfl rfl (by omega)) ?_
    refine Zfs rfl hxb ((hxe _ hat.2).trans hvi) ?_
    refine Zfv H rfl rfl hsl Repl.here (by simp [Value.cells]) (u8_one _) rfl ?_; clear H; intro w H
    repeat (first|(refine Zd1 ?_; first|refine Zcx ?_|(refine Zd3 ?_; first|refine Zc0 rfl ?_|refine Zc1 rfl ?_|refine Zc2 rfl ?_)|refine Zcz (by first|exact Zat rfl|exact Zav rfl|exact Zaw rfl|exact Zaz rfl|exact Za2 rfl|exact Za1 rfl|exact Zau rfl|exact Za0 rfl|exact Zba rfl|exact Zce rfl (by omega)|exact Zbn rfl rfl|exact Zbr rfl rfl|exact Zbs rfl rfl|exact Zbq rfl rfl|exact Zbp rfl rfl|exact Zbo rfl rfl|exact Zcr rfl|exact Zbg rfl rfl (by omega)|exact Zbh rfl rfl (by omega)|exact Zbi rfl rfl (by omega)|exact Zco rfl rfl|exact Zdz rfl rfl|exact Zd0 rfl rfl|exact Za8 rfl rfl|exact Za9 rfl rfl|exact Za6 rfl rfl|exact Za7 rfl rfl|exact Zb1 rfl|exact Zca rfl rfl|exact Zcb rfl rfl|exact Zcv rfl rfl|exact Zcw rfl rfl|exact Zax rfl|exact Za3 rfl|exact Zay rfl|exact Zcl rfl rfl|exact Zb0 rfl|exact Zct|exact Zf3|exact Zar rfl|exact Zas rfl) ?_|(refine Zd4 ?_; refine Zc5 H rfl (by repeat constructor) rfl ?_)|(refine Zd5 ?_; (first|refine Zdb H rfl rfl (by repeat constructor) (by first|(simp only [wr_size, Array.size_setIfInBounds, List.size_toArray, List.length_cons, List.length_nil]; omega)|omega|(simp; done)|(simp; omega)) ?_|refine Zde H rfl rfl (by repeat constructor) (by first|(simp only [wr_size, Array.size_setIfInBounds, List.size_toArray, List.length_cons, List.length_nil]; omega)|omega|(simp; done)|(simp; omega)) ?_|refine Zdd H rfl rfl (by repeat constructor) (by first|(simp only [wr_size, Array.size_setIfInBounds, List.size_toArray, List.length_cons, List.length_nil]; omega)|omega|(simp; done)|(simp; omega)) ?_|refine Zdc H rfl rfl (by repeat constructor) (by first|(simp only [wr_size, Array.size_setIfInBounds, List.size_toArray, List.length_cons, List.length_nil]; omega)|omega|(simp; done)|(simp; omega)) ?_|refine Zda H rfl rfl rfl (by repeat constructor) (by first|(simp only [wr_size, Array.size_setIfInBounds, List.size_toArray, List.length_cons, List.length_nil]; omega)|omega|(simp; done)|(simp; omega)) ?_); clear H; intro w H))|(refine Zd6 ?_; first|refine Zd9 ?_|refine Zeb ?_|refine Zeh ?_|refine Zef ?_|refine Zed ?_|refine Zec ?_|refine Zee ?_|refine Zeg ?_|(refine Zd7 ?_; first|refine Zao rfl ?_|refine Zap rfl ?_))|(first|refine Zei ?_|refine Zej ?_|refine Zek ?_|refine Zel ?_|refine Zen ?_|refine Zem ?_|refine Zeo rfl ?_|refine Zep ?_|refine Zeq ?_|refine Zes ?_|refine Zet ?_))
    first|refine Ze6 rfl ?_|refine Ze7 rfl ?_|refine Ze8 rfl ?_|refine Ze9 rfl ?_|refine Zfa rfl rfl ?_|refine Zfb rfl rfl ?_|refine Zfc rfl rfl ?_|refine Ze2 ?_|refine Ze3 ?_
    refine ⟨_, _, rfl, ?_⟩
    have hcs : wr (List.replicate s.size (Value.int IntKind.u8 0).cells.toList).flatten.toArray 0 (((HostS.back s page writes).map u8b).take (min (HostS.back s page writes).length s.size * 1)) = ((HostS.back s page writes).map u8b).toArray := by
      rw [hrow, Nat.min_self, Nat.mul_one, List.take_of_length_le (by simp [hrow])]
      exact wr_all ((HostS.back s page writes).map u8b).toArray _ (by simp [hrow, Value.cells])
    rw [hcs] at H
    exact back_end hs hvl hv1 hrow H
  · repeat (first|(refine Zd1 ?_; first|refine Zcx ?_|(refine Zd3 ?_; first|refine Zc0 rfl ?_|refine Zc1 rfl ?_|refine Zc2 rfl ?_)|refine Zcz (by first|exact Zat rfl|exact Zav rfl|exact Zaw rfl|exact Zaz rfl|exact Za2 rfl|exact Za1 rfl|exact Zau rfl|exact Za0 rfl|exact Zba rfl|exact Zce rfl (by omega)|exact Zbn rfl rfl|exact Zbr rfl rfl|exact Zbs rfl rfl|exact Zbq rfl rfl|exact Zbp rfl rfl|exact Zbo rfl rfl|exact Zcr rfl|exact Zbg rfl rfl (by omega)|exact Zbh rfl rfl (by omega)|exact Zbi rfl rfl (by omega)|exact Zco rfl rfl|exact Zdz rfl rfl|exact Zd0 rfl rfl|exact Za8 rfl rfl|exact Za9 rfl rfl|exact Za6 rfl rfl|exact Za7 rfl rfl|exact Zb1 rfl|exact Zca rfl rfl|exact Zcb rfl rfl|exact Zcv rfl rfl|exact Zcw rfl rfl|exact Zax rfl|exact Za3 rfl|exact Zay rfl|exact Zcl rfl rfl|exact Zb0 rfl|exact Zct|exact Zf3|exact Zar rfl|exact Zas rfl) ?_|(refine Zd4 ?_; refine Zc5 H rfl (by repeat constructor) rfl ?_)|(refine Zd5 ?_; (first|refine Zdb H rfl rfl (by repeat constructor) (by first|(simp only [wr_size, Array.size_setIfInBounds, List.size_toArray, List.length_cons, List.length_nil]; omega)|omega|(simp; done)|(simp; omega)) ?_|refine Zde H rfl rfl (by repeat constructor) (by first|(simp only [wr_size, Array.size_setIfInBounds, List.size_toArray, List.length_cons, List.length_nil]; omega)|omega|(simp; done)|(simp; omega)) ?_|refine Zdd H rfl rfl (by repeat constructor) (by first|(simp only [wr_size, Array.size_setIfInBounds, List.size_toArray, List.length_cons, List.length_nil]; omega)|omega|(simp; done)|(simp; omega)) ?_|refine Zdc H rfl rfl (by repeat constructor) (by first|(simp only [wr_size, Array.size_setIfInBounds, List.size_toArray, List.length_cons, List.length_nil]; omega)|omega|(simp; done)|(simp; omega)) ?_|refine Zda H rfl rfl rfl (by repeat constructor) (by first|(simp only [wr_size, Array.size_setIfInBounds, List.size_toArray, List.length_cons, List.length_nil]; omega)|omega|(simp; done)|(simp; omega)) ?_); clear H; intro w H))|(refine Zd6 ?_; first|refine Zd9 ?_|refine Zeb ?_|refine Zeh ?_|refine Zef ?_|refine Zed ?_|refine Zec ?_|refine Zee ?_|refine Zeg ?_|(refine Zd7 ?_; first|refine Zao rfl ?_|refine Zap rfl ?_))|(first|refine Zei ?_|refine Zej ?_|refine Zek ?_|refine Zel ?_|refine Zen ?_|refine Zem ?_|refine Zeo rfl ?_|refine Zep ?_|refine Zeq ?_|refine Zes ?_|refine Zet ?_))
    first|refine Ze6 rfl ?_|refine Ze7 rfl ?_|refine Ze8 rfl ?_|refine Ze9 rfl ?_|refine Zfa rfl rfl ?_|refine Zfb rfl rfl ?_|refine Zfc rfl rfl ?_|refine Ze2 ?_|refine Ze3 ?_
    refine ⟨_, _, rfl, ?_⟩
    have hbk : HostS.back s page writes = List.replicate s.size 0#8 := by simp only [HostS.back]; rw [if_neg hB]
    have hrow : (HostS.back s page writes).length = s.size := by rw [hbk]; simp
    have hcs : (List.replicate s.size (Value.int IntKind.u8 0).cells.toList).flatten.toArray = ((HostS.back s page writes).map u8b).toArray := by
      rw [hbk]; apply Array.ext'; simp [Value.cells, List.map_replicate]
    rw [hcs] at H
    exact back_end hs hvl hv1 hrow H
end Go.Sl

/- host: the small askers. -/
set_option maxHeartbeats 2000000
set_option linter.unusedVariables false
set_option linter.unusedSimpArgs false
namespace Go.Sl
open Go Go.Proofs
attribute [local irreducible] cl pt own old den denOps denS thenK blockK cutK loopK retK Calls PV
attribute [local irreducible] omap ohole oheld rowsB
theorem log_one (l : List HostS.Touch) (h : l.length ≤ 3518437208880) : (l.flatMap tcells).all oneC = true := by
  rw [List.all_eq_true]
  intro v hv
  obtain ⟨t, _, hv⟩ := List.mem_flatMap.1 hv
  simp only [tcells, List.mem_append, List.mem_map] at hv
  rcases hv with hv|⟨n, _, rfl⟩
  · simp at hv; rcases hv with rfl|rfl|rfl <;> rfl
  · rfl
section
variable {p : Nat} {s : HostS.HS} {w0 w : World} {L : List Asrt} (H : St w0 w (hostA p s :: L))
include H
theorem down_c : Calls Tryz.prog 35 #[.pointer (some ⟨p, 0, none⟩)] w (Ret fun v w' => v = .bool s.down ∧ w' = w) := by
  obtain ⟨bl, bc, logv, hs, H⟩ := H.host_get
  unfold hostB at H
  refine calls_den [_] Tryz.func35 rfl rfl rfl Tryz.mixed (by kernel_rfl) ?_
  repeat (first|(refine Zd1 ?_; first|refine Zcx ?_|(refine Zd3 ?_; first|refine Zc0 rfl ?_|refine Zc1 rfl ?_|refine Zc2 rfl ?_)|refine Zcz (by first|exact Zat rfl|exact Zav rfl|exact Zaw rfl|exact Zaz rfl|exact Za2 rfl|exact Za1 rfl|exact Zau rfl|exact Za0 rfl|exact Zba rfl|exact Zce rfl (by omega)|exact Zbn rfl rfl|exact Zbr rfl rfl|exact Zbs rfl rfl|exact Zbq rfl rfl|exact Zbp rfl rfl|exact Zbo rfl rfl|exact Zcr rfl|exact Zbg rfl rfl (by omega)|exact Zbh rfl rfl (by omega)|exact Zbi rfl rfl (by omega)|exact Zco rfl rfl|exact Zdz rfl rfl|exact Zd0 rfl rfl|exact Za8 rfl rfl|exact Za9 rfl rfl|exact Za6 rfl rfl|exact Za7 rfl rfl|exact Zb1 rfl|exact Zca rfl rfl|exact Zcb rfl rfl|exact Zcv rfl rfl|exact Zcw rfl rfl|exact Zax rfl|exact Za3 rfl|exact Zay rfl|exact Zcl rfl rfl|exact Zb0 rfl|exact Zct|exact Zf3|exact Zar rfl|exact Zas rfl) ?_|(refine Zd4 ?_; refine Zc5 H rfl (by repeat constructor) rfl ?_)|(refine Zd5 ?_; (first|refine Zdb H rfl rfl (by repeat constructor) (by first|(simp only [wr_size, Array.size_setIfInBounds, List.size_toArray, List.length_cons, List.length_nil]; omega)|omega|(simp; done)|(simp; omega)) ?_|refine Zde H rfl rfl (by repeat constructor) (by first|(simp only [wr_size, Array.size_setIfInBounds, List.size_toArray, List.length_cons, List.length_nil]; omega)|omega|(simp; done)|(simp; omega)) ?_|refine Zdd H rfl rfl (by repeat constructor) (by first|(simp only [wr_size, Array.size_setIfInBounds, List.size_toArray, List.length_cons, List.length_nil]; omega)|omega|(simp; done)|(simp; omega)) ?_|refine Zdc H rfl rfl (by repeat constructor) (by first|(simp only [wr_size, Array.size_setIfInBounds, List.size_toArray, List.length_cons, List.length_nil]; omega)|omega|(simp; done)|(simp; omega)) ?_|refine Zda H rfl rfl rfl (by repeat constructor) (by first|(simp only [wr_size, Array.size_setIfInBounds, List.size_toArray, List.length_cons, List.length_nil]; omega)|omega|(simp; done)|(simp; omega)) ?_); clear H; intro w H))|(refine Zd6 ?_; first|refine Zd9 ?_|refine Zeb ?_|refine Zeh ?_|refine Zef ?_|refine Zed ?_|refine Zec ?_|refine Zee ?_|refine Zeg ?_|(refine Zd7 ?_; first|refine Zao rfl ?_|refine Zap rfl ?_))|(first|refine Zei ?_|refine Zej ?_|refine Zek ?_|refine Zel ?_|refine Zen ?_|refine Zem ?_|refine Zeo rfl ?_|refine Zep ?_|refine Zeq ?_|refine Zes ?_|refine Zet ?_)|refine Zd8 ?_)
  first|refine Ze6 rfl ?_|refine Ze7 rfl ?_|refine Ze8 rfl ?_|refine Ze9 rfl ?_|refine Zfa rfl rfl ?_|refine Zfb rfl rfl ?_|refine Zfc rfl rfl ?_|refine Ze2 ?_|refine Ze3 ?_
  refine ⟨?_, rfl⟩
  cases h : s.down <;> simp [powerOf, h]
theorem pages_c : Calls Tryz.prog 209 #[.pointer (some ⟨p, 0, none⟩)] w (Ret fun v w' => v = .int .i64 s.pages ∧ w' = w) := by
  obtain ⟨bl, bc, logv, hs, H⟩ := H.host_get
  unfold hostB at H
  refine calls_den [_] Tryz.func209 rfl rfl rfl Tryz.mixed (by kernel_rfl) ?_
  repeat (first|(refine Zd1 ?_; first|refine Zcx ?_|(refine Zd3 ?_; first|refine Zc0 rfl ?_|refine Zc1 rfl ?_|refine Zc2 rfl ?_)|refine Zcz (by first|exact Zat rfl|exact Zav rfl|exact Zaw rfl|exact Zaz rfl|exact Za2 rfl|exact Za1 rfl|exact Zau rfl|exact Za0 rfl|exact Zba rfl|exact Zce rfl (by omega)|exact Zbn rfl rfl|exact Zbr rfl rfl|exact Zbs rfl rfl|exact Zbq rfl rfl|exact Zbp rfl rfl|exact Zbo rfl rfl|exact Zcr rfl|exact Zbg rfl rfl (by omega)|exact Zbh rfl rfl (by omega)|exact Zbi rfl rfl (by omega)|exact Zco rfl rfl|exact Zdz rfl rfl|exact Zd0 rfl rfl|exact Za8 rfl rfl|exact Za9 rfl rfl|exact Za6 rfl rfl|exact Za7 rfl rfl|exact Zb1 rfl|exact Zca rfl rfl|exact Zcb rfl rfl|exact Zcv rfl rfl|exact Zcw rfl rfl|exact Zax rfl|exact Za3 rfl|exact Zay rfl|exact Zcl rfl rfl|exact Zb0 rfl|exact Zct|exact Zf3|exact Zar rfl|exact Zas rfl) ?_|(refine Zd4 ?_; refine Zc5 H rfl (by repeat constructor) rfl ?_)|(refine Zd5 ?_; (first|refine Zdb H rfl rfl (by repeat constructor) (by first|(simp only [wr_size, Array.size_setIfInBounds, List.size_toArray, List.length_cons, List.length_nil]; omega)|omega|(simp; done)|(simp; omega)) ?_|refine Zde H rfl rfl (by repeat constructor) (by first|(simp only [wr_size, Array.size_setIfInBounds, List.size_toArray, List.length_cons, List.length_nil]; omega)|omega|(simp; done)|(simp; omega)) ?_|refine Zdd H rfl rfl (by repeat constructor) (by first|(simp only [wr_size, Array.size_setIfInBounds, List.size_toArray, List.length_cons, List.length_nil]; omega)|omega|(simp; done)|(simp; omega)) ?_|refine Zdc H rfl rfl (by repeat constructor) (by first|(simp only [wr_size, Array.size_setIfInBounds, List.size_toArray, List.length_cons, List.length_nil]; omega)|omega|(simp; done)|(simp; omega)) ?_|refine Zda H rfl rfl rfl (by repeat constructor) (by first|(simp only [wr_size, Array.size_setIfInBounds, List.size_toArray, List.length_cons, List.length_nil]; omega)|omega|(simp; done)|(simp; omega)) ?_); clear H; intro w H))|(refine Zd6 ?_; first|refine Zd9 ?_|refine Zeb ?_|refine Zeh ?_|refine Zef ?_|refine Zed ?_|refine Zec ?_|refine Zee ?_|refine Zeg ?_|(refine Zd7 ?_; first|refine Zao rfl ?_|refine Zap rfl ?_))|(first|refine Zei ?_|refine Zej ?_|refine Zek ?_|refine Zel ?_|refine Zen ?_|refine Zem ?_|refine Zeo rfl ?_|refine Zep ?_|refine Zeq ?_|refine Zes ?_|refine Zet ?_)|refine Zd8 ?_)
  first|refine Ze6 rfl ?_|refine Ze7 rfl ?_|refine Ze8 rfl ?_|refine Ze9 rfl ?_|refine Zfa rfl rfl ?_|refine Zfb rfl rfl ?_|refine Zfc rfl rfl ?_|refine Ze2 ?_|refine Ze3 ?_
  exact ⟨rfl, rfl⟩
theorem size_c : Calls Tryz.prog 212 #[.pointer (some ⟨p, 0, none⟩)] w (Ret fun v w' => v = .int .i64 s.size ∧ w' = w) := by
  obtain ⟨bl, bc, logv, hs, H⟩ := H.host_get
  unfold hostB at H
  refine calls_den [_] Tryz.func212 rfl rfl rfl Tryz.mixed (by kernel_rfl) ?_
  repeat (first|(refine Zd1 ?_; first|refine Zcx ?_|(refine Zd3 ?_; first|refine Zc0 rfl ?_|refine Zc1 rfl ?_|refine Zc2 rfl ?_)|refine Zcz (by first|exact Zat rfl|exact Zav rfl|exact Zaw rfl|exact Zaz rfl|exact Za2 rfl|exact Za1 rfl|exact Zau rfl|exact Za0 rfl|exact Zba rfl|exact Zce rfl (by omega)|exact Zbn rfl rfl|exact Zbr rfl rfl|exact Zbs rfl rfl|exact Zbq rfl rfl|exact Zbp rfl rfl|exact Zbo rfl rfl|exact Zcr rfl|exact Zbg rfl rfl (by omega)|exact Zbh rfl rfl (by omega)|exact Zbi rfl rfl (by omega)|exact Zco rfl rfl|exact Zdz rfl rfl|exact Zd0 rfl rfl|exact Za8 rfl rfl|exact Za9 rfl rfl|exact Za6 rfl rfl|exact Za7 rfl rfl|exact Zb1 rfl|exact Zca rfl rfl|exact Zcb rfl rfl|exact Zcv rfl rfl|exact Zcw rfl rfl|exact Zax rfl|exact Za3 rfl|exact Zay rfl|exact Zcl rfl rfl|exact Zb0 rfl|exact Zct|exact Zf3|exact Zar rfl|exact Zas rfl) ?_|(refine Zd4 ?_; refine Zc5 H rfl (by repeat constructor) rfl ?_)|(refine Zd5 ?_; (first|refine Zdb H rfl rfl (by repeat constructor) (by first|(simp only [wr_size, Array.size_setIfInBounds, List.size_toArray, List.length_cons, List.length_nil]; omega)|omega|(simp; done)|(simp; omega)) ?_|refine Zde H rfl rfl (by repeat constructor) (by first|(simp only [wr_size, Array.size_setIfInBounds, List.size_toArray, List.length_cons, List.length_nil]; omega)|omega|(simp; done)|(simp; omega)) ?_|refine Zdd H rfl rfl (by repeat constructor) (by first|(simp only [wr_size, Array.size_setIfInBounds, List.size_toArray, List.length_cons, List.length_nil]; omega)|omega|(simp; done)|(simp; omega)) ?_|refine Zdc H rfl rfl (by repeat constructor) (by first|(simp only [wr_size, Array.size_setIfInBounds, List.size_toArray, List.length_cons, List.length_nil]; omega)|omega|(simp; done)|(simp; omega)) ?_|refine Zda H rfl rfl rfl (by repeat constructor) (by first|(simp only [wr_size, Array.size_setIfInBounds, List.size_toArray, List.length_cons, List.length_nil]; omega)|omega|(simp; done)|(simp; omega)) ?_); clear H; intro w H))|(refine Zd6 ?_; first|refine Zd9 ?_|refine Zeb ?_|refine Zeh ?_|refine Zef ?_|refine Zed ?_|refine Zec ?_|refine Zee ?_|refine Zeg ?_|(refine Zd7 ?_; first|refine Zao rfl ?_|refine Zap rfl ?_))|(first|refine Zei ?_|refine Zej ?_|refine Zek ?_|refine Zel ?_|refine Zen ?_|refine Zem ?_|refine Zeo rfl ?_|refine Zep ?_|refine Zeq ?_|refine Zes ?_|refine Zet ?_)|refine Zd8 ?_)
  first|refine Ze6 rfl ?_|refine Ze7 rfl ?_|refine Ze8 rfl ?_|refine Ze9 rfl ?_|refine Zfa rfl rfl ?_|refine Zfb rfl rfl ?_|refine Zfc rfl rfl ?_|refine Ze2 ?_|refine Ze3 ?_
  exact ⟨rfl, rfl⟩
theorem log_c (hops : s.ops ≤ 3518437208880) : Calls Tryz.prog 20 #[.pointer (some ⟨p, 0, none⟩)] w (Ret fun v w' => St w0 w' (logA v s.log :: hostA p s :: L)) := by
  obtain ⟨bl, bc, logv, hs, H⟩ := H.host_get
  obtain ⟨la, lk, rfl⟩ := (St.own_sl (H.pick (A := logA logv s.log) (by repeat constructor))).len
  have hll := hs.log
  unfold hostB at H
  refine calls_den [_] Tryz.func20 rfl rfl rfl Tryz.mixed (by kernel_rfl) ?_
  repeat (first|(refine Zd1 ?_; first|refine Zcx ?_|(refine Zd3 ?_; first|refine Zc0 rfl ?_|refine Zc1 rfl ?_|refine Zc2 rfl ?_)|refine Zcz (by first|exact Zat rfl|exact Zav rfl|exact Zaw rfl|exact Zaz rfl|exact Za2 rfl|exact Za1 rfl|exact Zau rfl|exact Za0 rfl|exact Zba rfl|exact Zce rfl (by omega)|exact Zbn rfl rfl|exact Zbr rfl rfl|exact Zbs rfl rfl|exact Zbq rfl rfl|exact Zbp rfl rfl|exact Zbo rfl rfl|exact Zcr rfl|exact Zbg rfl rfl (by omega)|exact Zbh rfl rfl (by omega)|exact Zbi rfl rfl (by omega)|exact Zco rfl rfl|exact Zdz rfl rfl|exact Zd0 rfl rfl|exact Za8 rfl rfl|exact Za9 rfl rfl|exact Za6 rfl rfl|exact Za7 rfl rfl|exact Zb1 rfl|exact Zca rfl rfl|exact Zcb rfl rfl|exact Zcv rfl rfl|exact Zcw rfl rfl|exact Zax rfl|exact Za3 rfl|exact Zay rfl|exact Zcl rfl rfl|exact Zb0 rfl|exact Zct|exact Zf3|exact Zar rfl|exact Zas rfl) ?_|(refine Zd4 ?_; refine Zc5 H rfl (by repeat constructor) rfl ?_)|(refine Zd5 ?_; (first|refine Zdb H rfl rfl (by repeat constructor) (by first|(simp only [wr_size, Array.size_setIfInBounds, List.size_toArray, List.length_cons, List.length_nil]; omega)|omega|(simp; done)|(simp; omega)) ?_|refine Zde H rfl rfl (by repeat constructor) (by first|(simp only [wr_size, Array.size_setIfInBounds, List.size_toArray, List.length_cons, List.length_nil]; omega)|omega|(simp; done)|(simp; omega)) ?_|refine Zdd H rfl rfl (by repeat constructor) (by first|(simp only [wr_size, Array.size_setIfInBounds, List.size_toArray, List.length_cons, List.length_nil]; omega)|omega|(simp; done)|(simp; omega)) ?_|refine Zdc H rfl rfl (by repeat constructor) (by first|(simp only [wr_size, Array.size_setIfInBounds, List.size_toArray, List.length_cons, List.length_nil]; omega)|omega|(simp; done)|(simp; omega)) ?_|refine Zda H rfl rfl rfl (by repeat constructor) (by first|(simp only [wr_size, Array.size_setIfInBounds, List.size_toArray, List.length_cons, List.length_nil]; omega)|omega|(simp; done)|(simp; omega)) ?_); clear H; intro w H))|(refine Zd6 ?_; first|refine Zd9 ?_|refine Zeb ?_|refine Zeh ?_|refine Zef ?_|refine Zed ?_|refine Zec ?_|refine Zee ?_|refine Zeg ?_|(refine Zd7 ?_; first|refine Zao rfl ?_|refine Zap rfl ?_))|(first|refine Zei ?_|refine Zej ?_|refine Zek ?_|refine Zel ?_|refine Zen ?_|refine Zem ?_|refine Zeo rfl ?_|refine Zep ?_|refine Zeq ?_|refine Zes ?_|refine Zet ?_)|refine Zd8 ?_)
  have H1 := St.own_nil H 65 15
  have hsl : ∀ w', St w0 w' (own 65 15 (.slice none 0 0) 0 [] :: cl p #[.int .i64 s.pages, .int .i64 s.size, .map (some bl), u64b s.reg, .map (some bc), .int .i64 s.ops, .slice la s.log.length lk, .int .i64 (powerOf s)] 117 :: omap bl rowsA [] s.lay :: omap bc faultsA [] s.coming :: logA (.slice la s.log.length lk) s.log :: L) → SlW w' 15 (.slice la s.log.length lk) s.log.length (s.log.flatMap tcells) := fun w' H => St.own_sl (H.pick (A := logA (.slice la s.log.length lk) s.log) (by repeat constructor))
  clear H; have H := H1; clear H1
  repeat (first|(refine Zd1 ?_; first|refine Zcx ?_|(refine Zd3 ?_; first|refine Zc0 rfl ?_|refine Zc1 rfl ?_|refine Zc2 rfl ?_)|refine Zcz (by first|exact Zat rfl|exact Zav rfl|exact Zaw rfl|exact Zaz rfl|exact Za2 rfl|exact Za1 rfl|exact Zau rfl|exact Za0 rfl|exact Zba rfl|exact Zce rfl (by omega)|exact Zbn rfl rfl|exact Zbr rfl rfl|exact Zbs rfl rfl|exact Zbq rfl rfl|exact Zbp rfl rfl|exact Zbo rfl rfl|exact Zcr rfl|exact Zbg rfl rfl (by omega)|exact Zbh rfl rfl (by omega)|exact Zbi rfl rfl (by omega)|exact Zco rfl rfl|exact Zdz rfl rfl|exact Zd0 rfl rfl|exact Za8 rfl rfl|exact Za9 rfl rfl|exact Za6 rfl rfl|exact Za7 rfl rfl|exact Zb1 rfl|exact Zca rfl rfl|exact Zcb rfl rfl|exact Zcv rfl rfl|exact Zcw rfl rfl|exact Zax rfl|exact Za3 rfl|exact Zay rfl|exact Zcl rfl rfl|exact Zb0 rfl|exact Zct|exact Zf3|exact Zar rfl|exact Zas rfl) ?_|(refine Zd4 ?_; refine Zc5 H rfl (by repeat constructor) rfl ?_)|(refine Zd5 ?_; (first|refine Zdb H rfl rfl (by repeat constructor) (by first|(simp only [wr_size, Array.size_setIfInBounds, List.size_toArray, List.length_cons, List.length_nil]; omega)|omega|(simp; done)|(simp; omega)) ?_|refine Zde H rfl rfl (by repeat constructor) (by first|(simp only [wr_size, Array.size_setIfInBounds, List.size_toArray, List.length_cons, List.length_nil]; omega)|omega|(simp; done)|(simp; omega)) ?_|refine Zdd H rfl rfl (by repeat constructor) (by first|(simp only [wr_size, Array.size_setIfInBounds, List.size_toArray, List.length_cons, List.length_nil]; omega)|omega|(simp; done)|(simp; omega)) ?_|refine Zdc H rfl rfl (by repeat constructor) (by first|(simp only [wr_size, Array.size_setIfInBounds, List.size_toArray, List.length_cons, List.length_nil]; omega)|omega|(simp; done)|(simp; omega)) ?_|refine Zda H rfl rfl rfl (by repeat constructor) (by first|(simp only [wr_size, Array.size_setIfInBounds, List.size_toArray, List.length_cons, List.length_nil]; omega)|omega|(simp; done)|(simp; omega)) ?_); clear H; intro w H))|(refine Zd6 ?_; first|refine Zd9 ?_|refine Zeb ?_|refine Zeh ?_|refine Zef ?_|refine Zed ?_|refine Zec ?_|refine Zee ?_|refine Zeg ?_|(refine Zd7 ?_; first|refine Zao rfl ?_|refine Zap rfl ?_))|(first|refine Zei ?_|refine Zej ?_|refine Zek ?_|refine Zel ?_|refine Zen ?_|refine Zem ?_|refine Zeo rfl ?_|refine Zep ?_|refine Zeq ?_|refine Zes ?_|refine Zet ?_))
  have hsl := hsl _ H
  refine Zfu H rfl rfl Has.here hsl ?_ ?_ ?_ ?_
  · exact log_one s.log (by omega)
  · omega
  · omega
  clear H hsl; intro a' c' w H
  repeat (first|(refine Zd1 ?_; first|refine Zcx ?_|(refine Zd3 ?_; first|refine Zc0 rfl ?_|refine Zc1 rfl ?_|refine Zc2 rfl ?_)|refine Zcz (by first|exact Zat rfl|exact Zav rfl|exact Zaw rfl|exact Zaz rfl|exact Za2 rfl|exact Za1 rfl|exact Zau rfl|exact Za0 rfl|exact Zba rfl|exact Zce rfl (by omega)|exact Zbn rfl rfl|exact Zbr rfl rfl|exact Zbs rfl rfl|exact Zbq rfl rfl|exact Zbp rfl rfl|exact Zbo rfl rfl|exact Zcr rfl|exact Zbg rfl rfl (by omega)|exact Zbh rfl rfl (by omega)|exact Zbi rfl rfl (by omega)|exact Zco rfl rfl|exact Zdz rfl rfl|exact Zd0 rfl rfl|exact Za8 rfl rfl|exact Za9 rfl rfl|exact Za6 rfl rfl|exact Za7 rfl rfl|exact Zb1 rfl|exact Zca rfl rfl|exact Zcb rfl rfl|exact Zcv rfl rfl|exact Zcw rfl rfl|exact Zax rfl|exact Za3 rfl|exact Zay rfl|exact Zcl rfl rfl|exact Zb0 rfl|exact Zct|exact Zf3|exact Zar rfl|exact Zas rfl) ?_|(refine Zd4 ?_; refine Zc5 H rfl (by repeat constructor) rfl ?_)|(refine Zd5 ?_; (first|refine Zdb H rfl rfl (by repeat constructor) (by first|(simp only [wr_size, Array.size_setIfInBounds, List.size_toArray, List.length_cons, List.length_nil]; omega)|omega|(simp; done)|(simp; omega)) ?_|refine Zde H rfl rfl (by repeat constructor) (by first|(simp only [wr_size, Array.size_setIfInBounds, List.size_toArray, List.length_cons, List.length_nil]; omega)|omega|(simp; done)|(simp; omega)) ?_|refine Zdd H rfl rfl (by repeat constructor) (by first|(simp only [wr_size, Array.size_setIfInBounds, List.size_toArray, List.length_cons, List.length_nil]; omega)|omega|(simp; done)|(simp; omega)) ?_|refine Zdc H rfl rfl (by repeat constructor) (by first|(simp only [wr_size, Array.size_setIfInBounds, List.size_toArray, List.length_cons, List.length_nil]; omega)|omega|(simp; done)|(simp; omega)) ?_|refine Zda H rfl rfl rfl (by repeat constructor) (by first|(simp only [wr_size, Array.size_setIfInBounds, List.size_toArray, List.length_cons, List.length_nil]; omega)|omega|(simp; done)|(simp; omega)) ?_); clear H; intro w H))|(refine Zd6 ?_; first|refine Zd9 ?_|refine Zeb ?_|refine Zeh ?_|refine Zef ?_|refine Zed ?_|refine Zec ?_|refine Zee ?_|refine Zeg ?_|(refine Zd7 ?_; first|refine Zao rfl ?_|refine Zap rfl ?_))|(first|refine Zei ?_|refine Zej ?_|refine Zek ?_|refine Zel ?_|refine Zen ?_|refine Zem ?_|refine Zeo rfl ?_|refine Zep ?_|refine Zeq ?_|refine Zes ?_|refine Zet ?_)|refine Zd8 ?_)
  first|refine Ze6 rfl ?_|refine Ze7 rfl ?_|refine Ze8 rfl ?_|refine Ze9 rfl ?_|refine Zfa rfl rfl ?_|refine Zfb rfl rfl ?_|refine Zfc rfl rfl ?_|refine Ze2 ?_|refine Ze3 ?_
  have H := H.arr (M := own 65 15 (.slice a' (0 + s.log.length) c') (0 + s.log.length) (s.log.flatMap tcells) :: hostB p bl bc (.slice la s.log.length lk) s :: omap bl rowsA [] s.lay :: omap bc faultsA [] s.coming :: logA (.slice la s.log.length lk) s.log :: L) (by repeat (first|exact Arr.nil|exact Arr.stop|refine Arr.cons (by repeat constructor) ?_|refine Arr.skip ?_))
  rw [Nat.zero_add] at H ⊢
  have H2 := St.host_mk (p := p) hs (H.arr (M := hostB p bl bc (.slice la s.log.length lk) s :: omap bl rowsA [] s.lay :: omap bc faultsA [] s.coming :: logA (.slice la s.log.length lk) s.log :: own 65 15 (.slice a' s.log.length c') s.log.length (s.log.flatMap tcells) :: L) (by repeat (first|exact Arr.nil|exact Arr.stop|refine Arr.cons (by repeat constructor) ?_|refine Arr.skip ?_)))
  exact H2.swap
end
end Go.Sl

/- host: what the log tells of an operation; what a read answers. -/
set_option maxHeartbeats 2000000
set_option linter.unusedVariables false
set_option linter.unusedSimpArgs false
namespace Go.Sl
open Go Go.Proofs
attribute [local irreducible] cl pt own old den denOps denS thenK blockK cutK loopK retK Calls PV
attribute [local irreducible] hostA omap ohole oheld rowsB
theorem head_wr (a c d : Value) (b : HostS.Bytes) (k : Nat) (hk : k = min b.length 12 * 1) :
    wr #[a, c, d, u8b 0#8, u8b 0#8, u8b 0#8, u8b 0#8, u8b 0#8, u8b 0#8, u8b 0#8, u8b 0#8, u8b 0#8, u8b 0#8, u8b 0#8, u8b 0#8] 3 ((b.map u8b).take k) = ([a, c, d] ++ (HostS.headOf b).map u8b).toArray := by
  subst hk
  apply Array.ext'
  have h12 : (b.map u8b).take (min b.length 12 * 1) = (b.take 12).map u8b := by
    rw [Nat.mul_one, ← List.map_take]
    congr 1
    by_cases h : b.length ≤ 12
    · rw [Nat.min_eq_left h, List.take_length, List.take_of_length_le h]
    · rw [Nat.min_eq_right (by omega)]
  rw [h12]
  have hl : ((b.take 12).map u8b).length ≤ 12 := by simp; omega
  rw [wr_toList _ _ _ (by simp; omega)]
  simp only [HostS.headOf, List.map_append, List.map_replicate]
  have : ∀ n, n ≤ 12 → List.drop (3 + n) [a, c, d, u8b 0#8, u8b 0#8, u8b 0#8, u8b 0#8, u8b 0#8, u8b 0#8, u8b 0#8, u8b 0#8, u8b 0#8, u8b 0#8, u8b 0#8, u8b 0#8] = List.replicate (12 - n) (u8b 0#8) := by
    intro n hn
    have : n = 0 ∨ n = 1 ∨ n = 2 ∨ n = 3 ∨ n = 4 ∨ n = 5 ∨ n = 6 ∨ n = 7 ∨ n = 8 ∨ n = 9 ∨ n = 10 ∨ n = 11 ∨ n = 12 := by omega
    rcases this with h|h|h|h|h|h|h|h|h|h|h|h|h <;> subst h <;> rfl
  rw [this _ hl]
  simp only [List.length_map, List.length_take]
  rw [show 12 - min 12 b.length = 12 - b.length from by omega]
  simp

theorem headOf_len (b : HostS.Bytes) : (HostS.headOf b).length = 12 := by simp [HostS.headOf]; omega
theorem zero12 : [u8b 0#8, u8b 0#8, u8b 0#8, u8b 0#8, u8b 0#8, u8b 0#8, u8b 0#8, u8b 0#8, u8b 0#8, u8b 0#8, u8b 0#8, u8b 0#8] = (List.replicate 12 0#8).map u8b := rfl
theorem touch_c {p bl bc : Nat} {logv : Value} {s : HostS.HS} {w0 w : World} {L : List Asrt} (op page : Int) {bv : Value} {b : HostS.Bytes} (H : St w0 w (hostB p bl bc logv s :: L)) (hb : op = 1 → ∀ w', St w0 w' L → SlW w' 1 bv b.length (b.map u8b)) (hbv : ∃ a n k, bv = .slice a n k) :
    Calls Tryz.prog 218 #[.pointer (some ⟨p, 0, none⟩), .int .i64 op, .int .i64 page, bv] w (Ret fun v w' => v = .agg (tcells (HostS.touchOf s op page b)).toArray ∧ St w0 w' (hostB p bl bc logv s :: L)) := by
  obtain ⟨ba, bn, bk, rfl⟩ := hbv
  have fin : ∀ {w' : World} {r0 r1 : Nat} {c0 c1 : Array Value}, St w0 w' (cl r0 c0 65 :: cl r1 c1 65 :: hostB p bl bc logv s :: L) → St w0 w' (hostB p bl bc logv s :: L) :=
    fun H => H.drop.drop
  unfold hostB at H
  refine calls_den [_, _, _, _] Tryz.func218 rfl rfl rfl Tryz.mixed (by kernel_rfl) ?_
  repeat (first|(refine Zd1 ?_; first|refine Zcx ?_|(refine Zd3 ?_; first|refine Zc0 rfl ?_|refine Zc1 rfl ?_|refine Zc2 rfl ?_)|refine Zcz (by first|exact Zat rfl|exact Zav rfl|exact Zaw rfl|exact Zaz rfl|exact Za2 rfl|exact Za1 rfl|exact Zau rfl|exact Za0 rfl|exact Zba rfl|exact Zce rfl (by omega)|exact Zbn rfl rfl|exact Zbr rfl rfl|exact Zbs rfl rfl|exact Zbq rfl rfl|exact Zbp rfl rfl|exact Zbo rfl rfl|exact Zcr rfl|exact Zbg rfl rfl (by omega)|exact Zbh rfl rfl (by omega)|exact Zbi rfl rfl (by omega)|exact Zco rfl rfl|exact Zdz rfl rfl|exact Zd0 rfl rfl|exact Za8 rfl rfl|exact Za9 rfl rfl|exact Za6 rfl rfl|exact Za7 rfl rfl|exact Zb1 rfl|exact Zca rfl rfl|exact Zcb rfl rfl|exact Zcv rfl rfl|exact Zcw rfl rfl|exact Zax rfl|exact Za3 rfl|exact Zay rfl|exact Zcl rfl rfl|exact Zb0 rfl|exact Zct|exact Zf3|exact Zar rfl|exact Zas rfl) ?_|(refine Zd4 ?_; refine Zc5 H rfl (by repeat constructor) rfl ?_)|(refine Zd5 ?_; (first|refine Zdb H rfl rfl (by repeat constructor) (by first|(simp only [wr_size, Array.size_setIfInBounds, List.size_toArray, List.length_cons, List.length_nil]; omega)|omega|(simp; done)|(simp; omega)) ?_|refine Zde H rfl rfl (by repeat constructor) (by first|(simp only [wr_size, Array.size_setIfInBounds, List.size_toArray, List.length_cons, List.length_nil]; omega)|omega|(simp; done)|(simp; omega)) ?_|refine Zdd H rfl rfl (by repeat constructor) (by first|(simp only [wr_size, Array.size_setIfInBounds, List.size_toArray, List.length_cons, List.length_nil]; omega)|omega|(simp; done)|(simp; omega)) ?_|refine Zdc H rfl rfl (by repeat constructor) (by first|(simp only [wr_size, Array.size_setIfInBounds, List.size_toArray, List.length_cons, List.length_nil]; omega)|omega|(simp; done)|(simp; omega)) ?_|refine Zda H rfl rfl rfl (by repeat constructor) (by first|(simp only [wr_size, Array.size_setIfInBounds, List.size_toArray, List.length_cons, List.length_nil]; omega)|omega|(simp; done)|(simp; omega)) ?_); clear H; intro w H))|(refine Zd6 ?_; first|refine Zd9 ?_|refine Zeb ?_|refine Zeh ?_|refine Zef ?_|refine Zed ?_|refine Zec ?_|refine Zee ?_|refine Zeg ?_|(refine Zd7 ?_; first|refine Zao rfl ?_|refine Zap rfl ?_))|(first|refine Zei ?_|refine Zej ?_|refine Zek ?_|refine Zel ?_|refine Zen ?_|refine Zem ?_|refine Zeo rfl ?_|refine Zep ?_|refine Zeq ?_|refine Zes ?_|refine Zet ?_)|refine Zd8 ?_)
  refine Zdi H ?_; clear H; intro w r0 H
  repeat (first|(refine Zd1 ?_; first|refine Zcx ?_|(refine Zd3 ?_; first|refine Zc0 rfl ?_|refine Zc1 rfl ?_|refine Zc2 rfl ?_)|refine Zcz (by first|exact Zat rfl|exact Zav rfl|exact Zaw rfl|exact Zaz rfl|exact Za2 rfl|exact Za1 rfl|exact Zau rfl|exact Za0 rfl|exact Zba rfl|exact Zce rfl (by omega)|exact Zbn rfl rfl|exact Zbr rfl rfl|exact Zbs rfl rfl|exact Zbq rfl rfl|exact Zbp rfl rfl|exact Zbo rfl rfl|exact Zcr rfl|exact Zbg rfl rfl (by omega)|exact Zbh rfl rfl (by omega)|exact Zbi rfl rfl (by omega)|exact Zco rfl rfl|exact Zdz rfl rfl|exact Zd0 rfl rfl|exact Za8 rfl rfl|exact Za9 rfl rfl|exact Za6 rfl rfl|exact Za7 rfl rfl|exact Zb1 rfl|exact Zca rfl rfl|exact Zcb rfl rfl|exact Zcv rfl rfl|exact Zcw rfl rfl|exact Zax rfl|exact Za3 rfl|exact Zay rfl|exact Zcl rfl rfl|exact Zb0 rfl|exact Zct|exact Zf3|exact Zar rfl|exact Zas rfl) ?_|(refine Zd4 ?_; refine Zc5 H rfl (by repeat constructor) rfl ?_)|(refine Zd5 ?_; (first|refine Zdb H rfl rfl (by repeat constructor) (by first|(simp only [wr_size, Array.size_setIfInBounds, List.size_toArray, List.length_cons, List.length_nil]; omega)|omega|(simp; done)|(simp; omega)) ?_|refine Zde H rfl rfl (by repeat constructor) (by first|(simp only [wr_size, Array.size_setIfInBounds, List.size_toArray, List.length_cons, List.length_nil]; omega)|omega|(simp; done)|(simp; omega)) ?_|refine Zdd H rfl rfl (by repeat constructor) (by first|(simp only [wr_size, Array.size_setIfInBounds, List.size_toArray, List.length_cons, List.length_nil]; omega)|omega|(simp; done)|(simp; omega)) ?_|refine Zdc H rfl rfl (by repeat constructor) (by first|(simp only [wr_size, Array.size_setIfInBounds, List.size_toArray, List.length_cons, List.length_nil]; omega)|omega|(simp; done)|(simp; omega)) ?_|refine Zda H rfl rfl rfl (by repeat constructor) (by first|(simp only [wr_size, Array.size_setIfInBounds, List.size_toArray, List.length_cons, List.length_nil]; omega)|omega|(simp; done)|(simp; omega)) ?_); clear H; intro w H))|(refine Zd6 ?_; first|refine Zd9 ?_|refine Zeb ?_|refine Zeh ?_|refine Zef ?_|refine Zed ?_|refine Zec ?_|refine Zee ?_|refine Zeg ?_|(refine Zd7 ?_; first|refine Zao rfl ?_|refine Zap rfl ?_))|(first|refine Zei ?_|refine Zej ?_|refine Zek ?_|refine Zel ?_|refine Zen ?_|refine Zem ?_|refine Zeo rfl ?_|refine Zep ?_|refine Zeq ?_|refine Zes ?_|refine Zet ?_)|refine Zd8 ?_)
  refine Zcz (Zdm (cs := #[.int .i64 op, .int .i64 0, .int .i64 8, u8b 0#8, u8b 0#8, u8b 0#8, u8b 0#8, u8b 0#8, u8b 0#8, u8b 0#8, u8b 0#8, u8b 0#8, u8b 0#8, u8b 0#8, u8b 0#8]) rfl) ?_
  refine Zdi H ?_; clear H; intro w r1 H
  refine Zdh H rfl rfl ?_ ?_ (by repeat constructor) ?_ ?_; (next => first|rfl|simp); (next => first|rfl|simp [oneC, u8v]); (next => first|rfl|simp); clear H; intro w H
  repeat (first|(refine Zd1 ?_; first|refine Zcx ?_|(refine Zd3 ?_; first|refine Zc0 rfl ?_|refine Zc1 rfl ?_|refine Zc2 rfl ?_)|refine Zcz (by first|exact Zat rfl|exact Zav rfl|exact Zaw rfl|exact Zaz rfl|exact Za2 rfl|exact Za1 rfl|exact Zau rfl|exact Za0 rfl|exact Zba rfl|exact Zce rfl (by omega)|exact Zbn rfl rfl|exact Zbr rfl rfl|exact Zbs rfl rfl|exact Zbq rfl rfl|exact Zbp rfl rfl|exact Zbo rfl rfl|exact Zcr rfl|exact Zbg rfl rfl (by omega)|exact Zbh rfl rfl (by omega)|exact Zbi rfl rfl (by omega)|exact Zco rfl rfl|exact Zdz rfl rfl|exact Zd0 rfl rfl|exact Za8 rfl rfl|exact Za9 rfl rfl|exact Za6 rfl rfl|exact Za7 rfl rfl|exact Zb1 rfl|exact Zca rfl rfl|exact Zcb rfl rfl|exact Zcv rfl rfl|exact Zcw rfl rfl|exact Zax rfl|exact Za3 rfl|exact Zay rfl|exact Zcl rfl rfl|exact Zb0 rfl|exact Zct|exact Zf3|exact Zar rfl|exact Zas rfl) ?_|(refine Zd4 ?_; refine Zc5 H rfl (by repeat constructor) rfl ?_)|(refine Zd5 ?_; (first|refine Zdb H rfl rfl (by repeat constructor) (by first|(simp only [wr_size, Array.size_setIfInBounds, List.size_toArray, List.length_cons, List.length_nil]; omega)|omega|(simp; done)|(simp; omega)) ?_|refine Zde H rfl rfl (by repeat constructor) (by first|(simp only [wr_size, Array.size_setIfInBounds, List.size_toArray, List.length_cons, List.length_nil]; omega)|omega|(simp; done)|(simp; omega)) ?_|refine Zdd H rfl rfl (by repeat constructor) (by first|(simp only [wr_size, Array.size_setIfInBounds, List.size_toArray, List.length_cons, List.length_nil]; omega)|omega|(simp; done)|(simp; omega)) ?_|refine Zdc H rfl rfl (by repeat constructor) (by first|(simp only [wr_size, Array.size_setIfInBounds, List.size_toArray, List.length_cons, List.length_nil]; omega)|omega|(simp; done)|(simp; omega)) ?_|refine Zda H rfl rfl rfl (by repeat constructor) (by first|(simp only [wr_size, Array.size_setIfInBounds, List.size_toArray, List.length_cons, List.length_nil]; omega)|omega|(simp; done)|(simp; omega)) ?_); clear H; intro w H))|(refine Zd6 ?_; first|refine Zd9 ?_|refine Zeb ?_|refine Zeh ?_|refine Zef ?_|refine Zed ?_|refine Zec ?_|refine Zee ?_|refine Zeg ?_|(refine Zd7 ?_; first|refine Zao rfl ?_|refine Zap rfl ?_))|(first|refine Zei ?_|refine Zej ?_|refine Zek ?_|refine Zel ?_|refine Zen ?_|refine Zem ?_|refine Zeo rfl ?_|refine Zep ?_|refine Zeq ?_|refine Zes ?_|refine Zet ?_)|refine Zd8 ?_)
  refine Zaq rfl (fun hB => ?_) (fun hB => ?_)
  · repeat (first|(refine Zd1 ?_; first|refine Zcx ?_|(refine Zd3 ?_; first|refine Zc0 rfl ?_|refine Zc1 rfl ?_|refine Zc2 rfl ?_)|refine Zcz (by first|exact Zat rfl|exact Zav rfl|exact Zaw rfl|exact Zaz rfl|exact Za2 rfl|exact Za1 rfl|exact Zau rfl|exact Za0 rfl|exact Zba rfl|exact Zce rfl (by omega)|exact Zbn rfl rfl|exact Zbr rfl rfl|exact Zbs rfl rfl|exact Zbq rfl rfl|exact Zbp rfl rfl|exact Zbo rfl rfl|exact Zcr rfl|exact Zbg rfl rfl (by omega)|exact Zbh rfl rfl (by omega)|exact Zbi rfl rfl (by omega)|exact Zco rfl rfl|exact Zdz rfl rfl|exact Zd0 rfl rfl|exact Za8 rfl rfl|exact Za9 rfl rfl|exact Za6 rfl rfl|exact Za7 rfl rfl|exact Zb1 rfl|exact Zca rfl rfl|exact Zcb rfl rfl|exact Zcv rfl rfl|exact Zcw rfl rfl|exact Zax rfl|exact Za3 rfl|exact Zay rfl|exact Zcl rfl rfl|exact Zb0 rfl|exact Zct|exact Zf3|exact Zar rfl|exact Zas rfl) ?_|(refine Zd4 ?_; refine Zc5 H rfl (by repeat constructor) rfl ?_)|(refine Zd5 ?_; (first|refine Zdb H rfl rfl (by repeat constructor) (by first|(simp only [wr_size, Array.size_setIfInBounds, List.size_toArray, List.length_cons, List.length_nil]; omega)|omega|(simp; done)|(simp; omega)) ?_|refine Zde H rfl rfl (by repeat constructor) (by first|(simp only [wr_size, Array.size_setIfInBounds, List.size_toArray, List.length_cons, List.length_nil]; omega)|omega|(simp; done)|(simp; omega)) ?_|refine Zdd H rfl rfl (by repeat constructor) (by first|(simp only [wr_size, Array.size_setIfInBounds, List.size_toArray, List.length_cons, List.length_nil]; omega)|omega|(simp; done)|(simp; omega)) ?_|refine Zdc H rfl rfl (by repeat constructor) (by first|(simp only [wr_size, Array.size_setIfInBounds, List.size_toArray, List.length_cons, List.length_nil]; omega)|omega|(simp; done)|(simp; omega)) ?_|refine Zda H rfl rfl rfl (by repeat constructor) (by first|(simp only [wr_size, Array.size_setIfInBounds, List.size_toArray, List.length_cons, List.length_nil]; omega)|omega|(simp; done)|(simp; omega)) ?_); clear H; intro w H))|(refine Zd6 ?_; first|refine Zd9 ?_|refine Zeb ?_|refine Zeh ?_|refine Zef ?_|refine Zed ?_|refine Zec ?_|refine Zee ?_|refine Zeg ?_|(refine Zd7 ?_; first|refine Zao rfl ?_|refine Zap rfl ?_))|(first|refine Zei ?_|refine Zej ?_|refine Zek ?_|refine Zel ?_|refine Zen ?_|refine Zem ?_|refine Zeo rfl ?_|refine Zep ?_|refine Zeq ?_|refine Zes ?_|refine Zet ?_)|refine Zd8 ?_)
    refine Zcz (Zck rfl rfl rfl ⟨by omega, by omega⟩ (by omega)) ?_
    refine Zcz (Zaw rfl) ?_
    refine Zfv H rfl rfl (hb hB _ H.drop.drop.drop) (by repeat constructor) (by simp [cutOff]) (u8_one _) (head_wr _ _ _ _ _ rfl) ?_; clear H; intro w H
    repeat (first|(refine Zd1 ?_; first|refine Zcx ?_|(refine Zd3 ?_; first|refine Zc0 rfl ?_|refine Zc1 rfl ?_|refine Zc2 rfl ?_)|refine Zcz (by first|exact Zat rfl|exact Zav rfl|exact Zaw rfl|exact Zaz rfl|exact Za2 rfl|exact Za1 rfl|exact Zau rfl|exact Za0 rfl|exact Zba rfl|exact Zce rfl (by omega)|exact Zbn rfl rfl|exact Zbr rfl rfl|exact Zbs rfl rfl|exact Zbq rfl rfl|exact Zbp rfl rfl|exact Zbo rfl rfl|exact Zcr rfl|exact Zbg rfl rfl (by omega)|exact Zbh rfl rfl (by omega)|exact Zbi rfl rfl (by omega)|exact Zco rfl rfl|exact Zdz rfl rfl|exact Zd0 rfl rfl|exact Za8 rfl rfl|exact Za9 rfl rfl|exact Za6 rfl rfl|exact Za7 rfl rfl|exact Zb1 rfl|exact Zca rfl rfl|exact Zcb rfl rfl|exact Zcv rfl rfl|exact Zcw rfl rfl|exact Zax rfl|exact Za3 rfl|exact Zay rfl|exact Zcl rfl rfl|exact Zb0 rfl|exact Zct|exact Zf3|exact Zar rfl|exact Zas rfl) ?_|(refine Zd4 ?_; refine Zc5 H rfl (by repeat constructor) rfl ?_)|(refine Zd5 ?_; (first|refine Zdb H rfl rfl (by repeat constructor) (by first|(simp only [wr_size, Array.size_setIfInBounds, List.size_toArray, List.length_cons, List.length_nil]; omega)|omega|(simp; done)|(simp; omega)) ?_|refine Zde H rfl rfl (by repeat constructor) (by first|(simp only [wr_size, Array.size_setIfInBounds, List.size_toArray, List.length_cons, List.length_nil]; omega)|omega|(simp; done)|(simp; omega)) ?_|refine Zdd H rfl rfl (by repeat constructor) (by first|(simp only [wr_size, Array.size_setIfInBounds, List.size_toArray, List.length_cons, List.length_nil]; omega)|omega|(simp; done)|(simp; omega)) ?_|refine Zdc H rfl rfl (by repeat constructor) (by first|(simp only [wr_size, Array.size_setIfInBounds, List.size_toArray, List.length_cons, List.length_nil]; omega)|omega|(simp; done)|(simp; omega)) ?_|refine Zda H rfl rfl rfl (by repeat constructor) (by first|(simp only [wr_size, Array.size_setIfInBounds, List.size_toArray, List.length_cons, List.length_nil]; omega)|omega|(simp; done)|(simp; omega)) ?_); clear H; intro w H))|(refine Zd6 ?_; first|refine Zd9 ?_|refine Zeb ?_|refine Zeh ?_|refine Zef ?_|refine Zed ?_|refine Zec ?_|refine Zee ?_|refine Zeg ?_|(refine Zd7 ?_; first|refine Zao rfl ?_|refine Zap rfl ?_))|(first|refine Zei ?_|refine Zej ?_|refine Zek ?_|refine Zel ?_|refine Zen ?_|refine Zem ?_|refine Zeo rfl ?_|refine Zep ?_|refine Zeq ?_|refine Zes ?_|refine Zet ?_)|refine Zd8 ?_)
    refine Zdf H rfl (by repeat constructor) ?_ ?_; (next => simp [headOf_len])
    refine Zdh H rfl rfl ?_ ?_ (by repeat constructor) ?_ ?_; (next => simp [headOf_len]); (next => simp [oneC, u8b]); (next => rfl); clear H; intro w H
    repeat (first|(refine Zd1 ?_; first|refine Zcx ?_|(refine Zd3 ?_; first|refine Zc0 rfl ?_|refine Zc1 rfl ?_|refine Zc2 rfl ?_)|refine Zcz (by first|exact Zat rfl|exact Zav rfl|exact Zaw rfl|exact Zaz rfl|exact Za2 rfl|exact Za1 rfl|exact Zau rfl|exact Za0 rfl|exact Zba rfl|exact Zce rfl (by omega)|exact Zbn rfl rfl|exact Zbr rfl rfl|exact Zbs rfl rfl|exact Zbq rfl rfl|exact Zbp rfl rfl|exact Zbo rfl rfl|exact Zcr rfl|exact Zbg rfl rfl (by omega)|exact Zbh rfl rfl (by omega)|exact Zbi rfl rfl (by omega)|exact Zco rfl rfl|exact Zdz rfl rfl|exact Zd0 rfl rfl|exact Za8 rfl rfl|exact Za9 rfl rfl|exact Za6 rfl rfl|exact Za7 rfl rfl|exact Zb1 rfl|exact Zca rfl rfl|exact Zcb rfl rfl|exact Zcv rfl rfl|exact Zcw rfl rfl|exact Zax rfl|exact Za3 rfl|exact Zay rfl|exact Zcl rfl rfl|exact Zb0 rfl|exact Zct|exact Zf3|exact Zar rfl|exact Zas rfl) ?_|(refine Zd4 ?_; refine Zc5 H rfl (by repeat constructor) rfl ?_)|(refine Zd5 ?_; (first|refine Zdb H rfl rfl (by repeat constructor) (by first|(simp only [wr_size, Array.size_setIfInBounds, List.size_toArray, List.length_cons, List.length_nil]; omega)|omega|(simp; done)|(simp; omega)) ?_|refine Zde H rfl rfl (by repeat constructor) (by first|(simp only [wr_size, Array.size_setIfInBounds, List.size_toArray, List.length_cons, List.length_nil]; omega)|omega|(simp; done)|(simp; omega)) ?_|refine Zdd H rfl rfl (by repeat constructor) (by first|(simp only [wr_size, Array.size_setIfInBounds, List.size_toArray, List.length_cons, List.length_nil]; omega)|omega|(simp; done)|(simp; omega)) ?_|refine Zdc H rfl rfl (by repeat constructor) (by first|(simp only [wr_size, Array.size_setIfInBounds, List.size_toArray, List.length_cons, List.length_nil]; omega)|omega|(simp; done)|(simp; omega)) ?_|refine Zda H rfl rfl rfl (by repeat constructor) (by first|(simp only [wr_size, Array.size_setIfInBounds, List.size_toArray, List.length_cons, List.length_nil]; omega)|omega|(simp; done)|(simp; omega)) ?_); clear H; intro w H))|(refine Zd6 ?_; first|refine Zd9 ?_|refine Zeb ?_|refine Zeh ?_|refine Zef ?_|refine Zed ?_|refine Zec ?_|refine Zee ?_|refine Zeg ?_|(refine Zd7 ?_; first|refine Zao rfl ?_|refine Zap rfl ?_))|(first|refine Zei ?_|refine Zej ?_|refine Zek ?_|refine Zel ?_|refine Zen ?_|refine Zem ?_|refine Zeo rfl ?_|refine Zep ?_|refine Zeq ?_|refine Zes ?_|refine Zet ?_)|refine Zd8 ?_)
    refine Zfe H rfl (by repeat constructor) (by simp [headOf_len]) ⟨?_, fin (H.arr (by repeat (first|exact Arr.nil|exact Arr.stop|refine Arr.cons (by repeat constructor) ?_|refine Arr.skip ?_)))⟩
    subst hB
    simp [HostS.touchOf, tcells]
  · repeat (first|(refine Zd1 ?_; first|refine Zcx ?_|(refine Zd3 ?_; first|refine Zc0 rfl ?_|refine Zc1 rfl ?_|refine Zc2 rfl ?_)|refine Zcz (by first|exact Zat rfl|exact Zav rfl|exact Zaw rfl|exact Zaz rfl|exact Za2 rfl|exact Za1 rfl|exact Zau rfl|exact Za0 rfl|exact Zba rfl|exact Zce rfl (by omega)|exact Zbn rfl rfl|exact Zbr rfl rfl|exact Zbs rfl rfl|exact Zbq rfl rfl|exact Zbp rfl rfl|exact Zbo rfl rfl|exact Zcr rfl|exact Zbg rfl rfl (by omega)|exact Zbh rfl rfl (by omega)|exact Zbi rfl rfl (by omega)|exact Zco rfl rfl|exact Zdz rfl rfl|exact Zd0 rfl rfl|exact Za8 rfl rfl|exact Za9 rfl rfl|exact Za6 rfl rfl|exact Za7 rfl rfl|exact Zb1 rfl|exact Zca rfl rfl|exact Zcb rfl rfl|exact Zcv rfl rfl|exact Zcw rfl rfl|exact Zax rfl|exact Za3 rfl|exact Zay rfl|exact Zcl rfl rfl|exact Zb0 rfl|exact Zct|exact Zf3|exact Zar rfl|exact Zas rfl) ?_|(refine Zd4 ?_; refine Zc5 H rfl (by repeat constructor) rfl ?_)|(refine Zd5 ?_; (first|refine Zdb H rfl rfl (by repeat constructor) (by first|(simp only [wr_size, Array.size_setIfInBounds, List.size_toArray, List.length_cons, List.length_nil]; omega)|omega|(simp; done)|(simp; omega)) ?_|refine Zde H rfl rfl (by repeat constructor) (by first|(simp only [wr_size, Array.size_setIfInBounds, List.size_toArray, List.length_cons, List.length_nil]; omega)|omega|(simp; done)|(simp; omega)) ?_|refine Zdd H rfl rfl (by repeat constructor) (by first|(simp only [wr_size, Array.size_setIfInBounds, List.size_toArray, List.length_cons, List.length_nil]; omega)|omega|(simp; done)|(simp; omega)) ?_|refine Zdc H rfl rfl (by repeat constructor) (by first|(simp only [wr_size, Array.size_setIfInBounds, List.size_toArray, List.length_cons, List.length_nil]; omega)|omega|(simp; done)|(simp; omega)) ?_|refine Zda H rfl rfl rfl (by repeat constructor) (by first|(simp only [wr_size, Array.size_setIfInBounds, List.size_toArray, List.length_cons, List.length_nil]; omega)|omega|(simp; done)|(simp; omega)) ?_); clear H; intro w H))|(refine Zd6 ?_; first|refine Zd9 ?_|refine Zeb ?_|refine Zeh ?_|refine Zef ?_|refine Zed ?_|refine Zec ?_|refine Zee ?_|refine Zeg ?_|(refine Zd7 ?_; first|refine Zao rfl ?_|refine Zap rfl ?_))|(first|refine Zei ?_|refine Zej ?_|refine Zek ?_|refine Zel ?_|refine Zen ?_|refine Zem ?_|refine Zeo rfl ?_|refine Zep ?_|refine Zeq ?_|refine Zes ?_|refine Zet ?_)|refine Zd8 ?_)
    refine Zaq rfl (fun hB => ?_) (fun hB => ?_)
    · repeat (first|(refine Zd1 ?_; first|refine Zcx ?_|(refine Zd3 ?_; first|refine Zc0 rfl ?_|refine Zc1 rfl ?_|refine Zc2 rfl ?_)|refine Zcz (by first|exact Zat rfl|exact Zav rfl|exact Zaw rfl|exact Zaz rfl|exact Za2 rfl|exact Za1 rfl|exact Zau rfl|exact Za0 rfl|exact Zba rfl|exact Zce rfl (by omega)|exact Zbn rfl rfl|exact Zbr rfl rfl|exact Zbs rfl rfl|exact Zbq rfl rfl|exact Zbp rfl rfl|exact Zbo rfl rfl|exact Zcr rfl|exact Zbg rfl rfl (by omega)|exact Zbh rfl rfl (by omega)|exact Zbi rfl rfl (by omega)|exact Zco rfl rfl|exact Zdz rfl rfl|exact Zd0 rfl rfl|exact Za8 rfl rfl|exact Za9 rfl rfl|exact Za6 rfl rfl|exact Za7 rfl rfl|exact Zb1 rfl|exact Zca rfl rfl|exact Zcb rfl rfl|exact Zcv rfl rfl|exact Zcw rfl rfl|exact Zax rfl|exact Za3 rfl|exact Zay rfl|exact Zcl rfl rfl|exact Zb0 rfl|exact Zct|exact Zf3|exact Zar rfl|exact Zas rfl) ?_|(refine Zd4 ?_; refine Zc5 H rfl (by repeat constructor) rfl ?_)|(refine Zd5 ?_; (first|refine Zdb H rfl rfl (by repeat constructor) (by first|(simp only [wr_size, Array.size_setIfInBounds, List.size_toArray, List.length_cons, List.length_nil]; omega)|omega|(simp; done)|(simp; omega)) ?_|refine Zde H rfl rfl (by repeat constructor) (by first|(simp only [wr_size, Array.size_setIfInBounds, List.size_toArray, List.length_cons, List.length_nil]; omega)|omega|(simp; done)|(simp; omega)) ?_|refine Zdd H rfl rfl (by repeat constructor) (by first|(simp only [wr_size, Array.size_setIfInBounds, List.size_toArray, List.length_cons, List.length_nil]; omega)|omega|(simp; done)|(simp; omega)) ?_|refine Zdc H rfl rfl (by repeat constructor) (by first|(simp only [wr_size, Array.size_setIfInBounds, List.size_toArray, List.length_cons, List.length_nil]; omega)|omega|(simp; done)|(simp; omega)) ?_|refine Zda H rfl rfl rfl (by repeat constructor) (by first|(simp only [wr_size, Array.size_setIfInBounds, List.size_toArray, List.length_cons, List.length_nil]; omega)|omega|(simp; done)|(simp; omega)) ?_); clear H; intro w H))|(refine Zd6 ?_; first|refine Zd9 ?_|refine Zeb ?_|refine Zeh ?_|refine Zef ?_|refine Zed ?_|refine Zec ?_|refine Zee ?_|refine Zeg ?_|(refine Zd7 ?_; first|refine Zao rfl ?_|refine Zap rfl ?_))|(first|refine Zei ?_|refine Zej ?_|refine Zek ?_|refine Zel ?_|refine Zen ?_|refine Zem ?_|refine Zeo rfl ?_|refine Zep ?_|refine Zeq ?_|refine Zes ?_|refine Zet ?_)|refine Zd8 ?_)
      refine Zdf H rfl (by repeat constructor) ?_ ?_; (next => first|rfl|simp)
      refine Zdh H rfl rfl ?_ ?_ (by repeat constructor) ?_ ?_; (next => first|rfl|simp); (next => first|rfl|simp [oneC, u8v]); (next => first|rfl|simp); clear H; intro w H
      repeat (first|(refine Zd1 ?_; first|refine Zcx ?_|(refine Zd3 ?_; first|refine Zc0 rfl ?_|refine Zc1 rfl ?_|refine Zc2 rfl ?_)|refine Zcz (by first|exact Zat rfl|exact Zav rfl|exact Zaw rfl|exact Zaz rfl|exact Za2 rfl|exact Za1 rfl|exact Zau rfl|exact Za0 rfl|exact Zba rfl|exact Zce rfl (by omega)|exact Zbn rfl rfl|exact Zbr rfl rfl|exact Zbs rfl rfl|exact Zbq rfl rfl|exact Zbp rfl rfl|exact Zbo rfl rfl|exact Zcr rfl|exact Zbg rfl rfl (by omega)|exact Zbh rfl rfl (by omega)|exact Zbi rfl rfl (by omega)|exact Zco rfl rfl|exact Zdz rfl rfl|exact Zd0 rfl rfl|exact Za8 rfl rfl|exact Za9 rfl rfl|exact Za6 rfl rfl|exact Za7 rfl rfl|exact Zb1 rfl|exact Zca rfl rfl|exact Zcb rfl rfl|exact Zcv rfl rfl|exact Zcw rfl rfl|exact Zax rfl|exact Za3 rfl|exact Zay rfl|exact Zcl rfl rfl|exact Zb0 rfl|exact Zct|exact Zf3|exact Zar rfl|exact Zas rfl) ?_|(refine Zd4 ?_; refine Zc5 H rfl (by repeat constructor) rfl ?_)|(refine Zd5 ?_; (first|refine Zdb H rfl rfl (by repeat constructor) (by first|(simp only [wr_size, Array.size_setIfInBounds, List.size_toArray, List.length_cons, List.length_nil]; omega)|omega|(simp; done)|(simp; omega)) ?_|refine Zde H rfl rfl (by repeat constructor) (by first|(simp only [wr_size, Array.size_setIfInBounds, List.size_toArray, List.length_cons, List.length_nil]; omega)|omega|(simp; done)|(simp; omega)) ?_|refine Zdd H rfl rfl (by repeat constructor) (by first|(simp only [wr_size, Array.size_setIfInBounds, List.size_toArray, List.length_cons, List.length_nil]; omega)|omega|(simp; done)|(simp; omega)) ?_|refine Zdc H rfl rfl (by repeat constructor) (by first|(simp only [wr_size, Array.size_setIfInBounds, List.size_toArray, List.length_cons, List.length_nil]; omega)|omega|(simp; done)|(simp; omega)) ?_|refine Zda H rfl rfl rfl (by repeat constructor) (by first|(simp only [wr_size, Array.size_setIfInBounds, List.size_toArray, List.length_cons, List.length_nil]; omega)|omega|(simp; done)|(simp; omega)) ?_); clear H; intro w H))|(refine Zd6 ?_; first|refine Zd9 ?_|refine Zeb ?_|refine Zeh ?_|refine Zef ?_|refine Zed ?_|refine Zec ?_|refine Zee ?_|refine Zeg ?_|(refine Zd7 ?_; first|refine Zao rfl ?_|refine Zap rfl ?_))|(first|refine Zei ?_|refine Zej ?_|refine Zek ?_|refine Zel ?_|refine Zen ?_|refine Zem ?_|refine Zeo rfl ?_|refine Zep ?_|refine Zeq ?_|refine Zes ?_|refine Zet ?_)|refine Zd8 ?_)
      refine Zfe H rfl (by repeat constructor) ?_ ⟨?_, fin (H.arr (by repeat (first|exact Arr.nil|exact Arr.stop|refine Arr.cons (by repeat constructor) ?_|refine Arr.skip ?_)))⟩; (next => rfl)
      subst hB
      rw [show HostS.touchOf s 0 page b = ⟨0, page, s.size, List.replicate 12 0#8⟩ from rfl]; rfl
    · repeat (first|(refine Zd1 ?_; first|refine Zcx ?_|(refine Zd3 ?_; first|refine Zc0 rfl ?_|refine Zc1 rfl ?_|refine Zc2 rfl ?_)|refine Zcz (by first|exact Zat rfl|exact Zav rfl|exact Zaw rfl|exact Zaz rfl|exact Za2 rfl|exact Za1 rfl|exact Zau rfl|exact Za0 rfl|exact Zba rfl|exact Zce rfl (by omega)|exact Zbn rfl rfl|exact Zbr rfl rfl|exact Zbs rfl rfl|exact Zbq rfl rfl|exact Zbp rfl rfl|exact Zbo rfl rfl|exact Zcr rfl|exact Zbg rfl rfl (by omega)|exact Zbh rfl rfl (by omega)|exact Zbi rfl rfl (by omega)|exact Zco rfl rfl|exact Zdz rfl rfl|exact Zd0 rfl rfl|exact Za8 rfl rfl|exact Za9 rfl rfl|exact Za6 rfl rfl|exact Za7 rfl rfl|exact Zb1 rfl|exact Zca rfl rfl|exact Zcb rfl rfl|exact Zcv rfl rfl|exact Zcw rfl rfl|exact Zax rfl|exact Za3 rfl|exact Zay rfl|exact Zcl rfl rfl|exact Zb0 rfl|exact Zct|exact Zf3|exact Zar rfl|exact Zas rfl) ?_|(refine Zd4 ?_; refine Zc5 H rfl (by repeat constructor) rfl ?_)|(refine Zd5 ?_; (first|refine Zdb H rfl rfl (by repeat constructor) (by first|(simp only [wr_size, Array.size_setIfInBounds, List.size_toArray, List.length_cons, List.length_nil]; omega)|omega|(simp; done)|(simp; omega)) ?_|refine Zde H rfl rfl (by repeat constructor) (by first|(simp only [wr_size, Array.size_setIfInBounds, List.size_toArray, List.length_cons, List.length_nil]; omega)|omega|(simp; done)|(simp; omega)) ?_|refine Zdd H rfl rfl (by repeat constructor) (by first|(simp only [wr_size, Array.size_setIfInBounds, List.size_toArray, List.length_cons, List.length_nil]; omega)|omega|(simp; done)|(simp; omega)) ?_|refine Zdc H rfl rfl (by repeat constructor) (by first|(simp only [wr_size, Array.size_setIfInBounds, List.size_toArray, List.length_cons, List.length_nil]; omega)|omega|(simp; done)|(simp; omega)) ?_|refine Zda H rfl rfl rfl (by repeat constructor) (by first|(simp only [wr_size, Array.size_setIfInBounds, List.size_toArray, List.length_cons, List.length_nil]; omega)|omega|(simp; done)|(simp; omega)) ?_); clear H; intro w H))|(refine Zd6 ?_; first|refine Zd9 ?_|refine Zeb ?_|refine Zeh ?_|refine Zef ?_|refine Zed ?_|refine Zec ?_|refine Zee ?_|refine Zeg ?_|(refine Zd7 ?_; first|refine Zao rfl ?_|refine Zap rfl ?_))|(first|refine Zei ?_|refine Zej ?_|refine Zek ?_|refine Zel ?_|refine Zen ?_|refine Zem ?_|refine Zeo rfl ?_|refine Zep ?_|refine Zeq ?_|refine Zes ?_|refine Zet ?_)|refine Zd8 ?_)
      refine Zdf H rfl (by repeat constructor) ?_ ?_; (next => first|rfl|simp)
      refine Zdh H rfl rfl ?_ ?_ (by repeat constructor) ?_ ?_; (next => first|rfl|simp); (next => first|rfl|simp [oneC, u8v]); (next => first|rfl|simp); clear H; intro w H
      repeat (first|(refine Zd1 ?_; first|refine Zcx ?_|(refine Zd3 ?_; first|refine Zc0 rfl ?_|refine Zc1 rfl ?_|refine Zc2 rfl ?_)|refine Zcz (by first|exact Zat rfl|exact Zav rfl|exact Zaw rfl|exact Zaz rfl|exact Za2 rfl|exact Za1 rfl|exact Zau rfl|exact Za0 rfl|exact Zba rfl|exact Zce rfl (by omega)|exact Zbn rfl rfl|exact Zbr rfl rfl|exact Zbs rfl rfl|exact Zbq rfl rfl|exact Zbp rfl rfl|exact Zbo rfl rfl|exact Zcr rfl|exact Zbg rfl rfl (by omega)|exact Zbh rfl rfl (by omega)|exact Zbi rfl rfl (by omega)|exact Zco rfl rfl|exact Zdz rfl rfl|exact Zd0 rfl rfl|exact Za8 rfl rfl|exact Za9 rfl rfl|exact Za6 rfl rfl|exact Za7 rfl rfl|exact Zb1 rfl|exact Zca rfl rfl|exact Zcb rfl rfl|exact Zcv rfl rfl|exact Zcw rfl rfl|exact Zax rfl|exact Za3 rfl|exact Zay rfl|exact Zcl rfl rfl|exact Zb0 rfl|exact Zct|exact Zf3|exact Zar rfl|exact Zas rfl) ?_|(refine Zd4 ?_; refine Zc5 H rfl (by repeat constructor) rfl ?_)|(refine Zd5 ?_; (first|refine Zdb H rfl rfl (by repeat constructor) (by first|(simp only [wr_size, Array.size_setIfInBounds, List.size_toArray, List.length_cons, List.length_nil]; omega)|omega|(simp; done)|(simp; omega)) ?_|refine Zde H rfl rfl (by repeat constructor) (by first|(simp only [wr_size, Array.size_setIfInBounds, List.size_toArray, List.length_cons, List.length_nil]; omega)|omega|(simp; done)|(simp; omega)) ?_|refine Zdd H rfl rfl (by repeat constructor) (by first|(simp only [wr_size, Array.size_setIfInBounds, List.size_toArray, List.length_cons, List.length_nil]; omega)|omega|(simp; done)|(simp; omega)) ?_|refine Zdc H rfl rfl (by repeat constructor) (by first|(simp only [wr_size, Array.size_setIfInBounds, List.size_toArray, List.length_cons, List.length_nil]; omega)|omega|(simp; done)|(simp; omega)) ?_|refine Zda H rfl rfl rfl (by repeat constructor) (by first|(simp only [wr_size, Array.size_setIfInBounds, List.size_toArray, List.length_cons, List.length_nil]; omega)|omega|(simp; done)|(simp; omega)) ?_); clear H; intro w H))|(refine Zd6 ?_; first|refine Zd9 ?_|refine Zeb ?_|refine Zeh ?_|refine Zef ?_|refine Zed ?_|refine Zec ?_|refine Zee ?_|refine Zeg ?_|(refine Zd7 ?_; first|refine Zao rfl ?_|refine Zap rfl ?_))|(first|refine Zei ?_|refine Zej ?_|refine Zek ?_|refine Zel ?_|refine Zen ?_|refine Zem ?_|refine Zeo rfl ?_|refine Zep ?_|refine Zeq ?_|refine Zes ?_|refine Zet ?_)|refine Zd8 ?_)
      refine Zfe H rfl (by repeat constructor) ?_ ⟨?_, fin (H.arr (by repeat (first|exact Arr.nil|exact Arr.stop|refine Arr.cons (by repeat constructor) ?_|refine Arr.skip ?_)))⟩; (next => rfl)
      simp only [HostS.touchOf, if_neg hB, tcells, ← zero12]
      rw [if_neg (by assumption)]
      rfl
end Go.Sl

/- host: what a read answers. -/
set_option maxHeartbeats 2000000
set_option linter.unusedVariables false
set_option linter.unusedSimpArgs false
namespace Go.Sl
open Go Go.Proofs
attribute [local irreducible] cl pt own old den denOps denS thenK blockK cutK loopK retK Calls PV
attribute [local irreducible] hostA omap ohole oheld rowsB
theorem fcells_len (f : HostS.Fault) : (fcells f).length = 6 := rfl
theorem back_len {s : HostS.HS} (hs : HostS.Ok s) (page writes : Int) : (HostS.back s page writes).length = s.size := by
  simp only [HostS.back]
  split
  · rename_i h
    have h2 : (((s.lay page).length : Int) - 1 - max writes 0).toNat < (s.lay page).length := by omega
    have : (s.lay page).getD (((s.lay page).length : Int) - 1 - max writes 0).toNat [] = (s.lay page)[(((s.lay page).length : Int) - 1 - max writes 0).toNat]'h2 := by simp [h2]
    rw [this]; exact hs.row page _ (List.getElem_mem _)
  · simp
theorem spoil1_len {s : HostS.HS} (hs : HostS.Ok s) (page : Int) (b : HostS.Bytes) (f : HostS.Fault) (hb : b.length = s.size) : (HostS.spoil1 s page b f).length = s.size := by
  unfold HostS.spoil1
  split
  · split <;> simp [hb]
  · split
    · exact back_len hs _ _
    · split
      · split
        · exact back_len hs _ _
        · exact hb
      · exact hb
theorem spoil_len {s : HostS.HS} (hs : HostS.Ok s) (page : Int) (l : List HostS.Fault) : ∀ (b : HostS.Bytes), b.length = s.size → (l.foldl (HostS.spoil1 s page) b).length = s.size := by
  induction l with
  | nil => exact fun b h => h
  | cons f r ih => exact fun b h => ih _ (spoil1_len hs page b f h)
theorem take_fold {s : HostS.HS} (page : Int) (b : HostS.Bytes) (l : List HostS.Fault) (i : Nat) (hi : i < l.length) : (l.take (i + 1)).foldl (HostS.spoil1 s page) b = HostS.spoil1 s page ((l.take i).foldl (HostS.spoil1 s page) b) l[i] := by
  rw [List.take_succ_eq_append_getElem hi, List.foldl_append]; rfl

theorem spoilt_c {p : Nat} {s : HostS.HS} {w0 w : World} {L : List Asrt} (page : Int) {fv : Value} {fl : List HostS.Fault} (H : St w0 w (hostA p s :: L)) (hops : s.ops ≤ 3518437208880) (hf : ∀ w', St w0 w' L → SlW w' 6 fv fl.length (fl.flatMap fcells)) (hfo : ∀ f ∈ fl, HostS.FOk f) (hfl : fl.length ≤ 2932031007401) :
    Calls Tryz.prog 216 #[.pointer (some ⟨p, 0, none⟩), .int .i64 page, fv] w (Ret fun v w' => ∃ a k, v = .slice a s.size k ∧ St w0 w' (bytesA v (HostS.spoilt s page fl) :: hostA p s :: L)) := by
  obtain ⟨bl, bc, logv, hs, _⟩ := H.host_get
  obtain ⟨fa, fk, rfl⟩ := (hf _ H.drop).len
  refine calls_den [_, _, _] Tryz.func216 rfl rfl rfl Tryz.mixed (by kernel_rfl) ?_
  repeat (first|(refine Zd1 ?_; first|refine Zcx ?_|(refine Zd3 ?_; first|refine Zc0 rfl ?_|refine Zc1 rfl ?_|refine Zc2 rfl ?_)|refine Zcz (by first|exact Zat rfl|exact Zav rfl|exact Zaw rfl|exact Zaz rfl|exact Za2 rfl|exact Za1 rfl|exact Zau rfl|exact Za0 rfl|exact Zba rfl|exact Zce rfl (by omega)|exact Zbn rfl rfl|exact Zbr rfl rfl|exact Zbs rfl rfl|exact Zbq rfl rfl|exact Zbp rfl rfl|exact Zbo rfl rfl|exact Zcr rfl|exact Zbg rfl rfl (by omega)|exact Zbh rfl rfl (by omega)|exact Zbi rfl rfl (by omega)|exact Zco rfl rfl|exact Zdz rfl rfl|exact Zd0 rfl rfl|exact Za8 rfl rfl|exact Za9 rfl rfl|exact Za6 rfl rfl|exact Za7 rfl rfl|exact Zb1 rfl|exact Zca rfl rfl|exact Zcb rfl rfl|exact Zcv rfl rfl|exact Zcw rfl rfl|exact Zax rfl|exact Za3 rfl|exact Zay rfl|exact Zcl rfl rfl|exact Zb0 rfl|exact Zct|exact Zf3|exact Zar rfl|exact Zas rfl) ?_|(refine Zd4 ?_; refine Zc5 H rfl (by repeat constructor) rfl ?_)|(refine Zd5 ?_; (first|refine Zdb H rfl rfl (by repeat constructor) (by first|(simp only [wr_size, Array.size_setIfInBounds, List.size_toArray, List.length_cons, List.length_nil]; omega)|omega|(simp; done)|(simp; omega)) ?_|refine Zde H rfl rfl (by repeat constructor) (by first|(simp only [wr_size, Array.size_setIfInBounds, List.size_toArray, List.length_cons, List.length_nil]; omega)|omega|(simp; done)|(simp; omega)) ?_|refine Zdd H rfl rfl (by repeat constructor) (by first|(simp only [wr_size, Array.size_setIfInBounds, List.size_toArray, List.length_cons, List.length_nil]; omega)|omega|(simp; done)|(simp; omega)) ?_|refine Zdc H rfl rfl (by repeat constructor) (by first|(simp only [wr_size, Array.size_setIfInBounds, List.size_toArray, List.length_cons, List.length_nil]; omega)|omega|(simp; done)|(simp; omega)) ?_|refine Zda H rfl rfl rfl (by repeat constructor) (by first|(simp only [wr_size, Array.size_setIfInBounds, List.size_toArray, List.length_cons, List.length_nil]; omega)|omega|(simp; done)|(simp; omega)) ?_); clear H; intro w H))|(refine Zd6 ?_; first|refine Zd9 ?_|refine Zeb ?_|refine Zeh ?_|refine Zef ?_|refine Zed ?_|refine Zec ?_|refine Zee ?_|refine Zeg ?_|(refine Zd7 ?_; first|refine Zao rfl ?_|refine Zap rfl ?_))|(first|refine Zei ?_|refine Zej ?_|refine Zek ?_|refine Zel ?_|refine Zen ?_|refine Zem ?_|refine Zeo rfl ?_|refine Zep ?_|refine Zeq ?_|refine Zes ?_|refine Zet ?_)|refine Zd8 ?_)
  refine Zdp rfl (by kernel_rfl) (back_c page 0 (by omega) hops H) rfl ?_
  rintro v w ⟨a, k, rfl, H⟩
  repeat (first|(refine Zd1 ?_; first|refine Zcx ?_|(refine Zd3 ?_; first|refine Zc0 rfl ?_|refine Zc1 rfl ?_|refine Zc2 rfl ?_)|refine Zcz (by first|exact Zat rfl|exact Zav rfl|exact Zaw rfl|exact Zaz rfl|exact Za2 rfl|exact Za1 rfl|exact Zau rfl|exact Za0 rfl|exact Zba rfl|exact Zce rfl (by omega)|exact Zbn rfl rfl|exact Zbr rfl rfl|exact Zbs rfl rfl|exact Zbq rfl rfl|exact Zbp rfl rfl|exact Zbo rfl rfl|exact Zcr rfl|exact Zbg rfl rfl (by omega)|exact Zbh rfl rfl (by omega)|exact Zbi rfl rfl (by omega)|exact Zco rfl rfl|exact Zdz rfl rfl|exact Zd0 rfl rfl|exact Za8 rfl rfl|exact Za9 rfl rfl|exact Za6 rfl rfl|exact Za7 rfl rfl|exact Zb1 rfl|exact Zca rfl rfl|exact Zcb rfl rfl|exact Zcv rfl rfl|exact Zcw rfl rfl|exact Zax rfl|exact Za3 rfl|exact Zay rfl|exact Zcl rfl rfl|exact Zb0 rfl|exact Zct|exact Zf3|exact Zar rfl|exact Zas rfl) ?_|(refine Zd4 ?_; refine Zc5 H rfl (by repeat constructor) rfl ?_)|(refine Zd5 ?_; (first|refine Zdb H rfl rfl (by repeat constructor) (by first|(simp only [wr_size, Array.size_setIfInBounds, List.size_toArray, List.length_cons, List.length_nil]; omega)|omega|(simp; done)|(simp; omega)) ?_|refine Zde H rfl rfl (by repeat constructor) (by first|(simp only [wr_size, Array.size_setIfInBounds, List.size_toArray, List.length_cons, List.length_nil]; omega)|omega|(simp; done)|(simp; omega)) ?_|refine Zdd H rfl rfl (by repeat constructor) (by first|(simp only [wr_size, Array.size_setIfInBounds, List.size_toArray, List.length_cons, List.length_nil]; omega)|omega|(simp; done)|(simp; omega)) ?_|refine Zdc H rfl rfl (by repeat constructor) (by first|(simp only [wr_size, Array.size_setIfInBounds, List.size_toArray, List.length_cons, List.length_nil]; omega)|omega|(simp; done)|(simp; omega)) ?_|refine Zda H rfl rfl rfl (by repeat constructor) (by first|(simp only [wr_size, Array.size_setIfInBounds, List.size_toArray, List.length_cons, List.length_nil]; omega)|omega|(simp; done)|(simp; omega)) ?_); clear H; intro w H))|(refine Zd6 ?_; first|refine Zd9 ?_|refine Zeb ?_|refine Zeh ?_|refine Zef ?_|refine Zed ?_|refine Zec ?_|refine Zee ?_|refine Zeg ?_|(refine Zd7 ?_; first|refine Zao rfl ?_|refine Zap rfl ?_))|(first|refine Zei ?_|refine Zej ?_|refine Zek ?_|refine Zel ?_|refine Zen ?_|refine Zem ?_|refine Zeo rfl ?_|refine Zep ?_|refine Zeq ?_|refine Zes ?_|refine Zet ?_))
  refine Zd8 ?_
  repeat (first|(refine Zd1 ?_; first|refine Zcx ?_|(refine Zd3 ?_; first|refine Zc0 rfl ?_|refine Zc1 rfl ?_|refine Zc2 rfl ?_)|refine Zcz (by first|exact Zat rfl|exact Zav rfl|exact Zaw rfl|exact Zaz rfl|exact Za2 rfl|exact Za1 rfl|exact Zau rfl|exact Za0 rfl|exact Zba rfl|exact Zce rfl (by omega)|exact Zbn rfl rfl|exact Zbr rfl rfl|exact Zbs rfl rfl|exact Zbq rfl rfl|exact Zbp rfl rfl|exact Zbo rfl rfl|exact Zcr rfl|exact Zbg rfl rfl (by omega)|exact Zbh rfl rfl (by omega)|exact Zbi rfl rfl (by omega)|exact Zco rfl rfl|exact Zdz rfl rfl|exact Zd0 rfl rfl|exact Za8 rfl rfl|exact Za9 rfl rfl|exact Za6 rfl rfl|exact Za7 rfl rfl|exact Zb1 rfl|exact Zca rfl rfl|exact Zcb rfl rfl|exact Zcv rfl rfl|exact Zcw rfl rfl|exact Zax rfl|exact Za3 rfl|exact Zay rfl|exact Zcl rfl rfl|exact Zb0 rfl|exact Zct|exact Zf3|exact Zar rfl|exact Zas rfl) ?_|(refine Zd4 ?_; refine Zc5 H rfl (by repeat constructor) rfl ?_)|(refine Zd5 ?_; (first|refine Zdb H rfl rfl (by repeat constructor) (by first|(simp only [wr_size, Array.size_setIfInBounds, List.size_toArray, List.length_cons, List.length_nil]; omega)|omega|(simp; done)|(simp; omega)) ?_|refine Zde H rfl rfl (by repeat constructor) (by first|(simp only [wr_size, Array.size_setIfInBounds, List.size_toArray, List.length_cons, List.length_nil]; omega)|omega|(simp; done)|(simp; omega)) ?_|refine Zdd H rfl rfl (by repeat constructor) (by first|(simp only [wr_size, Array.size_setIfInBounds, List.size_toArray, List.length_cons, List.length_nil]; omega)|omega|(simp; done)|(simp; omega)) ?_|refine Zdc H rfl rfl (by repeat constructor) (by first|(simp only [wr_size, Array.size_setIfInBounds, List.size_toArray, List.length_cons, List.length_nil]; omega)|omega|(simp; done)|(simp; omega)) ?_|refine Zda H rfl rfl rfl (by repeat constructor) (by first|(simp only [wr_size, Array.size_setIfInBounds, List.size_toArray, List.length_cons, List.length_nil]; omega)|omega|(simp; done)|(simp; omega)) ?_); clear H; intro w H))|(refine Zd6 ?_; first|refine Zd9 ?_|refine Zeb ?_|refine Zeh ?_|refine Zef ?_|refine Zed ?_|refine Zec ?_|refine Zee ?_|refine Zeg ?_|(refine Zd7 ?_; first|refine Zao rfl ?_|refine Zap rfl ?_))|(first|refine Zei ?_|refine Zej ?_|refine Zek ?_|refine Zel ?_|refine Zen ?_|refine Zem ?_|refine Zeo rfl ?_|refine Zep ?_|refine Zeq ?_|refine Zes ?_|refine Zet ?_)|refine Zd8 ?_)
  refine Zew [(7, 7), (9, 9), (15, 59)] (by kernel_rfl)
    (fun st w' => st.1 ≤ fl.length ∧ St w0 w' (bytesA (.slice st.2.1 s.size st.2.2) ((fl.take st.1).foldl (HostS.spoil1 s page) (HostS.back s page 0)) :: hostA p s :: L))
    (fun st : Nat × Option Addr × Nat => [(15, .int .i64 st.1), (7, .slice st.2.1 s.size st.2.2)])
    (fun st => fl.length - st.1) (0, a, k) ⟨Nat.zero_le _, H⟩ ⟨rfl, rfl, trivial⟩ ?_
  rintro ⟨i, a, k⟩ w u ⟨hi, H⟩
  simp only [] at hi H
  repeat (first|(refine Zd1 ?_; first|refine Zcx ?_|(refine Zd3 ?_; first|refine Zc0 rfl ?_|refine Zc1 rfl ?_|refine Zc2 rfl ?_)|refine Zcz (by first|exact Zat rfl|exact Zav rfl|exact Zaw rfl|exact Zaz rfl|exact Za2 rfl|exact Za1 rfl|exact Zau rfl|exact Za0 rfl|exact Zba rfl|exact Zce rfl (by omega)|exact Zbn rfl rfl|exact Zbr rfl rfl|exact Zbs rfl rfl|exact Zbq rfl rfl|exact Zbp rfl rfl|exact Zbo rfl rfl|exact Zcr rfl|exact Zbg rfl rfl (by omega)|exact Zbh rfl rfl (by omega)|exact Zbi rfl rfl (by omega)|exact Zco rfl rfl|exact Zdz rfl rfl|exact Zd0 rfl rfl|exact Za8 rfl rfl|exact Za9 rfl rfl|exact Za6 rfl rfl|exact Za7 rfl rfl|exact Zb1 rfl|exact Zca rfl rfl|exact Zcb rfl rfl|exact Zcv rfl rfl|exact Zcw rfl rfl|exact Zax rfl|exact Za3 rfl|exact Zay rfl|exact Zcl rfl rfl|exact Zb0 rfl|exact Zct|exact Zf3|exact Zar rfl|exact Zas rfl) ?_|(refine Zd4 ?_; refine Zc5 H rfl (by repeat constructor) rfl ?_)|(refine Zd5 ?_; (first|refine Zdb H rfl rfl (by repeat constructor) (by first|(simp only [wr_size, Array.size_setIfInBounds, List.size_toArray, List.length_cons, List.length_nil]; omega)|omega|(simp; done)|(simp; omega)) ?_|refine Zde H rfl rfl (by repeat constructor) (by first|(simp only [wr_size, Array.size_setIfInBounds, List.size_toArray, List.length_cons, List.length_nil]; omega)|omega|(simp; done)|(simp; omega)) ?_|refine Zdd H rfl rfl (by repeat constructor) (by first|(simp only [wr_size, Array.size_setIfInBounds, List.size_toArray, List.length_cons, List.length_nil]; omega)|omega|(simp; done)|(simp; omega)) ?_|refine Zdc H rfl rfl (by repeat constructor) (by first|(simp only [wr_size, Array.size_setIfInBounds, List.size_toArray, List.length_cons, List.length_nil]; omega)|omega|(simp; done)|(simp; omega)) ?_|refine Zda H rfl rfl rfl (by repeat constructor) (by first|(simp only [wr_size, Array.size_setIfInBounds, List.size_toArray, List.length_cons, List.length_nil]; omega)|omega|(simp; done)|(simp; omega)) ?_); clear H; intro w H))|(refine Zd6 ?_; first|refine Zd9 ?_|refine Zeb ?_|refine Zeh ?_|refine Zef ?_|refine Zed ?_|refine Zec ?_|refine Zee ?_|refine Zeg ?_|(refine Zd7 ?_; first|refine Zao rfl ?_|refine Zap rfl ?_))|(first|refine Zei ?_|refine Zej ?_|refine Zek ?_|refine Zel ?_|refine Zen ?_|refine Zem ?_|refine Zeo rfl ?_|refine Zep ?_|refine Zeq ?_|refine Zes ?_|refine Zet ?_)|refine Zd8 ?_)
  refine Zaq rfl (fun hB => ?_) (fun hB => ?_)
  · simp only [Int.ofNat_lt] at hB
    have hbl : ((fl.take i).foldl (HostS.spoil1 s page) (HostS.back s page 0)).length = s.size := spoil_len hs page _ _ (back_len hs page 0)
    have hnext := take_fold (s := s) page (HostS.back s page 0) fl i hB
    obtain ⟨xb, xo, xk, xc, xE, xfr, hxv, hxb, hxs, hxe⟩ := (hf _ H.drop.drop).elemN fcells_len (by omega) (by omega)
    simp only [Value.slice.injEq] at hxv
    obtain ⟨rfl, _, rfl⟩ := hxv
    obtain ⟨hx1, hx2⟩ := hxe i hB
    have hfi : HostS.FOk fl[i] := hfo _ (List.getElem_mem _)
    revert hnext hx2 hfi
    generalize fl[i] = f
    intro hnext hx2 hfi
    generalize hcur : (fl.take i).foldl (HostS.spoil1 s page) (HostS.back s page 0) = cur at H hbl hnext
    repeat (first|(refine Zd1 ?_; first|refine Zcx ?_|(refine Zd3 ?_; first|refine Zc0 rfl ?_|refine Zc1 rfl ?_|refine Zc2 rfl ?_)|refine Zcz (by first|exact Zat rfl|exact Zav rfl|exact Zaw rfl|exact Zaz rfl|exact Za2 rfl|exact Za1 rfl|exact Zau rfl|exact Za0 rfl|exact Zba rfl|exact Zce rfl (by omega)|exact Zbn rfl rfl|exact Zbr rfl rfl|exact Zbs rfl rfl|exact Zbq rfl rfl|exact Zbp rfl rfl|exact Zbo rfl rfl|exact Zcr rfl|exact Zbg rfl rfl (by omega)|exact Zbh rfl rfl (by omega)|exact Zbi rfl rfl (by omega)|exact Zco rfl rfl|exact Zdz rfl rfl|exact Zd0 rfl rfl|exact Za8 rfl rfl|exact Za9 rfl rfl|exact Za6 rfl rfl|exact Za7 rfl rfl|exact Zb1 rfl|exact Zca rfl rfl|exact Zcb rfl rfl|exact Zcv rfl rfl|exact Zcw rfl rfl|exact Zax rfl|exact Za3 rfl|exact Zay rfl|exact Zcl rfl rfl|exact Zb0 rfl|exact Zct|exact Zf3|exact Zar rfl|exact Zas rfl) ?_|(refine Zd4 ?_; refine Zc5 H rfl (by repeat constructor) rfl ?_)|(refine Zd5 ?_; (first|refine Zdb H rfl rfl (by repeat constructor) (by first|(simp only [wr_size, Array.size_setIfInBounds, List.size_toArray, List.length_cons, List.length_nil]; omega)|omega|(simp; done)|(simp; omega)) ?_|refine Zde H rfl rfl (by repeat constructor) (by first|(simp only [wr_size, Array.size_setIfInBounds, List.size_toArray, List.length_cons, List.length_nil]; omega)|omega|(simp; done)|(simp; omega)) ?_|refine Zdd H rfl rfl (by repeat constructor) (by first|(simp only [wr_size, Array.size_setIfInBounds, List.size_toArray, List.length_cons, List.length_nil]; omega)|omega|(simp; done)|(simp; omega)) ?_|refine Zdc H rfl rfl (by repeat constructor) (by first|(simp only [wr_size, Array.size_setIfInBounds, List.size_toArray, List.length_cons, List.length_nil]; omega)|omega|(simp; done)|(simp; omega)) ?_|refine Zda H rfl rfl rfl (by repeat constructor) (by first|(simp only [wr_size, Array.size_setIfInBounds, List.size_toArray, List.length_cons, List.length_nil]; omega)|omega|(simp; done)|(simp; omega)) ?_); clear H; intro w H))|(refine Zd6 ?_; first|refine Zd9 ?_|refine Zeb ?_|refine Zeh ?_|refine Zef ?_|refine Zed ?_|refine Zec ?_|refine Zee ?_|refine Zeg ?_|(refine Zd7 ?_; first|refine Zao rfl ?_|refine Zap rfl ?_))|(first|refine Zei ?_|refine Zej ?_|refine Zek ?_|refine Zel ?_|refine Zen ?_|refine Zem ?_|refine Zeo rfl ?_|refine Zep ?_|refine Zeq ?_|refine Zes ?_|refine Zet ?_)|refine Zd8 ?_)
    refine Zcz (Zcg rfl rfl hB) ?_
    refine Zft rfl hxb hx1 hx2 ?_
    refine Zdi H ?_; clear H; intro w fb H
    refine Zdh H rfl rfl ?_ ?_ (by repeat constructor) ?_ ?_; (next => first|rfl|simp); (next => first|rfl|simp [oneC, u8v]); (next => first|rfl|simp); clear H; intro w H
    have again : ∀ {w : World} {b' : HostS.Bytes} {a : Option Addr} {k : Nat}, HostS.spoil1 s page cur f = b' → St w0 w (bytesA (.slice a s.size k) b' :: hostA p s :: L) →
        St w0 w (bytesA (.slice a s.size k) ((fl.take (i + 1)).foldl (HostS.spoil1 s page) (HostS.back s page 0)) :: hostA p s :: L) := by
      intro w b' a k he H
      rw [hnext, he]; exact H
    repeat (first|(refine Zd1 ?_; first|refine Zcx ?_|(refine Zd3 ?_; first|refine Zc0 rfl ?_|refine Zc1 rfl ?_|refine Zc2 rfl ?_)|refine Zcz (by first|exact Zat rfl|exact Zav rfl|exact Zaw rfl|exact Zaz rfl|exact Za2 rfl|exact Za1 rfl|exact Zau rfl|exact Za0 rfl|exact Zba rfl|exact Zce rfl (by omega)|exact Zbn rfl rfl|exact Zbr rfl rfl|exact Zbs rfl rfl|exact Zbq rfl rfl|exact Zbp rfl rfl|exact Zbo rfl rfl|exact Zcr rfl|exact Zbg rfl rfl (by omega)|exact Zbh rfl rfl (by omega)|exact Zbi rfl rfl (by omega)|exact Zco rfl rfl|exact Zdz rfl rfl|exact Zd0 rfl rfl|exact Za8 rfl rfl|exact Za9 rfl rfl|exact Za6 rfl rfl|exact Za7 rfl rfl|exact Zb1 rfl|exact Zca rfl rfl|exact Zcb rfl rfl|exact Zcv rfl rfl|exact Zcw rfl rfl|exact Zax rfl|exact Za3 rfl|exact Zay rfl|exact Zcl rfl rfl|exact Zb0 rfl|exact Zct|exact Zf3|exact Zar rfl|exact Zas rfl) ?_|(refine Zd4 ?_; refine Zc5 H rfl (by repeat constructor) rfl ?_)|(refine Zd5 ?_; (first|refine Zdb H rfl rfl (by repeat constructor) (by first|(simp only [wr_size, Array.size_setIfInBounds, List.size_toArray, List.length_cons, List.length_nil]; omega)|omega|(simp; done)|(simp; omega)) ?_|refine Zde H rfl rfl (by repeat constructor) (by first|(simp only [wr_size, Array.size_setIfInBounds, List.size_toArray, List.length_cons, List.length_nil]; omega)|omega|(simp; done)|(simp; omega)) ?_|refine Zdd H rfl rfl (by repeat constructor) (by first|(simp only [wr_size, Array.size_setIfInBounds, List.size_toArray, List.length_cons, List.length_nil]; omega)|omega|(simp; done)|(simp; omega)) ?_|refine Zdc H rfl rfl (by repeat constructor) (by first|(simp only [wr_size, Array.size_setIfInBounds, List.size_toArray, List.length_cons, List.length_nil]; omega)|omega|(simp; done)|(simp; omega)) ?_|refine Zda H rfl rfl rfl (by repeat constructor) (by first|(simp only [wr_size, Array.size_setIfInBounds, List.size_toArray, List.length_cons, List.length_nil]; omega)|omega|(simp; done)|(simp; omega)) ?_); clear H; intro w H))|(refine Zd6 ?_; first|refine Zd9 ?_|refine Zeb ?_|refine Zeh ?_|refine Zef ?_|refine Zed ?_|refine Zec ?_|refine Zee ?_|refine Zeg ?_|(refine Zd7 ?_; first|refine Zao rfl ?_|refine Zap rfl ?_))|(first|refine Zei ?_|refine Zej ?_|refine Zek ?_|refine Zel ?_|refine Zen ?_|refine Zem ?_|refine Zeo rfl ?_|refine Zep ?_|refine Zeq ?_|refine Zes ?_|refine Zet ?_)|refine Zd8 ?_)
    refine Zaq rfl (fun hB => ?_) (fun hB => ?_)
    · have hk0 : f.kind = 0 := hB
      repeat (first|(refine Zd1 ?_; first|refine Zcx ?_|(refine Zd3 ?_; first|refine Zc0 rfl ?_|refine Zc1 rfl ?_|refine Zc2 rfl ?_)|refine Zcz (by first|exact Zat rfl|exact Zav rfl|exact Zaw rfl|exact Zaz rfl|exact Za2 rfl|exact Za1 rfl|exact Zau rfl|exact Za0 rfl|exact Zba rfl|exact Zce rfl (by omega)|exact Zbn rfl rfl|exact Zbr rfl rfl|exact Zbs rfl rfl|exact Zbq rfl rfl|exact Zbp rfl rfl|exact Zbo rfl rfl|exact Zcr rfl|exact Zbg rfl rfl (by omega)|exact Zbh rfl rfl (by omega)|exact Zbi rfl rfl (by omega)|exact Zco rfl rfl|exact Zdz rfl rfl|exact Zd0 rfl rfl|exact Za8 rfl rfl|exact Za9 rfl rfl|exact Za6 rfl rfl|exact Za7 rfl rfl|exact Zb1 rfl|exact Zca rfl rfl|exact Zcb rfl rfl|exact Zcv rfl rfl|exact Zcw rfl rfl|exact Zax rfl|exact Za3 rfl|exact Zay rfl|exact Zcl rfl rfl|exact Zb0 rfl|exact Zct|exact Zf3|exact Zar rfl|exact Zas rfl) ?_|(refine Zd4 ?_; refine Zc5 H rfl (by repeat constructor) rfl ?_)|(refine Zd5 ?_; (first|refine Zdb H rfl rfl (by repeat constructor) (by first|(simp only [wr_size, Array.size_setIfInBounds, List.size_toArray, List.length_cons, List.length_nil]; omega)|omega|(simp; done)|(simp; omega)) ?_|refine Zde H rfl rfl (by repeat constructor) (by first|(simp only [wr_size, Array.size_setIfInBounds, List.size_toArray, List.length_cons, List.length_nil]; omega)|omega|(simp; done)|(simp; omega)) ?_|refine Zdd H rfl rfl (by repeat constructor) (by first|(simp only [wr_size, Array.size_setIfInBounds, List.size_toArray, List.length_cons, List.length_nil]; omega)|omega|(simp; done)|(simp; omega)) ?_|refine Zdc H rfl rfl (by repeat constructor) (by first|(simp only [wr_size, Array.size_setIfInBounds, List.size_toArray, List.length_cons, List.length_nil]; omega)|omega|(simp; done)|(simp; omega)) ?_|refine Zda H rfl rfl rfl (by repeat constructor) (by first|(simp only [wr_size, Array.size_setIfInBounds, List.size_toArray, List.length_cons, List.length_nil]; omega)|omega|(simp; done)|(simp; omega)) ?_); clear H; intro w H))|(refine Zd6 ?_; first|refine Zd9 ?_|refine Zeb ?_|refine Zeh ?_|refine Zef ?_|refine Zed ?_|refine Zec ?_|refine Zee ?_|refine Zeg ?_|(refine Zd7 ?_; first|refine Zao rfl ?_|refine Zap rfl ?_))|(first|refine Zei ?_|refine Zej ?_|refine Zek ?_|refine Zel ?_|refine Zen ?_|refine Zem ?_|refine Zeo rfl ?_|refine Zep ?_|refine Zeq ?_|refine Zes ?_|refine Zet ?_)|refine Zd8 ?_)
      refine Zex rfl rfl (fun hG => ?_) (fun hG => ?_)
      · repeat (first|(refine Zd1 ?_; first|refine Zcx ?_|(refine Zd3 ?_; first|refine Zc0 rfl ?_|refine Zc1 rfl ?_|refine Zc2 rfl ?_)|refine Zcz (by first|exact Zat rfl|exact Zav rfl|exact Zaw rfl|exact Zaz rfl|exact Za2 rfl|exact Za1 rfl|exact Zau rfl|exact Za0 rfl|exact Zba rfl|exact Zce rfl (by omega)|exact Zbn rfl rfl|exact Zbr rfl rfl|exact Zbs rfl rfl|exact Zbq rfl rfl|exact Zbp rfl rfl|exact Zbo rfl rfl|exact Zcr rfl|exact Zbg rfl rfl (by omega)|exact Zbh rfl rfl (by omega)|exact Zbi rfl rfl (by omega)|exact Zco rfl rfl|exact Zdz rfl rfl|exact Zd0 rfl rfl|exact Za8 rfl rfl|exact Za9 rfl rfl|exact Za6 rfl rfl|exact Za7 rfl rfl|exact Zb1 rfl|exact Zca rfl rfl|exact Zcb rfl rfl|exact Zcv rfl rfl|exact Zcw rfl rfl|exact Zax rfl|exact Za3 rfl|exact Zay rfl|exact Zcl rfl rfl|exact Zb0 rfl|exact Zct|exact Zf3|exact Zar rfl|exact Zas rfl) ?_|(refine Zd4 ?_; refine Zc5 H rfl (by repeat constructor) rfl ?_)|(refine Zd5 ?_; (first|refine Zdb H rfl rfl (by repeat constructor) (by first|(simp only [wr_size, Array.size_setIfInBounds, List.size_toArray, List.length_cons, List.length_nil]; omega)|omega|(simp; done)|(simp; omega)) ?_|refine Zde H rfl rfl (by repeat constructor) (by first|(simp only [wr_size, Array.size_setIfInBounds, List.size_toArray, List.length_cons, List.length_nil]; omega)|omega|(simp; done)|(simp; omega)) ?_|refine Zdd H rfl rfl (by repeat constructor) (by first|(simp only [wr_size, Array.size_setIfInBounds, List.size_toArray, List.length_cons, List.length_nil]; omega)|omega|(simp; done)|(simp; omega)) ?_|refine Zdc H rfl rfl (by repeat constructor) (by first|(simp only [wr_size, Array.size_setIfInBounds, List.size_toArray, List.length_cons, List.length_nil]; omega)|omega|(simp; done)|(simp; omega)) ?_|refine Zda H rfl rfl rfl (by repeat constructor) (by first|(simp only [wr_size, Array.size_setIfInBounds, List.size_toArray, List.length_cons, List.length_nil]; omega)|omega|(simp; done)|(simp; omega)) ?_); clear H; intro w H))|(refine Zd6 ?_; first|refine Zd9 ?_|refine Zeb ?_|refine Zeh ?_|refine Zef ?_|refine Zed ?_|refine Zec ?_|refine Zee ?_|refine Zeg ?_|(refine Zd7 ?_; first|refine Zao rfl ?_|refine Zap rfl ?_))|(first|refine Zei ?_|refine Zej ?_|refine Zek ?_|refine Zel ?_|refine Zen ?_|refine Zem ?_|refine Zeo rfl ?_|refine Zep ?_|refine Zeq ?_|refine Zes ?_|refine Zet ?_)|refine Zd8 ?_)
        refine Zaq rfl (fun hB => ?_) (fun hB => ?_)
        · have hlt : f.byte < (s.size : Int) := by simpa using hB
          unfold bytesA at H
          obtain ⟨g, cap, arr, hv, hga, hge, Hn, hback⟩ := (H.pick (.there .here)).own1_open (by omega)
          clear H; have H := Hn; clear Hn
          simp only [Value.slice.injEq] at hv
          obtain ⟨rfl, _, rfl⟩ := hv
          have hib : f.byte.toNat < cur.length := by omega
          refine Zez H [(0, true, false), (1, true, false), (2, true, false), (3, true, false), (4, true, false), (5, true, false), (6, true, false), (7, true, false), (8, true, false), (9, false, false)] (by kernel_rfl) ?_
          clear H; intro w HS
          repeat (refine Ze1 ?_; first|refine Zds rfl (by first|exact Zat rfl|exact Zav rfl|exact Zaw rfl|exact Zaz rfl|exact Za2 rfl|exact Za1 rfl|exact Zau rfl|exact Za0 rfl|exact Zba rfl|exact Zce rfl (by omega)|exact Zbn rfl rfl|exact Zbr rfl rfl|exact Zbs rfl rfl|exact Zbq rfl rfl|exact Zbp rfl rfl|exact Zbo rfl rfl|exact Zcr rfl|exact Zbg rfl rfl (by omega)|exact Zbh rfl rfl (by omega)|exact Zbi rfl rfl (by omega)|exact Zco rfl rfl|exact Zdz rfl rfl|exact Zd0 rfl rfl|exact Za8 rfl rfl|exact Za9 rfl rfl|exact Za6 rfl rfl|exact Za7 rfl rfl|exact Zb1 rfl|exact Zca rfl rfl|exact Zcb rfl rfl|exact Zcv rfl rfl|exact Zcw rfl rfl|exact Zax rfl|exact Za3 rfl|exact Zay rfl|exact Zcl rfl rfl|exact Zb0 rfl|exact Zct|exact Zf3|exact Zar rfl|exact Zas rfl) HS ?_|refine Zdt rfl rfl (by first|exact Zat rfl|exact Zav rfl|exact Zaw rfl|exact Zaz rfl|exact Za2 rfl|exact Za1 rfl|exact Zau rfl|exact Za0 rfl|exact Zba rfl|exact Zce rfl (by omega)|exact Zbn rfl rfl|exact Zbr rfl rfl|exact Zbs rfl rfl|exact Zbq rfl rfl|exact Zbp rfl rfl|exact Zbo rfl rfl|exact Zcr rfl|exact Zbg rfl rfl (by omega)|exact Zbh rfl rfl (by omega)|exact Zbi rfl rfl (by omega)|exact Zco rfl rfl|exact Zdz rfl rfl|exact Zd0 rfl rfl|exact Za8 rfl rfl|exact Za9 rfl rfl|exact Za6 rfl rfl|exact Za7 rfl rfl|exact Zb1 rfl|exact Zca rfl rfl|exact Zcb rfl rfl|exact Zcv rfl rfl|exact Zcw rfl rfl|exact Zax rfl|exact Za3 rfl|exact Zay rfl|exact Zcl rfl rfl|exact Zb0 rfl|exact Zct|exact Zf3|exact Zar rfl|exact Zas rfl) HS ?_|refine Zdx rfl rfl rfl (fun _ h => h) (by repeat constructor) rfl HS ?_|refine Zdw rfl rfl (fun _ h => h) (by repeat constructor) rfl HS ?_|refine Zfn rfl rfl rfl (fun _ h => h) (by repeat constructor) HS ?_)
          refine Zds rfl (Zfq rfl rfl ⟨hG, hlt⟩) HS ?_
          refine Zdw rfl rfl (fun _ h => h) (by repeat constructor) ((by rw [Nat.zero_add, hge _ hib]; simp [hib, u8b]) : arr[0 + f.byte.toNat]? = some (u8b (cur.getD f.byte.toNat 0#8))) HS ?_
          repeat (refine Ze1 ?_; first|refine Zds rfl (by first|exact Zat rfl|exact Zav rfl|exact Zaw rfl|exact Zaz rfl|exact Za2 rfl|exact Za1 rfl|exact Zau rfl|exact Za0 rfl|exact Zba rfl|exact Zce rfl (by omega)|exact Zbn rfl rfl|exact Zbr rfl rfl|exact Zbs rfl rfl|exact Zbq rfl rfl|exact Zbp rfl rfl|exact Zbo rfl rfl|exact Zcr rfl|exact Zbg rfl rfl (by omega)|exact Zbh rfl rfl (by omega)|exact Zbi rfl rfl (by omega)|exact Zco rfl rfl|exact Zdz rfl rfl|exact Zd0 rfl rfl|exact Za8 rfl rfl|exact Za9 rfl rfl|exact Za6 rfl rfl|exact Za7 rfl rfl|exact Zb1 rfl|exact Zca rfl rfl|exact Zcb rfl rfl|exact Zcv rfl rfl|exact Zcw rfl rfl|exact Zax rfl|exact Za3 rfl|exact Zay rfl|exact Zcl rfl rfl|exact Zb0 rfl|exact Zct|exact Zf3|exact Zar rfl|exact Zas rfl) HS ?_|refine Zdt rfl rfl (by first|exact Zat rfl|exact Zav rfl|exact Zaw rfl|exact Zaz rfl|exact Za2 rfl|exact Za1 rfl|exact Zau rfl|exact Za0 rfl|exact Zba rfl|exact Zce rfl (by omega)|exact Zbn rfl rfl|exact Zbr rfl rfl|exact Zbs rfl rfl|exact Zbq rfl rfl|exact Zbp rfl rfl|exact Zbo rfl rfl|exact Zcr rfl|exact Zbg rfl rfl (by omega)|exact Zbh rfl rfl (by omega)|exact Zbi rfl rfl (by omega)|exact Zco rfl rfl|exact Zdz rfl rfl|exact Zd0 rfl rfl|exact Za8 rfl rfl|exact Za9 rfl rfl|exact Za6 rfl rfl|exact Za7 rfl rfl|exact Zb1 rfl|exact Zca rfl rfl|exact Zcb rfl rfl|exact Zcv rfl rfl|exact Zcw rfl rfl|exact Zax rfl|exact Za3 rfl|exact Zay rfl|exact Zcl rfl rfl|exact Zb0 rfl|exact Zct|exact Zf3|exact Zar rfl|exact Zas rfl) HS ?_|refine Zdx rfl rfl rfl (fun _ h => h) (by repeat constructor) rfl HS ?_|refine Zdw rfl rfl (fun _ h => h) (by repeat constructor) rfl HS ?_|refine Zfn rfl rfl rfl (fun _ h => h) (by repeat constructor) HS ?_)
          refine Zds rfl (Zje (x := cur.getD f.byte.toNat 0#8) (y := f.by_) rfl rfl) HS ?_
          refine Zds rfl (Zfq rfl rfl ⟨hG, hlt⟩) HS ?_
          refine Zdy rfl ?_
          refine Zdb HS rfl rfl (by repeat constructor) (by omega) ?_; clear HS; intro w H
          refine Zcx ⟨(fun hh => Bool.noConfusion hh), ?_⟩
          refine Zdr ?_
          repeat (first|(refine Zd1 ?_; first|refine Zcx ?_|(refine Zd3 ?_; first|refine Zc0 rfl ?_|refine Zc1 rfl ?_|refine Zc2 rfl ?_)|refine Zcz (by first|exact Zat rfl|exact Zav rfl|exact Zaw rfl|exact Zaz rfl|exact Za2 rfl|exact Za1 rfl|exact Zau rfl|exact Za0 rfl|exact Zba rfl|exact Zce rfl (by omega)|exact Zbn rfl rfl|exact Zbr rfl rfl|exact Zbs rfl rfl|exact Zbq rfl rfl|exact Zbp rfl rfl|exact Zbo rfl rfl|exact Zcr rfl|exact Zbg rfl rfl (by omega)|exact Zbh rfl rfl (by omega)|exact Zbi rfl rfl (by omega)|exact Zco rfl rfl|exact Zdz rfl rfl|exact Zd0 rfl rfl|exact Za8 rfl rfl|exact Za9 rfl rfl|exact Za6 rfl rfl|exact Za7 rfl rfl|exact Zb1 rfl|exact Zca rfl rfl|exact Zcb rfl rfl|exact Zcv rfl rfl|exact Zcw rfl rfl|exact Zax rfl|exact Za3 rfl|exact Zay rfl|exact Zcl rfl rfl|exact Zb0 rfl|exact Zct|exact Zf3|exact Zar rfl|exact Zas rfl) ?_|(refine Zd4 ?_; refine Zc5 H rfl (by repeat constructor) rfl ?_)|(refine Zd5 ?_; (first|refine Zdb H rfl rfl (by repeat constructor) (by first|(simp only [wr_size, Array.size_setIfInBounds, List.size_toArray, List.length_cons, List.length_nil]; omega)|omega|(simp; done)|(simp; omega)) ?_|refine Zde H rfl rfl (by repeat constructor) (by first|(simp only [wr_size, Array.size_setIfInBounds, List.size_toArray, List.length_cons, List.length_nil]; omega)|omega|(simp; done)|(simp; omega)) ?_|refine Zdd H rfl rfl (by repeat constructor) (by first|(simp only [wr_size, Array.size_setIfInBounds, List.size_toArray, List.length_cons, List.length_nil]; omega)|omega|(simp; done)|(simp; omega)) ?_|refine Zdc H rfl rfl (by repeat constructor) (by first|(simp only [wr_size, Array.size_setIfInBounds, List.size_toArray, List.length_cons, List.length_nil]; omega)|omega|(simp; done)|(simp; omega)) ?_|refine Zda H rfl rfl rfl (by repeat constructor) (by first|(simp only [wr_size, Array.size_setIfInBounds, List.size_toArray, List.length_cons, List.length_nil]; omega)|omega|(simp; done)|(simp; omega)) ?_); clear H; intro w H))|(refine Zd6 ?_; first|refine Zd9 ?_|refine Zeb ?_|refine Zeh ?_|refine Zef ?_|refine Zed ?_|refine Zec ?_|refine Zee ?_|refine Zeg ?_|(refine Zd7 ?_; first|refine Zao rfl ?_|refine Zap rfl ?_))|(first|refine Zei ?_|refine Zej ?_|refine Zek ?_|refine Zel ?_|refine Zen ?_|refine Zem ?_|refine Zeo rfl ?_|refine Zep ?_|refine Zeq ?_|refine Zes ?_|refine Zet ?_)|refine Zd8 ?_)
          have H2 := hback _ _ _ ((cur.set f.byte.toNat (cur.getD f.byte.toNat 0#8 ^^^ f.by_)).map u8b) _ (by simp) (by simp) (fun j hj => by
            rw [Nat.zero_add, Array.getElem?_setIfInBounds, List.getElem?_map, List.getElem?_set]
            by_cases e : f.byte.toNat = j
            · subst e; rw [if_pos rfl, if_pos rfl, if_pos (by omega), if_pos hib]; rfl
            · rw [if_neg e, if_neg e, hge j hj, List.getElem?_map]) H
          have H3 : St w0 w (bytesA (.slice (some ⟨g, 0, none⟩) s.size k) (cur.set f.byte.toNat (cur.getD f.byte.toNat 0#8 ^^^ f.by_)) :: cl fb (fcells f).toArray 70 :: hostA p s :: L) := by
            unfold bytesA; rw [List.length_set]; exact H2
          refine Zeu (i + 1, some ⟨g, 0, none⟩, k) (by simp only []; omega) ⟨by simp only []; omega, again ?_ H3.swap.drop⟩ ⟨rfl, rfl, trivial⟩
          unfold HostS.spoil1
          rw [if_pos hk0, if_pos ⟨hG, by omega⟩]
        · repeat (first|(refine Zd1 ?_; first|refine Zcx ?_|(refine Zd3 ?_; first|refine Zc0 rfl ?_|refine Zc1 rfl ?_|refine Zc2 rfl ?_)|refine Zcz (by first|exact Zat rfl|exact Zav rfl|exact Zaw rfl|exact Zaz rfl|exact Za2 rfl|exact Za1 rfl|exact Zau rfl|exact Za0 rfl|exact Zba rfl|exact Zce rfl (by omega)|exact Zbn rfl rfl|exact Zbr rfl rfl|exact Zbs rfl rfl|exact Zbq rfl rfl|exact Zbp rfl rfl|exact Zbo rfl rfl|exact Zcr rfl|exact Zbg rfl rfl (by omega)|exact Zbh rfl rfl (by omega)|exact Zbi rfl rfl (by omega)|exact Zco rfl rfl|exact Zdz rfl rfl|exact Zd0 rfl rfl|exact Za8 rfl rfl|exact Za9 rfl rfl|exact Za6 rfl rfl|exact Za7 rfl rfl|exact Zb1 rfl|exact Zca rfl rfl|exact Zcb rfl rfl|exact Zcv rfl rfl|exact Zcw rfl rfl|exact Zax rfl|exact Za3 rfl|exact Zay rfl|exact Zcl rfl rfl|exact Zb0 rfl|exact Zct|exact Zf3|exact Zar rfl|exact Zas rfl) ?_|(refine Zd4 ?_; refine Zc5 H rfl (by repeat constructor) rfl ?_)|(refine Zd5 ?_; (first|refine Zdb H rfl rfl (by repeat constructor) (by first|(simp only [wr_size, Array.size_setIfInBounds, List.size_toArray, List.length_cons, List.length_nil]; omega)|omega|(simp; done)|(simp; omega)) ?_|refine Zde H rfl rfl (by repeat constructor) (by first|(simp only [wr_size, Array.size_setIfInBounds, List.size_toArray, List.length_cons, List.length_nil]; omega)|omega|(simp; done)|(simp; omega)) ?_|refine Zdd H rfl rfl (by repeat constructor) (by first|(simp only [wr_size, Array.size_setIfInBounds, List.size_toArray, List.length_cons, List.length_nil]; omega)|omega|(simp; done)|(simp; omega)) ?_|refine Zdc H rfl rfl (by repeat constructor) (by first|(simp only [wr_size, Array.size_setIfInBounds, List.size_toArray, List.length_cons, List.length_nil]; omega)|omega|(simp; done)|(simp; omega)) ?_|refine Zda H rfl rfl rfl (by repeat constructor) (by first|(simp only [wr_size, Array.size_setIfInBounds, List.size_toArray, List.length_cons, List.length_nil]; omega)|omega|(simp; done)|(simp; omega)) ?_); clear H; intro w H))|(refine Zd6 ?_; first|refine Zd9 ?_|refine Zeb ?_|refine Zeh ?_|refine Zef ?_|refine Zed ?_|refine Zec ?_|refine Zee ?_|refine Zeg ?_|(refine Zd7 ?_; first|refine Zao rfl ?_|refine Zap rfl ?_))|(first|refine Zei ?_|refine Zej ?_|refine Zek ?_|refine Zel ?_|refine Zen ?_|refine Zem ?_|refine Zeo rfl ?_|refine Zep ?_|refine Zeq ?_|refine Zes ?_|refine Zet ?_)|refine Zd8 ?_)
          refine Zeu (i + 1, a, k) (by simp only []; omega) ⟨by simp only []; omega, again ?_ H.drop⟩ ⟨rfl, rfl, trivial⟩
          unfold HostS.spoil1
          rw [if_pos hk0, if_neg (by simp at hB; omega)]
      · repeat (first|(refine Zd1 ?_; first|refine Zcx ?_|(refine Zd3 ?_; first|refine Zc0 rfl ?_|refine Zc1 rfl ?_|refine Zc2 rfl ?_)|refine Zcz (by first|exact Zat rfl|exact Zav rfl|exact Zaw rfl|exact Zaz rfl|exact Za2 rfl|exact Za1 rfl|exact Zau rfl|exact Za0 rfl|exact Zba rfl|exact Zce rfl (by omega)|exact Zbn rfl rfl|exact Zbr rfl rfl|exact Zbs rfl rfl|exact Zbq rfl rfl|exact Zbp rfl rfl|exact Zbo rfl rfl|exact Zcr rfl|exact Zbg rfl rfl (by omega)|exact Zbh rfl rfl (by omega)|exact Zbi rfl rfl (by omega)|exact Zco rfl rfl|exact Zdz rfl rfl|exact Zd0 rfl rfl|exact Za8 rfl rfl|exact Za9 rfl rfl|exact Za6 rfl rfl|exact Za7 rfl rfl|exact Zb1 rfl|exact Zca rfl rfl|exact Zcb rfl rfl|exact Zcv rfl rfl|exact Zcw rfl rfl|exact Zax rfl|exact Za3 rfl|exact Zay rfl|exact Zcl rfl rfl|exact Zb0 rfl|exact Zct|exact Zf3|exact Zar rfl|exact Zas rfl) ?_|(refine Zd4 ?_; refine Zc5 H rfl (by repeat constructor) rfl ?_)|(refine Zd5 ?_; (first|refine Zdb H rfl rfl (by repeat constructor) (by first|(simp only [wr_size, Array.size_setIfInBounds, List.size_toArray, List.length_cons, List.length_nil]; omega)|omega|(simp; done)|(simp; omega)) ?_|refine Zde H rfl rfl (by repeat constructor) (by first|(simp only [wr_size, Array.size_setIfInBounds, List.size_toArray, List.length_cons, List.length_nil]; omega)|omega|(simp; done)|(simp; omega)) ?_|refine Zdd H rfl rfl (by repeat constructor) (by first|(simp only [wr_size, Array.size_setIfInBounds, List.size_toArray, List.length_cons, List.length_nil]; omega)|omega|(simp; done)|(simp; omega)) ?_|refine Zdc H rfl rfl (by repeat constructor) (by first|(simp only [wr_size, Array.size_setIfInBounds, List.size_toArray, List.length_cons, List.length_nil]; omega)|omega|(simp; done)|(simp; omega)) ?_|refine Zda H rfl rfl rfl (by repeat constructor) (by first|(simp only [wr_size, Array.size_setIfInBounds, List.size_toArray, List.length_cons, List.length_nil]; omega)|omega|(simp; done)|(simp; omega)) ?_); clear H; intro w H))|(refine Zd6 ?_; first|refine Zd9 ?_|refine Zeb ?_|refine Zeh ?_|refine Zef ?_|refine Zed ?_|refine Zec ?_|refine Zee ?_|refine Zeg ?_|(refine Zd7 ?_; first|refine Zao rfl ?_|refine Zap rfl ?_))|(first|refine Zei ?_|refine Zej ?_|refine Zek ?_|refine Zel ?_|refine Zen ?_|refine Zem ?_|refine Zeo rfl ?_|refine Zep ?_|refine Zeq ?_|refine Zes ?_|refine Zet ?_)|refine Zd8 ?_)
        refine Zeu (i + 1, a, k) (by simp only []; omega) ⟨by simp only []; omega, again ?_ H.drop⟩ ⟨rfl, rfl, trivial⟩
        unfold HostS.spoil1
        rw [if_pos hk0, if_neg (by omega)]
    · have hk0 : ¬ f.kind = 0 := hB
      repeat (first|(refine Zd1 ?_; first|refine Zcx ?_|(refine Zd3 ?_; first|refine Zc0 rfl ?_|refine Zc1 rfl ?_|refine Zc2 rfl ?_)|refine Zcz (by first|exact Zat rfl|exact Zav rfl|exact Zaw rfl|exact Zaz rfl|exact Za2 rfl|exact Za1 rfl|exact Zau rfl|exact Za0 rfl|exact Zba rfl|exact Zce rfl (by omega)|exact Zbn rfl rfl|exact Zbr rfl rfl|exact Zbs rfl rfl|exact Zbq rfl rfl|exact Zbp rfl rfl|exact Zbo rfl rfl|exact Zcr rfl|exact Zbg rfl rfl (by omega)|exact Zbh rfl rfl (by omega)|exact Zbi rfl rfl (by omega)|exact Zco rfl rfl|exact Zdz rfl rfl|exact Zd0 rfl rfl|exact Za8 rfl rfl|exact Za9 rfl rfl|exact Za6 rfl rfl|exact Za7 rfl rfl|exact Zb1 rfl|exact Zca rfl rfl|exact Zcb rfl rfl|exact Zcv rfl rfl|exact Zcw rfl rfl|exact Zax rfl|exact Za3 rfl|exact Zay rfl|exact Zcl rfl rfl|exact Zb0 rfl|exact Zct|exact Zf3|exact Zar rfl|exact Zas rfl) ?_|(refine Zd4 ?_; refine Zc5 H rfl (by repeat constructor) rfl ?_)|(refine Zd5 ?_; (first|refine Zdb H rfl rfl (by repeat constructor) (by first|(simp only [wr_size, Array.size_setIfInBounds, List.size_toArray, List.length_cons, List.length_nil]; omega)|omega|(simp; done)|(simp; omega)) ?_|refine Zde H rfl rfl (by repeat constructor) (by first|(simp only [wr_size, Array.size_setIfInBounds, List.size_toArray, List.length_cons, List.length_nil]; omega)|omega|(simp; done)|(simp; omega)) ?_|refine Zdd H rfl rfl (by repeat constructor) (by first|(simp only [wr_size, Array.size_setIfInBounds, List.size_toArray, List.length_cons, List.length_nil]; omega)|omega|(simp; done)|(simp; omega)) ?_|refine Zdc H rfl rfl (by repeat constructor) (by first|(simp only [wr_size, Array.size_setIfInBounds, List.size_toArray, List.length_cons, List.length_nil]; omega)|omega|(simp; done)|(simp; omega)) ?_|refine Zda H rfl rfl rfl (by repeat constructor) (by first|(simp only [wr_size, Array.size_setIfInBounds, List.size_toArray, List.length_cons, List.length_nil]; omega)|omega|(simp; done)|(simp; omega)) ?_); clear H; intro w H))|(refine Zd6 ?_; first|refine Zd9 ?_|refine Zeb ?_|refine Zeh ?_|refine Zef ?_|refine Zed ?_|refine Zec ?_|refine Zee ?_|refine Zeg ?_|(refine Zd7 ?_; first|refine Zao rfl ?_|refine Zap rfl ?_))|(first|refine Zei ?_|refine Zej ?_|refine Zek ?_|refine Zel ?_|refine Zen ?_|refine Zem ?_|refine Zeo rfl ?_|refine Zep ?_|refine Zeq ?_|refine Zes ?_|refine Zet ?_)|refine Zd8 ?_)
      refine Zaq rfl (fun hB => ?_) (fun hB => ?_)
      · have hk1 : f.kind = 1 := hB
        repeat (first|(refine Zd1 ?_; first|refine Zcx ?_|(refine Zd3 ?_; first|refine Zc0 rfl ?_|refine Zc1 rfl ?_|refine Zc2 rfl ?_)|refine Zcz (by first|exact Zat rfl|exact Zav rfl|exact Zaw rfl|exact Zaz rfl|exact Za2 rfl|exact Za1 rfl|exact Zau rfl|exact Za0 rfl|exact Zba rfl|exact Zce rfl (by omega)|exact Zbn rfl rfl|exact Zbr rfl rfl|exact Zbs rfl rfl|exact Zbq rfl rfl|exact Zbp rfl rfl|exact Zbo rfl rfl|exact Zcr rfl|exact Zbg rfl rfl (by omega)|exact Zbh rfl rfl (by omega)|exact Zbi rfl rfl (by omega)|exact Zco rfl rfl|exact Zdz rfl rfl|exact Zd0 rfl rfl|exact Za8 rfl rfl|exact Za9 rfl rfl|exact Za6 rfl rfl|exact Za7 rfl rfl|exact Zb1 rfl|exact Zca rfl rfl|exact Zcb rfl rfl|exact Zcv rfl rfl|exact Zcw rfl rfl|exact Zax rfl|exact Za3 rfl|exact Zay rfl|exact Zcl rfl rfl|exact Zb0 rfl|exact Zct|exact Zf3|exact Zar rfl|exact Zas rfl) ?_|(refine Zd4 ?_; refine Zc5 H rfl (by repeat constructor) rfl ?_)|(refine Zd5 ?_; (first|refine Zdb H rfl rfl (by repeat constructor) (by first|(simp only [wr_size, Array.size_setIfInBounds, List.size_toArray, List.length_cons, List.length_nil]; omega)|omega|(simp; done)|(simp; omega)) ?_|refine Zde H rfl rfl (by repeat constructor) (by first|(simp only [wr_size, Array.size_setIfInBounds, List.size_toArray, List.length_cons, List.length_nil]; omega)|omega|(simp; done)|(simp; omega)) ?_|refine Zdd H rfl rfl (by repeat constructor) (by first|(simp only [wr_size, Array.size_setIfInBounds, List.size_toArray, List.length_cons, List.length_nil]; omega)|omega|(simp; done)|(simp; omega)) ?_|refine Zdc H rfl rfl (by repeat constructor) (by first|(simp only [wr_size, Array.size_setIfInBounds, List.size_toArray, List.length_cons, List.length_nil]; omega)|omega|(simp; done)|(simp; omega)) ?_|refine Zda H rfl rfl rfl (by repeat constructor) (by first|(simp only [wr_size, Array.size_setIfInBounds, List.size_toArray, List.length_cons, List.length_nil]; omega)|omega|(simp; done)|(simp; omega)) ?_); clear H; intro w H))|(refine Zd6 ?_; first|refine Zd9 ?_|refine Zeb ?_|refine Zeh ?_|refine Zef ?_|refine Zed ?_|refine Zec ?_|refine Zee ?_|refine Zeg ?_|(refine Zd7 ?_; first|refine Zao rfl ?_|refine Zap rfl ?_))|(first|refine Zei ?_|refine Zej ?_|refine Zek ?_|refine Zel ?_|refine Zen ?_|refine Zem ?_|refine Zeo rfl ?_|refine Zep ?_|refine Zeq ?_|refine Zes ?_|refine Zet ?_)|refine Zd8 ?_)
        refine Zdp rfl (by kernel_rfl) (back_c (L := cl fb (fcells f).toArray 70 :: bytesA (.slice a s.size k) cur :: L) page f.back ⟨hfi.b0, hfi.b1⟩ hops (H.arr (by repeat (first|exact Arr.nil|exact Arr.stop|refine Arr.cons (by repeat constructor) ?_|refine Arr.skip ?_)))) rfl ?_
        clear H; rintro v w ⟨a', k', rfl, H⟩
        repeat (first|(refine Zd1 ?_; first|refine Zcx ?_|(refine Zd3 ?_; first|refine Zc0 rfl ?_|refine Zc1 rfl ?_|refine Zc2 rfl ?_)|refine Zcz (by first|exact Zat rfl|exact Zav rfl|exact Zaw rfl|exact Zaz rfl|exact Za2 rfl|exact Za1 rfl|exact Zau rfl|exact Za0 rfl|exact Zba rfl|exact Zce rfl (by omega)|exact Zbn rfl rfl|exact Zbr rfl rfl|exact Zbs rfl rfl|exact Zbq rfl rfl|exact Zbp rfl rfl|exact Zbo rfl rfl|exact Zcr rfl|exact Zbg rfl rfl (by omega)|exact Zbh rfl rfl (by omega)|exact Zbi rfl rfl (by omega)|exact Zco rfl rfl|exact Zdz rfl rfl|exact Zd0 rfl rfl|exact Za8 rfl rfl|exact Za9 rfl rfl|exact Za6 rfl rfl|exact Za7 rfl rfl|exact Zb1 rfl|exact Zca rfl rfl|exact Zcb rfl rfl|exact Zcv rfl rfl|exact Zcw rfl rfl|exact Zax rfl|exact Za3 rfl|exact Zay rfl|exact Zcl rfl rfl|exact Zb0 rfl|exact Zct|exact Zf3|exact Zar rfl|exact Zas rfl) ?_|(refine Zd4 ?_; refine Zc5 H rfl (by repeat constructor) rfl ?_)|(refine Zd5 ?_; (first|refine Zdb H rfl rfl (by repeat constructor) (by first|(simp only [wr_size, Array.size_setIfInBounds, List.size_toArray, List.length_cons, List.length_nil]; omega)|omega|(simp; done)|(simp; omega)) ?_|refine Zde H rfl rfl (by repeat constructor) (by first|(simp only [wr_size, Array.size_setIfInBounds, List.size_toArray, List.length_cons, List.length_nil]; omega)|omega|(simp; done)|(simp; omega)) ?_|refine Zdd H rfl rfl (by repeat constructor) (by first|(simp only [wr_size, Array.size_setIfInBounds, List.size_toArray, List.length_cons, List.length_nil]; omega)|omega|(simp; done)|(simp; omega)) ?_|refine Zdc H rfl rfl (by repeat constructor) (by first|(simp only [wr_size, Array.size_setIfInBounds, List.size_toArray, List.length_cons, List.length_nil]; omega)|omega|(simp; done)|(simp; omega)) ?_|refine Zda H rfl rfl rfl (by repeat constructor) (by first|(simp only [wr_size, Array.size_setIfInBounds, List.size_toArray, List.length_cons, List.length_nil]; omega)|omega|(simp; done)|(simp; omega)) ?_); clear H; intro w H))|(refine Zd6 ?_; first|refine Zd9 ?_|refine Zeb ?_|refine Zeh ?_|refine Zef ?_|refine Zed ?_|refine Zec ?_|refine Zee ?_|refine Zeg ?_|(refine Zd7 ?_; first|refine Zao rfl ?_|refine Zap rfl ?_))|(first|refine Zei ?_|refine Zej ?_|refine Zek ?_|refine Zel ?_|refine Zen ?_|refine Zem ?_|refine Zeo rfl ?_|refine Zep ?_|refine Zeq ?_|refine Zes ?_|refine Zet ?_)|refine Zd8 ?_)
        refine Zeu (i + 1, a', k') (by simp only []; omega) ⟨by simp only []; omega, again ?_ (H.arr (by repeat (first|exact Arr.nil|exact Arr.stop|refine Arr.cons (by repeat constructor) ?_|refine Arr.skip ?_)))⟩ ⟨rfl, rfl, trivial⟩
        unfold HostS.spoil1
        rw [if_neg hk0, if_pos hk1]
      · have hk1 : ¬ f.kind = 1 := hB
        repeat (first|(refine Zd1 ?_; first|refine Zcx ?_|(refine Zd3 ?_; first|refine Zc0 rfl ?_|refine Zc1 rfl ?_|refine Zc2 rfl ?_)|refine Zcz (by first|exact Zat rfl|exact Zav rfl|exact Zaw rfl|exact Zaz rfl|exact Za2 rfl|exact Za1 rfl|exact Zau rfl|exact Za0 rfl|exact Zba rfl|exact Zce rfl (by omega)|exact Zbn rfl rfl|exact Zbr rfl rfl|exact Zbs rfl rfl|exact Zbq rfl rfl|exact Zbp rfl rfl|exact Zbo rfl rfl|exact Zcr rfl|exact Zbg rfl rfl (by omega)|exact Zbh rfl rfl (by omega)|exact Zbi rfl rfl (by omega)|exact Zco rfl rfl|exact Zdz rfl rfl|exact Zd0 rfl rfl|exact Za8 rfl rfl|exact Za9 rfl rfl|exact Za6 rfl rfl|exact Za7 rfl rfl|exact Zb1 rfl|exact Zca rfl rfl|exact Zcb rfl rfl|exact Zcv rfl rfl|exact Zcw rfl rfl|exact Zax rfl|exact Za3 rfl|exact Zay rfl|exact Zcl rfl rfl|exact Zb0 rfl|exact Zct|exact Zf3|exact Zar rfl|exact Zas rfl) ?_|(refine Zd4 ?_; refine Zc5 H rfl (by repeat constructor) rfl ?_)|(refine Zd5 ?_; (first|refine Zdb H rfl rfl (by repeat constructor) (by first|(simp only [wr_size, Array.size_setIfInBounds, List.size_toArray, List.length_cons, List.length_nil]; omega)|omega|(simp; done)|(simp; omega)) ?_|refine Zde H rfl rfl (by repeat constructor) (by first|(simp only [wr_size, Array.size_setIfInBounds, List.size_toArray, List.length_cons, List.length_nil]; omega)|omega|(simp; done)|(simp; omega)) ?_|refine Zdd H rfl rfl (by repeat constructor) (by first|(simp only [wr_size, Array.size_setIfInBounds, List.size_toArray, List.length_cons, List.length_nil]; omega)|omega|(simp; done)|(simp; omega)) ?_|refine Zdc H rfl rfl (by repeat constructor) (by first|(simp only [wr_size, Array.size_setIfInBounds, List.size_toArray, List.length_cons, List.length_nil]; omega)|omega|(simp; done)|(simp; omega)) ?_|refine Zda H rfl rfl rfl (by repeat constructor) (by first|(simp only [wr_size, Array.size_setIfInBounds, List.size_toArray, List.length_cons, List.length_nil]; omega)|omega|(simp; done)|(simp; omega)) ?_); clear H; intro w H))|(refine Zd6 ?_; first|refine Zd9 ?_|refine Zeb ?_|refine Zeh ?_|refine Zef ?_|refine Zed ?_|refine Zec ?_|refine Zee ?_|refine Zeg ?_|(refine Zd7 ?_; first|refine Zao rfl ?_|refine Zap rfl ?_))|(first|refine Zei ?_|refine Zej ?_|refine Zek ?_|refine Zel ?_|refine Zen ?_|refine Zem ?_|refine Zeo rfl ?_|refine Zep ?_|refine Zeq ?_|refine Zes ?_|refine Zet ?_)|refine Zd8 ?_)
        refine Zaq rfl (fun hB => ?_) (fun hB => ?_)
        · have hk2 : f.kind = 2 := hB
          repeat (first|(refine Zd1 ?_; first|refine Zcx ?_|(refine Zd3 ?_; first|refine Zc0 rfl ?_|refine Zc1 rfl ?_|refine Zc2 rfl ?_)|refine Zcz (by first|exact Zat rfl|exact Zav rfl|exact Zaw rfl|exact Zaz rfl|exact Za2 rfl|exact Za1 rfl|exact Zau rfl|exact Za0 rfl|exact Zba rfl|exact Zce rfl (by omega)|exact Zbn rfl rfl|exact Zbr rfl rfl|exact Zbs rfl rfl|exact Zbq rfl rfl|exact Zbp rfl rfl|exact Zbo rfl rfl|exact Zcr rfl|exact Zbg rfl rfl (by omega)|exact Zbh rfl rfl (by omega)|exact Zbi rfl rfl (by omega)|exact Zco rfl rfl|exact Zdz rfl rfl|exact Zd0 rfl rfl|exact Za8 rfl rfl|exact Za9 rfl rfl|exact Za6 rfl rfl|exact Za7 rfl rfl|exact Zb1 rfl|exact Zca rfl rfl|exact Zcb rfl rfl|exact Zcv rfl rfl|exact Zcw rfl rfl|exact Zax rfl|exact Za3 rfl|exact Zay rfl|exact Zcl rfl rfl|exact Zb0 rfl|exact Zct|exact Zf3|exact Zar rfl|exact Zas rfl) ?_|(refine Zd4 ?_; refine Zc5 H rfl (by repeat constructor) rfl ?_)|(refine Zd5 ?_; (first|refine Zdb H rfl rfl (by repeat constructor) (by first|(simp only [wr_size, Array.size_setIfInBounds, List.size_toArray, List.length_cons, List.length_nil]; omega)|omega|(simp; done)|(simp; omega)) ?_|refine Zde H rfl rfl (by repeat constructor) (by first|(simp only [wr_size, Array.size_setIfInBounds, List.size_toArray, List.length_cons, List.length_nil]; omega)|omega|(simp; done)|(simp; omega)) ?_|refine Zdd H rfl rfl (by repeat constructor) (by first|(simp only [wr_size, Array.size_setIfInBounds, List.size_toArray, List.length_cons, List.length_nil]; omega)|omega|(simp; done)|(simp; omega)) ?_|refine Zdc H rfl rfl (by repeat constructor) (by first|(simp only [wr_size, Array.size_setIfInBounds, List.size_toArray, List.length_cons, List.length_nil]; omega)|omega|(simp; done)|(simp; omega)) ?_|refine Zda H rfl rfl rfl (by repeat constructor) (by first|(simp only [wr_size, Array.size_setIfInBounds, List.size_toArray, List.length_cons, List.length_nil]; omega)|omega|(simp; done)|(simp; omega)) ?_); clear H; intro w H))|(refine Zd6 ?_; first|refine Zd9 ?_|refine Zeb ?_|refine Zeh ?_|refine Zef ?_|refine Zed ?_|refine Zec ?_|refine Zee ?_|refine Zeg ?_|(refine Zd7 ?_; first|refine Zao rfl ?_|refine Zap rfl ?_))|(first|refine Zei ?_|refine Zej ?_|refine Zek ?_|refine Zel ?_|refine Zen ?_|refine Zem ?_|refine Zeo rfl ?_|refine Zep ?_|refine Zeq ?_|refine Zes ?_|refine Zet ?_)|refine Zd8 ?_)
          refine Zdp rfl (by kernel_rfl) (there_c (L := cl fb (fcells f).toArray 70 :: bytesA (.slice a s.size k) cur :: L) f.page (H.arr (by repeat (first|exact Arr.nil|exact Arr.stop|refine Arr.cons (by repeat constructor) ?_|refine Arr.skip ?_)))) rfl ?_
          rintro v w' ⟨rfl, rfl⟩
          repeat (first|(refine Zd1 ?_; first|refine Zcx ?_|(refine Zd3 ?_; first|refine Zc0 rfl ?_|refine Zc1 rfl ?_|refine Zc2 rfl ?_)|refine Zcz (by first|exact Zat rfl|exact Zav rfl|exact Zaw rfl|exact Zaz rfl|exact Za2 rfl|exact Za1 rfl|exact Zau rfl|exact Za0 rfl|exact Zba rfl|exact Zce rfl (by omega)|exact Zbn rfl rfl|exact Zbr rfl rfl|exact Zbs rfl rfl|exact Zbq rfl rfl|exact Zbp rfl rfl|exact Zbo rfl rfl|exact Zcr rfl|exact Zbg rfl rfl (by omega)|exact Zbh rfl rfl (by omega)|exact Zbi rfl rfl (by omega)|exact Zco rfl rfl|exact Zdz rfl rfl|exact Zd0 rfl rfl|exact Za8 rfl rfl|exact Za9 rfl rfl|exact Za6 rfl rfl|exact Za7 rfl rfl|exact Zb1 rfl|exact Zca rfl rfl|exact Zcb rfl rfl|exact Zcv rfl rfl|exact Zcw rfl rfl|exact Zax rfl|exact Za3 rfl|exact Zay rfl|exact Zcl rfl rfl|exact Zb0 rfl|exact Zct|exact Zf3|exact Zar rfl|exact Zas rfl) ?_|(refine Zd4 ?_; refine Zc5 H rfl (by repeat constructor) rfl ?_)|(refine Zd5 ?_; (first|refine Zdb H rfl rfl (by repeat constructor) (by first|(simp only [wr_size, Array.size_setIfInBounds, List.size_toArray, List.length_cons, List.length_nil]; omega)|omega|(simp; done)|(simp; omega)) ?_|refine Zde H rfl rfl (by repeat constructor) (by first|(simp only [wr_size, Array.size_setIfInBounds, List.size_toArray, List.length_cons, List.length_nil]; omega)|omega|(simp; done)|(simp; omega)) ?_|refine Zdd H rfl rfl (by repeat constructor) (by first|(simp only [wr_size, Array.size_setIfInBounds, List.size_toArray, List.length_cons, List.length_nil]; omega)|omega|(simp; done)|(simp; omega)) ?_|refine Zdc H rfl rfl (by repeat constructor) (by first|(simp only [wr_size, Array.size_setIfInBounds, List.size_toArray, List.length_cons, List.length_nil]; omega)|omega|(simp; done)|(simp; omega)) ?_|refine Zda H rfl rfl rfl (by repeat constructor) (by first|(simp only [wr_size, Array.size_setIfInBounds, List.size_toArray, List.length_cons, List.length_nil]; omega)|omega|(simp; done)|(simp; omega)) ?_); clear H; intro w H))|(refine Zd6 ?_; first|refine Zd9 ?_|refine Zeb ?_|refine Zeh ?_|refine Zef ?_|refine Zed ?_|refine Zec ?_|refine Zee ?_|refine Zeg ?_|(refine Zd7 ?_; first|refine Zao rfl ?_|refine Zap rfl ?_))|(first|refine Zei ?_|refine Zej ?_|refine Zek ?_|refine Zel ?_|refine Zen ?_|refine Zem ?_|refine Zeo rfl ?_|refine Zep ?_|refine Zeq ?_|refine Zes ?_|refine Zet ?_)|refine Zd8 ?_)
          refine Zaq rfl (fun hB => ?_) (fun hB => ?_)
          · repeat (first|(refine Zd1 ?_; first|refine Zcx ?_|(refine Zd3 ?_; first|refine Zc0 rfl ?_|refine Zc1 rfl ?_|refine Zc2 rfl ?_)|refine Zcz (by first|exact Zat rfl|exact Zav rfl|exact Zaw rfl|exact Zaz rfl|exact Za2 rfl|exact Za1 rfl|exact Zau rfl|exact Za0 rfl|exact Zba rfl|exact Zce rfl (by omega)|exact Zbn rfl rfl|exact Zbr rfl rfl|exact Zbs rfl rfl|exact Zbq rfl rfl|exact Zbp rfl rfl|exact Zbo rfl rfl|exact Zcr rfl|exact Zbg rfl rfl (by omega)|exact Zbh rfl rfl (by omega)|exact Zbi rfl rfl (by omega)|exact Zco rfl rfl|exact Zdz rfl rfl|exact Zd0 rfl rfl|exact Za8 rfl rfl|exact Za9 rfl rfl|exact Za6 rfl rfl|exact Za7 rfl rfl|exact Zb1 rfl|exact Zca rfl rfl|exact Zcb rfl rfl|exact Zcv rfl rfl|exact Zcw rfl rfl|exact Zax rfl|exact Za3 rfl|exact Zay rfl|exact Zcl rfl rfl|exact Zb0 rfl|exact Zct|exact Zf3|exact Zar rfl|exact Zas rfl) ?_|(refine Zd4 ?_; refine Zc5 H rfl (by repeat constructor) rfl ?_)|(refine Zd5 ?_; (first|refine Zdb H rfl rfl (by repeat constructor) (by first|(simp only [wr_size, Array.size_setIfInBounds, List.size_toArray, List.length_cons, List.length_nil]; omega)|omega|(simp; done)|(simp; omega)) ?_|refine Zde H rfl rfl (by repeat constructor) (by first|(simp only [wr_size, Array.size_setIfInBounds, List.size_toArray, List.length_cons, List.length_nil]; omega)|omega|(simp; done)|(simp; omega)) ?_|refine Zdd H rfl rfl (by repeat constructor) (by first|(simp only [wr_size, Array.size_setIfInBounds, List.size_toArray, List.length_cons, List.length_nil]; omega)|omega|(simp; done)|(simp; omega)) ?_|refine Zdc H rfl rfl (by repeat constructor) (by first|(simp only [wr_size, Array.size_setIfInBounds, List.size_toArray, List.length_cons, List.length_nil]; omega)|omega|(simp; done)|(simp; omega)) ?_|refine Zda H rfl rfl rfl (by repeat constructor) (by first|(simp only [wr_size, Array.size_setIfInBounds, List.size_toArray, List.length_cons, List.length_nil]; omega)|omega|(simp; done)|(simp; omega)) ?_); clear H; intro w H))|(refine Zd6 ?_; first|refine Zd9 ?_|refine Zeb ?_|refine Zeh ?_|refine Zef ?_|refine Zed ?_|refine Zec ?_|refine Zee ?_|refine Zeg ?_|(refine Zd7 ?_; first|refine Zao rfl ?_|refine Zap rfl ?_))|(first|refine Zei ?_|refine Zej ?_|refine Zek ?_|refine Zel ?_|refine Zen ?_|refine Zem ?_|refine Zeo rfl ?_|refine Zep ?_|refine Zeq ?_|refine Zes ?_|refine Zet ?_)|refine Zd8 ?_)
            refine Zdp rfl (by kernel_rfl) (back_c (L := cl fb (fcells f).toArray 70 :: bytesA (.slice a s.size k) cur :: L) f.page 0 (by omega) hops (H.arr (by repeat (first|exact Arr.nil|exact Arr.stop|refine Arr.cons (by repeat constructor) ?_|refine Arr.skip ?_)))) rfl ?_
            clear H; rintro v w ⟨a', k', rfl, H⟩
            repeat (first|(refine Zd1 ?_; first|refine Zcx ?_|(refine Zd3 ?_; first|refine Zc0 rfl ?_|refine Zc1 rfl ?_|refine Zc2 rfl ?_)|refine Zcz (by first|exact Zat rfl|exact Zav rfl|exact Zaw rfl|exact Zaz rfl|exact Za2 rfl|exact Za1 rfl|exact Zau rfl|exact Za0 rfl|exact Zba rfl|exact Zce rfl (by omega)|exact Zbn rfl rfl|exact Zbr rfl rfl|exact Zbs rfl rfl|exact Zbq rfl rfl|exact Zbp rfl rfl|exact Zbo rfl rfl|exact Zcr rfl|exact Zbg rfl rfl (by omega)|exact Zbh rfl rfl (by omega)|exact Zbi rfl rfl (by omega)|exact Zco rfl rfl|exact Zdz rfl rfl|exact Zd0 rfl rfl|exact Za8 rfl rfl|exact Za9 rfl rfl|exact Za6 rfl rfl|exact Za7 rfl rfl|exact Zb1 rfl|exact Zca rfl rfl|exact Zcb rfl rfl|exact Zcv rfl rfl|exact Zcw rfl rfl|exact Zax rfl|exact Za3 rfl|exact Zay rfl|exact Zcl rfl rfl|exact Zb0 rfl|exact Zct|exact Zf3|exact Zar rfl|exact Zas rfl) ?_|(refine Zd4 ?_; refine Zc5 H rfl (by repeat constructor) rfl ?_)|(refine Zd5 ?_; (first|refine Zdb H rfl rfl (by repeat constructor) (by first|(simp only [wr_size, Array.size_setIfInBounds, List.size_toArray, List.length_cons, List.length_nil]; omega)|omega|(simp; done)|(simp; omega)) ?_|refine Zde H rfl rfl (by repeat constructor) (by first|(simp only [wr_size, Array.size_setIfInBounds, List.size_toArray, List.length_cons, List.length_nil]; omega)|omega|(simp; done)|(simp; omega)) ?_|refine Zdd H rfl rfl (by repeat constructor) (by first|(simp only [wr_size, Array.size_setIfInBounds, List.size_toArray, List.length_cons, List.length_nil]; omega)|omega|(simp; done)|(simp; omega)) ?_|refine Zdc H rfl rfl (by repeat constructor) (by first|(simp only [wr_size, Array.size_setIfInBounds, List.size_toArray, List.length_cons, List.length_nil]; omega)|omega|(simp; done)|(simp; omega)) ?_|refine Zda H rfl rfl rfl (by repeat constructor) (by first|(simp only [wr_size, Array.size_setIfInBounds, List.size_toArray, List.length_cons, List.length_nil]; omega)|omega|(simp; done)|(simp; omega)) ?_); clear H; intro w H))|(refine Zd6 ?_; first|refine Zd9 ?_|refine Zeb ?_|refine Zeh ?_|refine Zef ?_|refine Zed ?_|refine Zec ?_|refine Zee ?_|refine Zeg ?_|(refine Zd7 ?_; first|refine Zao rfl ?_|refine Zap rfl ?_))|(first|refine Zei ?_|refine Zej ?_|refine Zek ?_|refine Zel ?_|refine Zen ?_|refine Zem ?_|refine Zeo rfl ?_|refine Zep ?_|refine Zeq ?_|refine Zes ?_|refine Zet ?_)|refine Zd8 ?_)
            refine Zeu (i + 1, a', k') (by simp only []; omega) ⟨by simp only []; omega, again ?_ (H.arr (by repeat (first|exact Arr.nil|exact Arr.stop|refine Arr.cons (by repeat constructor) ?_|refine Arr.skip ?_)))⟩ ⟨rfl, rfl, trivial⟩
            unfold HostS.spoil1
            rw [if_neg hk0, if_neg hk1, if_pos hk2, if_pos hB]
          · repeat (first|(refine Zd1 ?_; first|refine Zcx ?_|(refine Zd3 ?_; first|refine Zc0 rfl ?_|refine Zc1 rfl ?_|refine Zc2 rfl ?_)|refine Zcz (by first|exact Zat rfl|exact Zav rfl|exact Zaw rfl|exact Zaz rfl|exact Za2 rfl|exact Za1 rfl|exact Zau rfl|exact Za0 rfl|exact Zba rfl|exact Zce rfl (by omega)|exact Zbn rfl rfl|exact Zbr rfl rfl|exact Zbs rfl rfl|exact Zbq rfl rfl|exact Zbp rfl rfl|exact Zbo rfl rfl|exact Zcr rfl|exact Zbg rfl rfl (by omega)|exact Zbh rfl rfl (by omega)|exact Zbi rfl rfl (by omega)|exact Zco rfl rfl|exact Zdz rfl rfl|exact Zd0 rfl rfl|exact Za8 rfl rfl|exact Za9 rfl rfl|exact Za6 rfl rfl|exact Za7 rfl rfl|exact Zb1 rfl|exact Zca rfl rfl|exact Zcb rfl rfl|exact Zcv rfl rfl|exact Zcw rfl rfl|exact Zax rfl|exact Za3 rfl|exact Zay rfl|exact Zcl rfl rfl|exact Zb0 rfl|exact Zct|exact Zf3|exact Zar rfl|exact Zas rfl) ?_|(refine Zd4 ?_; refine Zc5 H rfl (by repeat constructor) rfl ?_)|(refine Zd5 ?_; (first|refine Zdb H rfl rfl (by repeat constructor) (by first|(simp only [wr_size, Array.size_setIfInBounds, List.size_toArray, List.length_cons, List.length_nil]; omega)|omega|(simp; done)|(simp; omega)) ?_|refine Zde H rfl rfl (by repeat constructor) (by first|(simp only [wr_size, Array.size_setIfInBounds, List.size_toArray, List.length_cons, List.length_nil]; omega)|omega|(simp; done)|(simp; omega)) ?_|refine Zdd H rfl rfl (by repeat constructor) (by first|(simp only [wr_size, Array.size_setIfInBounds, List.size_toArray, List.length_cons, List.length_nil]; omega)|omega|(simp; done)|(simp; omega)) ?_|refine Zdc H rfl rfl (by repeat constructor) (by first|(simp only [wr_size, Array.size_setIfInBounds, List.size_toArray, List.length_cons, List.length_nil]; omega)|omega|(simp; done)|(simp; omega)) ?_|refine Zda H rfl rfl rfl (by repeat constructor) (by first|(simp only [wr_size, Array.size_setIfInBounds, List.size_toArray, List.length_cons, List.length_nil]; omega)|omega|(simp; done)|(simp; omega)) ?_); clear H; intro w H))|(refine Zd6 ?_; first|refine Zd9 ?_|refine Zeb ?_|refine Zeh ?_|refine Zef ?_|refine Zed ?_|refine Zec ?_|refine Zee ?_|refine Zeg ?_|(refine Zd7 ?_; first|refine Zao rfl ?_|refine Zap rfl ?_))|(first|refine Zei ?_|refine Zej ?_|refine Zek ?_|refine Zel ?_|refine Zen ?_|refine Zem ?_|refine Zeo rfl ?_|refine Zep ?_|refine Zeq ?_|refine Zes ?_|refine Zet ?_)|refine Zd8 ?_)
            refine Zeu (i + 1, a, k) (by simp only []; omega) ⟨by simp only []; omega, again ?_ H.drop⟩ ⟨rfl, rfl, trivial⟩
            unfold HostS.spoil1
            rw [if_neg hk0, if_neg hk1, if_pos hk2, if_neg hB]
        · have hk2 : ¬ f.kind = 2 := hB
          repeat (first|(refine Zd1 ?_; first|refine Zcx ?_|(refine Zd3 ?_; first|refine Zc0 rfl ?_|refine Zc1 rfl ?_|refine Zc2 rfl ?_)|refine Zcz (by first|exact Zat rfl|exact Zav rfl|exact Zaw rfl|exact Zaz rfl|exact Za2 rfl|exact Za1 rfl|exact Zau rfl|exact Za0 rfl|exact Zba rfl|exact Zce rfl (by omega)|exact Zbn rfl rfl|exact Zbr rfl rfl|exact Zbs rfl rfl|exact Zbq rfl rfl|exact Zbp rfl rfl|exact Zbo rfl rfl|exact Zcr rfl|exact Zbg rfl rfl (by omega)|exact Zbh rfl rfl (by omega)|exact Zbi rfl rfl (by omega)|exact Zco rfl rfl|exact Zdz rfl rfl|exact Zd0 rfl rfl|exact Za8 rfl rfl|exact Za9 rfl rfl|exact Za6 rfl rfl|exact Za7 rfl rfl|exact Zb1 rfl|exact Zca rfl rfl|exact Zcb rfl rfl|exact Zcv rfl rfl|exact Zcw rfl rfl|exact Zax rfl|exact Za3 rfl|exact Zay rfl|exact Zcl rfl rfl|exact Zb0 rfl|exact Zct|exact Zf3|exact Zar rfl|exact Zas rfl) ?_|(refine Zd4 ?_; refine Zc5 H rfl (by repeat constructor) rfl ?_)|(refine Zd5 ?_; (first|refine Zdb H rfl rfl (by repeat constructor) (by first|(simp only [wr_size, Array.size_setIfInBounds, List.size_toArray, List.length_cons, List.length_nil]; omega)|omega|(simp; done)|(simp; omega)) ?_|refine Zde H rfl rfl (by repeat constructor) (by first|(simp only [wr_size, Array.size_setIfInBounds, List.size_toArray, List.length_cons, List.length_nil]; omega)|omega|(simp; done)|(simp; omega)) ?_|refine Zdd H rfl rfl (by repeat constructor) (by first|(simp only [wr_size, Array.size_setIfInBounds, List.size_toArray, List.length_cons, List.length_nil]; omega)|omega|(simp; done)|(simp; omega)) ?_|refine Zdc H rfl rfl (by repeat constructor) (by first|(simp only [wr_size, Array.size_setIfInBounds, List.size_toArray, List.length_cons, List.length_nil]; omega)|omega|(simp; done)|(simp; omega)) ?_|refine Zda H rfl rfl rfl (by repeat constructor) (by first|(simp only [wr_size, Array.size_setIfInBounds, List.size_toArray, List.length_cons, List.length_nil]; omega)|omega|(simp; done)|(simp; omega)) ?_); clear H; intro w H))|(refine Zd6 ?_; first|refine Zd9 ?_|refine Zeb ?_|refine Zeh ?_|refine Zef ?_|refine Zed ?_|refine Zec ?_|refine Zee ?_|refine Zeg ?_|(refine Zd7 ?_; first|refine Zao rfl ?_|refine Zap rfl ?_))|(first|refine Zei ?_|refine Zej ?_|refine Zek ?_|refine Zel ?_|refine Zen ?_|refine Zem ?_|refine Zeo rfl ?_|refine Zep ?_|refine Zeq ?_|refine Zes ?_|refine Zet ?_)|refine Zd8 ?_)
          refine Zeu (i + 1, a, k) (by simp only []; omega) ⟨by simp only []; omega, again ?_ H.drop⟩ ⟨rfl, rfl, trivial⟩
          unfold HostS.spoil1
          rw [if_neg hk0, if_neg hk1, if_neg hk2]
  · simp only [Int.ofNat_lt] at hB
    repeat (first|(refine Zd1 ?_; first|refine Zcx ?_|(refine Zd3 ?_; first|refine Zc0 rfl ?_|refine Zc1 rfl ?_|refine Zc2 rfl ?_)|refine Zcz (by first|exact Zat rfl|exact Zav rfl|exact Zaw rfl|exact Zaz rfl|exact Za2 rfl|exact Za1 rfl|exact Zau rfl|exact Za0 rfl|exact Zba rfl|exact Zce rfl (by omega)|exact Zbn rfl rfl|exact Zbr rfl rfl|exact Zbs rfl rfl|exact Zbq rfl rfl|exact Zbp rfl rfl|exact Zbo rfl rfl|exact Zcr rfl|exact Zbg rfl rfl (by omega)|exact Zbh rfl rfl (by omega)|exact Zbi rfl rfl (by omega)|exact Zco rfl rfl|exact Zdz rfl rfl|exact Zd0 rfl rfl|exact Za8 rfl rfl|exact Za9 rfl rfl|exact Za6 rfl rfl|exact Za7 rfl rfl|exact Zb1 rfl|exact Zca rfl rfl|exact Zcb rfl rfl|exact Zcv rfl rfl|exact Zcw rfl rfl|exact Zax rfl|exact Za3 rfl|exact Zay rfl|exact Zcl rfl rfl|exact Zb0 rfl|exact Zct|exact Zf3|exact Zar rfl|exact Zas rfl) ?_|(refine Zd4 ?_; refine Zc5 H rfl (by repeat constructor) rfl ?_)|(refine Zd5 ?_; (first|refine Zdb H rfl rfl (by repeat constructor) (by first|(simp only [wr_size, Array.size_setIfInBounds, List.size_toArray, List.length_cons, List.length_nil]; omega)|omega|(simp; done)|(simp; omega)) ?_|refine Zde H rfl rfl (by repeat constructor) (by first|(simp only [wr_size, Array.size_setIfInBounds, List.size_toArray, List.length_cons, List.length_nil]; omega)|omega|(simp; done)|(simp; omega)) ?_|refine Zdd H rfl rfl (by repeat constructor) (by first|(simp only [wr_size, Array.size_setIfInBounds, List.size_toArray, List.length_cons, List.length_nil]; omega)|omega|(simp; done)|(simp; omega)) ?_|refine Zdc H rfl rfl (by repeat constructor) (by first|(simp only [wr_size, Array.size_setIfInBounds, List.size_toArray, List.length_cons, List.length_nil]; omega)|omega|(simp; done)|(simp; omega)) ?_|refine Zda H rfl rfl rfl (by repeat constructor) (by first|(simp only [wr_size, Array.size_setIfInBounds, List.size_toArray, List.length_cons, List.length_nil]; omega)|omega|(simp; done)|(simp; omega)) ?_); clear H; intro w H))|(refine Zd6 ?_; first|refine Zd9 ?_|refine Zeb ?_|refine Zeh ?_|refine Zef ?_|refine Zed ?_|refine Zec ?_|refine Zee ?_|refine Zeg ?_|(refine Zd7 ?_; first|refine Zao rfl ?_|refine Zap rfl ?_))|(first|refine Zei ?_|refine Zej ?_|refine Zek ?_|refine Zel ?_|refine Zen ?_|refine Zem ?_|refine Zeo rfl ?_|refine Zep ?_|refine Zeq ?_|refine Zes ?_|refine Zet ?_)|refine Zd8 ?_)
    first|refine Ze6 rfl ?_|refine Ze7 rfl ?_|refine Ze8 rfl ?_|refine Ze9 rfl ?_|refine Zfa rfl rfl ?_|refine Zfb rfl rfl ?_|refine Zfc rfl rfl ?_|refine Ze2 ?_|refine Ze3 ?_
    refine ⟨_, _, rfl, ?_⟩
    have : fl.take i = fl := List.take_of_length_le (by omega)
    rw [this] at H
    exact H
end Go.Sl
