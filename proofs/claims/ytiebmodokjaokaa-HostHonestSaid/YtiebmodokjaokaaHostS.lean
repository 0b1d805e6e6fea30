/- host: what a host is and does, in plain Lean. -/
namespace Go.Sl.HostS

structure Fault where
  (at_ kind page byte by_ back : Int)
structure Touch where
  (op page len : Int)
  head : List Int
abbrev Bytes := List Int

structure HS where
  pages : Int
  size : Nat
  lay : Int → List Bytes
  reg : Int
  coming : Int → List Fault
  ops : Nat
  log : List Touch
  down : Bool

def setF {α : Type} (f : Int → α) (k : Int) (x : α) : Int → α := fun k' => if k' = k then x else f k'

/-- What lay on a page so many writes ago. -/
def back (s : HS) (page writes : Int) : Bytes :=
  let l := s.lay page
  let at_ : Int := (l.length : Int) - 1 - max writes 0
  if 0 ≤ at_ then l.getD at_.toNat [] else List.replicate s.size 0
def there (s : HS) (page : Int) : Prop := 0 ≤ page ∧ page < s.pages
instance (s : HS) (page : Int) : Decidable (there s page) := inferInstanceAs (Decidable (_ ∧ _))
/-- The first twelve bytes. -/
def headOf (b : Bytes) : List Int := b.take 12 ++ List.replicate (12 - b.length) 0
def touchOf (s : HS) (op page : Int) (b : Bytes) : Touch :=
  if op = 1 then ⟨1, page, s.size, headOf b⟩
  else if op = 0 then ⟨0, page, s.size, List.replicate 12 0⟩
  else ⟨op, 0, 8, List.replicate 12 0⟩
structure FOk (f : Fault) : Prop where
  b0 : -9223372036854775808 ≤ f.back
  b1 : f.back ≤ 9223372036854775807
structure Ok (s : HS) : Prop where
  p0 : 0 ≤ s.pages
  p1 : s.pages ≤ 65536
  z0 : 1 ≤ s.size
  z1 : s.size ≤ 4124
  row : ∀ p, ∀ r ∈ s.lay p, r.length = s.size
  many : ∀ p, (s.lay p).length ≤ s.ops
  log : s.log.length ≤ s.ops
  flt : ∀ k, ∀ f ∈ s.coming k, FOk f
  fln : ∀ k, (s.coming k).length ≤ 2932031007401
def xor8 (a b : Int) : Int := ((BitVec.ofInt 8 a ^^^ BitVec.ofInt 8 b).toNat : Int)
/-- What a read answers. -/
def spoil1 (s : HS) (page : Int) (b : Bytes) (f : Fault) : Bytes :=
  if f.kind = 0 then (if 0 ≤ f.byte ∧ f.byte < (b.length : Int) then b.set f.byte.toNat (xor8 (b.getD f.byte.toNat 0) f.by_) else b)
  else if f.kind = 1 then back s page f.back
  else if f.kind = 2 then (if there s f.page then back s f.page 0 else b)
  else b
def spoilt (s : HS) (page : Int) (l : List Fault) : Bytes := l.foldl (spoil1 s page) (back s page 0)
/-- The beginning of an operation: what befalls it is told. -/
def taken (s : HS) : HS := { s with coming := setF s.coming s.ops [], ops := s.ops + 1 }
/-- The operation is told. -/
def logged (s : HS) (op page : Int) (b : Bytes) : HS := { taken s with log := s.log ++ [touchOf s op page b] }
def before (fl : List Fault) : Bool := fl.any fun f => f.kind == 3
def behind (fl : List Fault) : Bool := fl.any fun f => f.kind == 4
/-- An operation: act is what it does. The answer: an error's number. -/
def does (s : HS) (op page : Int) (b : Bytes) (act : HS → HS) : HS × Int :=
  if s.down then (s, 110) else
  let fl := s.coming s.ops
  if before fl then ({ taken s with down := true }, 110) else
  let s2 := act (logged s op page b)
  if behind fl then ({ s2 with down := true }, 110) else (s2, 0)
/-- Is it done? -/
def done (s : HS) : Bool := !s.down && !before (s.coming s.ops)
def wrote (page : Int) (b : Bytes) (s : HS) : HS := { s with lay := setF s.lay page (s.lay page ++ [b]) }
def raised (v : Int) (s : HS) : HS := { s with reg := max s.reg v }
/-- What an operation answers, and the host behind it. -/
def readR (s : HS) (page : Int) : Bytes × Int × HS :=
  if there s page then
    let r := does s 0 page [] id
    if r.2 = 0 then (spoilt s page (s.coming s.ops), 0, r.1) else ([], r.2, r.1)
  else ([], 2, s)
def writeR (s : HS) (page : Int) (b : Bytes) : Int × HS :=
  if there s page then
    if b.length = s.size then
      let r := does s 1 page b (wrote page b)
      (r.2, r.1)
    else (4, s)
  else (2, s)
def askR (s : HS) : Int × Int × HS :=
  let r := does s 2 0 [] id
  if r.2 = 0 then (r.1.reg, 0, r.1) else (0, r.2, r.1)
def raiseR (s : HS) (v : Int) : Int × HS :=
  let r := does s 3 0 [] (raised v)
  (if r.2 = 0 ∧ ¬ v > s.reg then 111 else r.2, r.1)
/-- A new host. -/
def comes (fl : List Fault) : Int → List Fault := fun k => fl.filter fun f => f.at_ == k
def fresh (pages : Int) (size : Nat) (fl : List Fault) : HS := ⟨pages, size, fun _ => [], 0, comes fl, 0, [], false⟩
def kindly (f : Fault) : Bool := decide (0 ≤ f.kind) && decide (f.kind ≤ 4)
def mayBe (pages size : Int) (fl : List Fault) : Prop := (0 ≤ pages ∧ pages ≤ 65536 ∧ 1 ≤ size ∧ size ≤ 4124) ∧ fl.all kindly = true
/-- A step of a script, and what it is told. -/
structure Step where
  (do_ page v : Int)
  data : Bytes
def liesR (s : HS) (page : Int) : Bytes := if there s page then back s page 0 else []
def toldR (s : HS) (t : Step) : (Bytes × Int × Int) × HS :=
  if t.do_ = 1 then (((readR s t.page).1, 0, (readR s t.page).2.1), (readR s t.page).2.2)
  else if t.do_ = 2 then (([], 0, (writeR s t.page t.data).1), (writeR s t.page t.data).2)
  else if t.do_ = 3 then (([], (askR s).1, (askR s).2.1), (askR s).2.2)
  else if t.do_ = 4 then (([], 0, (raiseR s t.v).1), (raiseR s t.v).2)
  else if t.do_ = 5 then (([], 0, 0), { s with down := false })
  else if t.do_ = 7 then ((liesR s t.page, 0, 0), s)
  else (([], 0, 0), s)
end Go.Sl.HostS
