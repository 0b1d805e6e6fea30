/- Parts of the proof, joined: EngT, EngU, EngV, EngW, EngY, EngZ, Ty, TyB, RefA, RefB, EngK, TagA, TagS. -/
import Derived.Test.YtiebmodokjaokabLawTagPlaysM0
import Derived.Laws.Bits64
import Derived.Laws.BitsLemmas
import Derived.Laws.BitsAllLaws
import Derived.OpenShut
import Derived.Test.YtiebmodokjaokabProg
import Derived.Test.YtiebmodokjaokabRows
import Derived.Laws.Externs
import Derived.Lib.Mul64
/- The engine over pieces alone: one operation behind the other. -/
set_option linter.unusedVariables false
set_option linter.unusedSimpArgs false
namespace Go.Sl
open Go
attribute [local irreducible] cl pt own old

section
variable {P : Program} {w0 : World} {ops : Array Oper} {dst : Option Nat} {ty T E : TypeId} {pos : String} {after : Array Edge} {rest l : List Oper} {ρ : Env} {K : XK} {M M' M2 : List Asrt} {x y : Operand} {b o : Nat} {c c' : Array Value}
theorem Zhg {op : Op} {v : Value} (h : PV P op ρ v) (k : xOps P w0 ops rest (put ρ dst v) M K) : xOps P w0 ops (⟨dst, op, ty, pos, after, none⟩ :: rest) ρ M K :=
  fun F w H => Zcz h (k F w H)
theorem Zhh {op : Op} {j : Nat} {b : Bool} (hg : yl ops ρ j = some b) (h : xOps P w0 ops (⟨dst, op, ty, pos, after, none⟩ :: rest) ρ M K) : xOps P w0 ops (⟨dst, op, ty, pos, after, some (j, b)⟩ :: rest) ρ M K :=
  fun F w H => Zc0 hg (h F w H)
theorem Zhi {op : Op} {j : Nat} {b : Bool} (hg : yl ops ρ j = some (!b)) (h : xOps P w0 ops rest (put ρ dst undef) M K) : xOps P w0 ops (⟨dst, op, ty, pos, after, some (j, b)⟩ :: rest) ρ M K :=
  fun F w H => Zc1 hg (h F w H)
theorem Zhj {op : Op} {j : Nat} {b : Bool} (hg : yl ops ρ j = none) (h : xOps P w0 ops rest (put ρ dst undef) M K) : xOps P w0 ops (⟨dst, op, ty, pos, after, some (j, b)⟩ :: rest) ρ M K :=
  fun F w H => Zc2 hg (h F w H)
/-- A test split, or known. -/
theorem Zhk (d : Nat) {p : Prop} [Decidable p] (hd : ρ d = .bool (decide p)) (h1 : p → xOps P w0 ops l (put ρ (some d) (.bool true)) M K) (h2 : ¬ p → xOps P w0 ops l (put ρ (some d) (.bool false)) M K) : xOps P w0 ops l ρ M K :=
  fun F w H => Zc3 d hd (fun hp => h1 hp F w H) (fun hp => h2 hp F w H)
theorem Zhl (d : Nat) {t : Bool} (hd : ρ d = .bool t) (h1 : t = true → xOps P w0 ops l (put ρ (some d) (.bool true)) M K) (h2 : t = false → xOps P w0 ops l (put ρ (some d) (.bool false)) M K) : xOps P w0 ops l ρ M K :=
  fun F w H => Zc4 d hd (fun hp => h1 hp F w H) (fun hp => h2 hp F w H)
theorem Zhm (d : Nat) {t : Bool} (hd : ρ d = .bool t) (e : t = true) (h : xOps P w0 ops l (put ρ (some d) (.bool true)) M K) : xOps P w0 ops l ρ M K := by
  subst e; rwa [put_self hd] at h
theorem Zhn (d : Nat) {t : Bool} (hd : ρ d = .bool t) (e : t = false) (h : xOps P w0 ops l (put ρ (some d) (.bool false)) M K) : xOps P w0 ops l ρ M K := by
  subst e; rwa [put_self hd] at h
/-- What a slot holds, said otherwise. -/
theorem Zho (d : Nat) {v u : Value} (hd : ρ d = v) (e : v = u) (h : xOps P w0 ops l (put ρ (some d) u) M K) : xOps P w0 ops l ρ M K := by
  subst e; rwa [put_self hd] at h

-- loads
theorem Zhp [hs : TyScal P T] {v : Value} (hx : ev ρ x = .pointer (some ⟨b, o, none⟩)) (hm : Has M (cl b c E) M') (hv : c[o]? = some v) (k : xOps P w0 ops rest (put ρ dst v) M K) :
    xOps P w0 ops (⟨dst, .load T x, ty, pos, after, none⟩ :: rest) ρ M K := fun F w H => Zc5 H hx (.there hm) hv (k F w H)
theorem Zhq [hs : TyAggr P T] {n by' : Nat} {z : Value} {cs : Array Value} [hi : TyI P T n by' z] (hx : ev ρ x = .pointer (some ⟨b, o, none⟩)) (hm : Has M (cl b c E) M') (hv : o + n ≤ c.size) (hc : c.extract o (o + n) = cs) (k : xOps P w0 ops rest (put ρ dst (.agg cs)) M K) :
    xOps P w0 ops (⟨dst, .load T x, ty, pos, after, none⟩ :: rest) ρ M K := fun F w H => Zc7 H hx (.there hm) hv (by rw [hc]; exact k F w H)
theorem Zhr [hs : TyAggr P T] {n by' : Nat} {z : Value} [hi : TyI P T n by' z] (hx : ev ρ x = .pointer (some ⟨b, 0, none⟩)) (hm : Has M (cl b c E) M') (hv : c.size = n) (k : xOps P w0 ops rest (put ρ dst (.agg c)) M K) :
    xOps P w0 ops (⟨dst, .load T x, ty, pos, after, none⟩ :: rest) ρ M K := fun F w H => Zdf H hx (.there hm) hv (k F w H)
-- stores
theorem Zhs {by' : Nat} {z v : Value} [hi : TyI P T 1 by' z] (hx : ev ρ x = .pointer (some ⟨b, o, none⟩)) (hy : ev ρ y = v) (h1 : oneC v = true) (hm : Repl M (cl b c E) (cl b c' E) M2) (hv : o < c.size) (hc : c.setIfInBounds o v = c')
    (k : xOps P w0 ops rest (put ρ dst undef) M2 K) : xOps P w0 ops (⟨dst, .store T x y, ty, pos, after, none⟩ :: rest) ρ M K := by
  subst hc; exact fun F w H => Zda H hx hy h1 (.there hm) hv (fun w' H' => k F w' H')
theorem Zht {by' : Nat} {z : Value} {kk : IntKind} {v : Int} [hi : TyI P T 1 by' z] (hx : ev ρ x = .pointer (some ⟨b, o, none⟩)) (hy : ev ρ y = .int kk v) (hm : Repl M (cl b c E) (cl b c' E) M2) (hv : o < c.size) (hc : c.setIfInBounds o (.int kk v) = c')
    (k : xOps P w0 ops rest (put ρ dst undef) M2 K) : xOps P w0 ops (⟨dst, .store T x y, ty, pos, after, none⟩ :: rest) ρ M K := Zhs hx hy rfl hm hv hc k
theorem Zhu {by' : Nat} {z : Value} {v : Bool} [hi : TyI P T 1 by' z] (hx : ev ρ x = .pointer (some ⟨b, o, none⟩)) (hy : ev ρ y = .bool v) (hm : Repl M (cl b c E) (cl b c' E) M2) (hv : o < c.size) (hc : c.setIfInBounds o (.bool v) = c')
    (k : xOps P w0 ops rest (put ρ dst undef) M2 K) : xOps P w0 ops (⟨dst, .store T x y, ty, pos, after, none⟩ :: rest) ρ M K := Zhs hx hy rfl hm hv hc k
theorem Zhv {by' : Nat} {z : Value} {v : Option Addr} [hi : TyI P T 1 by' z] (hx : ev ρ x = .pointer (some ⟨b, o, none⟩)) (hy : ev ρ y = .pointer v) (hm : Repl M (cl b c E) (cl b c' E) M2) (hv : o < c.size) (hc : c.setIfInBounds o (.pointer v) = c')
    (k : xOps P w0 ops rest (put ρ dst undef) M2 K) : xOps P w0 ops (⟨dst, .store T x y, ty, pos, after, none⟩ :: rest) ρ M K := Zhs hx hy rfl hm hv hc k
theorem Zhw {by' : Nat} {z : Value} {v : Option Addr} {l cc : Nat} [hi : TyI P T 1 by' z] (hx : ev ρ x = .pointer (some ⟨b, o, none⟩)) (hy : ev ρ y = .slice v l cc) (hm : Repl M (cl b c E) (cl b c' E) M2) (hv : o < c.size) (hc : c.setIfInBounds o (.slice v l cc) = c')
    (k : xOps P w0 ops rest (put ρ dst undef) M2 K) : xOps P w0 ops (⟨dst, .store T x y, ty, pos, after, none⟩ :: rest) ρ M K := Zhs hx hy rfl hm hv hc k
theorem Zhx {n by' : Nat} {z : Value} {vs : Array Value} [hi : TyI P T n by' z] (hx : ev ρ x = .pointer (some ⟨b, o, none⟩)) (hy : ev ρ y = .agg vs) (hm : Repl M (cl b c E) (cl b c' E) M2) (hn : vs.size = n) (h1 : vs.toList.all oneC = true) (hv : o + n ≤ c.size) (hc : wr c o vs.toList = c')
    (k : xOps P w0 ops rest (put ρ dst undef) M2 K) : xOps P w0 ops (⟨dst, .store T x y, ty, pos, after, none⟩ :: rest) ρ M K := by
  subst hc; exact fun F w H => Zdg H hx hy hn h1 (.there hm) hv (fun w' H' => k F w' H')
theorem Zhy {n by' : Nat} {z : Value} {vs : Array Value} [hi : TyI P T n by' z] (hx : ev ρ x = .pointer (some ⟨b, 0, none⟩)) (hy : ev ρ y = .agg vs) (hm : Repl M (cl b c E) (cl b vs E) M2) (hn : vs.size = n) (h1 : vs.toList.all oneC = true) (hv : c.size = n)
    (k : xOps P w0 ops rest (put ρ dst undef) M2 K) : xOps P w0 ops (⟨dst, .store T x y, ty, pos, after, none⟩ :: rest) ρ M K :=
  fun F w H => Zdh H hx hy hn h1 (.there hm) hv (fun w' H' => k F w' H')
-- new blocks
theorem Zhz {n by' : Nat} {z : Value} {cs : Array Value} [hi : TyI P T n by' z] (hz : z.cells = cs) (k : ∀ b, xOps P w0 ops rest (put ρ dst (.pointer (some ⟨b, 0, none⟩))) (cl b cs T :: M) K) :
    xOps P w0 ops (⟨dst, .alloc T, ty, pos, after, none⟩ :: rest) ρ M K := by
  subst hz; exact fun F w H => Zdi H (fun w' b H' => k b F w' H'.swap)
theorem Zh0 {v : Value} {cs : Array Value} (hx : ev ρ x = v) (hz : v.cells = cs) (k : ∀ b, xOps P w0 ops rest (put ρ dst (.pointer (some ⟨b, 0, none⟩))) (cl b cs T :: M) K) :
    xOps P w0 ops (⟨dst, .box T x, ty, pos, after, none⟩ :: rest) ρ M K := by
  subst hz; exact fun F w H => Zdj H hx (fun w' b H' => k b F w' H'.swap)
theorem Zh1 {kk : IntKind} {n : Int} (hx : ev ρ x = .int kk n) (k : ∀ b, xOps P w0 ops rest (put ρ dst (.pointer (some ⟨b, 0, none⟩))) (cl b #[.int kk n] T :: M) K) :
    xOps P w0 ops (⟨dst, .box T x, ty, pos, after, none⟩ :: rest) ρ M K := Zh0 hx rfl k
theorem Zh2 {n : Bool} (hx : ev ρ x = .bool n) (k : ∀ b, xOps P w0 ops rest (put ρ dst (.pointer (some ⟨b, 0, none⟩))) (cl b #[.bool n] T :: M) K) :
    xOps P w0 ops (⟨dst, .box T x, ty, pos, after, none⟩ :: rest) ρ M K := Zh0 hx rfl k
theorem Zh3 {n : Option Addr} (hx : ev ρ x = .pointer n) (k : ∀ b, xOps P w0 ops rest (put ρ dst (.pointer (some ⟨b, 0, none⟩))) (cl b #[.pointer n] T :: M) K) :
    xOps P w0 ops (⟨dst, .box T x, ty, pos, after, none⟩ :: rest) ρ M K := Zh0 hx rfl k
theorem Zh4 {n : Option Addr} {l cc : Nat} (hx : ev ρ x = .slice n l cc) (k : ∀ b, xOps P w0 ops rest (put ρ dst (.pointer (some ⟨b, 0, none⟩))) (cl b #[.slice n l cc] T :: M) K) :
    xOps P w0 ops (⟨dst, .box T x, ty, pos, after, none⟩ :: rest) ρ M K := Zh0 hx rfl k
theorem Zh5 {cs : Array Value} (hx : ev ρ x = .agg cs) (k : ∀ b, xOps P w0 ops rest (put ρ dst (.pointer (some ⟨b, 0, none⟩))) (cl b cs T :: M) K) :
    xOps P w0 ops (⟨dst, .box T x, ty, pos, after, none⟩ :: rest) ρ M K := Zh0 hx rfl k
theorem Zh6 {n by' : Nat} {z : Value} {len cap : Nat} [hs : TySlice P T E] [hi : TyI P E n by' z] (hl : ev ρ x = .int .i64 len) (hc : ev ρ y = .int .i64 cap) (hle : len ≤ cap) (hcap : cap ≤ 9223372036854775807) (hb : cap * by' ≤ 281474976710656) (h0 : 0 < n)
    (k : ∀ b, xOps P w0 ops rest (put ρ dst (.slice (some ⟨b, 0, none⟩) len cap)) (cl b (List.replicate cap z.cells.toList).flatten.toArray E :: M) K) :
    xOps P w0 ops (⟨dst, .makeSlice T x y, ty, pos, after, none⟩ :: rest) ρ M K := fun F w H => Zdk H hl hc hle hcap hb h0 (fun w' b H' => k b F w' H'.swap)
theorem Zh7 {n by' : Nat} {z : Value} {len : Nat} {ps : Array (Nat × Operand)} {cs : Array Value} [hs : TySlice P T E] [hi : TyI P E n by' z] (hlen : len * n ≤ 16777216) (h0 : 0 < n)
    (hf : Instr.fill (fun i => some (i * n, n)) (List.replicate len z.cells.toList).flatten.toArray (partsV ρ ps) = some cs)
    (k : ∀ b, xOps P w0 ops rest (put ρ dst (.slice (some ⟨b, 0, none⟩) len len)) (cl b cs E :: M) K) :
    xOps P w0 ops (⟨dst, .buildSlice T len ps, ty, pos, after, none⟩ :: rest) ρ M K := fun F w H => Zdl H hlen h0 hf (fun w' b H' => k b F w' H'.swap)
-- calls
theorem Zh8 {F : FuncId} {f : Operand} {ars : Array Operand} {ts : Array TypeId} {fi ca : Array Value} {vs : List Value} {M1 R : List Asrt} {Φ : Value → List Asrt → Prop} (hf : ev ρ f = .func (.func F) fi ca) (hb : callable P F = true)
    (hc : Con P F vs M1 Φ) (ha : argL ρ fi ars ca = vs) (hs : Take M M1 R) (k : ∀ v M', Φ v M' → xOps P w0 ops rest (put ρ dst v) (M' ++ R) K) :
    xOps P w0 ops (⟨dst, .call { callee := .value f, args := ars, argTypes := ts }, ty, pos, after, none⟩ :: rest) ρ M K := by
  intro F' w H
  have H1 : St w0 w (F' :: (M1 ++ R)) := H.enx hs.ent
  have H2 : St w0 w (all (F' :: R) :: M1) := by
    refine H1.ent (Imp.trans (Imp.cons Imp.app) (Imp.trans Imp.swap ?_))
    have h3 : Imp (all M1 :: (F' :: R)) ((F' :: R) ++ [all M1]) := Imp.comm (L := [all M1]) (M := F' :: R)
    refine h3.trans (Imp.app.trans (Imp.cons ?_))
    have := Imp.unapp (L := M1) (M := [])
    rwa [List.append_nil] at this
  refine Zdp hf hb (hc w0 _ w H2) ha ?_
  rintro v w' ⟨M', H', hφ⟩
  exact k v M' hφ F' w' (H'.ent (Imp.unapp.trans (Imp.cons Imp.comm)))
/-- A function that the model itself answers. -/
def extv (P : Program) (F : FuncId) (args : List Value) (v : Value) : Prop := ∀ w, (callFunc F args.toArray).run P w = .ok (.value v) w
theorem Zh9 {F : FuncId} {f : Operand} {ars : Array Operand} {ts : Array TypeId} {fi ca : Array Value} {vs : List Value} {v : Value} (hf : ev ρ f = .func (.func F) fi ca) (h : extv P F vs v) (ha : argL ρ fi ars ca = vs) :
    PV P (.call { callee := .value f, args := ars, argTypes := ts }) ρ v := by
  intro oo w ho
  unfold execOp
  subst ha
  simp only [ho, resolve, hf, Deferred.ofValue, pure_bind, invoke]
  have : fi ++ Array.map (ev ρ) ars ++ ca = (argL ρ fi ars ca).toArray := by
    apply Array.ext'
    simp [argL]
  rw [this]
  exact h w
-- slices
/-- Among the pieces M the slice v has n elements, of the cells xs. -/
def Rd (M : List Asrt) (size : Nat) (v : Value) (n : Nat) (xs : List Value) : Prop := ∀ w0 F w, St w0 w (F :: M) → SlW w size v n xs
theorem Rd.own {size n : Nat} {v : Value} {xs : List Value} (hm : Has M (own E size v n xs) M') : Rd M size v n xs := fun _ _ _ H => (H.pick (.there hm)).own_sl
theorem Rd.old {W : World} {size n : Nat} {v : Value} {xs : List Value} (hm : Has M (old W) M') (h : SlW W size v n xs) : Rd M size v n xs := fun _ _ _ H => (H.pick (.there hm)).old_sl h
theorem Rd.cl {size n k : Nat} {xs : List Value} (hm : Has M (cl b c E) M') (hx : xs.length = n * size) (hle : o + n * size ≤ c.size) (h : (c.extract o (o + n * size)).toList = xs) : Rd M size (.slice (some ⟨b, o, none⟩) n k) n xs :=
  fun _ _ _ H => ⟨hx, .inr ⟨b, o, k, c, E, (0, 0), rfl, (H.pick (.there hm)).cl_get, hle, h⟩⟩
theorem Rd.nil {size k : Nat} {a : Option Addr} : Rd M size (.slice a 0 k) 0 [] := fun _ _ _ H => ⟨by simp, .inl ⟨a, k, rfl, rfl⟩⟩
theorem Rd.imp {size n : Nat} {v : Value} {xs : List Value} (h : Rd M size v n xs) (hi : Imp M' M) : Rd M' size v n xs := fun _ _ _ H => h _ _ _ (H.enx hi)
theorem Rd.someAt {w : World} {F : Asrt} {size n k : Nat} {a : Option Addr} {xs : List Value} (h : Rd M size (.slice a n k) n xs) (hn : 0 < n) (H : St w0 w (F :: M)) : ∃ b o, a = some ⟨b, o, none⟩ := (h _ _ _ H).isSome hn
theorem Rd.len {w : World} {F : Asrt} {size n : Nat} {v : Value} {xs : List Value} (h : Rd M size v n xs) (H : St w0 w (F :: M)) : ∃ a k, v = .slice a n k := SlW.len (h _ _ _ H)
theorem Zia {size by' n m T' E' : Nat} {z v sv : Value} {xs news : List Value} [hs : TySlice P T E] [hi : TyI P E size by' z] [ht : TySlice P T' E']
    (hx : ev ρ x = v) (hy : ev ρ y = sv) (hm : Has M (own E size v n xs) M') (hsl : Rd M size sv m news)
    (h1 : news.all oneC = true) (hby : by' ≠ 0) (hb : (n + m) * by' ≤ 140737488355328)
    (k : ∀ a' c', xOps P w0 ops rest (put ρ dst (.slice a' (n + m) c')) (own E size (.slice a' (n + m) c') (n + m) (xs ++ news) :: M') K) :
    xOps P w0 ops (⟨dst, .call { callee := .builtin .append, args := #[x, y], argTypes := #[T, T'] }, ty, pos, after, none⟩ :: rest) ρ M K :=
  fun F w H => Zfu H hx hy (.there hm) (hsl _ _ _ H) h1 hby hb (fun a' c' w' H' => k a' c' F w' H'.swap)
theorem Zib {size by' n dl dc T' : Nat} {z sv : Value} {xs : List Value} [hs : TySlice P T E] [hi : TyI P E size by' z] {E0 : Nat}
    (hx : ev ρ x = .slice (some ⟨b, o, none⟩) dl dc) (hy : ev ρ y = sv) (hsl : Rd M size sv n xs) (hm : Repl M (cl b c E0) (cl b c' E0) M2) (hle : o + dl * size ≤ c.size) (h1 : xs.all oneC = true) (hc : wr c o (xs.take (min n dl * size)) = c')
    (k : xOps P w0 ops rest (put ρ dst (.int .i64 (min n dl : Nat))) M2 K) :
    xOps P w0 ops (⟨dst, .call { callee := .builtin .copy, args := #[x, y], argTypes := #[T, T'] }, ty, pos, after, none⟩ :: rest) ρ M K :=
  fun F w H => Zfv H hx hy (hsl _ _ _ H) (.there hm) hle h1 hc (fun w' H' => k F w' H')
/-- An element of a slice, read. -/
theorem Zic {m k j : Nat} {xs : List Value} {v : Value} [hs : TyScal P T] (hx : ev ρ x = .pointer (some ⟨b, o + j, none⟩)) (HS : Rd M 1 (.slice (some ⟨b, o, none⟩) m k) m xs) (hj : j < m) (hv : xs[j]? = some v)
    (kk : xOps P w0 ops rest (put ρ dst v) M K) : xOps P w0 ops (⟨dst, .load T x, ty, pos, after, none⟩ :: rest) ρ M K := fun F w H => Zf5 hx (HS _ _ _ H) hj hv (kk F w H)
theorem Zid {k j sz by' : Nat} {z : Value} [hs : TyAggr P T] [hi : TyI P T sz by' z]
    {α : Type} {enc : α → List Value} {l : List α} (he : ∀ a, (enc a).length = sz) (hsz : 0 < sz) (hx : ev ρ x = .pointer (some ⟨b, o + j * sz, none⟩)) (HS : Rd M sz (.slice (some ⟨b, o, none⟩) l.length k) l.length (l.flatMap enc)) (hj : j < l.length)
    (kk : xOps P w0 ops rest (put ρ dst (.agg (enc l[j]).toArray)) M K) : xOps P w0 ops (⟨dst, .load T x, ty, pos, after, none⟩ :: rest) ρ M K := fun F w H => Zf9 he hsz hx (HS _ _ _ H) hj (kk F w H)
theorem Zie {k i j sz : Nat} {v : Value} [hs : TyScal P T]
    {α : Type} {enc : α → List Value} {l : List α} (he : ∀ a, (enc a).length = sz) (hsz : 0 < sz) (hx : ev ρ x = .pointer (some ⟨b, o + i * sz + j, none⟩)) (HS : Rd M sz (.slice (some ⟨b, o, none⟩) l.length k) l.length (l.flatMap enc)) (hi : i < l.length) (hj : j < sz) (hv : (enc l[i])[j]? = some v)
    (kk : xOps P w0 ops rest (put ρ dst v) M K) : xOps P w0 ops (⟨dst, .load T x, ty, pos, after, none⟩ :: rest) ρ M K := fun F w H => Zga he hsz hx (HS _ _ _ H) hi hj hv (kk F w H)
end
section maps
variable {P : Program} {w0 : World} {ops : Array Oper} {dst : Option Nat} {ty : TypeId} {pos : String} {after : Array Edge} {rest : List Oper} {ρ : Env} {K : XK} {M M' M2 : List Asrt}
variable {x y z' : Operand} {T Kt E b : Nat} {α : Type} {A : Value → α → Asrt} {d : α} {f : Int → α} {k : Int} {v : Value}
theorem Zif {α : Type} (A : Value → α → Asrt) (d : α) (kk : ∀ b, xOps P w0 ops rest (put ρ dst (.map (some b))) (omap b A d (fun _ => d) :: M) K) :
    xOps P w0 ops (⟨dst, .makeMap T none, ty, pos, after, none⟩ :: rest) ρ M K := fun F w H => Zfl H A d (fun w' b H' => kk b F w' H'.swap)
theorem Zig {by' : Nat} [hm : TyMap P T Kt E] [hk : TyInt P Kt .i64] [hz : TyI P E 1 by' (.slice none 0 0)] (hx : ev ρ x = .map (some b)) (hy : ev ρ y = .int .i64 k) (hh : Has M (ohole b A d f k v) M') (kk : xOps P w0 ops rest (put ρ dst v) M K) :
    xOps P w0 ops (⟨dst, .lookup T x y false, ty, pos, after, none⟩ :: rest) ρ M K := fun F w H => Zfm H hx hy (.there hh) (kk F w H)
theorem Zih [hm : TyMap P T Kt E] [hk : TyInt P Kt .i64] {v' : Value} (hx : ev ρ x = .map (some b)) (hy : ev ρ y = .int .i64 k) (hz : ev ρ z' = v') (hh : Repl M (ohole b A d f k v) (oheld b A d f k v') M2) (kk : xOps P w0 ops rest (put ρ dst undef) M2 K) :
    xOps P w0 ops (⟨dst, .mapUpdate T x y z', ty, pos, after, none⟩ :: rest) ρ M K := fun F w H => Zfo H hx hy hz (.there hh) (fun w' H' => kk F w' H')
theorem Zii {K2 : Nat} [hm : TyMap P T Kt E] [hk : TyInt P Kt .i64] (hx : ev ρ x = .map (some b)) (hy : ev ρ y = .int .i64 k) (hh : Repl M (ohole b A d f k v) (omap b A d (upd f k d)) M2) (kk : xOps P w0 ops rest (put ρ dst (.tuple #[])) M2 K) :
    xOps P w0 ops (⟨dst, .call { callee := .builtin .delete, args := #[x, y], argTypes := #[T, K2] }, ty, pos, after, none⟩ :: rest) ρ M K := fun F w H => Zfp H hx hy (.there hh) (fun w' H' => kk F w' H')
end maps
end Go.Sl

/- The engine over pieces alone: regions whose order is drawn. What only reads comes as soon as it may, what makes a block of its own as late as it may; of what does more, one at a time, or both orders. -/
set_option linter.unusedVariables false
set_option linter.unusedSimpArgs false
namespace Go.Sl
open Go

inductive Ord
  | nil
  | q (i : Nat) (r : Ord)
  | r (i : Nat) (r : Ord)
  | e (i : Nat) (n : Bool) (r : Ord)
  | a (i : Nat) (r : Ord)
  | alt (x y : Ord)

section
variable {P : Program} {ops : Array Oper} {w0 : World} {F0 : Asrt} {SM : List Asrt} {KW : Env → World → Prop}
def SMw (w0 : World) (SM : List Asrt) (w : World) : Prop := ∃ F, St w0 w (F :: SM)
def CX (P : Program) (w0 : World) (F0 : Asrt) (ops : Array Oper) (SM : List Asrt) (KW : Env → World → Prop) : Ord → Env → List Asrt → Prop
  | .nil, ρ, M => ∀ w, St w0 w (F0 :: M) → KW ρ w
  | .q i r, ρ, M => ∃ o v, ops[i]? = some o ∧ YS P ops (fun _ => True) o ρ v ∧ CX P w0 F0 ops SM KW r (put ρ o.dst v) M
  | .r i r, ρ, M => ∃ o v, ops[i]? = some o ∧ YS P ops (SMw w0 SM) o ρ v ∧ CX P w0 F0 ops SM KW r (put ρ o.dst v) M
  | .e i n r, ρ, M => ∃ o, ops[i]? = some o ∧ ∀ F w, St w0 w (F :: M) → denI P ops o ρ w (fun ρ' w' => ∃ M', St w0 w' (F :: M') ∧ (n = true → Imp M' SM) ∧ CX P w0 F0 ops SM KW r ρ' M')
  | .a i r, ρ, M => ∃ d T ty pos z, ops[i]? = some ⟨some d, .alloc T, ty, pos, #[], none⟩ ∧ (∃ n by', TyI P T n by' z) ∧ ∀ b, CX P w0 F0 ops SM KW r (put ρ (some d) (.pointer (some ⟨b, 0, none⟩))) (cl b z.cells T :: M)
  | .alt x y, ρ, M => CX P w0 F0 ops SM KW x ρ M ∧ CX P w0 F0 ops SM KW y ρ M

theorem CX_mono : ∀ (r : Ord) {ρ : Env} {M N : List Asrt}, Imp N M → CX P w0 F0 ops SM KW r ρ M → CX P w0 F0 ops SM KW r ρ N
  | .nil, ρ, M, N, hi, h => fun w H => h w (H.enx hi)
  | .q i r, ρ, M, N, hi, h => by obtain ⟨o, v, h1, h2, h3⟩ := h; exact ⟨o, v, h1, h2, CX_mono r hi h3⟩
  | .r i r, ρ, M, N, hi, h => by obtain ⟨o, v, h1, h2, h3⟩ := h; exact ⟨o, v, h1, h2, CX_mono r hi h3⟩
  | .e i n r, ρ, M, N, hi, h => by obtain ⟨o, h1, h2⟩ := h; exact ⟨o, h1, fun F w H => h2 F w (H.enx hi)⟩
  | .a i r, ρ, M, N, hi, h => by obtain ⟨d, T, ty, pos, z, h1, h2, h3⟩ := h; exact ⟨d, T, ty, pos, z, h1, h2, fun b => CX_mono r hi.cons (h3 b)⟩
  | .alt x y, ρ, M, N, hi, h => ⟨CX_mono x hi h.1, CX_mono y hi h.2⟩

theorem denI_apart' {o : Oper} {ρ : Env} {w : World} {d : Option Nat} {v : Value} {X : Env → World → Prop} (hs : ∀ cs b, o.op ≠ .select cs b) (h1 : ∀ k, d = some k → k ∉ o.looksAt ops) (h2 : ∀ k, d = some k → o.dst ≠ some k)
    (h : denI P ops o ρ w (fun ρ' w' => X (put ρ' d v) w')) : denI P ops o (put ρ d v) w X := by
  unfold denI at *
  rw [wanted_apart h1]
  split
  · rename_i hw
    rw [if_pos hw] at h
    unfold opW at *
    rw [exec_apart hs h1]
    cases hr : (execOp (ev ρ) o).run P w with
    | halt x w' => rw [hr] at h; exact h.elim
    | ok x w' =>
      rw [hr] at h
      cases x <;> simp only [After] at h ⊢ <;> first
        | (rw [put_comm h2]; exact h)
        | (refine Calls.mono h (Ret.mono fun u w'' hq => ?_)
           rw [put_comm h2]; exact hq)
        | exact h.elim
  · rename_i hw
    rw [if_neg hw] at h
    rw [put_comm h2]; exact h

theorem YS.apart' {S : World → Prop} {o : Oper} {ρ : Env} {v u : Value} {d : Option Nat} (hs : ∀ cs b, o.op ≠ .select cs b) (h1 : ∀ k, d = some k → k ∉ o.looksAt ops) (h : YS P ops S o ρ v) : YS P ops S o (put ρ d u) v := by
  unfold YS at *
  rw [wanted_apart h1, exec_apart hs h1]
  exact h
theorem TyI.zero_eq {T n n' by' by2 : Nat} {z z' : Value} (h : TyI P T n by' z) (h' : TyI P T n' by2 z') : z = z' := by
  obtain ⟨i, hi, _, _, hz⟩ := h.out
  obtain ⟨j, hj, _, _, hz'⟩ := h'.out
  rw [hi] at hj; cases hj
  rw [hz] at hz'; cases hz'; rfl

def del (a : Nat) : Ord → Ord
  | .nil => .nil
  | .q i r => .q i (del a r)
  | .r i r => .r i (del a r)
  | .e i n r => .e i n (del a r)
  | .a i r => bif Nat.beq i a then r else .a i (del a r)
  | .alt x y => .alt (del a x) (del a y)
/-- Nothing ahead of the making of a looks at its slot d, or writes it. -/
def apO (ops : Array Oper) (d i : Nat) : Bool := match ops[i]? with
  | some o => noSel o && !((o.looksAt ops).contains d) && (o.dst != some d)
  | none => false
def apA (ops : Array Oper) (d a : Nat) : Ord → Bool
  | .nil => false
  | .q i r => apO ops d i && apA ops d a r
  | .r i r => apO ops d i && apA ops d a r
  | .e i _ r => apO ops d i && apA ops d a r
  | .a i r => bif Nat.beq i a then true else (apO ops d i && apA ops d a r)
  | .alt x y => apA ops d a x && apA ops d a y
theorem apO_spec {d i : Nat} {o : Oper} (ho : ops[i]? = some o) (h : apO ops d i = true) : (∀ cs b, o.op ≠ .select cs b) ∧ (∀ k, some d = some k → k ∉ o.looksAt ops) ∧ (∀ k, some d = some k → o.dst ≠ some k) := by
  unfold apO at h
  rw [ho] at h
  simp only [Bool.and_eq_true, Bool.not_eq_true', bne_iff_ne, ne_eq] at h
  refine ⟨noSel_spec h.1.1, fun k hk => ?_, fun k hk => ?_⟩
  · cases hk; have := h.1.2; simpa using this
  · cases hk; exact h.2
theorem early {a d T : Nat} {ty : TypeId} {pos : String} {z : Value} {n by' : Nat} (ho : ops[a]? = some ⟨some d, .alloc T, ty, pos, #[], none⟩) (hz : TyI P T n by' z) (b : Nat) : ∀ (r : Ord) {ρ : Env} {M : List Asrt}, apA ops d a r = true →
    CX P w0 F0 ops SM KW r ρ M → CX P w0 F0 ops SM KW (del a r) (put ρ (some d) (.pointer (some ⟨b, 0, none⟩))) (cl b z.cells T :: M)
  | .nil, ρ, M, ha, h => by simp [apA] at ha
  | .q i r, ρ, M, ha, h => by
    simp only [apA, Bool.and_eq_true] at ha
    obtain ⟨o, v, h1, h2, h3⟩ := h
    obtain ⟨s1, s2, s3⟩ := apO_spec h1 ha.1
    refine ⟨o, v, h1, h2.apart' s1 s2, ?_⟩
    rw [put_comm s3]
    exact early ho hz b r ha.2 h3
  | .r i r, ρ, M, ha, h => by
    simp only [apA, Bool.and_eq_true] at ha
    obtain ⟨o, v, h1, h2, h3⟩ := h
    obtain ⟨s1, s2, s3⟩ := apO_spec h1 ha.1
    refine ⟨o, v, h1, h2.apart' s1 s2, ?_⟩
    rw [put_comm s3]
    exact early ho hz b r ha.2 h3
  | .e i m r, ρ, M, ha, h => by
    simp only [apA, Bool.and_eq_true] at ha
    obtain ⟨o, h1, h2⟩ := h
    obtain ⟨s1, s2, s3⟩ := apO_spec h1 ha.1
    refine ⟨o, h1, fun F w H => denI_apart' s1 s2 s3 ?_⟩
    have H2 : St w0 w (all [F, cl b z.cells T] :: M) := H.ent (Imp.app (L := [F, cl b z.cells T]))
    refine denI_mono ?_ (h2 _ w H2)
    rintro v w' ⟨M', H', hn, hk⟩
    exact ⟨cl b z.cells T :: M', H'.ent Imp.unapp, fun e => Imp.tail.trans (hn e), early ho hz b r ha.2 hk⟩
  | .a i r, ρ, M, ha, h => by
    obtain ⟨d', T', ty', pos', z', h1, h2, h3⟩ := h
    simp only [apA, del] at ha ⊢
    cases hia : Nat.beq i a with
    | true =>
      have e := Nat.eq_of_beq_eq_true hia
      subst e
      rw [ho] at h1
      cases h1
      obtain ⟨n', by2, hz'⟩ := h2
      have e := hz.zero_eq hz'
      subst e
      exact h3 b
    | false =>
      rw [hia] at ha
      simp only [cond_false, Bool.and_eq_true] at ha ⊢
      obtain ⟨s1, s2, s3⟩ := apO_spec h1 ha.1
      refine ⟨d', T', ty', pos', z', h1, h2, fun b' => ?_⟩
      have s3' : ∀ k, some d = some k → some d' ≠ some k := s3
      rw [put_comm s3']
      exact CX_mono _ Imp.swap (early ho hz b r ha.2 (h3 b'))
  | .alt x y, ρ, M, ha, h => by
    simp only [apA, Bool.and_eq_true] at ha
    exact ⟨early ho hz b x ha.1 h.1, early ho hz b y ha.2 h.2⟩

/-- i may be taken now: all that could come ahead of it leaves its slots alone. -/
def takeP (ops : Array Oper) (bef : Array Nat) (listed : Array Bool) (i : Nat) : Bool :=
  (List.range ops.size).all fun j => listed.getD j true || j == i || (bef.getD j 0).testBit i ||
    ((match ops[i]?, ops[j]? with|some oi, some oj => noSel oi && noSel oj && oi.apart ops oj|_, _ => false))
theorem takeP_set {bef : Array Nat} {listed : Array Bool} {i j : Nat} (h : takeP ops bef listed i = true) : takeP ops bef (listed.setIfInBounds j true) i = true := by
  refine List.all_eq_true.2 fun k hk => ?_
  have := List.all_eq_true.1 h k hk
  simp only [Bool.or_eq_true] at this ⊢
  rw [getD_set]
  split
  · exact .inl (.inl (.inl rfl))
  · exact this
variable {S : World → Prop} {need : Nat → Bool} {K : Env → World → Prop}
theorem denN_takeP {bef : Array Nat} (hb : befOk ops bef = true) {i : Nat} {o : Oper} {v : Value} (ho : ops[i]? = some o) : ∀ (f : Nat) (listed : Array Bool) (ρ : Env) (w : World), listed.size = ops.size → closed ops bef listed →
    i ∈ Region.ready .any ops listed → takeP ops bef listed i = true → (need i = true → ∀ w, S w) ∨ need i = false → YS P ops (fun _ => True) o ρ v → denN P ops S need f (listed.setIfInBounds i true) (put ρ o.dst v) w K → denN P ops S need (f + 1) listed ρ w K := by
  intro f
  induction f with
  | zero =>
    intro listed ρ w hsz hc hi ht hnd hy h
    refine ⟨fun e => (by rw [e] at hi; cases hi), fun j hj oj hoj => ?_⟩
    by_cases hji : j = i
    · subst hji
      rw [ho] at hoj; cases hoj
      have hS : need j = true → S w := fun e => by
        rcases hnd with h|h
        · exact h e w
        · rw [h] at e; cases e
      unfold denI
      cases hw : Region.wanted o (yl ops ρ) with
      | true =>
        rw [if_pos rfl]; unfold opW
        rw [hy.1 hw w trivial]
        exact ⟨hS, h⟩
      | false =>
        rw [if_neg (by simp)]
        rw [← hy.2 hw]
        exact ⟨hS, h⟩
    · have := ready_set (i := j) (j := i) hj (fun e => hji e.symm)
      rw [h.1] at this; cases this
  | succ f ih =>
    intro listed ρ w hsz hc hi ht hnd hy h
    refine ⟨fun e => (by rw [e] at hi; cases hi), fun j hj oj hoj => ?_⟩
    by_cases hji : j = i
    · subst hji
      rw [ho] at hoj; cases hoj
      have hS : need j = true → S w := fun e => by
        rcases hnd with h|h
        · exact h e w
        · rw [h] at e; cases e
      unfold denI
      cases hw : Region.wanted o (yl ops ρ) with
      | true =>
        rw [if_pos rfl]; unfold opW
        rw [hy.1 hw w trivial]
        exact ⟨hS, h⟩
      | false =>
        rw [if_neg (by simp)]
        rw [← hy.2 hw]
        exact ⟨hS, h⟩
    · have hjr := ready_spec hj
      have hir := ready_spec hi
      have htj := List.all_eq_true.1 ht j (by simpa using hjr.1)
      have hbj := closed_ready hsz hb hc hj hir.1 hir.2.1
      rw [hjr.2.1, hbj, ho, hoj] at htj
      simp only [Bool.false_or, Bool.or_eq_true, beq_iff_eq, hji, false_or, Bool.and_eq_true, Bool.false_eq_true, or_false] at htj
      obtain ⟨⟨hsi, hsj⟩, hap⟩ := htj
      have hap := Oper.apart_spec hap
      have hh := h.2 j (ready_set hj (fun e => hji e.symm)) oj hoj
      refine denI_mono ?_ (denI_apart (noSel_spec hsj) hap.1 hap.2.1 hh)
      intro u w' ⟨hSw, hk⟩
      refine ⟨hSw, ?_⟩
      refine ih (listed.setIfInBounds j true) (put ρ oj.dst u) w' (by simpa using hsz) (closed_set hsz hb hc hj) (ready_set hi hji) (takeP_set ht) hnd (hy.apart (noSel_spec hsi) hap.2.2) ?_
      rw [Array.setIfInBounds_comm _ _ hji]
      exact hk

def isFl (ops : Array Oper) (j : Nat) : Option Nat := match ops[j]? with
  | some ⟨some d, .alloc _, _, _, after, none⟩ => if after.size = 0 then some d else none
  | _ => none
def heads : Ord → List Nat
  | .e i _ _ => [i]
  | .a i _ => [i]
  | .alt x y => heads x ++ heads y
  | _ => []
def brs (ops : Array Oper) (nd : List Nat) (ck : Bool → Ord → Array Bool → Bool) (s : Bool) : Ord → Array Bool → Bool
  | .e i n r, listed => (nd.contains i == n) && ck n r (listed.setIfInBounds i true)
  | .a i r, listed => (isFl ops i).isSome && (!nd.contains i || s) && ck s r (listed.setIfInBounds i true)
  | .alt x y, listed => brs ops nd ck s x listed && brs ops nd ck s y listed
  | _, _ => false
/-- The order serves: nd tells behind which operations S holds, s whether it holds now. -/
def chkX (ops : Array Oper) (bef : Array Nat) (nd : List Nat) : Nat → Bool → Ord → Array Bool → Bool
  | 0, _, .nil, listed => (Region.ready .any ops listed).isEmpty
  | 0, _, _, _ => false
  | _ + 1, _, .nil, _ => false
  | f + 1, s, .q i r, listed => (Region.ready .any ops listed).contains i && takeP ops bef listed i && !nd.contains i && chkX ops bef nd f s r (listed.setIfInBounds i true)
  | f + 1, s, .r i r, listed => (Region.ready .any ops listed).contains i && s && takeOk ops bef nd.contains listed i && chkX ops bef nd f s r (listed.setIfInBounds i true)
  | f + 1, s, o, listed =>
    ((Region.ready .any ops listed).all fun j => (heads o).contains j || (match isFl ops j with
        | some d => apA ops d j o && (!nd.contains j || s) && chkX ops bef nd f s (del j o) (listed.setIfInBounds j true)
        | none => false)) &&
      !(Region.ready .any ops listed).isEmpty && brs ops nd (chkX ops bef nd f) s o listed
theorem isFl_spec {j d : Nat} (h : isFl ops j = some d) : ∃ T ty pos, ops[j]? = some ⟨some d, .alloc T, ty, pos, #[], none⟩ := by
  unfold isFl at h
  split at h
  · rename_i d' T ty pos after ho
    split at h
    · rename_i hz
      cases h
      have : after = #[] := Array.eq_empty_of_size_eq_zero hz
      subst this
      exact ⟨T, ty, pos, ho⟩
    · cases h
  · cases h
theorem brs_head {nd : List Nat} {ck : Bool → Ord → Array Bool → Bool} {s : Bool} {listed : Array Bool} {j : Nat} : ∀ (r : Ord) {ρ : Env} {M : List Asrt}, brs ops nd ck s r listed = true → (heads r).contains j = true → CX P w0 F0 ops SM KW r ρ M →
    (∃ n r', (nd.contains j == n) = true ∧ ck n r' (listed.setIfInBounds j true) = true ∧ CX P w0 F0 ops SM KW (.e j n r') ρ M) ∨
    (∃ r', (isFl ops j).isSome = true ∧ (!nd.contains j || s) = true ∧ ck s r' (listed.setIfInBounds j true) = true ∧ CX P w0 F0 ops SM KW (.a j r') ρ M)
  | .nil, ρ, M, hb, hj, h => by simp [heads] at hj
  | .q i r, ρ, M, hb, hj, h => by simp [heads] at hj
  | .r i r, ρ, M, hb, hj, h => by simp [heads] at hj
  | .e i n r, ρ, M, hb, hj, h => by
    simp only [heads, List.contains_cons, List.contains_nil, Bool.or_false, beq_iff_eq] at hj
    subst hj
    simp only [brs, Bool.and_eq_true] at hb
    exact .inl ⟨n, r, hb.1, hb.2, h⟩
  | .a i r, ρ, M, hb, hj, h => by
    simp only [heads, List.contains_cons, List.contains_nil, Bool.or_false, beq_iff_eq] at hj
    subst hj
    simp only [brs, Bool.and_eq_true] at hb
    exact .inr ⟨r, hb.1.1, hb.1.2, hb.2, h⟩
  | .alt x y, ρ, M, hb, hj, h => by
    simp only [brs, Bool.and_eq_true] at hb
    simp only [heads, List.contains_eq_mem, List.mem_append, decide_eq_true_eq] at hj
    rcases hj with hj|hj
    · exact brs_head x hb.1 (by simpa using hj) h.1
    · exact brs_head y hb.2 (by simpa using hj) h.2
theorem alloc_den {T d : Nat} {ty : TypeId} {pos : String} {z : Value} {n by' : Nat} {ρ : Env} {w : World} {L : List Asrt} {K : Env → World → Prop} (hz : TyI P T n by' z) (H : St w0 w L)
    (k : ∀ w' b, St w0 w' (cl b z.cells T :: L) → K (put ρ (some d) (.pointer (some ⟨b, 0, none⟩))) w') : denI P ops ⟨some d, .alloc T, ty, pos, #[], none⟩ ρ w K := by
  have h : denOps P ops [⟨some d, .alloc T, ty, pos, #[], none⟩] ρ w K := Zdi (hi := hz) H (fun w' b H' => Zcx (k w' b H'))
  exact h
/-- All blocks that a region makes for itself have a type with a zero. -/
def zOk (P : Program) (ops : Array Oper) : Prop := ∀ (j d : Nat), isFl ops j = some d → ∀ T ty pos, ops[j]? = some ⟨some d, .alloc T, ty, pos, #[], none⟩ → ∃ n by' z, TyI P T n by' z
theorem CX_sound {bef : Array Nat} {nd : List Nat} (hb : befOk ops bef = true) (hz : zOk P ops) : ∀ (f : Nat) (s : Bool) (r : Ord) (listed : Array Bool) (ρ : Env) (w : World) (M : List Asrt), listed.size = ops.size → closed ops bef listed →
    chkX ops bef nd f s r listed = true → (s = true → Imp M SM) → St w0 w (F0 :: M) → CX P w0 F0 ops SM KW r ρ M → denN P ops (SMw w0 SM) nd.contains f listed ρ w KW := by
  intro f
  induction f with
  | zero =>
    intro s r listed ρ w M hsz hcl hc hs H h
    cases r <;> simp only [chkX, Bool.false_eq_true] at hc
    exact ⟨by simpa using hc, h w H⟩
  | succ f ih =>
    intro s r listed ρ w M hsz hcl hc hs H h
    have key : ∀ o : Ord, (((Region.ready .any ops listed).all fun j => (heads o).contains j || (match isFl ops j with
        | some d => apA ops d j o && (!nd.contains j || s) && chkX ops bef nd f s (del j o) (listed.setIfInBounds j true)
        | none => false)) &&
      !(Region.ready .any ops listed).isEmpty && brs ops nd (chkX ops bef nd f) s o listed) = true → CX P w0 F0 ops SM KW o ρ M → denN P ops (SMw w0 SM) nd.contains (f + 1) listed ρ w KW := by
      intro o hc h
      simp only [Bool.and_eq_true] at hc
      obtain ⟨⟨hall, hne⟩, hbr⟩ := hc
      refine ⟨fun e => (by rw [e] at hne; simp at hne), fun j hj oj hoj => ?_⟩
      have hcl' := closed_set hsz hb hcl hj
      have hsz' : (listed.setIfInBounds j true).size = ops.size := by simpa using hsz
      have hjc := List.all_eq_true.1 hall j hj
      by_cases hh : (heads o).contains j = true
      · rcases brs_head o hbr hh h with ⟨n, r', h1, h2, o', h3, h4⟩|⟨r', h1, h2, h3, d, T, ty, pos, z, h4, ⟨n', by', h5⟩, h6⟩
        · rw [hoj] at h3; cases h3
          refine denI_mono ?_ (h4 F0 w H)
          rintro u w' ⟨M', H', hn, hk⟩
          refine ⟨fun e => ⟨F0, H'.enx (hn ?_)⟩, ih n r' _ _ _ M' hsz' hcl' h2 hn H' hk⟩
          have := eq_of_beq h1
          rw [← this]; exact e
        · rw [hoj] at h4; cases h4
          refine alloc_den h5 H ?_
          intro w' b H'
          have H2 := H'.swap
          have hs' : s = true → Imp (cl b z.cells T :: M) SM := fun e => Imp.tail.trans (hs e)
          refine ⟨fun e => ⟨F0, H2.enx (hs' ?_)⟩, ih s r' _ _ _ _ hsz' hcl' h3 hs' H2 (h6 b)⟩
          rw [e] at h2; simpa using h2
      · rw [Bool.or_eq_true] at hjc
        rcases hjc with hjc|hjc
        · exact absurd hjc hh
        · split at hjc
          · rename_i d hd
            obtain ⟨T, ty, pos, ho⟩ := isFl_spec hd
            rw [hoj] at ho; cases ho
            simp only [Bool.and_eq_true] at hjc
            obtain ⟨⟨ha, hnd⟩, hck⟩ := hjc
            obtain ⟨n', by', z, h5⟩ := hz j d hd T ty pos hoj
            refine alloc_den h5 H ?_
            intro w' b H'
            have H2 := H'.swap
            have hs' : s = true → Imp (cl b z.cells T :: M) SM := fun e => Imp.tail.trans (hs e)
            refine ⟨fun e => ⟨F0, H2.enx (hs' ?_)⟩, ih s (del j o) _ _ _ _ hsz' hcl' hck hs' H2 (early hoj h5 b o ha h)⟩
            rw [e] at hnd; simpa using hnd
          · cases hjc
    cases r with
    | nil => simp [chkX] at hc
    | q i r =>
      simp only [chkX, Bool.and_eq_true, List.contains_iff_mem] at hc
      obtain ⟨⟨⟨hi, ht⟩, hn⟩, hr⟩ := hc
      obtain ⟨o, v, ho, hy, h⟩ := h
      exact denN_takeP hb ho f listed ρ w hsz hcl hi ht (.inr (by simpa using hn)) hy (ih s r _ _ w M (by simpa using hsz) (closed_set hsz hb hcl hi) hr hs H h)
    | r i r =>
      simp only [chkX, Bool.and_eq_true, List.contains_iff_mem] at hc
      obtain ⟨⟨⟨hi, hsT⟩, ht⟩, hr⟩ := hc
      obtain ⟨o, v, ho, hy, h⟩ := h
      exact denN_take hb ho f listed ρ w hsz hcl hi ht hy ⟨F0, H.enx (hs hsT)⟩ (ih s r _ _ w M (by simpa using hsz) (closed_set hsz hb hcl hi) hr hs H h)
    | e i n r => exact key _ (by simpa only [chkX] using hc) h
    | a i r => exact key _ (by simpa only [chkX] using hc) h
    | alt x y => exact key _ (by simpa only [chkX] using hc) h

def drawX (ops : Array Oper) (nd : List Nat) (r : Ord) : Bool :=
  befOk ops (Region.before ops) && chkX ops (Region.before ops) nd ops.size true r (Array.replicate ops.size false)
/-- A region whose order is drawn, along one order, or some. -/
def cX (P : Program) (w0 : World) (ops : Array Oper) (SM : List Asrt) (r : Ord) (ρ : Env) (M : List Asrt) (K : XK) : Prop :=
  ∀ F0, CX P w0 F0 ops SM (fun ρ' w' => ∃ M', St w0 w' (F0 :: M') ∧ K ρ' M') r ρ M
def zOkB (P : Program) (ops : Array Oper) : Bool := (List.range ops.size).all fun j => match ops[j]? with
  | some ⟨some _, .alloc T, _, _, _, none⟩ => match P.info? T with
    | some i => match i.zero with
      | some z => z.cells.size == i.size
      | none => false
    | none => false
  | _ => true
theorem zOk_of (h : zOkB P ops = true) : zOk P ops := by
  intro j d hj T ty pos ho
  have hlt : j < ops.size := (Array.getElem?_eq_some_iff.1 ho).1
  have := List.all_eq_true.1 h j (by simpa using hlt)
  rw [ho] at this
  simp only [] at this
  cases hi : P.info? T with
  | none => rw [hi] at this; cases this
  | some i =>
    rw [hi] at this
    simp only [] at this
    cases hz : i.zero with
    | none => rw [hz] at this; cases this
    | some z =>
      rw [hz] at this
      exact ⟨i.size, i.bytes, z, by rw [hi]; simp [hz], by simpa using this⟩
theorem Zij {id : Nat} {ρ : Env} {M : List Asrt} {Q : XQ} (SM : List Asrt) (nd : List Nat) (r : Ord) (hz : zOkB P ops = true) (hchk : drawX ops nd r = true) (hS : Imp M SM) (h : cX P w0 ops SM r ρ M (fun ρ' M' => Q .normal ρ' M')) : xC P w0 (.region id ops true) ρ M Q := by
  intro F w H
  simp only [drawX, Bool.and_eq_true] at hchk
  refine denN_sound (S := SMw w0 SM) (need := nd.contains) _ _ _ _ (CX_sound hchk.1 (zOk_of hz) ops.size true r _ ρ _ M (by simp) ?_ hchk.2 (fun _ => hS) (H.drawn _) (h F))
  intro p hp hlp
  simp [hp] at hlp
end
section
variable {P : Program} {w0 : World} {ops : Array Oper} {SM M N : List Asrt} {r : Ord} {ρ : Env} {K : XK} {i : Nat} {dst : Option Nat} {op : Op} {ty T : TypeId} {pos : String} {after : Array Edge} {x : Operand}
theorem Zik (h : K ρ M) : cX P w0 ops SM .nil ρ M K := fun F0 w H => ⟨M, H, h⟩
theorem Zil (h : Imp M N) (k : cX P w0 ops SM r ρ N K) : cX P w0 ops SM r ρ M K := fun F0 => CX_mono r h (k F0)
theorem Zim {v : Value} (ho : ops[i]? = some ⟨dst, op, ty, pos, after, none⟩) (h : PV P op ρ v) (k : cX P w0 ops SM r (put ρ dst v) M K) : cX P w0 ops SM (.q i r) ρ M K :=
  fun F0 => ⟨_, v, ho, ⟨fun _ w _ => h _ w rfl, fun e => by simp [Region.wanted] at e⟩, k F0⟩
theorem Zin {v : Value} {j : Nat} {b : Bool} (ho : ops[i]? = some ⟨dst, op, ty, pos, after, some (j, b)⟩) (hg : yl ops ρ j = some b) (h : PV P op ρ v) (k : cX P w0 ops SM r (put ρ dst v) M K) : cX P w0 ops SM (.q i r) ρ M K :=
  fun F0 => ⟨_, v, ho, ⟨fun _ w _ => h _ w rfl, fun e => by simp [Region.wanted, hg] at e⟩, k F0⟩
theorem Zio {j : Nat} {b : Bool} (ho : ops[i]? = some ⟨dst, op, ty, pos, after, some (j, b)⟩) (hg : yl ops ρ j = some (!b)) (k : cX P w0 ops SM r (put ρ dst undef) M K) : cX P w0 ops SM (.q i r) ρ M K :=
  fun F0 => ⟨_, undef, ho, ⟨fun e => by simp [Region.wanted, hg] at e, fun _ => rfl⟩, k F0⟩
theorem Zip {j : Nat} {b : Bool} (ho : ops[i]? = some ⟨dst, op, ty, pos, after, some (j, b)⟩) (hg : yl ops ρ j = none) (k : cX P w0 ops SM r (put ρ dst undef) M K) : cX P w0 ops SM (.q i r) ρ M K :=
  fun F0 => ⟨_, undef, ho, ⟨fun e => by simp [Region.wanted, hg] at e, fun _ => rfl⟩, k F0⟩
theorem Ziq {o : Oper} {n : Bool} (ho : ops[i]? = some o) (h : xOps P w0 ops [o] ρ M (fun ρ' M' => (n = true → Imp M' SM) ∧ cX P w0 ops SM r ρ' M' K)) : cX P w0 ops SM (.e i n r) ρ M K := by
  intro F0
  refine ⟨o, ho, fun F w H => ?_⟩
  refine denI_mono (K := fun ρ' w' => ∃ M', St w0 w' (F :: M') ∧ (n = true → Imp M' SM) ∧ cX P w0 ops SM r ρ' M' K) ?_ (h F w H)
  rintro v w' ⟨M', H', hn, hk⟩
  exact ⟨M', H', hn, hk F0⟩
theorem Zir {d n by' : Nat} {z : Value} {cs : Array Value} [hi : TyI P T n by' z] (ho : ops[i]? = some ⟨some d, .alloc T, ty, pos, #[], none⟩) (hz : z.cells = cs) (k : ∀ b, cX P w0 ops SM r (put ρ (some d) (.pointer (some ⟨b, 0, none⟩))) (cl b cs T :: M) K) : cX P w0 ops SM (.a i r) ρ M K := by
  subst hz; exact fun F0 => ⟨d, T, ty, pos, z, ho, ⟨n, by', hi⟩, fun b => k b F0⟩
theorem Zis {a b : Ord} (h1 : cX P w0 ops SM a ρ M K) (h2 : cX P w0 ops SM b ρ M K) : cX P w0 ops SM (.alt a b) ρ M K := fun F0 => ⟨h1 F0, h2 F0⟩
/-- What only reads. -/
theorem Zit {v : Value} (ho : ops[i]? = some ⟨dst, op, ty, pos, after, none⟩) (h : ∀ (F : Asrt) w, St w0 w (F :: SM) → (execOp (ev ρ) ⟨dst, op, ty, pos, after, none⟩).run P w = .ok (.value v) w) (k : cX P w0 ops SM r (put ρ dst v) M K) : cX P w0 ops SM (.r i r) ρ M K :=
  fun F0 => ⟨_, v, ho, ⟨fun _ w ⟨F, H⟩ => h F w H, fun e => by simp [Region.wanted] at e⟩, k F0⟩
theorem Ziu {v : Value} {j : Nat} {b : Bool} (ho : ops[i]? = some ⟨dst, op, ty, pos, after, some (j, b)⟩) (hg : yl ops ρ j = some b) (h : ∀ (F : Asrt) w, St w0 w (F :: SM) → (execOp (ev ρ) ⟨dst, op, ty, pos, after, some (j, b)⟩).run P w = .ok (.value v) w) (k : cX P w0 ops SM r (put ρ dst v) M K) : cX P w0 ops SM (.r i r) ρ M K :=
  fun F0 => ⟨_, v, ho, ⟨fun _ w ⟨F, H⟩ => h F w H, fun e => by simp [Region.wanted, hg] at e⟩, k F0⟩
theorem run_ld {b o E : Nat} {c : Array Value} {v : Value} {w : World} {oo : Oper} {M' : List Asrt} [hs : TyScal P T] (hoo : oo.op = .load T x) (hx : ev ρ x = .pointer (some ⟨b, o, none⟩)) (hm : Has SM (cl b c E) M') (hv : c[o]? = some v) {F : Asrt} (H : St w0 w (F :: SM)) : (execOp (ev ρ) oo).run P w = .ok (.value v) w := by
  have hr : (Instr.loadAt T (ev ρ x)).run P w = .ok v w := by
    rw [hx]; unfold Instr.loadAt
    rw [run_bind P _ _ w w _ rfl]; unfold loadVar
    rw [run_bind P _ _ w w _ (run_isAgg hs.h)]
    exact run_load1 ((H.pick (.there hm)).cl_get) hv
  unfold execOp; rw [hoo]
  exact op_run_value hr
theorem Ziv {b o E : Nat} {c : Array Value} {v : Value} {M' : List Asrt} [hs : TyScal P T] (ho : ops[i]? = some ⟨dst, .load T x, ty, pos, after, none⟩) (hx : ev ρ x = .pointer (some ⟨b, o, none⟩)) (hm : Has SM (cl b c E) M') (hv : c[o]? = some v) (k : cX P w0 ops SM r (put ρ dst v) M K) : cX P w0 ops SM (.r i r) ρ M K :=
  Zit ho (fun F w H => run_ld rfl hx hm hv H) k
theorem Ziw {b o E j : Nat} {t : Bool} {c : Array Value} {v : Value} {M' : List Asrt} [hs : TyScal P T] (ho : ops[i]? = some ⟨dst, .load T x, ty, pos, after, some (j, t)⟩) (hg : yl ops ρ j = some t) (hx : ev ρ x = .pointer (some ⟨b, o, none⟩)) (hm : Has SM (cl b c E) M') (hv : c[o]? = some v) (k : cX P w0 ops SM r (put ρ dst v) M K) : cX P w0 ops SM (.r i r) ρ M K :=
  Ziu ho hg (fun F w H => run_ld rfl hx hm hv H) k
theorem run_lda {b o E n by' : Nat} {z : Value} {c cs : Array Value} {w : World} {oo : Oper} {M' : List Asrt} [hs : TyAggr P T] [hi : TyI P T n by' z] (hoo : oo.op = .load T x) (hx : ev ρ x = .pointer (some ⟨b, o, none⟩)) (hm : Has SM (cl b c E) M') (hv : o + n ≤ c.size) (hc : c.extract o (o + n) = cs) {F : Asrt} (H : St w0 w (F :: SM)) : (execOp (ev ρ) oo).run P w = .ok (.value (.agg cs)) w := by
  have hr := run_loadAgg (P := P) (ρ := ρ) (x := x) (T := T) (n := n) ((H.pick (.there hm)).cl_get) hv hx
  rw [hc] at hr
  unfold execOp; rw [hoo]
  exact op_run_value hr
theorem Zix {b o E n by' : Nat} {z : Value} {c cs : Array Value} {M' : List Asrt} [hs : TyAggr P T] [hi : TyI P T n by' z] (ho : ops[i]? = some ⟨dst, .load T x, ty, pos, after, none⟩) (hx : ev ρ x = .pointer (some ⟨b, o, none⟩)) (hm : Has SM (cl b c E) M') (hv : o + n ≤ c.size) (hc : c.extract o (o + n) = cs) (k : cX P w0 ops SM r (put ρ dst (.agg cs)) M K) : cX P w0 ops SM (.r i r) ρ M K :=
  Zit ho (fun F w H => run_lda rfl hx hm hv hc H) k
theorem Ziy {b E n by' : Nat} {z : Value} {c : Array Value} {M' : List Asrt} [hs : TyAggr P T] [hi : TyI P T n by' z] (ho : ops[i]? = some ⟨dst, .load T x, ty, pos, after, none⟩) (hx : ev ρ x = .pointer (some ⟨b, 0, none⟩)) (hm : Has SM (cl b c E) M') (hv : c.size = n) (k : cX P w0 ops SM r (put ρ dst (.agg c)) M K) : cX P w0 ops SM (.r i r) ρ M K :=
  Zix ho hx hm (by omega) (by rw [Nat.zero_add, ← hv]; simp) k
theorem YS.weak {S : World → Prop} {o : Oper} {v : Value} (h : YS P ops (fun _ => True) o ρ v) : YS P ops S o ρ v := ⟨fun e w _ => h.1 e w trivial, h.2⟩
theorem Ziz {v : Value} (ho : ops[i]? = some ⟨dst, op, ty, pos, after, none⟩) (h : PV P op ρ v) (k : cX P w0 ops SM r (put ρ dst v) M K) : cX P w0 ops SM (.r i r) ρ M K :=
  fun F0 => ⟨_, v, ho, ⟨fun _ w _ => h _ w rfl, fun e => by simp [Region.wanted] at e⟩, k F0⟩
theorem Zi0 {v : Value} {j : Nat} {b : Bool} (ho : ops[i]? = some ⟨dst, op, ty, pos, after, some (j, b)⟩) (hg : yl ops ρ j = some b) (h : PV P op ρ v) (k : cX P w0 ops SM r (put ρ dst v) M K) : cX P w0 ops SM (.r i r) ρ M K :=
  fun F0 => ⟨_, v, ho, ⟨fun _ w _ => h _ w rfl, fun e => by simp [Region.wanted, hg] at e⟩, k F0⟩
theorem Zi1 {j : Nat} {b : Bool} (ho : ops[i]? = some ⟨dst, op, ty, pos, after, some (j, b)⟩) (hg : yl ops ρ j = some (!b)) (k : cX P w0 ops SM r (put ρ dst undef) M K) : cX P w0 ops SM (.r i r) ρ M K :=
  fun F0 => ⟨_, undef, ho, ⟨fun e => by simp [Region.wanted, hg] at e, fun _ => rfl⟩, k F0⟩
theorem Zi2 {j : Nat} {b : Bool} (ho : ops[i]? = some ⟨dst, op, ty, pos, after, some (j, b)⟩) (hg : yl ops ρ j = none) (k : cX P w0 ops SM r (put ρ dst undef) M K) : cX P w0 ops SM (.r i r) ρ M K :=
  fun F0 => ⟨_, undef, ho, ⟨fun e => by simp [Region.wanted, hg] at e, fun _ => rfl⟩, k F0⟩
theorem Zi3 {b o E n by' j : Nat} {t : Bool} {z : Value} {c cs : Array Value} {M' : List Asrt} [hs : TyAggr P T] [hi : TyI P T n by' z] (ho : ops[i]? = some ⟨dst, .load T x, ty, pos, after, some (j, t)⟩) (hg : yl ops ρ j = some t) (hx : ev ρ x = .pointer (some ⟨b, o, none⟩)) (hm : Has SM (cl b c E) M') (hv : o + n ≤ c.size) (hc : c.extract o (o + n) = cs) (k : cX P w0 ops SM r (put ρ dst (.agg cs)) M K) : cX P w0 ops SM (.r i r) ρ M K :=
  Ziu ho hg (fun F w H => run_lda rfl hx hm hv hc H) k
theorem Zi4 {b E n by' j : Nat} {t : Bool} {z : Value} {c : Array Value} {M' : List Asrt} [hs : TyAggr P T] [hi : TyI P T n by' z] (ho : ops[i]? = some ⟨dst, .load T x, ty, pos, after, some (j, t)⟩) (hg : yl ops ρ j = some t) (hx : ev ρ x = .pointer (some ⟨b, 0, none⟩)) (hm : Has SM (cl b c E) M') (hv : c.size = n) (k : cX P w0 ops SM r (put ρ dst (.agg c)) M K) : cX P w0 ops SM (.r i r) ρ M K :=
  Zi3 ho hg hx hm (by omega) (by rw [Nat.zero_add, ← hv]; simp) k
theorem Zi5 (d : Nat) {t : Bool} (hd : ρ d = .bool t) (e : t = true) (h : cX P w0 ops SM r (put ρ (some d) (.bool true)) M K) : cX P w0 ops SM r ρ M K := by
  subst e; rwa [put_self hd] at h
theorem Zi6 (d : Nat) {t : Bool} (hd : ρ d = .bool t) (e : t = false) (h : cX P w0 ops SM r (put ρ (some d) (.bool false)) M K) : cX P w0 ops SM r ρ M K := by
  subst e; rwa [put_self hd] at h
theorem Zi7 (d : Nat) {p : Prop} [Decidable p] (hd : ρ d = .bool (decide p)) (h1 : p → cX P w0 ops SM r (put ρ (some d) (.bool true)) M K) (h2 : ¬ p → cX P w0 ops SM r (put ρ (some d) (.bool false)) M K) : cX P w0 ops SM r ρ M K := by
  by_cases hp : p
  · exact Zi5 d hd (decide_eq_true hp) (h1 hp)
  · exact Zi6 d hd (decide_eq_false hp) (h2 hp)
theorem Zi8 {b o m kk j : Nat} {xs : List Value} {v : Value} [hs : TyScal P T] (ho : ops[i]? = some ⟨dst, .load T x, ty, pos, after, none⟩) (hx : ev ρ x = .pointer (some ⟨b, o + j, none⟩)) (HS : Rd SM 1 (.slice (some ⟨b, o, none⟩) m kk) m xs) (hj : j < m) (hv : xs[j]? = some v) (k : cX P w0 ops SM r (put ρ dst v) M K) : cX P w0 ops SM (.r i r) ρ M K := by
  refine Zit ho (fun F w H => ?_) k
  obtain ⟨c, E, fr, hb, hc⟩ := (HS _ _ _ H).cellAt hj
  have hr : (Instr.loadAt T (ev ρ x)).run P w = .ok v w := by
    rw [hx]; unfold Instr.loadAt
    rw [run_bind P _ _ w w _ rfl]; unfold loadVar
    rw [run_bind P _ _ w w _ (run_isAgg hs.h)]
    exact run_load1 hb (hc.trans hv)
  exact op_run_value hr
end
end Go.Sl

/- The engine: whole numbers without a sign, as bits. -/
set_option linter.unusedVariables false
set_option linter.unusedSimpArgs false
namespace Go.Sl
open Go
theorem uwrap {k : IntKind} (hk : k.signed = false) (n : Int) : k.wrap n = ((BitVec.ofInt k.bits n).toNat : Int) := by
  have h : (2 ^ k.bits : Int) = ((2 ^ k.bits : Nat) : Int) := by push_cast; rfl
  have hp : (0 : Int) < ((2 ^ k.bits : Nat) : Int) := by exact_mod_cast Nat.two_pow_pos k.bits
  unfold IntKind.wrap
  rw [hk, BitVec.toNat_ofInt, h]
  simp only [Bool.false_and, Bool.false_eq_true, if_false]
  rw [Int.toNat_of_nonneg (Int.emod_nonneg _ (by omega))]
theorem ofInt_nat {w : Nat} (x : BitVec w) : BitVec.ofInt w (x.toNat : Int) = x := by
  apply BitVec.eq_of_toNat_eq
  rw [BitVec.toNat_ofInt, ← Int.natCast_emod]
  simp [Nat.mod_eq_of_lt x.isLt]
theorem uwrap_nat {k : IntKind} (hk : k.signed = false) (x : BitVec k.bits) : k.wrap (x.toNat : Int) = (x.toNat : Int) := by rw [uwrap hk, ofInt_nat]
section
variable {P : Program} {ρ : Env} {T T' : Nat} {a b : Operand} {k : IntKind} {x y : BitVec k.bits}
theorem pvu_add (hk : k.signed = false) (hx : ev ρ a = .int k x.toNat) (hy : ev ρ b = .int k y.toNat) : PV P (.binOp .add T a b T') ρ (.int k (x + y).toNat) := by
  have h := Zbd (P := P) (T := T) (T' := T') hx hy
  have e : BitVec.ofInt k.bits ((x.toNat : Int) + y.toNat) = x + y := by rw [BitVec.ofInt_add, ofInt_nat, ofInt_nat]
  rwa [uwrap hk, e] at h
theorem pvu_sub (hk : k.signed = false) (hx : ev ρ a = .int k x.toNat) (hy : ev ρ b = .int k y.toNat) : PV P (.binOp .sub T a b T') ρ (.int k (x - y).toNat) := by
  have h := Zbe (P := P) (T := T) (T' := T') hx hy
  have e : BitVec.ofInt k.bits ((x.toNat : Int) - y.toNat) = x - y := by rw [Int.sub_eq_add_neg, BitVec.ofInt_add, ofInt_nat, BitVec.ofInt_neg, ofInt_nat, BitVec.sub_eq_add_neg]
  rwa [uwrap hk, e] at h
theorem pvu_mul (hk : k.signed = false) (hx : ev ρ a = .int k x.toNat) (hy : ev ρ b = .int k y.toNat) : PV P (.binOp .mul T a b T') ρ (.int k (x * y).toNat) := by
  have h := Zbf (P := P) (T := T) (T' := T') hx hy
  have e : BitVec.ofInt k.bits ((x.toNat : Int) * y.toNat) = x * y := by rw [BitVec.ofInt_mul, ofInt_nat, ofInt_nat]
  rwa [uwrap hk, e] at h
theorem pvu_and (hk : k.signed = false) (hx : ev ρ a = .int k x.toNat) (hy : ev ρ b = .int k y.toNat) : PV P (.binOp .and T a b T') ρ (.int k (x &&& y).toNat) := by
  have h := Zbu (P := P) (T := T) (T' := T') hx hy
  rwa [ofInt_nat, ofInt_nat, uwrap_nat hk] at h
theorem pvu_or (hk : k.signed = false) (hx : ev ρ a = .int k x.toNat) (hy : ev ρ b = .int k y.toNat) : PV P (.binOp .or T a b T') ρ (.int k (x ||| y).toNat) := by
  have h := Zbv (P := P) (T := T) (T' := T') hx hy
  rwa [ofInt_nat, ofInt_nat, uwrap_nat hk] at h
theorem pvu_xor (hk : k.signed = false) (hx : ev ρ a = .int k x.toNat) (hy : ev ρ b = .int k y.toNat) : PV P (.binOp .xor T a b T') ρ (.int k (x ^^^ y).toNat) := by
  have h := Zbw (P := P) (T := T) (T' := T') hx hy
  rwa [ofInt_nat, ofInt_nat, uwrap_nat hk] at h
theorem pvu_andNot (hk : k.signed = false) (hx : ev ρ a = .int k x.toNat) (hy : ev ρ b = .int k y.toNat) : PV P (.binOp .andNot T a b T') ρ (.int k (x &&& ~~~ y).toNat) := by
  have h := Zbx (P := P) (T := T) (T' := T') hx hy
  rwa [ofInt_nat, ofInt_nat, uwrap_nat hk] at h
theorem pvu_shl {k' : IntKind} {m : Nat} (hk : k.signed = false) (hx : ev ρ a = .int k x.toNat) (hy : ev ρ b = .int k' (m : Int)) : PV P (.binOp .shl T a b T') ρ (.int k (x <<< m).toNat) := by
  have h := Zby (P := P) (T := T) (T' := T') hx hy (by omega)
  have e : BitVec.ofInt k.bits ((x.toNat : Int) * 2 ^ (min m k.bits)) = x <<< m := by
    apply BitVec.eq_of_toNat_eq
    rw [BitVec.toNat_shiftLeft, BitVec.toNat_ofInt, show ((x.toNat : Int) * 2 ^ (min m k.bits)) = ((x.toNat * 2 ^ (min m k.bits) : Nat) : Int) by push_cast; rfl, ← Int.natCast_emod, Int.toNat_natCast, Nat.shiftLeft_eq]
    rcases Nat.le_total m k.bits with hle|hle
    · rw [Nat.min_eq_left hle]
    · rw [Nat.min_eq_right hle]
      obtain ⟨d, rfl⟩ := Nat.exists_eq_add_of_le hle
      rw [Nat.pow_add, ← Nat.mul_assoc, Nat.mul_mod_left, Nat.mul_right_comm, Nat.mul_mod_left]
  rw [uwrap hk, Int.toNat_natCast, e] at h
  exact h
theorem pvu_shr {k' : IntKind} {m : Nat} (hk : k.signed = false) (hx : ev ρ a = .int k x.toNat) (hy : ev ρ b = .int k' (m : Int)) : PV P (.binOp .shr T a b T') ρ (.int k (x >>> m).toNat) := by
  have h := Zbz (P := P) (T := T) (T' := T') hx hy (by omega)
  have e : (x.toNat : Int).fdiv (2 ^ (min m k.bits)) = ((x >>> m).toNat : Int) := by
    have hp : (0 : Int) ≤ 2 ^ (min m k.bits) := by
      rw [show ((2 : Int) ^ (min m k.bits)) = ((2 ^ (min m k.bits) : Nat) : Int) by push_cast; rfl]
      exact Int.natCast_nonneg _
    rw [Int.fdiv_eq_ediv_of_nonneg _ hp, BitVec.toNat_ushiftRight, Nat.shiftRight_eq_div_pow]
    rcases Nat.le_total m k.bits with hle|hle
    · rw [Nat.min_eq_left hle]; push_cast; rfl
    · rw [Nat.min_eq_right hle]
      have h1 : x.toNat / 2 ^ k.bits = 0 := Nat.div_eq_of_lt x.isLt
      have h2 : x.toNat / 2 ^ m = 0 := Nat.div_eq_of_lt (Nat.lt_of_lt_of_le x.isLt (Nat.pow_le_pow_right (by omega) hle))
      rw [h2]
      have h3 : ((x.toNat : Int) / 2 ^ k.bits) = ((x.toNat / 2 ^ k.bits : Nat) : Int) := by push_cast; rfl
      rw [h3, h1]
  rw [Int.toNat_natCast, e] at h
  exact h
theorem pvu_not (hk : k.signed = false) (hx : ev ρ a = .int k x.toNat) : PV P (.unOp .xor T a) ρ (.int k (~~~ x).toNat) := by
  have h := Zb3 (P := P) (T := T) hx
  have e : BitVec.ofInt k.bits (if k.signed then -1 else k.max) = BitVec.allOnes k.bits := by
    rw [hk]; simp only [Bool.false_eq_true, if_false, IntKind.max, hk]
    apply BitVec.eq_of_toNat_eq
    have hp := Nat.two_pow_pos k.bits
    rw [BitVec.toNat_ofInt, BitVec.toNat_allOnes, show (2 ^ k.bits - 1 : Int) = ((2 ^ k.bits - 1 : Nat) : Int) by push_cast [Nat.one_le_two_pow]; rfl, ← Int.natCast_emod, Int.toNat_natCast, Nat.mod_eq_of_lt (by omega)]
  rw [e, ofInt_nat, uwrap_nat hk, BitVec.allOnes_xor] at h
  exact h
theorem pvu_neg (hk : k.signed = false) (hx : ev ρ a = .int k x.toNat) : PV P (.unOp .neg T a) ρ (.int k (- x).toNat) := by
  have h := Zb2 (P := P) (T := T) hx
  have e : BitVec.ofInt k.bits (0 - (x.toNat : Int)) = - x := by rw [Int.zero_sub, BitVec.ofInt_neg, ofInt_nat]
  rwa [uwrap hk, e] at h
theorem pvu_eql (hx : ev ρ a = .int k x.toNat) (hy : ev ρ b = .int k y.toNat) : PV P (.binOp .eql T a b T') ρ (.bool (decide (x = y))) := by
  have h := Zbr (P := P) (T := T) (T' := T') hx hy
  have e : decide ((x.toNat : Int) = y.toNat) = decide (x = y) := decide_eq_decide.2 ⟨fun h => BitVec.eq_of_toNat_eq (by omega), fun h => by rw [h]⟩
  rwa [e] at h
theorem pvu_neq (hx : ev ρ a = .int k x.toNat) (hy : ev ρ b = .int k y.toNat) : PV P (.binOp .neq T a b T') ρ (.bool (decide (x ≠ y))) := by
  have h := Zbs (P := P) (T := T) (T' := T') hx hy
  have e : decide ((x.toNat : Int) ≠ y.toNat) = decide (x ≠ y) := decide_eq_decide.2 ⟨fun h e => h (by rw [e]), fun h e => h (BitVec.eq_of_toNat_eq (by omega))⟩
  rwa [e] at h
theorem pvu_lss (hx : ev ρ a = .int k x.toNat) (hy : ev ρ b = .int k y.toNat) : PV P (.binOp .lss T a b T') ρ (.bool (decide (x.toNat < y.toNat))) := by
  have h := Zbn (P := P) (T := T) (T' := T') hx hy
  rwa [show decide ((x.toNat : Int) < y.toNat) = decide (x.toNat < y.toNat) from decide_eq_decide.2 (by omega)] at h
theorem pvu_leq (hx : ev ρ a = .int k x.toNat) (hy : ev ρ b = .int k y.toNat) : PV P (.binOp .leq T a b T') ρ (.bool (decide (x.toNat ≤ y.toNat))) := by
  have h := Zbo (P := P) (T := T) (T' := T') hx hy
  rwa [show decide ((x.toNat : Int) ≤ y.toNat) = decide (x.toNat ≤ y.toNat) from decide_eq_decide.2 (by omega)] at h
theorem pvu_gtr (hx : ev ρ a = .int k x.toNat) (hy : ev ρ b = .int k y.toNat) : PV P (.binOp .gtr T a b T') ρ (.bool (decide (y.toNat < x.toNat))) := by
  have h := Zbp (P := P) (T := T) (T' := T') hx hy
  rwa [show decide ((y.toNat : Int) < x.toNat) = decide (y.toNat < x.toNat) from decide_eq_decide.2 (by omega)] at h
theorem pvu_geq (hx : ev ρ a = .int k x.toNat) (hy : ev ρ b = .int k y.toNat) : PV P (.binOp .geq T a b T') ρ (.bool (decide (y.toNat ≤ x.toNat))) := by
  have h := Zbq (P := P) (T := T) (T' := T') hx hy
  rwa [show decide ((y.toNat : Int) ≤ x.toNat) = decide (y.toNat ≤ x.toNat) from decide_eq_decide.2 (by omega)] at h
theorem pvu_quo (hk : k.signed = false) (hx : ev ρ a = .int k x.toNat) (hy : ev ρ b = .int k y.toNat) (h0 : 0 < y.toNat) : PV P (.binOp .quo T a b T') ρ (.int k (x / y).toNat) := by
  have e : ((x.toNat : Int) / y.toNat) = ((x / y).toNat : Int) := by rw [BitVec.toNat_udiv]; push_cast; rfl
  have h := Zbm (P := P) (T := T) (T' := T') hx hy hk ⟨by omega, by omega, by rw [e, uwrap_nat hk]⟩
  rwa [e] at h
theorem pvu_rem (hx : ev ρ a = .int k x.toNat) (hy : ev ρ b = .int k y.toNat) (h0 : 0 < y.toNat) : PV P (.binOp .rem T a b T') ρ (.int k (x % y).toNat) := by
  have h := Zbk (P := P) (T := T) (T' := T') hx hy (by omega)
  have e : ((x.toNat : Int)).tmod y.toNat = ((x % y).toNat : Int) := by rw [BitVec.toNat_umod]; rfl
  rwa [e] at h
theorem pvu_conv {S D : Nat} {k' : IntKind} [hs : TyInt P S k] [hd : TyInt P D k'] (hk' : k'.signed = false) (hx : ev ρ a = .int k x.toNat) : PV P (.convert S D a) ρ (.int k' (x.setWidth k'.bits).toNat) := by
  have h := Zb4 (P := P) (S := S) (D := D) hx
  have e : BitVec.ofInt k'.bits (x.toNat : Int) = x.setWidth k'.bits := by
    apply BitVec.eq_of_toNat_eq
    rw [BitVec.toNat_ofInt, BitVec.toNat_setWidth, ← Int.natCast_emod, Int.toNat_natCast]
  rwa [uwrap hk', e] at h
theorem pvu_convI {S D : Nat} {k0 : IntKind} {n : Int} [hs : TyInt P S k0] [hd : TyInt P D k] (hk : k.signed = false) (hx : ev ρ a = .int k0 n) : PV P (.convert S D a) ρ (.int k (BitVec.ofInt k.bits n).toNat) := by
  have h := Zb4 (P := P) (S := S) (D := D) hx
  rwa [uwrap hk] at h
theorem pvu_convN {S D : Nat} [hs : TyInt P S k] [hd : TyInt P D .i64] (hx : ev ρ a = .int k x.toNat) (h : x.toNat < 9223372036854775808) : PV P (.convert S D a) ρ (.int .i64 x.toNat) := by
  refine Zb5 hx ?_
  rw [IntWalk.i64_in _ ⟨by omega, by omega⟩]
end

section
variable {P : Program} {ρ : Env} {T T' : Nat} {a b : Operand} {x y : BitVec 8}
theorem Zi9 (hx : ev ρ a = .int .u8 x.toNat) (hy : ev ρ b = .int .u8 y.toNat) : PV P (.binOp .add T a b T') ρ (.int .u8 (x + y).toNat) := pvu_add (k := .u8) rfl hx hy
theorem Zja (hx : ev ρ a = .int .u8 x.toNat) (hy : ev ρ b = .int .u8 y.toNat) : PV P (.binOp .sub T a b T') ρ (.int .u8 (x - y).toNat) := pvu_sub (k := .u8) rfl hx hy
theorem Zjb (hx : ev ρ a = .int .u8 x.toNat) (hy : ev ρ b = .int .u8 y.toNat) : PV P (.binOp .mul T a b T') ρ (.int .u8 (x * y).toNat) := pvu_mul (k := .u8) rfl hx hy
theorem Zjc (hx : ev ρ a = .int .u8 x.toNat) (hy : ev ρ b = .int .u8 y.toNat) : PV P (.binOp .and T a b T') ρ (.int .u8 (x &&& y).toNat) := pvu_and (k := .u8) rfl hx hy
theorem Zjd (hx : ev ρ a = .int .u8 x.toNat) (hy : ev ρ b = .int .u8 y.toNat) : PV P (.binOp .or T a b T') ρ (.int .u8 (x ||| y).toNat) := pvu_or (k := .u8) rfl hx hy
theorem Zje (hx : ev ρ a = .int .u8 x.toNat) (hy : ev ρ b = .int .u8 y.toNat) : PV P (.binOp .xor T a b T') ρ (.int .u8 (x ^^^ y).toNat) := pvu_xor (k := .u8) rfl hx hy
theorem Zjf (hx : ev ρ a = .int .u8 x.toNat) (hy : ev ρ b = .int .u8 y.toNat) : PV P (.binOp .andNot T a b T') ρ (.int .u8 (x &&& ~~~ y).toNat) := pvu_andNot (k := .u8) rfl hx hy
theorem Zjg {k' : IntKind} {m : Nat} (hx : ev ρ a = .int .u8 x.toNat) (hy : ev ρ b = .int k' (m : Int)) : PV P (.binOp .shl T a b T') ρ (.int .u8 (x <<< m).toNat) := pvu_shl (k := .u8) rfl hx hy
theorem Zjh {k' : IntKind} {m : Nat} (hx : ev ρ a = .int .u8 x.toNat) (hy : ev ρ b = .int k' (m : Int)) : PV P (.binOp .shr T a b T') ρ (.int .u8 (x >>> m).toNat) := pvu_shr (k := .u8) rfl hx hy
theorem Zji (hx : ev ρ a = .int .u8 x.toNat) : PV P (.unOp .xor T a) ρ (.int .u8 (~~~ x).toNat) := pvu_not (k := .u8) rfl hx
theorem Zjj (hx : ev ρ a = .int .u8 x.toNat) : PV P (.unOp .neg T a) ρ (.int .u8 (- x).toNat) := pvu_neg (k := .u8) rfl hx
theorem Zjk (hx : ev ρ a = .int .u8 x.toNat) (hy : ev ρ b = .int .u8 y.toNat) : PV P (.binOp .eql T a b T') ρ (.bool (decide (x = y))) := pvu_eql (k := .u8) hx hy
theorem Zjl (hx : ev ρ a = .int .u8 x.toNat) (hy : ev ρ b = .int .u8 y.toNat) : PV P (.binOp .neq T a b T') ρ (.bool (decide (x ≠ y))) := pvu_neq (k := .u8) hx hy
theorem Zjm (hx : ev ρ a = .int .u8 x.toNat) (hy : ev ρ b = .int .u8 y.toNat) : PV P (.binOp .lss T a b T') ρ (.bool (decide (x.toNat < y.toNat))) := pvu_lss (k := .u8) hx hy
theorem Zjn (hx : ev ρ a = .int .u8 x.toNat) (hy : ev ρ b = .int .u8 y.toNat) : PV P (.binOp .leq T a b T') ρ (.bool (decide (x.toNat ≤ y.toNat))) := pvu_leq (k := .u8) hx hy
theorem Zjo (hx : ev ρ a = .int .u8 x.toNat) (hy : ev ρ b = .int .u8 y.toNat) : PV P (.binOp .gtr T a b T') ρ (.bool (decide (y.toNat < x.toNat))) := pvu_gtr (k := .u8) hx hy
theorem Zjp (hx : ev ρ a = .int .u8 x.toNat) (hy : ev ρ b = .int .u8 y.toNat) : PV P (.binOp .geq T a b T') ρ (.bool (decide (y.toNat ≤ x.toNat))) := pvu_geq (k := .u8) hx hy
theorem Zjq (hx : ev ρ a = .int .u8 x.toNat) (hy : ev ρ b = .int .u8 y.toNat) (h0 : 0 < y.toNat := by first|omega|exact Nat.le_of_ble_eq_true rfl|(simp; done)|(simp; omega)|decide) : PV P (.binOp .quo T a b T') ρ (.int .u8 (x / y).toNat) := pvu_quo (k := .u8) rfl hx hy h0
theorem Zjr (hx : ev ρ a = .int .u8 x.toNat) (hy : ev ρ b = .int .u8 y.toNat) (h0 : 0 < y.toNat := by first|omega|exact Nat.le_of_ble_eq_true rfl|(simp; done)|(simp; omega)|decide) : PV P (.binOp .rem T a b T') ρ (.int .u8 (x % y).toNat) := pvu_rem (k := .u8) hx hy h0
theorem Zjs {S D : Nat} {n : Int} [hs : TyInt P S .i64] [hd : TyInt P D .u8] (hx : ev ρ a = .int .i64 n) : PV P (.convert S D a) ρ (.int .u8 (BitVec.ofInt 8 n).toNat) := pvu_convI (k := .u8) rfl hx
theorem Zjt {S D : Nat} [hs : TyInt P S .u8] [hd : TyInt P D .i64] (hx : ev ρ a = .int .u8 x.toNat) : PV P (.convert S D a) ρ (.int .i64 x.toNat) := pvu_convN (k := .u8) hx (Nat.lt_trans x.isLt (by decide))
theorem Zju {S D : Nat} [hs : TyInt P S .u8] [hd : TyInt P D .u8] (hx : ev ρ a = .int .u8 x.toNat) : PV P (.convert S D a) ρ (.int .u8 (x.setWidth 8).toNat) := pvu_conv (k := .u8) (k' := .u8) rfl hx
theorem Zjv {S D : Nat} [hs : TyInt P S .u8] [hd : TyInt P D .u16] (hx : ev ρ a = .int .u8 x.toNat) : PV P (.convert S D a) ρ (.int .u16 (x.setWidth 16).toNat) := pvu_conv (k := .u8) (k' := .u16) rfl hx
theorem Zjw {S D : Nat} [hs : TyInt P S .u8] [hd : TyInt P D .u32] (hx : ev ρ a = .int .u8 x.toNat) : PV P (.convert S D a) ρ (.int .u32 (x.setWidth 32).toNat) := pvu_conv (k := .u8) (k' := .u32) rfl hx
theorem Zjx {S D : Nat} [hs : TyInt P S .u8] [hd : TyInt P D .u64] (hx : ev ρ a = .int .u8 x.toNat) : PV P (.convert S D a) ρ (.int .u64 (x.setWidth 64).toNat) := pvu_conv (k := .u8) (k' := .u64) rfl hx
end
abbrev u8b (x : BitVec 8) : Value := .int .u8 x.toNat
section
variable {P : Program} {ρ : Env} {T T' : Nat} {a b : Operand} {x y : BitVec 16}
theorem Zjy (hx : ev ρ a = .int .u16 x.toNat) (hy : ev ρ b = .int .u16 y.toNat) : PV P (.binOp .add T a b T') ρ (.int .u16 (x + y).toNat) := pvu_add (k := .u16) rfl hx hy
theorem Zjz (hx : ev ρ a = .int .u16 x.toNat) (hy : ev ρ b = .int .u16 y.toNat) : PV P (.binOp .sub T a b T') ρ (.int .u16 (x - y).toNat) := pvu_sub (k := .u16) rfl hx hy
theorem Zj0 (hx : ev ρ a = .int .u16 x.toNat) (hy : ev ρ b = .int .u16 y.toNat) : PV P (.binOp .mul T a b T') ρ (.int .u16 (x * y).toNat) := pvu_mul (k := .u16) rfl hx hy
theorem Zj1 (hx : ev ρ a = .int .u16 x.toNat) (hy : ev ρ b = .int .u16 y.toNat) : PV P (.binOp .and T a b T') ρ (.int .u16 (x &&& y).toNat) := pvu_and (k := .u16) rfl hx hy
theorem Zj2 (hx : ev ρ a = .int .u16 x.toNat) (hy : ev ρ b = .int .u16 y.toNat) : PV P (.binOp .or T a b T') ρ (.int .u16 (x ||| y).toNat) := pvu_or (k := .u16) rfl hx hy
theorem Zj3 (hx : ev ρ a = .int .u16 x.toNat) (hy : ev ρ b = .int .u16 y.toNat) : PV P (.binOp .xor T a b T') ρ (.int .u16 (x ^^^ y).toNat) := pvu_xor (k := .u16) rfl hx hy
theorem Zj4 (hx : ev ρ a = .int .u16 x.toNat) (hy : ev ρ b = .int .u16 y.toNat) : PV P (.binOp .andNot T a b T') ρ (.int .u16 (x &&& ~~~ y).toNat) := pvu_andNot (k := .u16) rfl hx hy
theorem Zj5 {k' : IntKind} {m : Nat} (hx : ev ρ a = .int .u16 x.toNat) (hy : ev ρ b = .int k' (m : Int)) : PV P (.binOp .shl T a b T') ρ (.int .u16 (x <<< m).toNat) := pvu_shl (k := .u16) rfl hx hy
theorem Zj6 {k' : IntKind} {m : Nat} (hx : ev ρ a = .int .u16 x.toNat) (hy : ev ρ b = .int k' (m : Int)) : PV P (.binOp .shr T a b T') ρ (.int .u16 (x >>> m).toNat) := pvu_shr (k := .u16) rfl hx hy
theorem Zj7 (hx : ev ρ a = .int .u16 x.toNat) : PV P (.unOp .xor T a) ρ (.int .u16 (~~~ x).toNat) := pvu_not (k := .u16) rfl hx
theorem Zj8 (hx : ev ρ a = .int .u16 x.toNat) : PV P (.unOp .neg T a) ρ (.int .u16 (- x).toNat) := pvu_neg (k := .u16) rfl hx
theorem Zj9 (hx : ev ρ a = .int .u16 x.toNat) (hy : ev ρ b = .int .u16 y.toNat) : PV P (.binOp .eql T a b T') ρ (.bool (decide (x = y))) := pvu_eql (k := .u16) hx hy
theorem Zka (hx : ev ρ a = .int .u16 x.toNat) (hy : ev ρ b = .int .u16 y.toNat) : PV P (.binOp .neq T a b T') ρ (.bool (decide (x ≠ y))) := pvu_neq (k := .u16) hx hy
theorem Zkb (hx : ev ρ a = .int .u16 x.toNat) (hy : ev ρ b = .int .u16 y.toNat) : PV P (.binOp .lss T a b T') ρ (.bool (decide (x.toNat < y.toNat))) := pvu_lss (k := .u16) hx hy
theorem Zkc (hx : ev ρ a = .int .u16 x.toNat) (hy : ev ρ b = .int .u16 y.toNat) : PV P (.binOp .leq T a b T') ρ (.bool (decide (x.toNat ≤ y.toNat))) := pvu_leq (k := .u16) hx hy
theorem Zkd (hx : ev ρ a = .int .u16 x.toNat) (hy : ev ρ b = .int .u16 y.toNat) : PV P (.binOp .gtr T a b T') ρ (.bool (decide (y.toNat < x.toNat))) := pvu_gtr (k := .u16) hx hy
theorem Zke (hx : ev ρ a = .int .u16 x.toNat) (hy : ev ρ b = .int .u16 y.toNat) : PV P (.binOp .geq T a b T') ρ (.bool (decide (y.toNat ≤ x.toNat))) := pvu_geq (k := .u16) hx hy
theorem Zkf (hx : ev ρ a = .int .u16 x.toNat) (hy : ev ρ b = .int .u16 y.toNat) (h0 : 0 < y.toNat := by first|omega|exact Nat.le_of_ble_eq_true rfl|(simp; done)|(simp; omega)|decide) : PV P (.binOp .quo T a b T') ρ (.int .u16 (x / y).toNat) := pvu_quo (k := .u16) rfl hx hy h0
theorem Zkg (hx : ev ρ a = .int .u16 x.toNat) (hy : ev ρ b = .int .u16 y.toNat) (h0 : 0 < y.toNat := by first|omega|exact Nat.le_of_ble_eq_true rfl|(simp; done)|(simp; omega)|decide) : PV P (.binOp .rem T a b T') ρ (.int .u16 (x % y).toNat) := pvu_rem (k := .u16) hx hy h0
theorem Zkh {S D : Nat} {n : Int} [hs : TyInt P S .i64] [hd : TyInt P D .u16] (hx : ev ρ a = .int .i64 n) : PV P (.convert S D a) ρ (.int .u16 (BitVec.ofInt 16 n).toNat) := pvu_convI (k := .u16) rfl hx
theorem Zki {S D : Nat} [hs : TyInt P S .u16] [hd : TyInt P D .i64] (hx : ev ρ a = .int .u16 x.toNat) : PV P (.convert S D a) ρ (.int .i64 x.toNat) := pvu_convN (k := .u16) hx (Nat.lt_trans x.isLt (by decide))
theorem Zkj {S D : Nat} [hs : TyInt P S .u16] [hd : TyInt P D .u8] (hx : ev ρ a = .int .u16 x.toNat) : PV P (.convert S D a) ρ (.int .u8 (x.setWidth 8).toNat) := pvu_conv (k := .u16) (k' := .u8) rfl hx
theorem Zkk {S D : Nat} [hs : TyInt P S .u16] [hd : TyInt P D .u16] (hx : ev ρ a = .int .u16 x.toNat) : PV P (.convert S D a) ρ (.int .u16 (x.setWidth 16).toNat) := pvu_conv (k := .u16) (k' := .u16) rfl hx
theorem Zkl {S D : Nat} [hs : TyInt P S .u16] [hd : TyInt P D .u32] (hx : ev ρ a = .int .u16 x.toNat) : PV P (.convert S D a) ρ (.int .u32 (x.setWidth 32).toNat) := pvu_conv (k := .u16) (k' := .u32) rfl hx
theorem Zkm {S D : Nat} [hs : TyInt P S .u16] [hd : TyInt P D .u64] (hx : ev ρ a = .int .u16 x.toNat) : PV P (.convert S D a) ρ (.int .u64 (x.setWidth 64).toNat) := pvu_conv (k := .u16) (k' := .u64) rfl hx
end
abbrev u16b (x : BitVec 16) : Value := .int .u16 x.toNat
section
variable {P : Program} {ρ : Env} {T T' : Nat} {a b : Operand} {x y : BitVec 32}
theorem Zkn (hx : ev ρ a = .int .u32 x.toNat) (hy : ev ρ b = .int .u32 y.toNat) : PV P (.binOp .add T a b T') ρ (.int .u32 (x + y).toNat) := pvu_add (k := .u32) rfl hx hy
theorem Zko (hx : ev ρ a = .int .u32 x.toNat) (hy : ev ρ b = .int .u32 y.toNat) : PV P (.binOp .sub T a b T') ρ (.int .u32 (x - y).toNat) := pvu_sub (k := .u32) rfl hx hy
theorem Zkp (hx : ev ρ a = .int .u32 x.toNat) (hy : ev ρ b = .int .u32 y.toNat) : PV P (.binOp .mul T a b T') ρ (.int .u32 (x * y).toNat) := pvu_mul (k := .u32) rfl hx hy
theorem Zkq (hx : ev ρ a = .int .u32 x.toNat) (hy : ev ρ b = .int .u32 y.toNat) : PV P (.binOp .and T a b T') ρ (.int .u32 (x &&& y).toNat) := pvu_and (k := .u32) rfl hx hy
theorem Zkr (hx : ev ρ a = .int .u32 x.toNat) (hy : ev ρ b = .int .u32 y.toNat) : PV P (.binOp .or T a b T') ρ (.int .u32 (x ||| y).toNat) := pvu_or (k := .u32) rfl hx hy
theorem Zks (hx : ev ρ a = .int .u32 x.toNat) (hy : ev ρ b = .int .u32 y.toNat) : PV P (.binOp .xor T a b T') ρ (.int .u32 (x ^^^ y).toNat) := pvu_xor (k := .u32) rfl hx hy
theorem Zkt (hx : ev ρ a = .int .u32 x.toNat) (hy : ev ρ b = .int .u32 y.toNat) : PV P (.binOp .andNot T a b T') ρ (.int .u32 (x &&& ~~~ y).toNat) := pvu_andNot (k := .u32) rfl hx hy
theorem Zku {k' : IntKind} {m : Nat} (hx : ev ρ a = .int .u32 x.toNat) (hy : ev ρ b = .int k' (m : Int)) : PV P (.binOp .shl T a b T') ρ (.int .u32 (x <<< m).toNat) := pvu_shl (k := .u32) rfl hx hy
theorem Zkv {k' : IntKind} {m : Nat} (hx : ev ρ a = .int .u32 x.toNat) (hy : ev ρ b = .int k' (m : Int)) : PV P (.binOp .shr T a b T') ρ (.int .u32 (x >>> m).toNat) := pvu_shr (k := .u32) rfl hx hy
theorem Zkw (hx : ev ρ a = .int .u32 x.toNat) : PV P (.unOp .xor T a) ρ (.int .u32 (~~~ x).toNat) := pvu_not (k := .u32) rfl hx
theorem Zkx (hx : ev ρ a = .int .u32 x.toNat) : PV P (.unOp .neg T a) ρ (.int .u32 (- x).toNat) := pvu_neg (k := .u32) rfl hx
theorem Zky (hx : ev ρ a = .int .u32 x.toNat) (hy : ev ρ b = .int .u32 y.toNat) : PV P (.binOp .eql T a b T') ρ (.bool (decide (x = y))) := pvu_eql (k := .u32) hx hy
theorem Zkz (hx : ev ρ a = .int .u32 x.toNat) (hy : ev ρ b = .int .u32 y.toNat) : PV P (.binOp .neq T a b T') ρ (.bool (decide (x ≠ y))) := pvu_neq (k := .u32) hx hy
theorem Zk0 (hx : ev ρ a = .int .u32 x.toNat) (hy : ev ρ b = .int .u32 y.toNat) : PV P (.binOp .lss T a b T') ρ (.bool (decide (x.toNat < y.toNat))) := pvu_lss (k := .u32) hx hy
theorem Zk1 (hx : ev ρ a = .int .u32 x.toNat) (hy : ev ρ b = .int .u32 y.toNat) : PV P (.binOp .leq T a b T') ρ (.bool (decide (x.toNat ≤ y.toNat))) := pvu_leq (k := .u32) hx hy
theorem Zk2 (hx : ev ρ a = .int .u32 x.toNat) (hy : ev ρ b = .int .u32 y.toNat) : PV P (.binOp .gtr T a b T') ρ (.bool (decide (y.toNat < x.toNat))) := pvu_gtr (k := .u32) hx hy
theorem Zk3 (hx : ev ρ a = .int .u32 x.toNat) (hy : ev ρ b = .int .u32 y.toNat) : PV P (.binOp .geq T a b T') ρ (.bool (decide (y.toNat ≤ x.toNat))) := pvu_geq (k := .u32) hx hy
theorem Zk4 (hx : ev ρ a = .int .u32 x.toNat) (hy : ev ρ b = .int .u32 y.toNat) (h0 : 0 < y.toNat := by first|omega|exact Nat.le_of_ble_eq_true rfl|(simp; done)|(simp; omega)|decide) : PV P (.binOp .quo T a b T') ρ (.int .u32 (x / y).toNat) := pvu_quo (k := .u32) rfl hx hy h0
theorem Zk5 (hx : ev ρ a = .int .u32 x.toNat) (hy : ev ρ b = .int .u32 y.toNat) (h0 : 0 < y.toNat := by first|omega|exact Nat.le_of_ble_eq_true rfl|(simp; done)|(simp; omega)|decide) : PV P (.binOp .rem T a b T') ρ (.int .u32 (x % y).toNat) := pvu_rem (k := .u32) hx hy h0
theorem Zk6 {S D : Nat} {n : Int} [hs : TyInt P S .i64] [hd : TyInt P D .u32] (hx : ev ρ a = .int .i64 n) : PV P (.convert S D a) ρ (.int .u32 (BitVec.ofInt 32 n).toNat) := pvu_convI (k := .u32) rfl hx
theorem Zk7 {S D : Nat} [hs : TyInt P S .u32] [hd : TyInt P D .i64] (hx : ev ρ a = .int .u32 x.toNat) : PV P (.convert S D a) ρ (.int .i64 x.toNat) := pvu_convN (k := .u32) hx (Nat.lt_trans x.isLt (by decide))
theorem Zk8 {S D : Nat} [hs : TyInt P S .u32] [hd : TyInt P D .u8] (hx : ev ρ a = .int .u32 x.toNat) : PV P (.convert S D a) ρ (.int .u8 (x.setWidth 8).toNat) := pvu_conv (k := .u32) (k' := .u8) rfl hx
theorem Zk9 {S D : Nat} [hs : TyInt P S .u32] [hd : TyInt P D .u16] (hx : ev ρ a = .int .u32 x.toNat) : PV P (.convert S D a) ρ (.int .u16 (x.setWidth 16).toNat) := pvu_conv (k := .u32) (k' := .u16) rfl hx
theorem Zla {S D : Nat} [hs : TyInt P S .u32] [hd : TyInt P D .u32] (hx : ev ρ a = .int .u32 x.toNat) : PV P (.convert S D a) ρ (.int .u32 (x.setWidth 32).toNat) := pvu_conv (k := .u32) (k' := .u32) rfl hx
theorem Zlb {S D : Nat} [hs : TyInt P S .u32] [hd : TyInt P D .u64] (hx : ev ρ a = .int .u32 x.toNat) : PV P (.convert S D a) ρ (.int .u64 (x.setWidth 64).toNat) := pvu_conv (k := .u32) (k' := .u64) rfl hx
end
abbrev u32b (x : BitVec 32) : Value := .int .u32 x.toNat
section
variable {P : Program} {ρ : Env} {T T' : Nat} {a b : Operand} {x y : BitVec 64}
theorem Zlc (hx : ev ρ a = .int .u64 x.toNat) (hy : ev ρ b = .int .u64 y.toNat) : PV P (.binOp .add T a b T') ρ (.int .u64 (x + y).toNat) := pvu_add (k := .u64) rfl hx hy
theorem Zld (hx : ev ρ a = .int .u64 x.toNat) (hy : ev ρ b = .int .u64 y.toNat) : PV P (.binOp .sub T a b T') ρ (.int .u64 (x - y).toNat) := pvu_sub (k := .u64) rfl hx hy
theorem Zle (hx : ev ρ a = .int .u64 x.toNat) (hy : ev ρ b = .int .u64 y.toNat) : PV P (.binOp .mul T a b T') ρ (.int .u64 (x * y).toNat) := pvu_mul (k := .u64) rfl hx hy
theorem Zlf (hx : ev ρ a = .int .u64 x.toNat) (hy : ev ρ b = .int .u64 y.toNat) : PV P (.binOp .and T a b T') ρ (.int .u64 (x &&& y).toNat) := pvu_and (k := .u64) rfl hx hy
theorem Zlg (hx : ev ρ a = .int .u64 x.toNat) (hy : ev ρ b = .int .u64 y.toNat) : PV P (.binOp .or T a b T') ρ (.int .u64 (x ||| y).toNat) := pvu_or (k := .u64) rfl hx hy
theorem Zlh (hx : ev ρ a = .int .u64 x.toNat) (hy : ev ρ b = .int .u64 y.toNat) : PV P (.binOp .xor T a b T') ρ (.int .u64 (x ^^^ y).toNat) := pvu_xor (k := .u64) rfl hx hy
theorem Zli (hx : ev ρ a = .int .u64 x.toNat) (hy : ev ρ b = .int .u64 y.toNat) : PV P (.binOp .andNot T a b T') ρ (.int .u64 (x &&& ~~~ y).toNat) := pvu_andNot (k := .u64) rfl hx hy
theorem Zlj {k' : IntKind} {m : Nat} (hx : ev ρ a = .int .u64 x.toNat) (hy : ev ρ b = .int k' (m : Int)) : PV P (.binOp .shl T a b T') ρ (.int .u64 (x <<< m).toNat) := pvu_shl (k := .u64) rfl hx hy
theorem Zlk {k' : IntKind} {m : Nat} (hx : ev ρ a = .int .u64 x.toNat) (hy : ev ρ b = .int k' (m : Int)) : PV P (.binOp .shr T a b T') ρ (.int .u64 (x >>> m).toNat) := pvu_shr (k := .u64) rfl hx hy
theorem Zll (hx : ev ρ a = .int .u64 x.toNat) : PV P (.unOp .xor T a) ρ (.int .u64 (~~~ x).toNat) := pvu_not (k := .u64) rfl hx
theorem Zlm (hx : ev ρ a = .int .u64 x.toNat) : PV P (.unOp .neg T a) ρ (.int .u64 (- x).toNat) := pvu_neg (k := .u64) rfl hx
theorem Zln (hx : ev ρ a = .int .u64 x.toNat) (hy : ev ρ b = .int .u64 y.toNat) : PV P (.binOp .eql T a b T') ρ (.bool (decide (x = y))) := pvu_eql (k := .u64) hx hy
theorem Zlo (hx : ev ρ a = .int .u64 x.toNat) (hy : ev ρ b = .int .u64 y.toNat) : PV P (.binOp .neq T a b T') ρ (.bool (decide (x ≠ y))) := pvu_neq (k := .u64) hx hy
theorem Zlp (hx : ev ρ a = .int .u64 x.toNat) (hy : ev ρ b = .int .u64 y.toNat) : PV P (.binOp .lss T a b T') ρ (.bool (decide (x.toNat < y.toNat))) := pvu_lss (k := .u64) hx hy
theorem Zlq (hx : ev ρ a = .int .u64 x.toNat) (hy : ev ρ b = .int .u64 y.toNat) : PV P (.binOp .leq T a b T') ρ (.bool (decide (x.toNat ≤ y.toNat))) := pvu_leq (k := .u64) hx hy
theorem Zlr (hx : ev ρ a = .int .u64 x.toNat) (hy : ev ρ b = .int .u64 y.toNat) : PV P (.binOp .gtr T a b T') ρ (.bool (decide (y.toNat < x.toNat))) := pvu_gtr (k := .u64) hx hy
theorem Zls (hx : ev ρ a = .int .u64 x.toNat) (hy : ev ρ b = .int .u64 y.toNat) : PV P (.binOp .geq T a b T') ρ (.bool (decide (y.toNat ≤ x.toNat))) := pvu_geq (k := .u64) hx hy
theorem Zlt (hx : ev ρ a = .int .u64 x.toNat) (hy : ev ρ b = .int .u64 y.toNat) (h0 : 0 < y.toNat := by first|omega|exact Nat.le_of_ble_eq_true rfl|(simp; done)|(simp; omega)|decide) : PV P (.binOp .quo T a b T') ρ (.int .u64 (x / y).toNat) := pvu_quo (k := .u64) rfl hx hy h0
theorem Zlu (hx : ev ρ a = .int .u64 x.toNat) (hy : ev ρ b = .int .u64 y.toNat) (h0 : 0 < y.toNat := by first|omega|exact Nat.le_of_ble_eq_true rfl|(simp; done)|(simp; omega)|decide) : PV P (.binOp .rem T a b T') ρ (.int .u64 (x % y).toNat) := pvu_rem (k := .u64) hx hy h0
theorem Zlv {S D : Nat} {n : Int} [hs : TyInt P S .i64] [hd : TyInt P D .u64] (hx : ev ρ a = .int .i64 n) : PV P (.convert S D a) ρ (.int .u64 (BitVec.ofInt 64 n).toNat) := pvu_convI (k := .u64) rfl hx
theorem Zlw {S D : Nat} [hs : TyInt P S .u64] [hd : TyInt P D .i64] (hx : ev ρ a = .int .u64 x.toNat) (h : x.toNat < 9223372036854775808 := by first|omega|exact Nat.le_of_ble_eq_true rfl|(simp; done)|(simp; omega)|decide) : PV P (.convert S D a) ρ (.int .i64 x.toNat) := pvu_convN (k := .u64) hx h
theorem Zlx {S D : Nat} [hs : TyInt P S .u64] [hd : TyInt P D .u8] (hx : ev ρ a = .int .u64 x.toNat) : PV P (.convert S D a) ρ (.int .u8 (x.setWidth 8).toNat) := pvu_conv (k := .u64) (k' := .u8) rfl hx
theorem Zly {S D : Nat} [hs : TyInt P S .u64] [hd : TyInt P D .u16] (hx : ev ρ a = .int .u64 x.toNat) : PV P (.convert S D a) ρ (.int .u16 (x.setWidth 16).toNat) := pvu_conv (k := .u64) (k' := .u16) rfl hx
theorem Zlz {S D : Nat} [hs : TyInt P S .u64] [hd : TyInt P D .u32] (hx : ev ρ a = .int .u64 x.toNat) : PV P (.convert S D a) ρ (.int .u32 (x.setWidth 32).toNat) := pvu_conv (k := .u64) (k' := .u32) rfl hx
theorem Zl0 {S D : Nat} [hs : TyInt P S .u64] [hd : TyInt P D .u64] (hx : ev ρ a = .int .u64 x.toNat) : PV P (.convert S D a) ρ (.int .u64 (x.setWidth 64).toNat) := pvu_conv (k := .u64) (k' := .u64) rfl hx
end
abbrev u64b (x : BitVec 64) : Value := .int .u64 x.toNat

section
variable {P : Program} {ρ : Env} {x y : Operand} {k : IntKind} {S E by' bb o l c n : Nat} {z : Value}
theorem Zl1 [hs : TySlice P S E] [hi : TyI P E 1 by' z] (hx : ev ρ x = .slice (some ⟨bb, o, none⟩) l c) (hy : ev ρ y = .int k (n : Int)) (h : n < l := by first|omega|exact Nat.le_of_ble_eq_true rfl|(simp; done)|(simp; omega)|decide) : PV P (.indexAddr S x y) ρ (.pointer (some ⟨bb, o + n, none⟩)) := by
  have := Zcg (P := P) (S := S) hx hy h
  simpa using this
theorem Zl2 {sz : Nat} [hs : TyArr P S l E] [hi : TyI P E sz by' z] (hx : ev ρ x = .pointer (some ⟨bb, o, none⟩)) (hy : ev ρ y = .int k (n : Int)) (h : n < l := by first|omega|exact Nat.le_of_ble_eq_true rfl|(simp; done)|(simp; omega)|decide) : PV P (.indexAddr S x y) ρ (.pointer (some ⟨bb, o + n * sz, none⟩)) := by
  have := Zch (P := P) (S := S) hx hy ⟨by omega, by omega⟩
  simpa using this
theorem Zl3 [hs : TyArr P S l E] [hi : TyI P E 1 by' z] (hx : ev ρ x = .pointer (some ⟨bb, o, none⟩)) (hy : ev ρ y = .int k (n : Int)) (h : n < l := by first|omega|exact Nat.le_of_ble_eq_true rfl|(simp; done)|(simp; omega)|decide) : PV P (.indexAddr S x y) ρ (.pointer (some ⟨bb, o + n, none⟩)) := by
  have := Zl2 (P := P) (S := S) hx hy h
  simpa using this
theorem Zl4 [hs : TySlice P S E] [hi : TyI P E 1 by' z] (hx : ev ρ x = .slice (some ⟨bb, 0, none⟩) l c) (hy : ev ρ y = .int k (n : Int)) (h : n < l := by first|omega|exact Nat.le_of_ble_eq_true rfl|(simp; done)|(simp; omega)|decide) : PV P (.indexAddr S x y) ρ (.pointer (some ⟨bb, n, none⟩)) := by
  have := Zl1 (P := P) (S := S) hx hy h
  rwa [Nat.zero_add] at this
theorem Zl5 [hs : TyArr P S l E] [hi : TyI P E 1 by' z] (hx : ev ρ x = .pointer (some ⟨bb, 0, none⟩)) (hy : ev ρ y = .int k (n : Int)) (h : n < l := by first|omega|exact Nat.le_of_ble_eq_true rfl|(simp; done)|(simp; omega)|decide) : PV P (.indexAddr S x y) ρ (.pointer (some ⟨bb, n, none⟩)) := by
  have := Zl3 (P := P) (S := S) hx hy h
  rwa [Nat.zero_add] at this
theorem Zl6 {sz : Nat} [hs : TySlice P S E] [hi : TyI P E sz by' z] (hx : ev ρ x = .slice (some ⟨bb, 0, none⟩) l c) (hy : ev ρ y = .int k (n : Int)) (h : n < l := by first|omega|exact Nat.le_of_ble_eq_true rfl|(simp; done)|(simp; omega)|decide) : PV P (.indexAddr S x y) ρ (.pointer (some ⟨bb, n * sz, none⟩)) := by
  have := Zcg (P := P) (S := S) hx hy h
  rwa [Nat.zero_add] at this
theorem Zl7 {sz : Nat} [hs : TyArr P S l E] [hi : TyI P E sz by' z] (hx : ev ρ x = .pointer (some ⟨bb, 0, none⟩)) (hy : ev ρ y = .int k (n : Int)) (h : n < l := by first|omega|exact Nat.le_of_ble_eq_true rfl|(simp; done)|(simp; omega)|decide) : PV P (.indexAddr S x y) ρ (.pointer (some ⟨bb, n * sz, none⟩)) := by
  have := Zl2 (P := P) (S := S) hx hy h
  rwa [Nat.zero_add] at this
theorem Zl8 {S i off F sz : Nat} [hf : Fld P S i off F] [hi : TyI P F sz by' z] (hx : ev ρ x = .pointer (some ⟨bb, 0, none⟩)) (h0 : sz ≠ 0 := by first|omega|exact Nat.le_of_ble_eq_true rfl|(simp; done)|(simp; omega)|decide) : PV P (.fieldAddr S x i) ρ (.pointer (some ⟨bb, off, none⟩)) := by
  have := Zce (P := P) (S := S) (i := i) (F := F) (off := off) hx h0
  rwa [Nat.zero_add] at this
theorem Zl9 {A m : Nat} [hs : TyArr P A m E] (hx : ev ρ x = .slice (some ⟨bb, o, none⟩) l c) (h : m ≤ l := by first|omega|exact Nat.le_of_ble_eq_true rfl|(simp; done)|(simp; omega)|decide) : PV P (.sliceToArrayPointer A x) ρ (.pointer (some ⟨bb, o, none⟩)) := by
  intro oo w ho; unfold execOp; rw [ho]; refine op_run_value ?_; rw [hx]
  unfold Instr.arrayAt
  rw [run_bind P _ _ w w _ (run_under hs.h)]
  simp only []
  rw [if_neg (by omega)]
  rfl
end
section
variable {P : Program} {ρ : Env} {T T' : Nat} {x y : Operand} {a b : Nat}
theorem Zma (hx : ev ρ x = .int .i64 (a : Int)) (hy : ev ρ y = .int .i64 (b : Int)) (h : a + b ≤ 9223372036854775807 := by first|omega|exact Nat.le_of_ble_eq_true rfl|(simp; done)|(simp; omega)|decide) : PV P (.binOp .add T x y T') ρ (.int .i64 ((a + b : Nat) : Int)) := by
  have := Zbg (P := P) (T := T) (T' := T') hx hy ⟨by omega, by omega⟩
  rwa [← Int.natCast_add] at this
theorem Zmb (hx : ev ρ x = .int .i64 (a : Int)) (hy : ev ρ y = .int .i64 (b : Int)) (h : b ≤ a := by first|omega|exact Nat.le_of_ble_eq_true rfl|(simp; done)|(simp; omega)|decide) (ha : a ≤ 9223372036854775807 := by first|omega|exact Nat.le_of_ble_eq_true rfl|(simp; done)|(simp; omega)|decide) : PV P (.binOp .sub T x y T') ρ (.int .i64 ((a - b : Nat) : Int)) := by
  have := Zbh (P := P) (T := T) (T' := T') hx hy ⟨by omega, by omega⟩
  rwa [← Int.natCast_sub h] at this
theorem Zmc (hx : ev ρ x = .int .i64 (a : Int)) (hy : ev ρ y = .int .i64 (b : Int)) (h : a * b ≤ 9223372036854775807 := by first|omega|exact Nat.le_of_ble_eq_true rfl|(simp; done)|(simp; omega)|decide) : PV P (.binOp .mul T x y T') ρ (.int .i64 ((a * b : Nat) : Int)) := by
  have e : ((a : Int) * b) = ((a * b : Nat) : Int) := (Int.natCast_mul a b).symm
  have := Zbi (P := P) (T := T) (T' := T') hx hy (by rw [e]; exact ⟨by omega, by omega⟩)
  rwa [e] at this
theorem Zmd (hx : ev ρ x = .int .i64 (a : Int)) (hy : ev ρ y = .int .i64 (b : Int)) (h : 0 < b := by first|omega|exact Nat.le_of_ble_eq_true rfl|(simp; done)|(simp; omega)|decide) (ha : a ≤ 9223372036854775807 := by first|omega|exact Nat.le_of_ble_eq_true rfl|(simp; done)|(simp; omega)|decide) : PV P (.binOp .quo T x y T') ρ (.int .i64 ((a / b : Nat) : Int)) := by
  have := Zbj (P := P) (T := T) (T' := T') hx hy ⟨by omega, by omega, by omega⟩
  rwa [show ((a : Int) / b) = ((a / b : Nat) : Int) from by push_cast; rfl] at this
theorem Zme (hx : ev ρ x = .int .i64 (a : Int)) (hy : ev ρ y = .int .i64 (b : Int)) (h : 0 < b := by first|omega|exact Nat.le_of_ble_eq_true rfl|(simp; done)|(simp; omega)|decide) : PV P (.binOp .rem T x y T') ρ (.int .i64 ((a % b : Nat) : Int)) := by
  have := Zbl (P := P) (T := T) (T' := T') hx hy ⟨by omega, by omega⟩
  rwa [show ((a : Int) % b) = ((a % b : Nat) : Int) from by push_cast; rfl] at this
theorem Zmf {k : IntKind} (hx : ev ρ x = .int k (a : Int)) (hy : ev ρ y = .int k (b : Int)) : PV P (.binOp .lss T x y T') ρ (.bool (decide (a < b))) := by
  have := Zbn (P := P) (T := T) (T' := T') hx hy
  rwa [show decide ((a : Int) < b) = decide (a < b) from decide_eq_decide.2 (by omega)] at this
theorem Zmg {k : IntKind} (hx : ev ρ x = .int k (a : Int)) (hy : ev ρ y = .int k (b : Int)) : PV P (.binOp .leq T x y T') ρ (.bool (decide (a ≤ b))) := by
  have := Zbo (P := P) (T := T) (T' := T') hx hy
  rwa [show decide ((a : Int) ≤ b) = decide (a ≤ b) from decide_eq_decide.2 (by omega)] at this
theorem Zmh {k : IntKind} (hx : ev ρ x = .int k (a : Int)) (hy : ev ρ y = .int k (b : Int)) : PV P (.binOp .gtr T x y T') ρ (.bool (decide (b < a))) := by
  have := Zbp (P := P) (T := T) (T' := T') hx hy
  rwa [show decide ((b : Int) < a) = decide (b < a) from decide_eq_decide.2 (by omega)] at this
theorem Zmi {k : IntKind} (hx : ev ρ x = .int k (a : Int)) (hy : ev ρ y = .int k (b : Int)) : PV P (.binOp .geq T x y T') ρ (.bool (decide (b ≤ a))) := by
  have := Zbq (P := P) (T := T) (T' := T') hx hy
  rwa [show decide ((b : Int) ≤ a) = decide (b ≤ a) from decide_eq_decide.2 (by omega)] at this
theorem Zmj {k : IntKind} (hx : ev ρ x = .int k (a : Int)) (hy : ev ρ y = .int k (b : Int)) : PV P (.binOp .eql T x y T') ρ (.bool (decide (a = b))) := by
  have := Zbr (P := P) (T := T) (T' := T') hx hy
  rwa [show decide ((a : Int) = b) = decide (a = b) from decide_eq_decide.2 (by omega)] at this
theorem Zmk {k : IntKind} (hx : ev ρ x = .int k (a : Int)) (hy : ev ρ y = .int k (b : Int)) : PV P (.binOp .neq T x y T') ρ (.bool (decide (a ≠ b))) := by
  have := Zbs (P := P) (T := T) (T' := T') hx hy
  rwa [show decide ((a : Int) ≠ b) = decide (a ≠ b) from decide_eq_decide.2 (by omega)] at this
theorem Zml {S D : Nat} {n : Int} [hs : TyInt P S .i64] [hd : TyInt P D .i64] (hx : ev ρ x = .int .i64 n) (h : -9223372036854775808 ≤ n ∧ n ≤ 9223372036854775807 := by first|omega|exact Nat.le_of_ble_eq_true rfl|(simp; done)|(simp; omega)|decide) : PV P (.convert S D x) ρ (.int .i64 n) := Zb5 hx (IntWalk.i64_in _ h)
theorem Zmm {t : Array Value} (h : ev ρ x = .tuple t) : PV P (.move x) ρ (.tuple t) := Zar h
theorem Zmn {t : Option Nat} (h : ev ρ x = .map t) : PV P (.move x) ρ (.map t) := Zar h
theorem Zmo {t : ByteArray} (h : ev ρ x = .string t) : PV P (.move x) ρ (.string t) := Zar h
theorem Zmp {t : Nat} {v : Value} (h : ev ρ x = .iface t v) : PV P (.move x) ρ (.iface t v) := Zar h
theorem Zmq {t : Option Nat} (h : ev ρ x = .map t) : PV P (.assign x) ρ (.map t) := Zas h
theorem Zmr {t : ByteArray} (h : ev ρ x = .string t) : PV P (.assign x) ρ (.string t) := Zas h
theorem Zms {t : Nat} {v : Value} (h : ev ρ x = .iface t v) : PV P (.assign x) ρ (.iface t v) := Zas h
theorem Zmt {t : Array Value} (h : ev ρ x = .tuple t) : PV P (.assign x) ρ (.tuple t) := Zas h
theorem Zmu {f : Fn} {a b : Array Value} (h : ev ρ x = .func f a b) : PV P (.assign x) ρ (.func f a b) := Zas h
/-- A piece of an array, or of a slice. -/
theorem Zmv {S E sz by' bb o n : Nat} {z : Value} {lo hi : Option Operand} {l h : Nat} [hs : TyArr P S n E] [hi' : TyI P E sz by' z] (hx : ev ρ x = .pointer (some ⟨bb, o, none⟩))
    (hl : optB ρ 0 lo = some (l : Int)) (hh : optB ρ n hi = some (h : Int)) (hle : l ≤ h := by first|omega|exact Nat.le_of_ble_eq_true rfl|(simp; done)|(simp; omega)|decide) (hc : h ≤ n := by first|omega|exact Nat.le_of_ble_eq_true rfl|(simp; done)|(simp; omega)|decide) (hn : l < n := by first|omega|exact Nat.le_of_ble_eq_true rfl|(simp; done)|(simp; omega)|decide) : PV P (.slice S x lo hi none) ρ (.slice (some ⟨bb, o + l * sz, none⟩) (h - l) (n - l)) := by
  have := Zck (P := P) (S := S) (bb := bb) (o := o) hx hl hh ⟨by omega, by omega⟩ (by omega)
  simp only [Int.toNat_natCast, cutOff, if_neg (show ¬ n = l by omega)] at this
  exact this
theorem Zmw {S E sz by' bb o n c : Nat} {z : Value} {lo hi : Option Operand} {l h : Nat} [hs : TySlice P S E] [hi' : TyI P E sz by' z] (hx : ev ρ x = .slice (some ⟨bb, o, none⟩) n c)
    (hl : optB ρ 0 lo = some (l : Int)) (hh : optB ρ n hi = some (h : Int)) (hle : l ≤ h := by first|omega|exact Nat.le_of_ble_eq_true rfl|(simp; done)|(simp; omega)|decide) (hc : h ≤ c := by first|omega|exact Nat.le_of_ble_eq_true rfl|(simp; done)|(simp; omega)|decide) (hn : l < c := by first|omega|exact Nat.le_of_ble_eq_true rfl|(simp; done)|(simp; omega)|decide) : PV P (.slice S x lo hi none) ρ (.slice (some ⟨bb, o + l * sz, none⟩) (h - l) (c - l)) := by
  have := Zci (P := P) (S := S) (bb := bb) (o := o) hx hl hh ⟨by omega, by omega⟩ (by omega)
  simp only [Int.toNat_natCast, cutOff, if_neg (show ¬ c = l by omega)] at this
  exact this
theorem Zmx {S E by' bb o n : Nat} {z : Value} {lo hi : Option Operand} {l h : Nat} [hs : TyArr P S n E] [hi' : TyI P E 1 by' z] (hx : ev ρ x = .pointer (some ⟨bb, o, none⟩))
    (hl : optB ρ 0 lo = some (l : Int)) (hh : optB ρ n hi = some (h : Int)) (hle : l ≤ h := by first|omega|exact Nat.le_of_ble_eq_true rfl|(simp; done)|(simp; omega)|decide) (hc : h ≤ n := by first|omega|exact Nat.le_of_ble_eq_true rfl|(simp; done)|(simp; omega)|decide) (hn : l < n := by first|omega|exact Nat.le_of_ble_eq_true rfl|(simp; done)|(simp; omega)|decide) : PV P (.slice S x lo hi none) ρ (.slice (some ⟨bb, o + l, none⟩) (h - l) (n - l)) := by
  have := Zmv (P := P) (S := S) hx hl hh hle hc hn
  rwa [Nat.mul_one] at this
theorem Zmy {S E by' bb o n : Nat} {z : Value} {hi : Option Operand} {h : Nat} [hs : TyArr P S n E] [hi' : TyI P E 1 by' z] (hx : ev ρ x = .pointer (some ⟨bb, o, none⟩))
    (hh : optB ρ n hi = some (h : Int)) (hc : h ≤ n := by first|omega|exact Nat.le_of_ble_eq_true rfl|(simp; done)|(simp; omega)|decide) (hn : 0 < n := by first|omega|exact Nat.le_of_ble_eq_true rfl|(simp; done)|(simp; omega)|decide) : PV P (.slice S x none hi none) ρ (.slice (some ⟨bb, o, none⟩) h n) := by
  have := Zmx (P := P) (S := S) (lo := none) (l := 0) hx rfl hh (by omega) hc hn
  simpa using this
theorem Zmz {S E by' bb o n c : Nat} {z : Value} {lo hi : Option Operand} {l h : Nat} [hs : TySlice P S E] [hi' : TyI P E 1 by' z] (hx : ev ρ x = .slice (some ⟨bb, o, none⟩) n c)
    (hl : optB ρ 0 lo = some (l : Int)) (hh : optB ρ n hi = some (h : Int)) (hle : l ≤ h := by first|omega|exact Nat.le_of_ble_eq_true rfl|(simp; done)|(simp; omega)|decide) (hc : h ≤ c := by first|omega|exact Nat.le_of_ble_eq_true rfl|(simp; done)|(simp; omega)|decide) (hn : l < c := by first|omega|exact Nat.le_of_ble_eq_true rfl|(simp; done)|(simp; omega)|decide) : PV P (.slice S x lo hi none) ρ (.slice (some ⟨bb, o + l, none⟩) (h - l) (c - l)) := by
  have := Zmw (P := P) (S := S) hx hl hh hle hc hn
  rwa [Nat.mul_one] at this
/-- From the beginning on. -/
theorem Zm0 {S E sz by' bb o n c : Nat} {z : Value} {hi : Option Operand} {h : Nat} [hs : TySlice P S E] [hi' : TyI P E sz by' z] (hx : ev ρ x = .slice (some ⟨bb, o, none⟩) n c)
    (hh : optB ρ n hi = some (h : Int)) (hc : h ≤ c := by first|omega|exact Nat.le_of_ble_eq_true rfl|(simp; done)|(simp; omega)|decide) : PV P (.slice S x none hi none) ρ (.slice (some ⟨bb, o, none⟩) h c) := by
  have := Zci (P := P) (S := S) (bb := bb) (o := o) (lo := none) (l := 0) hx rfl hh ⟨by omega, by omega⟩ (by omega)
  have e : cutOff o (0 : Int).toNat c sz = o := by simp [cutOff]
  rw [e] at this
  simpa using this
/-- Whatever its address. -/
theorem Zm1 {S E sz by' n c : Nat} {a : Option Addr} {z : Value} {lo hi : Option Operand} {l h : Nat} [hs : TySlice P S E] [hi' : TyI P E sz by' z] (hx : ev ρ x = .slice a n c)
    (hl : optB ρ 0 lo = some (l : Int)) (hh : optB ρ n hi = some (h : Int)) (hle : l ≤ h) (hc : h ≤ c) : PV P (.slice S x lo hi none) ρ (.slice (if c = l then a else a.map (·.add (l * sz))) (h - l) (c - l)) := by
  intro oo w ho; unfold execOp; rw [ho]; refine op_run_value ?_; rw [hx]
  unfold Instr.sliceAt
  rw [run_bind P _ _ w w _ (run_under hs.h)]
  simp only []
  unfold Instr.slice
  rw [run_bind P _ _ w w _ (run_under hs.h)]
  simp only [Option.map_none]
  rw [run_bind P _ _ w w _ (run_bounds hl hh ⟨by omega, by omega⟩ (by omega)), run_bind P _ _ w w _ (run_size hi')]
  show (Result.ok (Value.slice _ _ _) w : Result Value) = _
  rw [Int.toNat_natCast, Int.toNat_natCast]
end
theorem Rd.cut {M : List Asrt} {a : Option Addr} {n c l : Nat} {xs : List Value} (h : Rd M 1 (.slice a n c) n xs) (hl : l ≤ n) (hc : n ≤ c) : Rd M 1 (.slice (if c = l then a else a.map (·.add (l * 1))) (n - l) (c - l)) (n - l) (xs.drop l) := by
  intro w0 F w H
  obtain ⟨h1, h2⟩ := h w0 F w H
  refine ⟨by simp [h1], ?_⟩
  by_cases hn : n = l
  · exact .inl ⟨_, _, rfl, by omega⟩
  · rcases h2 with ⟨a, k, _, h0⟩|⟨b, o, k, cc, E, fr, hv, hb, hle, hx⟩
    · omega
    · simp only [Value.slice.injEq] at hv
      obtain ⟨rfl, _, rfl⟩ := hv
      rw [if_neg (by omega)]
      refine .inr ⟨b, o + l, c - l, cc, E, fr, ?_, hb, by omega, ?_⟩
      · simp [Option.map, addr_add]
      · rw [← hx]
        simp only [Array.toList_extract, List.extract_eq_take_drop, List.drop_take, List.drop_drop]
        congr 1
        omega
theorem Zm2 {P : Program} {ρ : Env} {T : Nat} {x : Operand} {k kk : IntKind} {n : Int} [hs : TyInt P T kk] (hx : ev ρ x = .int k n) : PV P (.makeInterface T x) ρ (.iface T (.int k n)) := by
  intro oo w ho; unfold execOp; rw [ho]; refine op_run_value ?_; rw [hx]
  unfold Instr.makeInterface
  rw [run_bind P _ _ w w _ (run_under hs.h)]; rfl
theorem int_eq {k : IntKind} {a b : Int} (h : a = b) : Value.int k a = .int k b := by rw [h]
section
variable {P : Program} {w0 : World} {ops : Array Oper} {dst : Option Nat} {ty T E : TypeId} {pos : String} {after : Array Edge} {rest : List Oper} {ρ : Env} {K : XK} {M : List Asrt} {x y : Operand}
/-- A made slice of cells that are alike. -/
theorem Zm3 {α : Type} {by' : Nat} {z : Value} {f : α → Value} {a : α} {len cap : Nat} [hs : TySlice P T E] [hi : TyI P E 1 by' z] (hl : ev ρ x = .int .i64 len) (hc : ev ρ y = .int .i64 cap) (hz : z.cells = #[f a]) (hle : len ≤ cap) (hcap : cap ≤ 9223372036854775807) (hb : cap * by' ≤ 281474976710656)
    (k : ∀ b, xOps P w0 ops rest (put ρ dst (.slice (some ⟨b, 0, none⟩) len cap)) (cl b ((List.replicate cap a).map f).toArray E :: M) K) :
    xOps P w0 ops (⟨dst, .makeSlice T x y, ty, pos, after, none⟩ :: rest) ρ M K := by
  refine Zh6 hl hc hle hcap hb (by omega) ?_
  intro b
  have e : (List.replicate cap z.cells.toList).flatten = (List.replicate cap a).map f := by
    rw [hz]; show (List.replicate cap [f a]).flatten = _
    rw [zeros1]; simp
  rw [e]; exact k b
end
theorem getL {α : Type} {f : α → Value} {l : List α} {i : Nat} (h : i < l.length) : ((l.map f).toArray)[i]? = some (f l[i]) := by simp [h]
theorem getM {α : Type} {f : α → Value} {l : List α} {i : Nat} (h : i < l.length) : (l.map f)[i]? = some (f l[i]) := by simp [h]
theorem setL {α : Type} {f : α → Value} {l : List α} {i : Nat} {x : α} : ((l.map f).toArray).setIfInBounds i (f x) = ((l.set i x).map f).toArray := by simp
theorem szL {α : Type} {f : α → Value} {l : List α} : ((l.map f).toArray).size = l.length := by simp
theorem oneL_u8 (l : List (BitVec 8)) : ((l.map u8b).toArray).toList.all oneC = true := by simp [oneC]
theorem oneL_u32 (l : List (BitVec 32)) : ((l.map u32b).toArray).toList.all oneC = true := by simp [oneC]
theorem oneL_u64 (l : List (BitVec 64)) : ((l.map u64b).toArray).toList.all oneC = true := by simp [oneC]
theorem oneM_u8 (l : List (BitVec 8)) : (l.map u8b).all oneC = true := by simp [oneC]
end Go.Sl

/- The engine over pieces alone: arrays of bytes compared; slices of bytes, of slices of bytes; many pieces as one. -/
set_option linter.unusedVariables false
set_option linter.unusedSimpArgs false
namespace Go.Sl
open Go
abbrev Byte := BitVec 8
/-- An array type of n bytes. -/
class TyBA (P : Program) (T : Nat) (n : outParam Nat) : Prop where
  ex : ∃ E, P.underlying T = some (.array n E) ∧ P.underlying E = some (.int .u8) ∧ P.cellsOf E = 1
  ct : P.cellsOf T = n
  key : P.keyTypeAt 4 T = true
  g : P.eqGuardType P.depth T = false
theorem byte_wf (b : Byte) : (Lit.int .u8 (b.toNat : Int)).wf = true := by
  have := b.isLt
  simp only [Lit.wf, Bool.and_eq_true, decide_eq_true_eq]
  have e1 : IntKind.u8.min = 0 := by decide
  have e2 : IntKind.u8.max = 255 := by decide
  omega
theorem ba_lits {P : Program} {T n : Nat} [h : TyBA P T n] (a : List Byte) (ha : a.length = n) : P.keyLits 2 T (a.map u8b) = some (a.map fun b => Lit.int .u8 (b.toNat : Int)) := by
  obtain ⟨E, h1, h2, h3⟩ := h.ex
  have := lits_arr (d := 0) (k := .u8) h1 h2 h3 h.ct (a.map fun b => (b.toNat : Int)) (by simpa using ha) (by
    intro x hx
    obtain ⟨b, _, rfl⟩ := List.mem_map.1 hx
    exact byte_wf b)
  rw [List.map_map, List.map_map] at this
  exact this
theorem ba_inj {a b : List Byte} : a = b ↔ (a.map fun b => Lit.int .u8 (b.toNat : Int)) = (b.map fun b => Lit.int .u8 (b.toNat : Int)) := by
  constructor
  · rintro rfl; rfl
  · intro h
    refine List.map_inj_right ?_ |>.1 h
    intro x y hxy
    simp only [Lit.int.injEq, true_and] at hxy
    exact BitVec.eq_of_toNat_eq (by omega)
theorem ba_formed {P : Program} {T n : Nat} [h : TyBA P T n] (a : List Byte) (ha : a.length = n) : (Value.agg (a.map u8b).toArray).formed P T = true := by
  obtain ⟨E, h1, h2, h3⟩ := h.ex
  have := h.ct
  simp [Value.formed, h1, this, ha]
section
variable {P : Program} {ρ : Env} {x y : Operand} {T T' n : Nat}
theorem Zm4 [h : TyBA P T n] {a b : List Byte} (ha : a.length = n) (hb : b.length = n) (hx : ev ρ x = .agg (a.map u8b).toArray) (hy : ev ρ y = .agg (b.map u8b).toArray) : PV P (.binOp .eql T x y T') ρ (.bool (decide (a = b))) :=
  Zf6 (m := 4) hx hy h.key (by omega) h.g (ba_formed a ha) (ba_formed b hb) (ba_lits a ha) (ba_lits b hb) ba_inj
theorem Zm5 [h : TyBA P T n] {a b : List Byte} (ha : a.length = n) (hb : b.length = n) (hx : ev ρ x = .agg (a.map u8b).toArray) (hy : ev ρ y = .agg (b.map u8b).toArray) : PV P (.binOp .neq T x y T') ρ (.bool (decide (¬ a = b))) :=
  Zf7 (m := 4) hx hy h.key (by omega) h.g (ba_formed a ha) (ba_formed b hb) (ba_lits a ha) (ba_lits b hb) ba_inj
end
/-- Among the pieces M the slice v holds the bytes l. -/
structure Bs (M : List Asrt) (v : Value) (l : List Byte) : Prop where
  rd : Rd M 1 v l.length (l.map u8b)
  sh : ∀ w0 F w, St w0 w (F :: M) → ∃ a c, v = .slice a l.length c ∧ l.length ≤ c ∧ c ≤ 9223372036854775807
theorem Bs.imp {M N : List Asrt} {v : Value} {l : List Byte} (h : Bs N v l) (hi : Imp M N) : Bs M v l := ⟨h.rd.imp hi, fun w0 F w H => h.sh w0 F w (H.enx hi)⟩
theorem own_shape {E size n : Nat} {v : Value} {xs : List Value} {w0 w : World} {L : List Asrt} (H : St w0 w (own E size v n xs :: L)) : ∃ a c, v = .slice a n c ∧ n ≤ c ∧ c ≤ 9223372036854775807 := by
  rcases H.own_get with ⟨rfl, rfl, rfl, _⟩|⟨g, cap, cur, rfl, h2, h3, h4, h5, h6, H⟩
  · exact ⟨none, 0, rfl, by omega, by omega⟩
  · exact ⟨_, cap, rfl, h2, h3⟩
theorem Bs.own {M M' : List Asrt} {E : Nat} {v : Value} {l : List Byte} (hm : Has M (own E 1 v l.length (l.map u8b)) M') : Bs M v l :=
  ⟨Rd.own hm, fun w0 F w H => own_shape (H.pick (.there hm))⟩
theorem Bs.old {M M' : List Asrt} {W : World} {v : Value} {l : List Byte} (hm : Has M (old W) M') (h : SlW W 1 v l.length (l.map u8b)) (hs : ∃ a c, v = .slice a l.length c ∧ l.length ≤ c ∧ c ≤ 9223372036854775807) : Bs M v l :=
  ⟨Rd.old hm h, fun _ _ _ _ => hs⟩
theorem Bs.cl {M M' : List Asrt} {b o c E : Nat} {cc : Array Value} {l : List Byte} (hm : Has M (cl b cc E) M') (hle : o + l.length ≤ cc.size) (h : (cc.extract o (o + l.length)).toList = l.map u8b) (hc : l.length ≤ c) (hcm : c ≤ 9223372036854775807) :
    Bs M (.slice (some ⟨b, o, none⟩) l.length c) l :=
  ⟨Rd.cl hm (by simp) (by omega) (by rw [Nat.mul_one]; exact h), fun _ _ _ _ => ⟨_, _, rfl, hc, hcm⟩⟩
theorem Bs.nil {M : List Asrt} : Bs M (.slice none 0 0) [] := ⟨Rd.nil, fun _ _ _ _ => ⟨none, 0, rfl, by simp, by omega⟩⟩
theorem Bs.some {M : List Asrt} {a : Option Addr} {n c : Nat} {l : List Byte} {w0 w : World} {F : Asrt} (h : Bs M (.slice a n c) l) (hn : 0 < l.length) (H : St w0 w (F :: M)) : ∃ b o, a = some ⟨b, o, none⟩ := by
  obtain ⟨a', c', hv, _, _⟩ := h.sh _ _ _ H
  simp only [Value.slice.injEq] at hv
  obtain ⟨rfl, rfl, rfl⟩ := hv
  exact h.rd.someAt hn H
/-- ... a slice of slices of bytes: each with its value. -/
structure Rs (M : List Asrt) (v : Value) (ps : List (Value × List Byte)) : Prop where
  rd : Rd M 1 v ps.length (ps.map (·.1))
  sh : ∀ w0 F w, St w0 w (F :: M) → ∃ a c, v = .slice a ps.length c ∧ ps.length ≤ c ∧ c ≤ 9223372036854775807
  el : ∀ x ∈ ps, Bs M x.1 x.2
theorem Rs.imp {M N : List Asrt} {v : Value} {ps : List (Value × List Byte)} (h : Rs N v ps) (hi : Imp M N) : Rs M v ps := ⟨h.rd.imp hi, fun w0 F w H => h.sh w0 F w (H.enx hi), fun x hx => (h.el x hx).imp hi⟩
theorem Rs.own {M M' : List Asrt} {E : Nat} {v : Value} {ps : List (Value × List Byte)} (hm : Has M (Sl.own E 1 v ps.length (ps.map (·.1))) M') (h : ∀ x ∈ ps, Bs M x.1 x.2) : Rs M v ps :=
  ⟨Rd.own hm, fun w0 F w H => own_shape (H.pick (.there hm)), h⟩
theorem Rs.cl {M M' : List Asrt} {b o c E : Nat} {cc : Array Value} {ps : List (Value × List Byte)} (hm : Has M (Sl.cl b cc E) M') (hle : o + ps.length ≤ cc.size) (h : (cc.extract o (o + ps.length)).toList = ps.map (·.1)) (hc : ps.length ≤ c) (hcm : c ≤ 9223372036854775807) (he : ∀ x ∈ ps, Bs M x.1 x.2) :
    Rs M (.slice (some ⟨b, o, none⟩) ps.length c) ps :=
  ⟨Rd.cl hm (by simp) (by omega) (by rw [Nat.mul_one]; exact h), fun _ _ _ _ => ⟨_, _, rfl, hc, hcm⟩, he⟩

theorem Imp.own_mk {E size n cap g : Nat} {cur : Array Value} {xs : List Value} {M : List Asrt} (h1 : n ≤ cap) (h2 : cap ≤ 9223372036854775807) (h3 : cur.size = cap * size) (h4 : cur.toList.take (n * size) = xs) :
    Imp (Sl.cl g cur E :: M) (Sl.own E size (.slice (some ⟨g, 0, none⟩) n cap) n xs :: M) :=
  Imp.head fun h hg => ⟨by rw [← h4, List.length_take, Array.length_toList, h3]; exact Nat.min_eq_left (Nat.mul_le_mul_right _ h1), .inr ⟨g, cap, cur, rfl, hg, h1, h2, h3, h4⟩⟩
theorem Imp.own_nil {E size : Nat} {M : List Asrt} : Imp M (Sl.own E size (.slice none 0 0) 0 [] :: M) :=
  fun h hs => ⟨fun _ => none, h, ⟨by simp, .inl ⟨rfl, rfl⟩⟩, hs, Frag.none_disj _, Frag.none_sub _, Frag.sub_refl _⟩
theorem own_some {E n c : Nat} {a : Option Addr} {xs : List Value} {w0 w : World} {F : Asrt} {M M' : List Asrt} (hm : Has M (Sl.own E 1 (.slice a n c) n xs) M') (hn : 0 < n) (H : St w0 w (F :: M)) : ∃ g, a = some ⟨g, 0, none⟩ := by
  rcases (H.pick (.there hm)).own_get with ⟨hv, rfl, _⟩|⟨g, cap, cur, hv, _⟩
  · omega
  · simp only [Value.slice.injEq] at hv
    exact ⟨g, hv.1⟩
theorem Zm6 {P : Program} {w0 : World} {ops : Array Oper} {dst : Option Nat} {ty T : TypeId} {pos : String} {after : Array Edge} {rest : List Oper} {ρ : Env} {K : XK} {M : List Asrt} {x : Operand} {b m k j : Nat} {xs : List Value} {v : Value} [hs : TyScal P T] (hx : ev ρ x = .pointer (some ⟨b, j, none⟩)) (HS : Rd M 1 (.slice (some ⟨b, 0, none⟩) m k) m xs) (hj : j < m) (hv : xs[j]? = some v)
    (kk : xOps P w0 ops rest (put ρ dst v) M K) : xOps P w0 ops (⟨dst, .load T x, ty, pos, after, none⟩ :: rest) ρ M K := Zic (o := 0) (j := j) (by rw [Nat.zero_add]; exact hx) HS hj hv kk
/-- An element of a slice with its room is written. -/
theorem Zm7 {P : Program} {w0 : World} {ops : Array Oper} {dst : Option Nat} {ty T : TypeId} {pos : String} {after : Array Edge} {rest : List Oper} {ρ : Env} {K : XK} {M M2 : List Asrt} {x y : Operand} {by' g i n c E : Nat} {z u : Value} {xs ys : List Value} [hi : TyI P T 1 by' z]
    (hx : ev ρ x = .pointer (some ⟨g, i, none⟩)) (hy : ev ρ y = u) (h1 : oneC u = true) (hm : Repl M (Sl.own E 1 (.slice (some ⟨g, 0, none⟩) n c) n xs) (Sl.own E 1 (.slice (some ⟨g, 0, none⟩) n c) n ys) M2) (hn : i < n) (hys : xs.set i u = ys)
    (k : xOps P w0 ops rest (put ρ dst undef) M2 K) : xOps P w0 ops (⟨dst, .store T x y, ty, pos, after, none⟩ :: rest) ρ M K := by
  intro F w H
  obtain ⟨R, hh1, hh2⟩ := hm.has
  have H1 := H.pick (.there hh1)
  rcases H1.own_get with ⟨hv, _⟩|⟨g', cap, cur, hv, h2, h3, h4, h5, h6, H3⟩
  · cases hv
  · simp only [Value.slice.injEq, Option.some.injEq, Addr.mk.injEq] at hv
    obtain ⟨⟨rfl, _, _⟩, _, rfl⟩ := hv
    refine Zda H3 hx hy h1 Repl.here (by omega) ?_
    intro w' H'
    have H4 := H'.own_mk (size := 1) (n := n) (cap := c) (xs := ys) h2 h3 (by simpa using h4) (by
      rw [← hys, ← h5, Nat.mul_one, Array.toList_setIfInBounds, List.take_set])
    exact k F w' (H4.unpick (.there hh2))
/-- Many pieces as one. -/
def star {α : Type} (A : α → Asrt) (l : List α) : Asrt := all (l.map A)
theorem star_nil {α : Type} {A : α → Asrt} {M : List Asrt} : Imp M (star A [] :: M) := by
  have := Imp.app (L := []) (M := M)
  exact this
theorem star_cons {α : Type} {A : α → Asrt} {x : α} {l : List α} {M : List Asrt} : Imp (A x :: star A l :: M) (star A (x :: l) :: M) := by
  have h : Imp (A x :: star A l :: M) (A x :: (l.map A ++ M)) := Imp.cons Imp.unapp
  exact h.trans (Imp.app (L := A x :: l.map A))
theorem star_uncons {α : Type} {A : α → Asrt} {x : α} {l : List α} {M : List Asrt} : Imp (star A (x :: l) :: M) (A x :: star A l :: M) := by
  have h : Imp (star A (x :: l) :: M) (A x :: (l.map A ++ M)) := Imp.unapp (L := A x :: l.map A)
  exact h.trans (Imp.cons Imp.app)
theorem star_app {α : Type} {A : α → Asrt} {l l2 : List α} {M : List Asrt} : Imp (star A l :: star A l2 :: M) (star A (l ++ l2) :: M) := by
  induction l with
  | nil => exact Imp.tail
  | cons x l ih =>
    refine (star_uncons (M := star A l2 :: M)).trans ?_
    exact (Imp.cons ih).trans star_cons
theorem star_unapp {α : Type} {A : α → Asrt} {l l2 : List α} {M : List Asrt} : Imp (star A (l ++ l2) :: M) (star A l :: star A l2 :: M) := by
  induction l with
  | nil => exact star_nil
  | cons x l ih =>
    refine (star_uncons (M := M)).trans ?_
    exact (Imp.cons ih).trans (star_cons (M := star A l2 :: M))
theorem star_snoc {α : Type} {A : α → Asrt} {x : α} {l : List α} {M : List Asrt} : Imp (A x :: star A l :: M) (star A (l ++ [x]) :: M) := by
  have h1 : Imp (A x :: star A l :: M) (star A [x] :: star A l :: M) := by
    have := star_cons (A := A) (x := x) (l := []) (M := star A l :: M)
    exact (Imp.cons star_nil).trans this
  exact h1.trans (Imp.swap.trans star_app)
/-- One of them, and the others. -/
theorem star_at {α : Type} {A : α → Asrt} {l : List α} {i : Nat} (h : i < l.length) {M : List Asrt} : Imp (star A l :: M) (A l[i] :: star A (l.eraseIdx i) :: M) := by
  have e : l = l.take i ++ l[i] :: l.drop (i + 1) := by rw [← List.drop_eq_getElem_cons h, List.take_append_drop]
  have e2 : l.eraseIdx i = l.take i ++ l.drop (i + 1) := List.eraseIdx_eq_take_drop_succ ..
  have h1 : Imp (star A l :: M) (star A (l.take i) :: star A (l[i] :: l.drop (i + 1)) :: M) := by
    have := star_unapp (A := A) (l := l.take i) (l2 := l[i] :: l.drop (i + 1)) (M := M)
    rwa [← e] at this
  rw [e2]
  refine h1.trans ((Imp.cons star_uncons).trans ?_)
  exact Imp.swap.trans (Imp.cons star_app)
theorem star_back {α : Type} {A : α → Asrt} {l : List α} {i : Nat} (h : i < l.length) (y : α) {M : List Asrt} : Imp (A y :: star A (l.eraseIdx i) :: M) (star A (l.set i y) :: M) := by
  have e2 : l.eraseIdx i = l.take i ++ l.drop (i + 1) := List.eraseIdx_eq_take_drop_succ ..
  rw [e2, List.set_eq_take_append_cons_drop, if_pos h]
  refine (Imp.cons star_unapp).trans ?_
  refine Imp.swap.trans ?_
  exact (Imp.cons star_cons).trans star_app
theorem star_mem {α : Type} {A : α → Asrt} {l : List α} {x : α} (h : x ∈ l) {M : List Asrt} : ∃ R, Imp (star A l :: M) (A x :: R) := by
  obtain ⟨i, hi, rfl⟩ := List.getElem_of_mem h
  exact ⟨_, star_at hi⟩
theorem star_has {α : Type} {A : α → Asrt} {l : List α} {x : α} (h : x ∈ l) {M M' : List Asrt} (hm : Has M (star A l) M') : ∃ R, Imp M (A x :: R) := by
  obtain ⟨R, hR⟩ := star_mem (A := A) h (M := M')
  exact ⟨R, (Imp.has hm).trans hR⟩
end Go.Sl

/- the bridge from a contract to a row. -/
namespace Go.Sl
open Go Go.ChangeShapes Go.WideShapes Go.ChangeAt Go.RowKit
theorem con_law {P : Program} {f : FuncId} {args : List Value} {W : World} (h : Con P f args [old W] (fun v M => v = .bool true ∧ [old W] = M)) : Calls P f args.toArray W (fun e w' => e = .returned (.bool true) ∧ Below W.heap.size W w') := by
  have H : St W W (pur True :: [old W]) := (St.start W).pur_mk trivial
  refine (h W _ W H).mono ?_
  rintro e w' ⟨v, he, M', H', hv, rfl⟩
  exact ⟨by rw [he, hv], H'.below (.there .here)⟩
/-- A contract that needs nothing, among whatever pieces. -/
theorem Con.frame {P : Program} {F : FuncId} {args : List Value} {M L : List Asrt} {Φ : Value → List Asrt → Prop} (h : Con P F args M Φ) : Con P F args (M ++ L) (fun v N => ∃ M', Φ v M' ∧ M' ++ L = N) := by
  intro w0 Fr w H
  have H2 : St w0 w (all (Fr :: L) :: M) := by
    refine H.ent ((Imp.cons Imp.comm).trans ?_)
    exact Imp.app (L := Fr :: L) (M := M)
  refine (h w0 _ w H2).mono (Ret.mono ?_)
  rintro v w' ⟨M', H', hφ⟩
  exact ⟨M' ++ L, H'.ent (Imp.unapp.trans (Imp.cons Imp.comm)), M', hφ, rfl⟩
end Go.Sl

/- what comes in, opened: arrays of bytes, bytes, slices of bytes. -/
set_option linter.unusedVariables false
set_option linter.unusedSimpArgs false
namespace Go.Sl
open Go Go.ChangeShapes Go.WideShapes Go.ChangeAt Go.RowKit
variable {H : Type} {enc : TypeId × Value → H} {P : Program} {w : World} {base : Nat} {spare : Nat → Bool} {held : Bool}
theorem byte_of {n : Int} (hw : (Lit.int .u8 n).wf = true) : ∃ b : Byte, Value.int .u8 n = u8b b := by
  simp only [Lit.wf, Bool.and_eq_true, decide_eq_true_eq] at hw
  have hlo : IntKind.u8.min = 0 := by decide
  have hhi : IntKind.u8.max = 255 := by decide
  refine ⟨BitVec.ofNat 8 n.toNat, ?_⟩
  show Value.int .u8 n = .int .u8 _
  rw [BitVec.toNat_ofNat]
  congr 1
  omega
theorem list_bytes {cs : List Value} (h : ∀ v ∈ cs, ∃ b : Byte, v = u8b b) : ∃ l : List Byte, cs = l.map u8b := by
  induction cs with
  | nil => exact ⟨[], rfl⟩
  | cons v cs ih =>
    obtain ⟨b, hb⟩ := h v (.head _)
    obtain ⟨l, hl⟩ := ih (fun x hx => h x (.tail _ hx))
    exact ⟨b :: l, by rw [hb, hl]; rfl⟩
/-- An array of bytes. -/
theorem open_ba {T n fuel : Nat} {cs : List Value} {x : DataW H × List MemPlace} [ht : TyBA P T n] (h : DataW.trod enc P w base spare held fuel T cs = some x) : ∃ l : List Byte, cs = l.map u8b ∧ l.length = n := by
  obtain ⟨E, h1, h2, h3⟩ := ht.ex
  obtain ⟨xs, m, _, _, hl, hxl, hel⟩ := DataW.trod_array h1 h
  rw [ht.ct] at hl
  have hb : ∀ v ∈ cs, ∃ b : Byte, v = u8b b := by
    intro v hv
    obtain ⟨i, hi, rfl⟩ := List.getElem_of_mem hv
    have h4 := hel i (by omega)
    rw [h3, Nat.mul_one] at h4
    rw [List.getElem?_eq_getElem (show i < xs.length by omega)] at h4
    have e : (cs.drop i).take 1 = [cs[i]] := by rw [List.drop_eq_getElem_cons hi]; rfl
    rw [e] at h4
    obtain ⟨k, hk, _, hw⟩ := DataW.trod_int h2 h4
    simp only [List.cons.injEq, and_true] at hk
    rw [hk]
    exact byte_of hw
  obtain ⟨l, rfl⟩ := list_bytes hb
  exact ⟨l, rfl, by simpa using hl⟩
theorem slice_shape {t e fuel : Nat} {cs : List Value} {x : DataW H × List MemPlace} (ht : P.underlying t = some (.slice e)) (h : DataW.trod enc P w base spare held fuel t cs = some x) :
    ∃ a len cap, cs = [.slice a len cap] ∧ len ≤ cap ∧ cap ≤ 9223372036854775807 := by
  rcases DataW.trod_slice ht h with ⟨rfl, _⟩|⟨a, len, cap, elems, rest, n, _, rfl, hx, hb, hl, hm, _⟩
  · exact ⟨none, 0, 0, rfl, by omega, by omega⟩
  · exact ⟨some a, len, cap, rfl, hl, by unfold Go.maxLen at hm; omega⟩
/-- What a slice of bytes is when it comes in. -/
structure InB (W : World) (v : Value) (l : List Byte) : Prop where
  sl : SlW W 1 v l.length (l.map u8b)
  sh : ∃ a c, v = .slice a l.length c ∧ l.length ≤ c ∧ c ≤ 9223372036854775807
  len : l.length ≤ 140737488351232
theorem InB.bs {W : World} {v : Value} {l : List Byte} {M M' : List Asrt} (h : InB W v l) (hm : Has M (old W) M') : Bs M v l := Bs.old hm h.sl h.sh
theorem open_bs {t e fuel : Nat} {cs : List Value} {x : DataW H × List MemPlace} (ht : P.underlying t = some (.slice e)) (he : P.underlying e = some (.int .u8)) (hc : P.cellsOf e = 1) (hby : P.bytesOf e = 1) (h : DataW.trod enc P w base spare held fuel t cs = some x) (hs : Small P t x.1) :
    ∃ (v : Value) (l : List Byte), cs = [v] ∧ InB w v l := by
  obtain ⟨v, l, h1, h2, h3, h4⟩ := open_bytess ht he hc hby h hs
  obtain ⟨a, len, cap, h5, h6, h7⟩ := slice_shape ht h
  rw [h1] at h5
  simp only [List.cons.injEq, and_true] at h5
  have hb : ∀ u ∈ l.map u8v, ∃ b : Byte, u = u8b b := by
    intro u hu
    obtain ⟨n, hn, rfl⟩ := List.mem_map.1 hu
    exact byte_of (h3 n hn)
  obtain ⟨lb, hlb⟩ := list_bytes hb
  have hll : l.length = lb.length := by have := congrArg List.length hlb; simpa using this
  rw [hlb, hll] at h2
  obtain ⟨a', k', hv⟩ := h2.len
  rw [h5] at hv
  simp only [Value.slice.injEq] at hv
  obtain ⟨rfl, rfl, rfl⟩ := hv
  exact ⟨v, lb, h1, ⟨h2, ⟨a, cap, h5, h6, h7⟩, by omega⟩⟩
/-- ... a slice of them. -/
structure InR (W : World) (v : Value) (ps : List (Value × List Byte)) : Prop where
  sl : SlW W 1 v ps.length (ps.map (·.1))
  sh : ∃ a c, v = .slice a ps.length c ∧ ps.length ≤ c ∧ c ≤ 9223372036854775807
  el : ∀ x ∈ ps, InB W x.1 x.2
  len : ps.length * 24 ≤ 140737488351232
theorem InR.rs {W : World} {v : Value} {ps : List (Value × List Byte)} {M M' : List Asrt} (h : InR W v ps) (hm : Has M (old W) M') : Rs M v ps :=
  ⟨Rd.old hm h.sl, fun _ _ _ _ => h.sh, fun x hx => (h.el x hx).bs hm⟩
theorem open_rs {t e e2 fuel : Nat} {cs : List Value} {x : DataW H × List MemPlace} (ht : P.underlying t = some (.slice e)) (hc : P.cellsOf e = 1) (hby : P.bytesOf e = 24) (ht2 : P.underlying e = some (.slice e2)) (he : P.underlying e2 = some (.int .u8)) (hc2 : P.cellsOf e2 = 1) (hby2 : P.bytesOf e2 = 1)
    (h : DataW.trod enc P w base spare held fuel t cs = some x) (hs : Small P t x.1) : ∃ (v : Value) (ps : List (Value × List Byte)), cs = [v] ∧ InR w v ps := by
  obtain ⟨v, l, h1, h2, h3, h4⟩ := open_sls (encd := fun x : Value × List Byte => [x.1]) (good := fun x => InB w x.1 x.2) ht hc (by decide) hby (fun _ => rfl) (fun n cs y hy hsm => by
    obtain ⟨v, l, rfl, hin⟩ := open_bs ht2 he hc2 hby2 hy hsm
    exact ⟨(v, l), rfl, hin⟩) h hs
  obtain ⟨a, len, cap, h5, h6, h7⟩ := slice_shape ht h
  rw [h1] at h5
  simp only [List.cons.injEq, and_true] at h5
  rw [flat_one] at h2
  obtain ⟨a', k', hv⟩ := h2.len
  rw [h5] at hv
  simp only [Value.slice.injEq] at hv
  obtain ⟨rfl, rfl, rfl⟩ := hv
  exact ⟨v, l, h1, ⟨h2, ⟨a, cap, h5, h6, h7⟩, h3, h4⟩⟩
/-- Arguments. -/
theorem arg_ba {T n b0 : Nat} {v : Value} {d : DataW H} {ps : List MemPlace} [ht : TyBA P T n] (hv : Value.okWide P w .any b0 T v) (h : DataW.Trod enc P w base spare held T v d ps) : ∃ l : List Byte, v = .agg (l.map u8b).toArray ∧ l.length = n := by
  obtain ⟨E, h1, _, _⟩ := ht.ex
  simp only [Value.okWide, h1] at hv
  obtain ⟨cs, rfl, _⟩ := hv
  obtain ⟨fuel, hf⟩ := h
  obtain ⟨l, hl, hn⟩ := open_ba hf
  refine ⟨l, ?_, hn⟩
  have : cs.toList = l.map u8b := hl
  rw [← this]
theorem arg_bs {t e b0 : Nat} {v : Value} {d : DataW H} {ps : List MemPlace} (ht : P.underlying t = some (.slice e)) (he : P.underlying e = some (.int .u8)) (hc : P.cellsOf e = 1) (hby : P.bytesOf e = 1) (hv : Value.okWide P w .any b0 t v) (h : DataW.Trod enc P w base spare held t v d ps) (hs : Small P t d) :
    ∃ l : List Byte, InB w v l := by
  obtain ⟨a, len, cap, rfl⟩ := okWide_slice ht hv
  obtain ⟨fuel, hf⟩ := h
  obtain ⟨u, l, hu, hin⟩ := open_bs ht he hc hby hf hs
  obtain rfl : Value.slice a len cap = u := by simpa [Value.cells] using hu
  exact ⟨l, hin⟩
theorem arg_rs {t e e2 b0 : Nat} {v : Value} {d : DataW H} {ps : List MemPlace} (ht : P.underlying t = some (.slice e)) (hc : P.cellsOf e = 1) (hby : P.bytesOf e = 24) (ht2 : P.underlying e = some (.slice e2)) (he : P.underlying e2 = some (.int .u8)) (hc2 : P.cellsOf e2 = 1) (hby2 : P.bytesOf e2 = 1)
    (hv : Value.okWide P w .any b0 t v) (h : DataW.Trod enc P w base spare held t v d ps) (hs : Small P t d) : ∃ l : List (Value × List Byte), InR w v l := by
  obtain ⟨a, len, cap, rfl⟩ := okWide_slice ht hv
  obtain ⟨fuel, hf⟩ := h
  obtain ⟨u, l, hu, hin⟩ := open_rs ht hc hby ht2 he hc2 hby2 hf hs
  obtain rfl : Value.slice a len cap = u := by simpa [Value.cells] using hu
  exact ⟨l, hin⟩
end Go.Sl

/- What the engine's rules ask of this program's types (written by gentypes.py). -/
namespace Go.Sl
open Go Go.Proofs
theorem Try.mixed : Try.prog.follows .mixedOrders = true := by kernel_rfl
instance : TyScal Try.prog 1 := ⟨by kernel_rfl⟩
instance : TyI Try.prog 1 1 8 (.nilFunc) := ⟨by kernel_rfl, by kernel_rfl⟩
instance : TyScal Try.prog 2 := ⟨by kernel_rfl⟩
instance : TyI Try.prog 2 1 8 (.int .i64 0) := ⟨by kernel_rfl, by kernel_rfl⟩
instance : TyInt Try.prog 2 .i64 := ⟨by kernel_rfl⟩
instance : TyScal Try.prog 3 := ⟨by kernel_rfl⟩
instance : TyI Try.prog 3 1 8 (.int .i64 0) := ⟨by kernel_rfl, by kernel_rfl⟩
instance : TyInt Try.prog 3 .i64 := ⟨by kernel_rfl⟩
instance : TyScal Try.prog 4 := ⟨by kernel_rfl⟩
instance : TyI Try.prog 4 1 1 (.bool false) := ⟨by kernel_rfl, by kernel_rfl⟩
instance : TyBool Try.prog 4 := ⟨by kernel_rfl⟩
instance : TyScal Try.prog 5 := ⟨by kernel_rfl⟩
instance : TyI Try.prog 5 1 1 (.int .u8 0) := ⟨by kernel_rfl, by kernel_rfl⟩
instance : TyInt Try.prog 5 .u8 := ⟨by kernel_rfl⟩
instance : TyScal Try.prog 6 := ⟨by kernel_rfl⟩
instance : TyI Try.prog 6 1 1 (.int .u8 0) := ⟨by kernel_rfl, by kernel_rfl⟩
instance : TyInt Try.prog 6 .u8 := ⟨by kernel_rfl⟩
instance : TyAggr Try.prog 7 := ⟨by kernel_rfl⟩
instance : TyI Try.prog 7 4 24 (.agg #[.int .i64 0, .int .i64 0, .bool false, .int .u8 0]) := ⟨by kernel_rfl, by kernel_rfl⟩
instance : Fld Try.prog 7 0 0 2 := ⟨by kernel_rfl⟩
instance : Fld Try.prog 7 1 1 3 := ⟨by kernel_rfl⟩
instance : Fld Try.prog 7 2 2 4 := ⟨by kernel_rfl⟩
instance : Fld Try.prog 7 3 3 6 := ⟨by kernel_rfl⟩
instance : TyStruct Try.prog 7 #[(0, 1), (1, 1), (2, 1), (3, 1)] := ⟨by kernel_rfl⟩
instance : TyAggr Try.prog 8 := ⟨by kernel_rfl⟩
instance : TyI Try.prog 8 4 24 (.agg #[.int .i64 0, .int .i64 0, .bool false, .int .u8 0]) := ⟨by kernel_rfl, by kernel_rfl⟩
instance : Fld Try.prog 8 0 0 2 := ⟨by kernel_rfl⟩
instance : Fld Try.prog 8 1 1 3 := ⟨by kernel_rfl⟩
instance : Fld Try.prog 8 2 2 4 := ⟨by kernel_rfl⟩
instance : Fld Try.prog 8 3 3 6 := ⟨by kernel_rfl⟩
instance : TyStruct Try.prog 8 #[(0, 1), (1, 1), (2, 1), (3, 1)] := ⟨by kernel_rfl⟩
instance : TyScal Try.prog 9 := ⟨by kernel_rfl⟩
instance : TyI Try.prog 9 1 16 (.string ByteArray.empty) := ⟨by kernel_rfl, by kernel_rfl⟩
instance : TyStr Try.prog 9 := ⟨by kernel_rfl⟩
instance : TyScal Try.prog 10 := ⟨by kernel_rfl⟩
instance : TyI Try.prog 10 1 16 (.string ByteArray.empty) := ⟨by kernel_rfl, by kernel_rfl⟩
instance : TyStr Try.prog 10 := ⟨by kernel_rfl⟩
instance : TyScal Try.prog 11 := ⟨by kernel_rfl⟩
instance : TyI Try.prog 11 1 16 (.string ByteArray.empty) := ⟨by kernel_rfl, by kernel_rfl⟩
instance : TyStr Try.prog 11 := ⟨by kernel_rfl⟩
instance : TyScal Try.prog 12 := ⟨by kernel_rfl⟩
instance : TyI Try.prog 12 1 8 (.int .u64 0) := ⟨by kernel_rfl, by kernel_rfl⟩
instance : TyInt Try.prog 12 .u64 := ⟨by kernel_rfl⟩
instance : TyAggr Try.prog 13 := ⟨by kernel_rfl⟩
instance : TyI Try.prog 13 2 24 (.agg #[.string ByteArray.empty, .int .u64 0]) := ⟨by kernel_rfl, by kernel_rfl⟩
instance : Fld Try.prog 13 0 0 9 := ⟨by kernel_rfl⟩
instance : Fld Try.prog 13 1 1 12 := ⟨by kernel_rfl⟩
instance : TyStruct Try.prog 13 #[(0, 1), (1, 1)] := ⟨by kernel_rfl⟩
instance : TyAggr Try.prog 14 := ⟨by kernel_rfl⟩
instance : TyI Try.prog 14 2 24 (.agg #[.string ByteArray.empty, .int .u64 0]) := ⟨by kernel_rfl, by kernel_rfl⟩
instance : Fld Try.prog 14 0 0 9 := ⟨by kernel_rfl⟩
instance : Fld Try.prog 14 1 1 12 := ⟨by kernel_rfl⟩
instance : TyStruct Try.prog 14 #[(0, 1), (1, 1)] := ⟨by kernel_rfl⟩
instance : TyScal Try.prog 15 := ⟨by kernel_rfl⟩
instance : TyI Try.prog 15 1 8 (.pointer none) := ⟨by kernel_rfl, by kernel_rfl⟩
instance : TyPtr Try.prog 15 92 := ⟨by kernel_rfl⟩
instance : TyScal Try.prog 16 := ⟨by kernel_rfl⟩
instance : TyI Try.prog 16 1 8 (.pointer none) := ⟨by kernel_rfl, by kernel_rfl⟩
instance : TyPtr Try.prog 16 95 := ⟨by kernel_rfl⟩
instance : TyScal Try.prog 17 := ⟨by kernel_rfl⟩
instance : TyI Try.prog 17 1 8 (.pointer none) := ⟨by kernel_rfl, by kernel_rfl⟩
instance : TyPtr Try.prog 17 105 := ⟨by kernel_rfl⟩
instance : TyAggr Try.prog 18 := ⟨by kernel_rfl⟩
instance : TyI Try.prog 18 1 8 (.agg #[.pointer none]) := ⟨by kernel_rfl, by kernel_rfl⟩
instance : Fld Try.prog 18 0 0 17 := ⟨by kernel_rfl⟩
instance : TyStruct Try.prog 18 #[(0, 1)] := ⟨by kernel_rfl⟩
instance : TyAggr Try.prog 19 := ⟨by kernel_rfl⟩
instance : TyI Try.prog 19 1 8 (.agg #[.pointer none]) := ⟨by kernel_rfl, by kernel_rfl⟩
instance : Fld Try.prog 19 0 0 17 := ⟨by kernel_rfl⟩
instance : TyStruct Try.prog 19 #[(0, 1)] := ⟨by kernel_rfl⟩
instance : TyScal Try.prog 20 := ⟨by kernel_rfl⟩
instance : TyI Try.prog 20 1 16 (.nilIface) := ⟨by kernel_rfl, by kernel_rfl⟩
instance : TyScal Try.prog 21 := ⟨by kernel_rfl⟩
instance : TyI Try.prog 21 1 4 (.int .i32 0) := ⟨by kernel_rfl, by kernel_rfl⟩
instance : TyInt Try.prog 21 .i32 := ⟨by kernel_rfl⟩
instance : TyScal Try.prog 22 := ⟨by kernel_rfl⟩
instance : TyI Try.prog 22 1 8 (.nilFunc) := ⟨by kernel_rfl, by kernel_rfl⟩
instance : TyAggr Try.prog 23 := ⟨by kernel_rfl⟩
instance : TyI Try.prog 23 32 32 (.agg #[.int .u8 0, .int .u8 0, .int .u8 0, .int .u8 0, .int .u8 0, .int .u8 0, .int .u8 0, .int .u8 0, .int .u8 0, .int .u8 0, .int .u8 0, .int .u8 0, .int .u8 0, .int .u8 0, .int .u8 0, .int .u8 0, .int .u8 0, .int .u8 0, .int .u8 0, .int .u8 0, .int .u8 0, .int .u8 0, .int .u8 0, .int .u8 0, .int .u8 0, .int .u8 0, .int .u8 0, .int .u8 0, .int .u8 0, .int .u8 0, .int .u8 0, .int .u8 0]) := ⟨by kernel_rfl, by kernel_rfl⟩
instance : TyArr Try.prog 23 32 5 := ⟨by kernel_rfl⟩
instance : TyAggr Try.prog 24 := ⟨by kernel_rfl⟩
instance : TyI Try.prog 24 32 32 (.agg #[.int .u8 0, .int .u8 0, .int .u8 0, .int .u8 0, .int .u8 0, .int .u8 0, .int .u8 0, .int .u8 0, .int .u8 0, .int .u8 0, .int .u8 0, .int .u8 0, .int .u8 0, .int .u8 0, .int .u8 0, .int .u8 0, .int .u8 0, .int .u8 0, .int .u8 0, .int .u8 0, .int .u8 0, .int .u8 0, .int .u8 0, .int .u8 0, .int .u8 0, .int .u8 0, .int .u8 0, .int .u8 0, .int .u8 0, .int .u8 0, .int .u8 0, .int .u8 0]) := ⟨by kernel_rfl, by kernel_rfl⟩
instance : TyArr Try.prog 24 32 5 := ⟨by kernel_rfl⟩
instance : TyScal Try.prog 25 := ⟨by kernel_rfl⟩
instance : TyI Try.prog 25 1 24 (.slice none 0 0) := ⟨by kernel_rfl, by kernel_rfl⟩
instance : TySlice Try.prog 25 31 := ⟨by kernel_rfl⟩
instance : TyScal Try.prog 26 := ⟨by kernel_rfl⟩
instance : TyI Try.prog 26 1 8 (.nilFunc) := ⟨by kernel_rfl, by kernel_rfl⟩
instance : TyAggr Try.prog 27 := ⟨by kernel_rfl⟩
instance : TyI Try.prog 27 16 16 (.agg #[.int .u8 0, .int .u8 0, .int .u8 0, .int .u8 0, .int .u8 0, .int .u8 0, .int .u8 0, .int .u8 0, .int .u8 0, .int .u8 0, .int .u8 0, .int .u8 0, .int .u8 0, .int .u8 0, .int .u8 0, .int .u8 0]) := ⟨by kernel_rfl, by kernel_rfl⟩
instance : TyArr Try.prog 27 16 5 := ⟨by kernel_rfl⟩
instance : TyAggr Try.prog 28 := ⟨by kernel_rfl⟩
instance : TyI Try.prog 28 16 16 (.agg #[.int .u8 0, .int .u8 0, .int .u8 0, .int .u8 0, .int .u8 0, .int .u8 0, .int .u8 0, .int .u8 0, .int .u8 0, .int .u8 0, .int .u8 0, .int .u8 0, .int .u8 0, .int .u8 0, .int .u8 0, .int .u8 0]) := ⟨by kernel_rfl, by kernel_rfl⟩
instance : TyArr Try.prog 28 16 5 := ⟨by kernel_rfl⟩
instance : TyScal Try.prog 29 := ⟨by kernel_rfl⟩
instance : TyI Try.prog 29 1 8 (.nilFunc) := ⟨by kernel_rfl, by kernel_rfl⟩
instance : TyScal Try.prog 30 := ⟨by kernel_rfl⟩
instance : TyI Try.prog 30 1 8 (.nilFunc) := ⟨by kernel_rfl, by kernel_rfl⟩
instance : TyScal Try.prog 31 := ⟨by kernel_rfl⟩
instance : TyI Try.prog 31 1 24 (.slice none 0 0) := ⟨by kernel_rfl, by kernel_rfl⟩
instance : TySlice Try.prog 31 5 := ⟨by kernel_rfl⟩
instance : TyScal Try.prog 32 := ⟨by kernel_rfl⟩
instance : TyI Try.prog 32 1 8 (.nilFunc) := ⟨by kernel_rfl, by kernel_rfl⟩
instance : TyScal Try.prog 33 := ⟨by kernel_rfl⟩
instance : TyI Try.prog 33 1 8 (.nilFunc) := ⟨by kernel_rfl, by kernel_rfl⟩
instance : TyScal Try.prog 34 := ⟨by kernel_rfl⟩
instance : TyI Try.prog 34 1 8 (.nilFunc) := ⟨by kernel_rfl, by kernel_rfl⟩
instance : TyScal Try.prog 35 := ⟨by kernel_rfl⟩
instance : TyI Try.prog 35 1 8 (.nilFunc) := ⟨by kernel_rfl, by kernel_rfl⟩
instance : TyScal Try.prog 36 := ⟨by kernel_rfl⟩
instance : TyI Try.prog 36 1 8 (.nilFunc) := ⟨by kernel_rfl, by kernel_rfl⟩
instance : TyScal Try.prog 37 := ⟨by kernel_rfl⟩
instance : TyI Try.prog 37 1 24 (.slice none 0 0) := ⟨by kernel_rfl, by kernel_rfl⟩
instance : TySlice Try.prog 37 45 := ⟨by kernel_rfl⟩
instance : TyScal Try.prog 38 := ⟨by kernel_rfl⟩
instance : TyI Try.prog 38 1 8 (.pointer none) := ⟨by kernel_rfl, by kernel_rfl⟩
instance : TyPtr Try.prog 38 42 := ⟨by kernel_rfl⟩
instance : TyAggr Try.prog 39 := ⟨by kernel_rfl⟩
instance : TyI Try.prog 39 3 24 (.agg #[.pointer none, .pointer none, .pointer none]) := ⟨by kernel_rfl, by kernel_rfl⟩
instance : TyArr Try.prog 39 3 38 := ⟨by kernel_rfl⟩
instance : TyScal Try.prog 40 := ⟨by kernel_rfl⟩
instance : TyI Try.prog 40 1 8 (.pointer none) := ⟨by kernel_rfl, by kernel_rfl⟩
instance : TyPtr Try.prog 40 74 := ⟨by kernel_rfl⟩
instance : TyAggr Try.prog 41 := ⟨by kernel_rfl⟩
instance : TyI Try.prog 41 35 72 (.agg #[.pointer none, .int .u8 0, .int .u8 0, .int .u8 0, .int .u8 0, .int .u8 0, .int .u8 0, .int .u8 0, .int .u8 0, .int .u8 0, .int .u8 0, .int .u8 0, .int .u8 0, .int .u8 0, .int .u8 0, .int .u8 0, .int .u8 0, .int .u8 0, .int .u8 0, .int .u8 0, .int .u8 0, .int .u8 0, .int .u8 0, .int .u8 0, .int .u8 0, .int .u8 0, .int .u8 0, .int .u8 0, .int .u8 0, .int .u8 0, .int .u8 0, .int .u8 0, .int .u8 0, .slice none 0 0, .bool false]) := ⟨by kernel_rfl, by kernel_rfl⟩
instance : Fld Try.prog 41 0 0 40 := ⟨by kernel_rfl⟩
instance : Fld Try.prog 41 1 1 24 := ⟨by kernel_rfl⟩
instance : Fld Try.prog 41 2 33 31 := ⟨by kernel_rfl⟩
instance : Fld Try.prog 41 3 34 4 := ⟨by kernel_rfl⟩
instance : TyStruct Try.prog 41 #[(0, 1), (1, 32), (33, 1), (34, 1)] := ⟨by kernel_rfl⟩
instance : TyAggr Try.prog 42 := ⟨by kernel_rfl⟩
instance : TyI Try.prog 42 35 72 (.agg #[.pointer none, .int .u8 0, .int .u8 0, .int .u8 0, .int .u8 0, .int .u8 0, .int .u8 0, .int .u8 0, .int .u8 0, .int .u8 0, .int .u8 0, .int .u8 0, .int .u8 0, .int .u8 0, .int .u8 0, .int .u8 0, .int .u8 0, .int .u8 0, .int .u8 0, .int .u8 0, .int .u8 0, .int .u8 0, .int .u8 0, .int .u8 0, .int .u8 0, .int .u8 0, .int .u8 0, .int .u8 0, .int .u8 0, .int .u8 0, .int .u8 0, .int .u8 0, .int .u8 0, .slice none 0 0, .bool false]) := ⟨by kernel_rfl, by kernel_rfl⟩
instance : Fld Try.prog 42 0 0 40 := ⟨by kernel_rfl⟩
instance : Fld Try.prog 42 1 1 24 := ⟨by kernel_rfl⟩
instance : Fld Try.prog 42 2 33 31 := ⟨by kernel_rfl⟩
instance : Fld Try.prog 42 3 34 4 := ⟨by kernel_rfl⟩
instance : TyStruct Try.prog 42 #[(0, 1), (1, 32), (33, 1), (34, 1)] := ⟨by kernel_rfl⟩
instance : TyScal Try.prog 43 := ⟨by kernel_rfl⟩
instance : TyI Try.prog 43 1 8 (.nilFunc) := ⟨by kernel_rfl, by kernel_rfl⟩
instance : TyAggr Try.prog 44 := ⟨by kernel_rfl⟩
instance : TyI Try.prog 44 35 72 (.agg #[.int .i64 0, .int .i64 0, .slice none 0 0, .int .u8 0, .int .u8 0, .int .u8 0, .int .u8 0, .int .u8 0, .int .u8 0, .int .u8 0, .int .u8 0, .int .u8 0, .int .u8 0, .int .u8 0, .int .u8 0, .int .u8 0, .int .u8 0, .int .u8 0, .int .u8 0, .int .u8 0, .int .u8 0, .int .u8 0, .int .u8 0, .int .u8 0, .int .u8 0, .int .u8 0, .int .u8 0, .int .u8 0, .int .u8 0, .int .u8 0, .int .u8 0, .int .u8 0, .int .u8 0, .int .u8 0, .int .u8 0]) := ⟨by kernel_rfl, by kernel_rfl⟩
instance : Fld Try.prog 44 0 0 3 := ⟨by kernel_rfl⟩
instance : Fld Try.prog 44 1 1 3 := ⟨by kernel_rfl⟩
instance : Fld Try.prog 44 2 2 31 := ⟨by kernel_rfl⟩
instance : Fld Try.prog 44 3 3 24 := ⟨by kernel_rfl⟩
instance : TyStruct Try.prog 44 #[(0, 1), (1, 1), (2, 1), (3, 32)] := ⟨by kernel_rfl⟩
instance : TyAggr Try.prog 45 := ⟨by kernel_rfl⟩
instance : TyI Try.prog 45 35 72 (.agg #[.int .i64 0, .int .i64 0, .slice none 0 0, .int .u8 0, .int .u8 0, .int .u8 0, .int .u8 0, .int .u8 0, .int .u8 0, .int .u8 0, .int .u8 0, .int .u8 0, .int .u8 0, .int .u8 0, .int .u8 0, .int .u8 0, .int .u8 0, .int .u8 0, .int .u8 0, .int .u8 0, .int .u8 0, .int .u8 0, .int .u8 0, .int .u8 0, .int .u8 0, .int .u8 0, .int .u8 0, .int .u8 0, .int .u8 0, .int .u8 0, .int .u8 0, .int .u8 0, .int .u8 0, .int .u8 0, .int .u8 0]) := ⟨by kernel_rfl, by kernel_rfl⟩
instance : Fld Try.prog 45 0 0 3 := ⟨by kernel_rfl⟩
instance : Fld Try.prog 45 1 1 3 := ⟨by kernel_rfl⟩
instance : Fld Try.prog 45 2 2 31 := ⟨by kernel_rfl⟩
instance : Fld Try.prog 45 3 3 24 := ⟨by kernel_rfl⟩
instance : TyStruct Try.prog 45 #[(0, 1), (1, 1), (2, 1), (3, 32)] := ⟨by kernel_rfl⟩
instance : TyScal Try.prog 46 := ⟨by kernel_rfl⟩
instance : TyI Try.prog 46 1 8 (.nilFunc) := ⟨by kernel_rfl, by kernel_rfl⟩
instance : TyScal Try.prog 47 := ⟨by kernel_rfl⟩
instance : TyI Try.prog 47 1 8 (.nilFunc) := ⟨by kernel_rfl, by kernel_rfl⟩
instance : TyScal Try.prog 48 := ⟨by kernel_rfl⟩
instance : TyI Try.prog 48 1 8 (.nilFunc) := ⟨by kernel_rfl, by kernel_rfl⟩
instance : TyScal Try.prog 49 := ⟨by kernel_rfl⟩
instance : TyI Try.prog 49 1 16 (.nilIface) := ⟨by kernel_rfl, by kernel_rfl⟩
instance : TyScal Try.prog 50 := ⟨by kernel_rfl⟩
instance : TyI Try.prog 50 1 16 (.nilIface) := ⟨by kernel_rfl, by kernel_rfl⟩
instance : TyScal Try.prog 52 := ⟨by kernel_rfl⟩
instance : TyI Try.prog 52 1 8 (.nilFunc) := ⟨by kernel_rfl, by kernel_rfl⟩
instance : TyScal Try.prog 53 := ⟨by kernel_rfl⟩
instance : TyI Try.prog 53 1 8 (.nilFunc) := ⟨by kernel_rfl, by kernel_rfl⟩
instance : TyScal Try.prog 54 := ⟨by kernel_rfl⟩
instance : TyI Try.prog 54 1 8 (.nilFunc) := ⟨by kernel_rfl, by kernel_rfl⟩
instance : TyScal Try.prog 55 := ⟨by kernel_rfl⟩
instance : TyI Try.prog 55 1 8 (.nilFunc) := ⟨by kernel_rfl, by kernel_rfl⟩
instance : TyScal Try.prog 56 := ⟨by kernel_rfl⟩
instance : TyI Try.prog 56 1 8 (.nilFunc) := ⟨by kernel_rfl, by kernel_rfl⟩
instance : TyScal Try.prog 57 := ⟨by kernel_rfl⟩
instance : TyI Try.prog 57 1 8 (.nilFunc) := ⟨by kernel_rfl, by kernel_rfl⟩
instance : TyScal Try.prog 58 := ⟨by kernel_rfl⟩
instance : TyI Try.prog 58 1 8 (.nilFunc) := ⟨by kernel_rfl, by kernel_rfl⟩
instance : TyScal Try.prog 59 := ⟨by kernel_rfl⟩
instance : TyI Try.prog 59 1 8 (.nilFunc) := ⟨by kernel_rfl, by kernel_rfl⟩
instance : TyAggr Try.prog 60 := ⟨by kernel_rfl⟩
instance : TyI Try.prog 60 19 56 (.agg #[.int .u8 0, .int .u8 0, .int .u8 0, .int .u8 0, .int .u8 0, .int .u8 0, .int .u8 0, .int .u8 0, .int .u8 0, .int .u8 0, .int .u8 0, .int .u8 0, .int .u8 0, .int .u8 0, .int .u8 0, .int .u8 0, .slice none 0 0, .int .i64 0, .int .i64 0]) := ⟨by kernel_rfl, by kernel_rfl⟩
instance : Fld Try.prog 60 0 0 27 := ⟨by kernel_rfl⟩
instance : Fld Try.prog 60 1 16 31 := ⟨by kernel_rfl⟩
instance : Fld Try.prog 60 2 17 3 := ⟨by kernel_rfl⟩
instance : Fld Try.prog 60 3 18 3 := ⟨by kernel_rfl⟩
instance : TyStruct Try.prog 60 #[(0, 16), (16, 1), (17, 1), (18, 1)] := ⟨by kernel_rfl⟩
instance : TyAggr Try.prog 61 := ⟨by kernel_rfl⟩
instance : TyI Try.prog 61 19 56 (.agg #[.int .u8 0, .int .u8 0, .int .u8 0, .int .u8 0, .int .u8 0, .int .u8 0, .int .u8 0, .int .u8 0, .int .u8 0, .int .u8 0, .int .u8 0, .int .u8 0, .int .u8 0, .int .u8 0, .int .u8 0, .int .u8 0, .slice none 0 0, .int .i64 0, .int .i64 0]) := ⟨by kernel_rfl, by kernel_rfl⟩
instance : Fld Try.prog 61 0 0 27 := ⟨by kernel_rfl⟩
instance : Fld Try.prog 61 1 16 31 := ⟨by kernel_rfl⟩
instance : Fld Try.prog 61 2 17 3 := ⟨by kernel_rfl⟩
instance : Fld Try.prog 61 3 18 3 := ⟨by kernel_rfl⟩
instance : TyStruct Try.prog 61 #[(0, 16), (16, 1), (17, 1), (18, 1)] := ⟨by kernel_rfl⟩
instance : TyScal Try.prog 62 := ⟨by kernel_rfl⟩
instance : TyI Try.prog 62 1 8 (.nilFunc) := ⟨by kernel_rfl, by kernel_rfl⟩
instance : TyScal Try.prog 63 := ⟨by kernel_rfl⟩
instance : TyI Try.prog 63 1 24 (.slice none 0 0) := ⟨by kernel_rfl, by kernel_rfl⟩
instance : TySlice Try.prog 63 3 := ⟨by kernel_rfl⟩
instance : TyScal Try.prog 64 := ⟨by kernel_rfl⟩
instance : TyI Try.prog 64 1 8 (.nilFunc) := ⟨by kernel_rfl, by kernel_rfl⟩
instance : TyScal Try.prog 65 := ⟨by kernel_rfl⟩
instance : TyI Try.prog 65 1 8 (.nilFunc) := ⟨by kernel_rfl, by kernel_rfl⟩
instance : TyScal Try.prog 66 := ⟨by kernel_rfl⟩
instance : TyI Try.prog 66 1 8 (.nilFunc) := ⟨by kernel_rfl, by kernel_rfl⟩
instance : TyScal Try.prog 67 := ⟨by kernel_rfl⟩
instance : TyI Try.prog 67 1 8 (.nilFunc) := ⟨by kernel_rfl, by kernel_rfl⟩
instance : TyScal Try.prog 68 := ⟨by kernel_rfl⟩
instance : TyI Try.prog 68 1 8 (.int .i64 0) := ⟨by kernel_rfl, by kernel_rfl⟩
instance : TyInt Try.prog 68 .i64 := ⟨by kernel_rfl⟩
instance : TyScal Try.prog 69 := ⟨by kernel_rfl⟩
instance : TyI Try.prog 69 1 8 (.nilFunc) := ⟨by kernel_rfl, by kernel_rfl⟩
instance : TyScal Try.prog 70 := ⟨by kernel_rfl⟩
instance : TyI Try.prog 70 1 8 (.int .u64 0) := ⟨by kernel_rfl, by kernel_rfl⟩
instance : TyInt Try.prog 70 .u64 := ⟨by kernel_rfl⟩
instance : TyAggr Try.prog 71 := ⟨by kernel_rfl⟩
instance : TyI Try.prog 71 2 16 (.agg #[.int .u64 0, .int .u64 0]) := ⟨by kernel_rfl, by kernel_rfl⟩
instance : TyArr Try.prog 71 2 70 := ⟨by kernel_rfl⟩
instance : TyAggr Try.prog 72 := ⟨by kernel_rfl⟩
instance : TyI Try.prog 72 3 24 (.agg #[.int .u64 0, .int .u64 0, .int .u64 0]) := ⟨by kernel_rfl, by kernel_rfl⟩
instance : TyArr Try.prog 72 3 70 := ⟨by kernel_rfl⟩
instance : TyAggr Try.prog 73 := ⟨by kernel_rfl⟩
instance : TyI Try.prog 73 24 80 (.agg #[.int .u64 0, .int .u64 0, .int .u64 0, .int .u64 0, .int .u64 0, .int .u64 0, .int .u64 0, .int .u8 0, .int .u8 0, .int .u8 0, .int .u8 0, .int .u8 0, .int .u8 0, .int .u8 0, .int .u8 0, .int .u8 0, .int .u8 0, .int .u8 0, .int .u8 0, .int .u8 0, .int .u8 0, .int .u8 0, .int .u8 0, .int .i64 0]) := ⟨by kernel_rfl, by kernel_rfl⟩
instance : Fld Try.prog 73 0 0 71 := ⟨by kernel_rfl⟩
instance : Fld Try.prog 73 1 2 71 := ⟨by kernel_rfl⟩
instance : Fld Try.prog 73 2 4 72 := ⟨by kernel_rfl⟩
instance : Fld Try.prog 73 3 7 27 := ⟨by kernel_rfl⟩
instance : Fld Try.prog 73 4 23 3 := ⟨by kernel_rfl⟩
instance : TyStruct Try.prog 73 #[(0, 2), (2, 2), (4, 3), (7, 16), (23, 1)] := ⟨by kernel_rfl⟩
instance : TyAggr Try.prog 74 := ⟨by kernel_rfl⟩
instance : TyI Try.prog 74 24 80 (.agg #[.int .u64 0, .int .u64 0, .int .u64 0, .int .u64 0, .int .u64 0, .int .u64 0, .int .u64 0, .int .u8 0, .int .u8 0, .int .u8 0, .int .u8 0, .int .u8 0, .int .u8 0, .int .u8 0, .int .u8 0, .int .u8 0, .int .u8 0, .int .u8 0, .int .u8 0, .int .u8 0, .int .u8 0, .int .u8 0, .int .u8 0, .int .i64 0]) := ⟨by kernel_rfl, by kernel_rfl⟩
instance : Fld Try.prog 74 0 0 71 := ⟨by kernel_rfl⟩
instance : Fld Try.prog 74 1 2 71 := ⟨by kernel_rfl⟩
instance : Fld Try.prog 74 2 4 72 := ⟨by kernel_rfl⟩
instance : Fld Try.prog 74 3 7 27 := ⟨by kernel_rfl⟩
instance : Fld Try.prog 74 4 23 3 := ⟨by kernel_rfl⟩
instance : TyStruct Try.prog 74 #[(0, 2), (2, 2), (4, 3), (7, 16), (23, 1)] := ⟨by kernel_rfl⟩
instance : TyScal Try.prog 75 := ⟨by kernel_rfl⟩
instance : TyI Try.prog 75 1 8 (.nilFunc) := ⟨by kernel_rfl, by kernel_rfl⟩
instance : TyAggr Try.prog 76 := ⟨by kernel_rfl⟩
instance : TyI Try.prog 76 8 8 (.agg #[.int .u8 0, .int .u8 0, .int .u8 0, .int .u8 0, .int .u8 0, .int .u8 0, .int .u8 0, .int .u8 0]) := ⟨by kernel_rfl, by kernel_rfl⟩
instance : TyArr Try.prog 76 8 5 := ⟨by kernel_rfl⟩
instance : TyScal Try.prog 77 := ⟨by kernel_rfl⟩
instance : TyI Try.prog 77 1 8 (.nilFunc) := ⟨by kernel_rfl, by kernel_rfl⟩
instance : TyScal Try.prog 79 := ⟨by kernel_rfl⟩
instance : TyI Try.prog 79 1 8 (.nilFunc) := ⟨by kernel_rfl, by kernel_rfl⟩
instance : TyScal Try.prog 80 := ⟨by kernel_rfl⟩
instance : TyI Try.prog 80 1 8 (.nilFunc) := ⟨by kernel_rfl, by kernel_rfl⟩
instance : TyScal Try.prog 81 := ⟨by kernel_rfl⟩
instance : TyI Try.prog 81 1 8 (.nilFunc) := ⟨by kernel_rfl, by kernel_rfl⟩
instance : TyScal Try.prog 82 := ⟨by kernel_rfl⟩
instance : TyI Try.prog 82 1 8 (.int .u64 0) := ⟨by kernel_rfl, by kernel_rfl⟩
instance : TyInt Try.prog 82 .u64 := ⟨by kernel_rfl⟩
instance : TyScal Try.prog 83 := ⟨by kernel_rfl⟩
instance : TyI Try.prog 83 1 8 (.nilFunc) := ⟨by kernel_rfl, by kernel_rfl⟩
instance : TyAggr Try.prog 84 := ⟨by kernel_rfl⟩
instance : TyI Try.prog 84 2 16 (.agg #[.int .u64 0, .int .u64 0]) := ⟨by kernel_rfl, by kernel_rfl⟩
instance : Fld Try.prog 84 0 0 70 := ⟨by kernel_rfl⟩
instance : Fld Try.prog 84 1 1 70 := ⟨by kernel_rfl⟩
instance : TyStruct Try.prog 84 #[(0, 1), (1, 1)] := ⟨by kernel_rfl⟩
instance : TyAggr Try.prog 85 := ⟨by kernel_rfl⟩
instance : TyI Try.prog 85 2 16 (.agg #[.int .u64 0, .int .u64 0]) := ⟨by kernel_rfl, by kernel_rfl⟩
instance : Fld Try.prog 85 0 0 70 := ⟨by kernel_rfl⟩
instance : Fld Try.prog 85 1 1 70 := ⟨by kernel_rfl⟩
instance : TyStruct Try.prog 85 #[(0, 1), (1, 1)] := ⟨by kernel_rfl⟩
instance : TyScal Try.prog 86 := ⟨by kernel_rfl⟩
instance : TyI Try.prog 86 1 8 (.nilFunc) := ⟨by kernel_rfl, by kernel_rfl⟩
instance : TyScal Try.prog 87 := ⟨by kernel_rfl⟩
instance : TyI Try.prog 87 1 8 (.nilFunc) := ⟨by kernel_rfl, by kernel_rfl⟩
instance : TyScal Try.prog 88 := ⟨by kernel_rfl⟩
instance : TyI Try.prog 88 1 8 (.nilFunc) := ⟨by kernel_rfl, by kernel_rfl⟩
instance : TyScal Try.prog 89 := ⟨by kernel_rfl⟩
instance : TyI Try.prog 89 1 8 (.nilFunc) := ⟨by kernel_rfl, by kernel_rfl⟩
instance : TyScal Try.prog 90 := ⟨by kernel_rfl⟩
instance : TyI Try.prog 90 1 8 (.nilFunc) := ⟨by kernel_rfl, by kernel_rfl⟩
instance : TyAggr Try.prog 91 := ⟨by kernel_rfl⟩
instance : TyI Try.prog 91 4 40 (.agg #[.pointer none, .pointer none, .pointer none, .string ByteArray.empty]) := ⟨by kernel_rfl, by kernel_rfl⟩
instance : Fld Try.prog 91 0 0 17 := ⟨by kernel_rfl⟩
instance : Fld Try.prog 91 1 1 17 := ⟨by kernel_rfl⟩
instance : Fld Try.prog 91 2 2 17 := ⟨by kernel_rfl⟩
instance : Fld Try.prog 91 3 3 9 := ⟨by kernel_rfl⟩
instance : TyStruct Try.prog 91 #[(0, 1), (1, 1), (2, 1), (3, 1)] := ⟨by kernel_rfl⟩
instance : TyAggr Try.prog 92 := ⟨by kernel_rfl⟩
instance : TyI Try.prog 92 4 40 (.agg #[.pointer none, .pointer none, .pointer none, .string ByteArray.empty]) := ⟨by kernel_rfl, by kernel_rfl⟩
instance : Fld Try.prog 92 0 0 17 := ⟨by kernel_rfl⟩
instance : Fld Try.prog 92 1 1 17 := ⟨by kernel_rfl⟩
instance : Fld Try.prog 92 2 2 17 := ⟨by kernel_rfl⟩
instance : Fld Try.prog 92 3 3 9 := ⟨by kernel_rfl⟩
instance : TyStruct Try.prog 92 #[(0, 1), (1, 1), (2, 1), (3, 1)] := ⟨by kernel_rfl⟩
instance : TyAggr Try.prog 93 := ⟨by kernel_rfl⟩
instance : TyI Try.prog 93 0 0 (.agg #[]) := ⟨by kernel_rfl, by kernel_rfl⟩
instance : TyArr Try.prog 93 0 16 := ⟨by kernel_rfl⟩
instance : TyAggr Try.prog 94 := ⟨by kernel_rfl⟩
instance : TyI Try.prog 94 0 0 (.agg #[]) := ⟨by kernel_rfl, by kernel_rfl⟩
instance : Fld Try.prog 94 0 0 93 := ⟨by kernel_rfl⟩
instance : TyStruct Try.prog 94 #[(0, 0)] := ⟨by kernel_rfl⟩
instance : TyAggr Try.prog 95 := ⟨by kernel_rfl⟩
instance : TyI Try.prog 95 0 0 (.agg #[]) := ⟨by kernel_rfl, by kernel_rfl⟩
instance : Fld Try.prog 95 0 0 93 := ⟨by kernel_rfl⟩
instance : TyStruct Try.prog 95 #[(0, 0)] := ⟨by kernel_rfl⟩
instance : TyScal Try.prog 96 := ⟨by kernel_rfl⟩
instance : TyI Try.prog 96 1 8 (.nilFunc) := ⟨by kernel_rfl, by kernel_rfl⟩
instance : TyScal Try.prog 97 := ⟨by kernel_rfl⟩
instance : TyI Try.prog 97 1 4 (.int .u32 0) := ⟨by kernel_rfl, by kernel_rfl⟩
instance : TyInt Try.prog 97 .u32 := ⟨by kernel_rfl⟩
instance : TyScal Try.prog 98 := ⟨by kernel_rfl⟩
instance : TyI Try.prog 98 1 1 (.int .u8 0) := ⟨by kernel_rfl, by kernel_rfl⟩
instance : TyInt Try.prog 98 .u8 := ⟨by kernel_rfl⟩
instance : TyScal Try.prog 99 := ⟨by kernel_rfl⟩
instance : TyI Try.prog 99 1 1 (.int .u8 0) := ⟨by kernel_rfl, by kernel_rfl⟩
instance : TyInt Try.prog 99 .u8 := ⟨by kernel_rfl⟩
instance : TyScal Try.prog 100 := ⟨by kernel_rfl⟩
instance : TyI Try.prog 100 1 8 (.nilFunc) := ⟨by kernel_rfl, by kernel_rfl⟩
instance : TyScal Try.prog 101 := ⟨by kernel_rfl⟩
instance : TyI Try.prog 101 1 8 (.pointer none) := ⟨by kernel_rfl, by kernel_rfl⟩
instance : TyPtr Try.prog 101 5 := ⟨by kernel_rfl⟩
instance : TyScal Try.prog 102 := ⟨by kernel_rfl⟩
instance : TyI Try.prog 102 1 4 (.int .i32 0) := ⟨by kernel_rfl, by kernel_rfl⟩
instance : TyInt Try.prog 102 .i32 := ⟨by kernel_rfl⟩
instance : TyScal Try.prog 103 := ⟨by kernel_rfl⟩
instance : TyI Try.prog 103 1 4 (.int .i32 0) := ⟨by kernel_rfl, by kernel_rfl⟩
instance : TyInt Try.prog 103 .i32 := ⟨by kernel_rfl⟩
instance : TyAggr Try.prog 104 := ⟨by kernel_rfl⟩
instance : TyI Try.prog 104 11 48 (.agg #[.int .u64 0, .int .u64 0, .int .u32 0, .int .u8 0, .int .u8 0, .int .u8 0, .int .u8 0, .nilFunc, .pointer none, .int .i32 0, .int .i32 0]) := ⟨by kernel_rfl, by kernel_rfl⟩
instance : Fld Try.prog 104 0 0 12 := ⟨by kernel_rfl⟩
instance : Fld Try.prog 104 1 1 12 := ⟨by kernel_rfl⟩
instance : Fld Try.prog 104 2 2 97 := ⟨by kernel_rfl⟩
instance : Fld Try.prog 104 3 3 98 := ⟨by kernel_rfl⟩
instance : Fld Try.prog 104 4 4 5 := ⟨by kernel_rfl⟩
instance : Fld Try.prog 104 5 5 5 := ⟨by kernel_rfl⟩
instance : Fld Try.prog 104 6 6 99 := ⟨by kernel_rfl⟩
instance : Fld Try.prog 104 7 7 100 := ⟨by kernel_rfl⟩
instance : Fld Try.prog 104 8 8 101 := ⟨by kernel_rfl⟩
instance : Fld Try.prog 104 9 9 102 := ⟨by kernel_rfl⟩
instance : Fld Try.prog 104 10 10 103 := ⟨by kernel_rfl⟩
instance : TyStruct Try.prog 104 #[(0, 1), (1, 1), (2, 1), (3, 1), (4, 1), (5, 1), (6, 1), (7, 1), (8, 1), (9, 1), (10, 1)] := ⟨by kernel_rfl⟩
instance : TyAggr Try.prog 105 := ⟨by kernel_rfl⟩
instance : TyI Try.prog 105 11 48 (.agg #[.int .u64 0, .int .u64 0, .int .u32 0, .int .u8 0, .int .u8 0, .int .u8 0, .int .u8 0, .nilFunc, .pointer none, .int .i32 0, .int .i32 0]) := ⟨by kernel_rfl, by kernel_rfl⟩
instance : Fld Try.prog 105 0 0 12 := ⟨by kernel_rfl⟩
instance : Fld Try.prog 105 1 1 12 := ⟨by kernel_rfl⟩
instance : Fld Try.prog 105 2 2 97 := ⟨by kernel_rfl⟩
instance : Fld Try.prog 105 3 3 98 := ⟨by kernel_rfl⟩
instance : Fld Try.prog 105 4 4 5 := ⟨by kernel_rfl⟩
instance : Fld Try.prog 105 5 5 5 := ⟨by kernel_rfl⟩
instance : Fld Try.prog 105 6 6 99 := ⟨by kernel_rfl⟩
instance : Fld Try.prog 105 7 7 100 := ⟨by kernel_rfl⟩
instance : Fld Try.prog 105 8 8 101 := ⟨by kernel_rfl⟩
instance : Fld Try.prog 105 9 9 102 := ⟨by kernel_rfl⟩
instance : Fld Try.prog 105 10 10 103 := ⟨by kernel_rfl⟩
instance : TyStruct Try.prog 105 #[(0, 1), (1, 1), (2, 1), (3, 1), (4, 1), (5, 1), (6, 1), (7, 1), (8, 1), (9, 1), (10, 1)] := ⟨by kernel_rfl⟩
end Go.Sl

/- Array types of bytes (written by gentypes.py). -/
namespace Go.Sl
open Go Go.Proofs
instance : TyBA Try.prog 23 32 := ⟨⟨5, by kernel_rfl, by kernel_rfl, by kernel_rfl⟩, by kernel_rfl, by kernel_rfl, by kernel_rfl⟩
instance : TyBA Try.prog 24 32 := ⟨⟨5, by kernel_rfl, by kernel_rfl, by kernel_rfl⟩, by kernel_rfl, by kernel_rfl, by kernel_rfl⟩
instance : TyBA Try.prog 27 16 := ⟨⟨5, by kernel_rfl, by kernel_rfl, by kernel_rfl⟩, by kernel_rfl, by kernel_rfl, by kernel_rfl⟩
instance : TyBA Try.prog 28 16 := ⟨⟨5, by kernel_rfl, by kernel_rfl, by kernel_rfl⟩, by kernel_rfl, by kernel_rfl, by kernel_rfl⟩
instance : TyBA Try.prog 76 8 := ⟨⟨5, by kernel_rfl, by kernel_rfl, by kernel_rfl⟩, by kernel_rfl, by kernel_rfl, by kernel_rfl⟩
end Go.Sl

/- the statements' small helpers: lists of bytes compared, copied, joined. -/
set_option maxHeartbeats 4000000
set_option maxRecDepth 10000
set_option linter.unusedVariables false
set_option linter.unusedSimpArgs false
namespace Go.Sl
open Go Go.Proofs
attribute [local irreducible] cl pt own old pur ex all den denOps denS xOps xC cX CX xthen xblk xcut xloop retX resX Calls PV Rd Con
theorem app_take_succ {α β : Type} {f : α → β} (a : List α) {l : List α} {k : Nat} (h : k < l.length) : (a ++ l.take (k + 1)).map f = (a ++ l.take k).map f ++ [f l[k]] := by
  rw [List.take_succ_eq_append_getElem h, ← List.append_assoc, List.map_append]; rfl
theorem eqBytes_x {L : List Asrt} {va vb : Value} {a b : List Byte} (ha : Bs L va a) (hb : Bs L vb b) : Con Try.prog 41 [va, vb] L (fun v M => v = .bool (decide (a = b)) ∧ L = M) := by
  refine Con.get (fun w0 w F H => ha.sh _ _ _ H) ?_
  rintro ⟨aa, ac, rfl, hac, hacm⟩
  refine Con.get (fun w0 w F H => hb.sh _ _ _ H) ?_
  rintro ⟨ba, bc, rfl, hbc, hbcm⟩
  refine fn_x Try.func41 rfl rfl rfl Try.mixed (by kernel_rfl) ?_
  intro w0
  repeat (first|refine zA ?_|refine zB ?_|refine zC ?_|refine zD ?_|refine zE ?_|refine zF ?_|refine zG ?_|refine zH ?_|refine zI ?_|refine zJ ?_|refine zK ?_|refine zL ?_|refine zM rfl ?_|refine zN ?_|refine zO ?_|refine zP ?_|refine zQ ?_)
  refine Zgb ?_
  first|refine Zhg (Za0 rfl) ?_|refine Zhg (Zas rfl) ?_
  refine Zg3 ?_
  repeat (first|refine zA ?_|refine zB ?_|refine zC ?_|refine zD ?_|refine zE ?_|refine zF ?_|refine zG ?_|refine zH ?_|refine zI ?_|refine zJ ?_|refine zK ?_|refine zL ?_|refine zM rfl ?_|refine zN ?_|refine zO ?_|refine zP ?_|refine zQ ?_)
  refine Zgb ?_
  first|refine Zhg (Zaw rfl) ?_|refine Zhg (Zar rfl) ?_
  first|refine Zhg (Zcr rfl) ?_|refine Zhg (Zct) ?_|refine Zhg (Zcu rfl) ?_
  first|refine Zhg (Zaw rfl) ?_|refine Zhg (Zar rfl) ?_
  first|refine Zhg (Zcr rfl) ?_|refine Zhg (Zct) ?_|refine Zhg (Zcu rfl) ?_
  first|refine Zhg (Zmk rfl rfl) ?_|refine Zhg (Zbs rfl rfl) ?_
  refine Zg3 ?_
  repeat (first|refine zA ?_|refine zB ?_|refine zC ?_|refine zD ?_|refine zE ?_|refine zF ?_|refine zG ?_|refine zH ?_|refine zI ?_|refine zJ ?_|refine zK ?_|refine zL ?_|refine zM rfl ?_|refine zN ?_|refine zO ?_|refine zP ?_|refine zQ ?_)
  refine Zgg rfl (fun hB => ?_) (fun hB => ?_)
  · repeat (first|refine zA ?_|refine zB ?_|refine zC ?_|refine zD ?_|refine zE ?_|refine zF ?_|refine zG ?_|refine zH ?_|refine zI ?_|refine zJ ?_|refine zK ?_|refine zL ?_|refine zM rfl ?_|refine zN ?_|refine zO ?_|refine zP ?_|refine zQ ?_)
    refine Zgb ?_
    first|refine Zhg (Za0 rfl) ?_|refine Zhg (Zas rfl) ?_
    refine Zg3 ?_
    repeat (first|refine zA ?_|refine zB ?_|refine zC ?_|refine zD ?_|refine zE ?_|refine zF ?_|refine zG ?_|refine zH ?_|refine zI ?_|refine zJ ?_|refine zK ?_|refine zL ?_|refine zM rfl ?_|refine zN ?_|refine zO ?_|refine zP ?_|refine zQ ?_)
    refine rx1 (Zha rfl (Zg7)) ?_
    exact ⟨_, ⟨by rw [decide_eq_false (fun h => hB (by rw [h]))], rfl⟩, by exact Imp.arr (by repeat (first|exact Arr.nil|exact Arr.stop|refine Arr.cons (by repeat constructor) ?_|refine Arr.skip ?_))⟩
  have hlen : a.length = b.length := by omega
  repeat (first|refine zA ?_|refine zB ?_|refine zC ?_|refine zD ?_|refine zE ?_|refine zF ?_|refine zG ?_|refine zH ?_|refine zI ?_|refine zJ ?_|refine zK ?_|refine zL ?_|refine zM rfl ?_|refine zN ?_|refine zO ?_|refine zP ?_|refine zQ ?_)
  refine Zgb ?_
  first|refine Zhg (Zaz rfl) ?_|refine Zhg (Zas rfl) ?_
  refine Zg3 ?_
  repeat (first|refine zA ?_|refine zB ?_|refine zC ?_|refine zD ?_|refine zE ?_|refine zF ?_|refine zG ?_|refine zH ?_|refine zI ?_|refine zJ ?_|refine zK ?_|refine zL ?_|refine zM rfl ?_|refine zN ?_|refine zO ?_|refine zP ?_|refine zQ ?_)
  refine Zgo [(4, 5), (11, 25)] (by kernel_rfl) (fun i : Nat => i ≤ a.length ∧ a.take i = b.take i) (fun _ => L) (fun i => [(5, .int .i64 (i : Int))]) (fun i => a.length - i) 0 ⟨by omega, rfl⟩ (Imp.refl _) ⟨rfl, trivial⟩ ?_
  rintro i u ⟨hi, he⟩
  repeat (first|refine zA ?_|refine zB ?_|refine zC ?_|refine zD ?_|refine zE ?_|refine zF ?_|refine zG ?_|refine zH ?_|refine zI ?_|refine zJ ?_|refine zK ?_|refine zL ?_|refine zM rfl ?_|refine zN ?_|refine zO ?_|refine zP ?_|refine zQ ?_)
  refine Zgb ?_
  first|refine Zhg (Zat rfl) ?_|refine Zhg (Zar rfl) ?_
  first|refine Zhg (Zaw rfl) ?_|refine Zhg (Zar rfl) ?_
  first|refine Zhg (Zcr rfl) ?_|refine Zhg (Zct) ?_|refine Zhg (Zcu rfl) ?_
  first|refine Zhg (Zmf rfl rfl) ?_|refine Zhg (Zbn rfl rfl) ?_
  refine Zg3 ?_
  repeat (first|refine zA ?_|refine zB ?_|refine zC ?_|refine zD ?_|refine zE ?_|refine zF ?_|refine zG ?_|refine zH ?_|refine zI ?_|refine zJ ?_|refine zK ?_|refine zL ?_|refine zM rfl ?_|refine zN ?_|refine zO ?_|refine zP ?_|refine zQ ?_)
  refine Zgg rfl (fun hB => ?_) (fun hB => ?_)
  · have hib : i < b.length := by omega
    refine Zgt (fun F w H => ha.some (by omega) H) ?_
    rintro ⟨a1, a2, rfl⟩
    refine Zgt (fun F w H => hb.some (by omega) H) ?_
    rintro ⟨b1, b2, rfl⟩
    repeat (first|refine zA ?_|refine zB ?_|refine zC ?_|refine zD ?_|refine zE ?_|refine zF ?_|refine zG ?_|refine zH ?_|refine zI ?_|refine zJ ?_|refine zK ?_|refine zL ?_|refine zM rfl ?_|refine zN ?_|refine zO ?_|refine zP ?_|refine zQ ?_)
    refine Zij (_) [0, 1, 2, 3, 4, 5, 6, 7] (.r 0 (.r 1 (.r 2 (.r 3 (.r 4 (.r 5 (.r 6 (.r 7 (.q 8 .nil))))))))) (by kernel_rfl) (by kernel_rfl) (Imp.refl _) ?_
    first|refine Ziz rfl (Zaw rfl) ?_|refine Ziz rfl (Zar rfl) ?_
    first|refine Ziz rfl (Zat rfl) ?_|refine Ziz rfl (Zar rfl) ?_
    first|refine Ziz rfl (Zl4 rfl rfl) ?_|refine Ziz rfl (Zl1 rfl rfl) ?_
    refine Zi8 (j := i) rfl rfl ha.rd hB (getM (f := u8b) hB) ?_
    first|refine Ziz rfl (Zaw rfl) ?_|refine Ziz rfl (Zar rfl) ?_
    first|refine Ziz rfl (Zat rfl) ?_|refine Ziz rfl (Zar rfl) ?_
    first|refine Ziz rfl (Zl4 rfl rfl) ?_|refine Ziz rfl (Zl1 rfl rfl) ?_
    refine Zi8 (j := i) rfl rfl hb.rd hib (getM (f := u8b) hib) ?_
    refine Zim rfl (Zjl rfl rfl) ?_
    refine Zik ?_
    repeat (first|refine zA ?_|refine zB ?_|refine zC ?_|refine zD ?_|refine zE ?_|refine zF ?_|refine zG ?_|refine zH ?_|refine zI ?_|refine zJ ?_|refine zK ?_|refine zL ?_|refine zM rfl ?_|refine zN ?_|refine zO ?_|refine zP ?_|refine zQ ?_)
    refine Zgg rfl (fun hB2 => ?_) (fun hB2 => ?_)
    · repeat (first|refine zA ?_|refine zB ?_|refine zC ?_|refine zD ?_|refine zE ?_|refine zF ?_|refine zG ?_|refine zH ?_|refine zI ?_|refine zJ ?_|refine zK ?_|refine zL ?_|refine zM rfl ?_|refine zN ?_|refine zO ?_|refine zP ?_|refine zQ ?_)
      refine Zgb ?_
      first|refine Zhg (Za0 rfl) ?_|refine Zhg (Zas rfl) ?_
      refine Zg3 ?_
      repeat (first|refine zA ?_|refine zB ?_|refine zC ?_|refine zD ?_|refine zE ?_|refine zF ?_|refine zG ?_|refine zH ?_|refine zI ?_|refine zJ ?_|refine zK ?_|refine zL ?_|refine zM rfl ?_|refine zN ?_|refine zO ?_|refine zP ?_|refine zQ ?_)
      refine rx1 (Zha rfl (Zg7)) ?_
      refine ⟨_, ⟨?_, rfl⟩, by exact Imp.arr (by repeat (first|exact Arr.nil|exact Arr.stop|refine Arr.cons (by repeat constructor) ?_|refine Arr.skip ?_))⟩
      rw [decide_eq_false]
      rintro rfl
      exact hB2 rfl
    · repeat (first|refine zA ?_|refine zB ?_|refine zC ?_|refine zD ?_|refine zE ?_|refine zF ?_|refine zG ?_|refine zH ?_|refine zI ?_|refine zJ ?_|refine zK ?_|refine zL ?_|refine zM rfl ?_|refine zN ?_|refine zO ?_|refine zP ?_|refine zQ ?_)
      refine Zgb ?_
      first|refine Zhg (Zat rfl) ?_|refine Zhg (Zar rfl) ?_
      first|refine Zhg (Zma (b := 1) rfl rfl) ?_|refine Zhg (Zbg rfl rfl) ?_
      first|refine Zhg (Zaz rfl) ?_|refine Zhg (Zas rfl) ?_
      refine Zg3 ?_
      repeat (first|refine zA ?_|refine zB ?_|refine zC ?_|refine zD ?_|refine zE ?_|refine zF ?_|refine zG ?_|refine zH ?_|refine zI ?_|refine zJ ?_|refine zK ?_|refine zL ?_|refine zM rfl ?_|refine zN ?_|refine zO ?_|refine zP ?_|refine zQ ?_)
      have hB2 : a[i] = b[i] := by simpa using hB2
      exact Zgl (i + 1) (by first|omega|(dsimp only; omega)|(simp only []; omega)) ⟨by omega, by rw [List.take_succ_eq_append_getElem hB, List.take_succ_eq_append_getElem hib, he, hB2]⟩ (by exact Imp.arr (by repeat (first|exact Arr.nil|exact Arr.stop|refine Arr.cons (by repeat constructor) ?_|refine Arr.skip ?_))) ⟨rfl, trivial⟩
  · have hie : i = a.length := by omega
    subst hie
    rw [List.take_length, hlen, List.take_length] at he
    repeat (first|refine zA ?_|refine zB ?_|refine zC ?_|refine zD ?_|refine zE ?_|refine zF ?_|refine zG ?_|refine zH ?_|refine zI ?_|refine zJ ?_|refine zK ?_|refine zL ?_|refine zM rfl ?_|refine zN ?_|refine zO ?_|refine zP ?_|refine zQ ?_)
    refine Zgb ?_
    first|refine Zhg (Za0 rfl) ?_|refine Zhg (Zas rfl) ?_
    refine Zg3 ?_
    repeat (first|refine zA ?_|refine zB ?_|refine zC ?_|refine zD ?_|refine zE ?_|refine zF ?_|refine zG ?_|refine zH ?_|refine zI ?_|refine zJ ?_|refine zK ?_|refine zL ?_|refine zM rfl ?_|refine zN ?_|refine zO ?_|refine zP ?_|refine zQ ?_)
    refine rx1 (Zha rfl (Zg7)) ?_
    exact ⟨_, ⟨by rw [decide_eq_true he], rfl⟩, by exact Imp.arr (by repeat (first|exact Arr.nil|exact Arr.stop|refine Arr.cons (by repeat constructor) ?_|refine Arr.skip ?_))⟩
theorem copyBytes_x {L : List Asrt} {v : Value} {l : List Byte} (h : Bs L v l) (hl : l.length ≤ 140737488355328) : Con Try.prog 23 [v] L (fun r M => ∃ a c, r = .slice a l.length c ∧ M = own 5 1 r l.length (l.map u8b) :: L) := by
  refine Con.get (fun w0 w F H => h.sh _ _ _ H) ?_
  rintro ⟨aa, ac, rfl, hac, hacm⟩
  refine fn_x Try.func23 rfl rfl rfl Try.mixed (by kernel_rfl) ?_
  intro w0
  repeat (first|refine zA ?_|refine zB ?_|refine zC ?_|refine zD ?_|refine zE ?_|refine zF ?_|refine zG ?_|refine zH ?_|refine zI ?_|refine zJ ?_|refine zK ?_|refine zL ?_|refine zM rfl ?_|refine zN ?_|refine zO ?_|refine zP ?_|refine zQ ?_)
  refine Zgb ?_
  first|refine Zhg (Za2 rfl) ?_|refine Zhg (Zas rfl) ?_
  refine Zg3 ?_
  repeat (first|refine zA ?_|refine zB ?_|refine zC ?_|refine zD ?_|refine zE ?_|refine zF ?_|refine zG ?_|refine zH ?_|refine zI ?_|refine zJ ?_|refine zK ?_|refine zL ?_|refine zM rfl ?_|refine zN ?_|refine zO ?_|refine zP ?_|refine zQ ?_)
  refine Zgb ?_
  first|refine Zhg (Zaw rfl) ?_|refine Zhg (Zar rfl) ?_
  first|refine Zhg (Zcr rfl) ?_|refine Zhg (Zct) ?_|refine Zhg (Zcu rfl) ?_
  refine Zm3 (f := u8b) (a := 0#8) (len := 0) rfl rfl rfl (by first|omega|exact Nat.le_of_ble_eq_true rfl|(simp; done)|(simp; omega)|decide) (by first|omega|exact Nat.le_of_ble_eq_true rfl|(simp; done)|(simp; omega)|decide) (by first|omega|exact Nat.le_of_ble_eq_true rfl|(simp; done)|(simp; omega)|decide) ?_; intro b7
  first|refine Zhg (Za2 rfl) ?_|refine Zhg (Zas rfl) ?_
  refine Zg3 ?_
  repeat (first|refine zA ?_|refine zB ?_|refine zC ?_|refine zD ?_|refine zE ?_|refine zF ?_|refine zG ?_|refine zH ?_|refine zI ?_|refine zJ ?_|refine zK ?_|refine zL ?_|refine zM rfl ?_|refine zN ?_|refine zO ?_|refine zP ?_|refine zQ ?_)
  refine Zgb ?_
  first|refine Zhg (Zaz rfl) ?_|refine Zhg (Zas rfl) ?_
  refine Zg3 ?_
  repeat (first|refine zA ?_|refine zB ?_|refine zC ?_|refine zD ?_|refine zE ?_|refine zF ?_|refine zG ?_|refine zH ?_|refine zI ?_|refine zJ ?_|refine zK ?_|refine zL ?_|refine zM rfl ?_|refine zN ?_|refine zO ?_|refine zP ?_|refine zQ ?_)
  refine Zgo [(3, 4), (8, 20)] (by kernel_rfl) (fun s : Nat × Option Addr × Nat × Nat => s.1 ≤ l.length ∧ s.2.2.2 = s.1) (fun s => own 5 1 (.slice s.2.1 s.1 s.2.2.1) s.1 ((l.take s.1).map u8b) :: L)
    (fun s => [(4, .int .i64 (s.1 : Int)), (3, .slice s.2.1 s.2.2.2 s.2.2.1)]) (fun s => l.length - s.1) (0, some ⟨b7, 0, none⟩, l.length, 0) ⟨Nat.zero_le _, rfl⟩ (Imp.own_mk (Nat.zero_le _) (by dsimp only; omega) (by simp) (by simp)) ⟨rfl, rfl, trivial⟩ ?_
  rintro ⟨i, a, c, n⟩ u ⟨hi, hn⟩
  dsimp only at hi hn ⊢
  subst hn
  repeat (first|refine zA ?_|refine zB ?_|refine zC ?_|refine zD ?_|refine zE ?_|refine zF ?_|refine zG ?_|refine zH ?_|refine zI ?_|refine zJ ?_|refine zK ?_|refine zL ?_|refine zM rfl ?_|refine zN ?_|refine zO ?_|refine zP ?_|refine zQ ?_)
  refine Zgb ?_
  first|refine Zhg (Zat rfl) ?_|refine Zhg (Zar rfl) ?_
  first|refine Zhg (Zaw rfl) ?_|refine Zhg (Zar rfl) ?_
  first|refine Zhg (Zcr rfl) ?_|refine Zhg (Zct) ?_|refine Zhg (Zcu rfl) ?_
  first|refine Zhg (Zmf rfl rfl) ?_|refine Zhg (Zbn rfl rfl) ?_
  refine Zg3 ?_
  repeat (first|refine zA ?_|refine zB ?_|refine zC ?_|refine zD ?_|refine zE ?_|refine zF ?_|refine zG ?_|refine zH ?_|refine zI ?_|refine zJ ?_|refine zK ?_|refine zL ?_|refine zM rfl ?_|refine zN ?_|refine zO ?_|refine zP ?_|refine zQ ?_)
  refine Zgg rfl (fun hB => ?_) (fun hB => ?_)
  · refine Zgt (fun F w H => (h.imp (by exact Imp.arr (by repeat (first|exact Arr.nil|exact Arr.stop|refine Arr.cons (by repeat constructor) ?_|refine Arr.skip ?_)))).some (by omega) H) ?_
    rintro ⟨a1, a2, rfl⟩
    repeat (first|refine zA ?_|refine zB ?_|refine zC ?_|refine zD ?_|refine zE ?_|refine zF ?_|refine zG ?_|refine zH ?_|refine zI ?_|refine zJ ?_|refine zK ?_|refine zL ?_|refine zM rfl ?_|refine zN ?_|refine zO ?_|refine zP ?_|refine zQ ?_)
    refine Zgb ?_
    first|refine Zhg (Zaw rfl) ?_|refine Zhg (Zar rfl) ?_
    first|refine Zhg (Zaw rfl) ?_|refine Zhg (Zar rfl) ?_
    first|refine Zhg (Zat rfl) ?_|refine Zhg (Zar rfl) ?_
    first|refine Zhg (Zl4 rfl rfl) ?_|refine Zhg (Zl1 rfl rfl) ?_
    refine Zic (j := n) rfl (h.rd.imp (by exact Imp.arr (by repeat (first|exact Arr.nil|exact Arr.stop|refine Arr.cons (by repeat constructor) ?_|refine Arr.skip ?_)))) hB (getM (f := u8b) hB) ?_
    refine Zh7 (cs := #[.int .u8 _]) (by omega) (by omega) rfl ?_; intro b19
    refine Zia rfl rfl (by repeat constructor) (Rd.cl (xs := [u8b l[n]]) (by repeat constructor) rfl (by first|rfl|omega|(rw [szL]; omega)|exact Nat.le_of_ble_eq_true rfl|(simp; done)|(simp; omega)) rfl) (by first|rfl|exact oneM_u8 _|exact oneL_u8 _|(simp [oneC]; done)) (by omega) (by first|omega|exact Nat.le_of_ble_eq_true rfl|(simp; done)|(simp; omega)|decide) ?_; intro a2 c2
    first|refine Zhg (Za2 rfl) ?_|refine Zhg (Zas rfl) ?_
    refine Zg3 ?_
    repeat (first|refine zA ?_|refine zB ?_|refine zC ?_|refine zD ?_|refine zE ?_|refine zF ?_|refine zG ?_|refine zH ?_|refine zI ?_|refine zJ ?_|refine zK ?_|refine zL ?_|refine zM rfl ?_|refine zN ?_|refine zO ?_|refine zP ?_|refine zQ ?_)
    refine Zgb ?_
    first|refine Zhg (Zat rfl) ?_|refine Zhg (Zar rfl) ?_
    first|refine Zhg (Zma (b := 1) rfl rfl) ?_|refine Zhg (Zbg rfl rfl) ?_
    first|refine Zhg (Zaz rfl) ?_|refine Zhg (Zas rfl) ?_
    refine Zg3 ?_
    repeat (first|refine zA ?_|refine zB ?_|refine zC ?_|refine zD ?_|refine zE ?_|refine zF ?_|refine zG ?_|refine zH ?_|refine zI ?_|refine zJ ?_|refine zK ?_|refine zL ?_|refine zM rfl ?_|refine zN ?_|refine zO ?_|refine zP ?_|refine zQ ?_)
    refine Zgl (n + 1, a2, c2, n + 1) (by first|omega|(dsimp only; omega)|(simp only []; omega)) ⟨by dsimp only; omega, rfl⟩ ?_ ⟨rfl, rfl, trivial⟩
    dsimp only
    rw [List.take_succ_eq_append_getElem hB, List.map_append]
    exact Imp.arr (by repeat (first|exact Arr.nil|exact Arr.stop|refine Arr.cons (by repeat constructor) ?_|refine Arr.skip ?_))
  · have hie : n = l.length := by omega
    subst hie
    rw [List.take_length]
    repeat (first|refine zA ?_|refine zB ?_|refine zC ?_|refine zD ?_|refine zE ?_|refine zF ?_|refine zG ?_|refine zH ?_|refine zI ?_|refine zJ ?_|refine zK ?_|refine zL ?_|refine zM rfl ?_|refine zN ?_|refine zO ?_|refine zP ?_|refine zQ ?_)
    refine Zgb ?_
    first|refine Zhg (Zaw rfl) ?_|refine Zhg (Zar rfl) ?_
    first|refine Zhg (Za2 rfl) ?_|refine Zhg (Zas rfl) ?_
    refine Zg3 ?_
    repeat (first|refine zA ?_|refine zB ?_|refine zC ?_|refine zD ?_|refine zE ?_|refine zF ?_|refine zG ?_|refine zH ?_|refine zI ?_|refine zJ ?_|refine zK ?_|refine zL ?_|refine zM rfl ?_|refine zN ?_|refine zO ?_|refine zP ?_|refine zQ ?_)
    refine rx1 (Zhc rfl (Zg7)) ?_
    exact ⟨_, ⟨a, c, rfl, rfl⟩, by exact Imp.arr (by repeat (first|exact Arr.nil|exact Arr.stop|refine Arr.cons (by repeat constructor) ?_|refine Arr.skip ?_))⟩
end Go.Sl

/- the statements' small helpers: lists joined. -/
set_option maxHeartbeats 4000000
set_option maxRecDepth 10000
set_option linter.unusedVariables false
set_option linter.unusedSimpArgs false
namespace Go.Sl
open Go Go.Proofs
attribute [local irreducible] cl pt own old pur ex all den denOps denS xOps xC cX CX xthen xblk xcut xloop retX resX Calls PV Rd Con
def joinB (ps : List (Value × List Byte)) : List Byte := (ps.map (·.2)).flatten
theorem joinB_succ (ps : List (Value × List Byte)) (i : Nat) (h : i < ps.length) : joinB (ps.take (i + 1)) = joinB (ps.take i) ++ ps[i].2 := by
  rw [List.take_succ_eq_append_getElem h]; simp only [joinB, List.map_append, List.flatten_append, List.map_cons, List.map_nil, List.flatten_cons, List.flatten_nil, List.append_nil]
theorem joinB_le (ps : List (Value × List Byte)) (i : Nat) : (joinB (ps.take i)).length ≤ (joinB ps).length := by
  have e : joinB ps = joinB (ps.take i) ++ joinB (ps.drop i) := by
    simp only [joinB, ← List.flatten_append, ← List.map_append, List.take_append_drop]
  rw [e]; simp
theorem join_x {L : List Asrt} {v : Value} {ps : List (Value × List Byte)} (h : Rs L v ps) (hl : (joinB ps).length ≤ 140737488355328) : Con Try.prog 15 [v] L (fun r M => ∃ a c, r = .slice a (joinB ps).length c ∧ M = own 5 1 r (joinB ps).length ((joinB ps).map u8b) :: L) := by
  refine Con.get (fun w0 w F H => h.sh _ _ _ H) ?_
  rintro ⟨aa, ac, rfl, hac, hacm⟩
  refine fn_x Try.func15 rfl rfl rfl Try.mixed (by kernel_rfl) ?_
  intro w0
  repeat (first|refine zA ?_|refine zB ?_|refine zC ?_|refine zD ?_|refine zE ?_|refine zF ?_|refine zG ?_|refine zH ?_|refine zI ?_|refine zJ ?_|refine zK ?_|refine zL ?_|refine zM rfl ?_|refine zN ?_|refine zO ?_|refine zP ?_|refine zQ ?_)
  refine Zgb ?_
  first|refine Zhg (Za2 rfl) ?_|refine Zhg (Zas rfl) ?_
  refine Zg3 ?_
  repeat (first|refine zA ?_|refine zB ?_|refine zC ?_|refine zD ?_|refine zE ?_|refine zF ?_|refine zG ?_|refine zH ?_|refine zI ?_|refine zJ ?_|refine zK ?_|refine zL ?_|refine zM rfl ?_|refine zN ?_|refine zO ?_|refine zP ?_|refine zQ ?_)
  refine Zgb ?_
  first|refine Zhg (Za2 rfl) ?_|refine Zhg (Zas rfl) ?_
  refine Zg3 ?_
  repeat (first|refine zA ?_|refine zB ?_|refine zC ?_|refine zD ?_|refine zE ?_|refine zF ?_|refine zG ?_|refine zH ?_|refine zI ?_|refine zJ ?_|refine zK ?_|refine zL ?_|refine zM rfl ?_|refine zN ?_|refine zO ?_|refine zP ?_|refine zQ ?_)
  refine Zgb ?_
  first|refine Zhg (Zaz rfl) ?_|refine Zhg (Zas rfl) ?_
  refine Zg3 ?_
  repeat (first|refine zA ?_|refine zB ?_|refine zC ?_|refine zD ?_|refine zE ?_|refine zF ?_|refine zG ?_|refine zH ?_|refine zI ?_|refine zJ ?_|refine zK ?_|refine zL ?_|refine zM rfl ?_|refine zN ?_|refine zO ?_|refine zP ?_|refine zQ ?_)
  refine Zgo [(3, 30)] (by kernel_rfl) (fun s : Nat × Option Addr × Nat × Nat => s.1 ≤ ps.length ∧ s.2.2.2 = (joinB (ps.take s.1)).length) (fun s => own 5 1 (.slice s.2.1 s.2.2.2 s.2.2.1) s.2.2.2 ((joinB (ps.take s.1)).map u8b) :: L)
    (fun s => [(4, .int .i64 (s.1 : Int)), (3, .slice s.2.1 s.2.2.2 s.2.2.1)]) (fun s => ps.length - s.1) (0, none, 0, 0) ⟨Nat.zero_le _, rfl⟩ Imp.own_nil ⟨rfl, rfl, trivial⟩ ?_
  rintro ⟨i, a, c, n⟩ u ⟨hi, hn⟩
  dsimp only at hi hn ⊢
  have hnl : n ≤ (joinB ps).length := by rw [hn]; exact joinB_le ps i
  repeat (first|refine zA ?_|refine zB ?_|refine zC ?_|refine zD ?_|refine zE ?_|refine zF ?_|refine zG ?_|refine zH ?_|refine zI ?_|refine zJ ?_|refine zK ?_|refine zL ?_|refine zM rfl ?_|refine zN ?_|refine zO ?_|refine zP ?_|refine zQ ?_)
  refine Zgb ?_
  first|refine Zhg (Zat rfl) ?_|refine Zhg (Zar rfl) ?_
  first|refine Zhg (Zaw rfl) ?_|refine Zhg (Zar rfl) ?_
  first|refine Zhg (Zcr rfl) ?_|refine Zhg (Zct) ?_|refine Zhg (Zcu rfl) ?_
  first|refine Zhg (Zmf rfl rfl) ?_|refine Zhg (Zbn rfl rfl) ?_
  refine Zg3 ?_
  repeat (first|refine zA ?_|refine zB ?_|refine zC ?_|refine zD ?_|refine zE ?_|refine zF ?_|refine zG ?_|refine zH ?_|refine zI ?_|refine zJ ?_|refine zK ?_|refine zL ?_|refine zM rfl ?_|refine zN ?_|refine zO ?_|refine zP ?_|refine zQ ?_)
  refine Zgg rfl (fun hB => ?_) (fun hB => ?_)
  · have hel := h.el _ (List.getElem_mem hB)
    refine Zgt (fun F w H => (h.rd.imp (by exact Imp.arr (by repeat (first|exact Arr.nil|exact Arr.stop|refine Arr.cons (by repeat constructor) ?_|refine Arr.skip ?_)))).someAt (by omega) H) ?_
    rintro ⟨a1, a2, rfl⟩
    refine Zgt (fun F w H => (hel.imp (by exact Imp.arr (by repeat (first|exact Arr.nil|exact Arr.stop|refine Arr.cons (by repeat constructor) ?_|refine Arr.skip ?_)))).sh _ _ _ H) ?_
    rintro ⟨ea, ec, hev, hecl, hecm⟩
    generalize hrow : ps[i].2 = row at hel hev hecl
    have htot : (joinB (ps.take i)).length + row.length ≤ (joinB ps).length := by
      have h1 := joinB_le ps (i + 1)
      rw [joinB_succ ps i hB, List.length_append, hrow] at h1; exact h1
    have hgi : (ps.map (·.1))[i]? = some (.slice ea row.length ec) := by simp [hB, hev]
    repeat (first|refine zA ?_|refine zB ?_|refine zC ?_|refine zD ?_|refine zE ?_|refine zF ?_|refine zG ?_|refine zH ?_|refine zI ?_|refine zJ ?_|refine zK ?_|refine zL ?_|refine zM rfl ?_|refine zN ?_|refine zO ?_|refine zP ?_|refine zQ ?_)
    refine Zgb ?_
    first|refine Zhg (Zaz rfl) ?_|refine Zhg (Zas rfl) ?_
    refine Zg3 ?_
    repeat (first|refine zA ?_|refine zB ?_|refine zC ?_|refine zD ?_|refine zE ?_|refine zF ?_|refine zG ?_|refine zH ?_|refine zI ?_|refine zJ ?_|refine zK ?_|refine zL ?_|refine zM rfl ?_|refine zN ?_|refine zO ?_|refine zP ?_|refine zQ ?_)
    refine Zgo [(3, 3), (5, 5), (12, 30)] (by kernel_rfl) (fun s : Nat × Option Addr × Nat × Nat => s.1 ≤ row.length ∧ s.2.2.2 = n + s.1) (fun s => own 5 1 (.slice s.2.1 s.2.2.2 s.2.2.1) s.2.2.2 ((joinB (ps.take i) ++ row.take s.1).map u8b) :: L)
      (fun s => [(5, .int .i64 (s.1 : Int)), (3, .slice s.2.1 s.2.2.2 s.2.2.1)]) (fun s => row.length - s.1) (0, a, c, n) ⟨Nat.zero_le _, rfl⟩ (by dsimp only; rw [List.take_zero, List.append_nil]; exact Imp.refl _) ⟨rfl, rfl, trivial⟩ ?_
    rintro ⟨k, a', c', n'⟩ u' ⟨hk, hn'⟩
    dsimp only at hk hn' ⊢
    repeat (first|refine zA ?_|refine zB ?_|refine zC ?_|refine zD ?_|refine zE ?_|refine zF ?_|refine zG ?_|refine zH ?_|refine zI ?_|refine zJ ?_|refine zK ?_|refine zL ?_|refine zM rfl ?_|refine zN ?_|refine zO ?_|refine zP ?_|refine zQ ?_)
    refine Zgb ?_
    first|refine Zhg (Zat rfl) ?_|refine Zhg (Zar rfl) ?_
    first|refine Zhg (Zaw rfl) ?_|refine Zhg (Zar rfl) ?_
    first|refine Zhg (Zat rfl) ?_|refine Zhg (Zar rfl) ?_
    first|refine Zhg (Zl4 rfl rfl) ?_|refine Zhg (Zl1 rfl rfl) ?_
    refine Zic (j := i) rfl (h.rd.imp (by exact Imp.arr (by repeat (first|exact Arr.nil|exact Arr.stop|refine Arr.cons (by repeat constructor) ?_|refine Arr.skip ?_)))) hB hgi ?_
    first|refine Zhg (Zcr rfl) ?_|refine Zhg (Zct) ?_|refine Zhg (Zcu rfl) ?_
    first|refine Zhg (Zmf rfl rfl) ?_|refine Zhg (Zbn rfl rfl) ?_
    refine Zg3 ?_
    repeat (first|refine zA ?_|refine zB ?_|refine zC ?_|refine zD ?_|refine zE ?_|refine zF ?_|refine zG ?_|refine zH ?_|refine zI ?_|refine zJ ?_|refine zK ?_|refine zL ?_|refine zM rfl ?_|refine zN ?_|refine zO ?_|refine zP ?_|refine zQ ?_)
    refine Zgg rfl (fun hK => ?_) (fun hK => ?_)
    · refine Zgt (fun F w H => (by rw [hev] at hel; exact (hel.imp (by exact Imp.arr (by repeat (first|exact Arr.nil|exact Arr.stop|refine Arr.cons (by repeat constructor) ?_|refine Arr.skip ?_)))).some (by omega) H)) ?_
      rintro ⟨e1, e2, rfl⟩
      rw [hev] at hel
      repeat (first|refine zA ?_|refine zB ?_|refine zC ?_|refine zD ?_|refine zE ?_|refine zF ?_|refine zG ?_|refine zH ?_|refine zI ?_|refine zJ ?_|refine zK ?_|refine zL ?_|refine zM rfl ?_|refine zN ?_|refine zO ?_|refine zP ?_|refine zQ ?_)
      refine Zgb ?_
      first|refine Zhg (Zaw rfl) ?_|refine Zhg (Zar rfl) ?_
      first|refine Zhg (Zaw rfl) ?_|refine Zhg (Zar rfl) ?_
      first|refine Zhg (Zat rfl) ?_|refine Zhg (Zar rfl) ?_
      first|refine Zhg (Zl4 rfl rfl) ?_|refine Zhg (Zl1 rfl rfl) ?_
      refine Zic (j := i) rfl (h.rd.imp (by exact Imp.arr (by repeat (first|exact Arr.nil|exact Arr.stop|refine Arr.cons (by repeat constructor) ?_|refine Arr.skip ?_)))) hB hgi ?_
      first|refine Zhg (Zat rfl) ?_|refine Zhg (Zar rfl) ?_
      first|refine Zhg (Zl4 rfl rfl) ?_|refine Zhg (Zl1 rfl rfl) ?_
      refine Zic (j := k) rfl (hel.rd.imp (by exact Imp.arr (by repeat (first|exact Arr.nil|exact Arr.stop|refine Arr.cons (by repeat constructor) ?_|refine Arr.skip ?_)))) hK (getM (f := u8b) hK) ?_
      refine Zh7 (cs := #[.int .u8 _]) (by omega) (by omega) rfl ?_; intro b29
      refine Zia rfl rfl (by repeat constructor) (Rd.cl (xs := [u8b row[k]]) (by repeat constructor) rfl (by first|rfl|omega|(rw [szL]; omega)|exact Nat.le_of_ble_eq_true rfl|(simp; done)|(simp; omega)) rfl) (by first|rfl|exact oneM_u8 _|exact oneL_u8 _|(simp [oneC]; done)) (by omega) (by first|omega|exact Nat.le_of_ble_eq_true rfl|(simp; done)|(simp; omega)|decide) ?_; intro a3 c3
      first|refine Zhg (Za2 rfl) ?_|refine Zhg (Zas rfl) ?_
      refine Zg3 ?_
      repeat (first|refine zA ?_|refine zB ?_|refine zC ?_|refine zD ?_|refine zE ?_|refine zF ?_|refine zG ?_|refine zH ?_|refine zI ?_|refine zJ ?_|refine zK ?_|refine zL ?_|refine zM rfl ?_|refine zN ?_|refine zO ?_|refine zP ?_|refine zQ ?_)
      refine Zgb ?_
      first|refine Zhg (Zat rfl) ?_|refine Zhg (Zar rfl) ?_
      first|refine Zhg (Zma (b := 1) rfl rfl) ?_|refine Zhg (Zbg rfl rfl) ?_
      first|refine Zhg (Zaz rfl) ?_|refine Zhg (Zas rfl) ?_
      refine Zg3 ?_
      repeat (first|refine zA ?_|refine zB ?_|refine zC ?_|refine zD ?_|refine zE ?_|refine zF ?_|refine zG ?_|refine zH ?_|refine zI ?_|refine zJ ?_|refine zK ?_|refine zL ?_|refine zM rfl ?_|refine zN ?_|refine zO ?_|refine zP ?_|refine zQ ?_)
      refine Zgl (k + 1, a3, c3, n' + 1) (by first|omega|(dsimp only; omega)|(simp only []; omega)) ⟨by dsimp only; omega, by dsimp only; omega⟩ ?_ ⟨rfl, rfl, trivial⟩
      dsimp only
      rw [app_take_succ _ hK]
      exact Imp.arr (by repeat (first|exact Arr.nil|exact Arr.stop|refine Arr.cons (by repeat constructor) ?_|refine Arr.skip ?_))
    · have hke : k = row.length := by omega
      subst hke
      rw [List.take_length]
      repeat (first|refine zA ?_|refine zB ?_|refine zC ?_|refine zD ?_|refine zE ?_|refine zF ?_|refine zG ?_|refine zH ?_|refine zI ?_|refine zJ ?_|refine zK ?_|refine zL ?_|refine zM rfl ?_|refine zN ?_|refine zO ?_|refine zP ?_|refine zQ ?_)
      refine Zgb ?_
      first|refine Zhg (Zat rfl) ?_|refine Zhg (Zar rfl) ?_
      first|refine Zhg (Zma (b := 1) rfl rfl) ?_|refine Zhg (Zbg rfl rfl) ?_
      first|refine Zhg (Zaz rfl) ?_|refine Zhg (Zas rfl) ?_
      refine Zg3 ?_
      repeat (first|refine zA ?_|refine zB ?_|refine zC ?_|refine zD ?_|refine zE ?_|refine zF ?_|refine zG ?_|refine zH ?_|refine zI ?_|refine zJ ?_|refine zK ?_|refine zL ?_|refine zM rfl ?_|refine zN ?_|refine zO ?_|refine zP ?_|refine zQ ?_)
      refine Zgl (i + 1, a', c', n') (by first|omega|(dsimp only; omega)|(simp only []; omega)) ⟨by dsimp only; omega, by dsimp only; rw [joinB_succ ps i hB, List.length_append, hrow]; omega⟩ ?_ ⟨rfl, rfl, trivial⟩
      dsimp only
      rw [joinB_succ ps i hB, hrow]
      exact Imp.arr (by repeat (first|exact Arr.nil|exact Arr.stop|refine Arr.cons (by repeat constructor) ?_|refine Arr.skip ?_))
  · have hie : i = ps.length := by omega
    subst hie
    rw [List.take_length] at hn
    rw [List.take_length]
    subst hn
    repeat (first|refine zA ?_|refine zB ?_|refine zC ?_|refine zD ?_|refine zE ?_|refine zF ?_|refine zG ?_|refine zH ?_|refine zI ?_|refine zJ ?_|refine zK ?_|refine zL ?_|refine zM rfl ?_|refine zN ?_|refine zO ?_|refine zP ?_|refine zQ ?_)
    refine Zgb ?_
    first|refine Zhg (Zaw rfl) ?_|refine Zhg (Zar rfl) ?_
    first|refine Zhg (Za2 rfl) ?_|refine Zhg (Zas rfl) ?_
    refine Zg3 ?_
    repeat (first|refine zA ?_|refine zB ?_|refine zC ?_|refine zD ?_|refine zE ?_|refine zF ?_|refine zG ?_|refine zH ?_|refine zI ?_|refine zJ ?_|refine zK ?_|refine zL ?_|refine zM rfl ?_|refine zN ?_|refine zO ?_|refine zP ?_|refine zQ ?_)
    refine rx1 (Zhc rfl (Zg7)) ?_
    exact ⟨_, ⟨a, c, rfl, rfl⟩, by exact Imp.arr (by repeat (first|exact Arr.nil|exact Arr.stop|refine Arr.cons (by repeat constructor) ?_|refine Arr.skip ?_))⟩
theorem two_x {L : List Asrt} {va vb : Value} {a b : List Byte} (ha : Bs L va a) (hb : Bs L vb b) (hl : (a ++ b).length ≤ 140737488355328) : Con Try.prog 33 [va, vb] L (fun r M => ∃ x c, r = .slice x (a ++ b).length c ∧ M = own 5 1 r (a ++ b).length ((a ++ b).map u8b) :: L) := by
  refine Con.get (fun w0 w F H => ha.sh _ _ _ H) ?_
  rintro ⟨aa, ac, rfl, hac, hacm⟩
  refine Con.get (fun w0 w F H => hb.sh _ _ _ H) ?_
  rintro ⟨ba, bc, rfl, hbc, hbcm⟩
  have e : joinB [(.slice aa a.length ac, a), (.slice ba b.length bc, b)] = a ++ b := by simp [joinB]
  refine fn_x Try.func33 rfl rfl rfl Try.mixed (by kernel_rfl) ?_
  intro w0
  repeat (first|refine zA ?_|refine zB ?_|refine zC ?_|refine zD ?_|refine zE ?_|refine zF ?_|refine zG ?_|refine zH ?_|refine zI ?_|refine zJ ?_|refine zK ?_|refine zL ?_|refine zM rfl ?_|refine zN ?_|refine zO ?_|refine zP ?_|refine zQ ?_)
  refine Zgb ?_
  first|refine Zhg (Za2 rfl) ?_|refine Zhg (Zas rfl) ?_
  refine Zg3 ?_
  repeat (first|refine zA ?_|refine zB ?_|refine zC ?_|refine zD ?_|refine zE ?_|refine zF ?_|refine zG ?_|refine zH ?_|refine zI ?_|refine zJ ?_|refine zK ?_|refine zL ?_|refine zM rfl ?_|refine zN ?_|refine zO ?_|refine zP ?_|refine zQ ?_)
  refine Zgb ?_
  first|refine Zhg (Zaw rfl) ?_|refine Zhg (Zar rfl) ?_
  first|refine Zhg (Zaw rfl) ?_|refine Zhg (Zar rfl) ?_
  refine Zh7 (cs := #[.slice _ _ _, .slice _ _ _]) (by omega) (by omega) rfl ?_; intro b7
  refine Zh8 rfl (by kernel_rfl) (join_x (L := cl b7 #[.slice aa a.length ac, .slice ba b.length bc] 31 :: L) (ps := [(.slice aa a.length ac, a), (.slice ba b.length bc, b)]) (Rs.cl (o := 0) (by repeat constructor) (by simp) rfl (by simp) (by simp) (by intro x hx; simp only [List.mem_cons, List.not_mem_nil, or_false] at hx; rcases hx with rfl|rfl; exact ha.imp Imp.tail; exact hb.imp Imp.tail)) (by rw [e]; exact hl)) rfl (by repeat (first|exact Take.nil|exact Take.all|(apply Take.cons; (next => (repeat constructor); done))|apply Take.skip)) ?_
  rintro _ _ ⟨x, c, rfl, rfl⟩
  refine Zg2 (by repeat (first|exact App.nil|apply App.cons|(apply App.flip; first|exact App.nil|apply App.cons)|exact App.any)) ?_
  first|refine Zhg (Za2 rfl) ?_|refine Zhg (Zas rfl) ?_
  refine Zg3 ?_
  repeat (first|refine zA ?_|refine zB ?_|refine zC ?_|refine zD ?_|refine zE ?_|refine zF ?_|refine zG ?_|refine zH ?_|refine zI ?_|refine zJ ?_|refine zK ?_|refine zL ?_|refine zM rfl ?_|refine zN ?_|refine zO ?_|refine zP ?_|refine zQ ?_)
  rw [e]
  refine rx1 (Zhc rfl (Zg7)) ?_
  exact ⟨_, ⟨x, c, rfl, rfl⟩, by exact Imp.arr (by repeat (first|exact Arr.nil|exact Arr.stop|refine Arr.cons (by repeat constructor) ?_|refine Arr.skip ?_))⟩
end Go.Sl

/- what the bound of an '..UptoSaid' gives: lengths. -/
set_option linter.unusedVariables false
set_option linter.unusedSimpArgs false
namespace Go.Sl
open Go Go.Proofs Go.ChangeShapes Go.WideShapes Go.ChangeAt Go.RowKit
open Ytiebmodokjaokab (Rows.uptoBulk Rows.uptoBulkAll)
variable {H : Type} {enc : TypeId × Value → H} {P : Program} {w : World} {base : Nat} {spare : Nat → Bool} {held : Bool}
theorem bulk_pos (d : DataW H) : 1 ≤ Ytiebmodokjaokab.Rows.uptoBulk d := by
  cases d with
  | lit l => cases l <;> simp [Ytiebmodokjaokab.Rows.uptoBulk]
  | nil => simp [Ytiebmodokjaokab.Rows.uptoBulk]
  | ptr d => simp [Ytiebmodokjaokab.Rows.uptoBulk]
  | slice elems spare => simp [Ytiebmodokjaokab.Rows.uptoBulk]
  | agg parts => simp [Ytiebmodokjaokab.Rows.uptoBulk]
  | iface t d => simp [Ytiebmodokjaokab.Rows.uptoBulk]
  | map entries => simp [Ytiebmodokjaokab.Rows.uptoBulk]
  | held h => simp [Ytiebmodokjaokab.Rows.uptoBulk]
theorem bulk_len (l : List (DataW H)) : l.length ≤ Ytiebmodokjaokab.Rows.uptoBulkAll l := by
  induction l with
  | nil => simp [Ytiebmodokjaokab.Rows.uptoBulkAll]
  | cons x r ih => have := bulk_pos x; simp only [Ytiebmodokjaokab.Rows.uptoBulkAll, List.length_cons]; omega
/-- The bytes of a slice are at most its bulk. -/
theorem bulk_bs {t e fuel : Nat} {v : Value} {l : List Byte} {W : World} {x : DataW H × List MemPlace} (ht : P.underlying t = some (.slice e)) (hin : InB W v l) (h : DataW.trod enc P w base spare held fuel t [v] = some x) : l.length ≤ Ytiebmodokjaokab.Rows.uptoBulk x.1 := by
  obtain ⟨a, c, rfl, _, _⟩ := hin.sh
  rcases DataW.trod_slice ht h with ⟨hv, hx⟩|⟨a', len, cap, elems, rest, n, _, hv, hx, _, _, _, hlen, _⟩
  · simp only [List.cons.injEq, Value.slice.injEq, and_true] at hv
    omega
  · simp only [List.cons.injEq, Value.slice.injEq, and_true] at hv
    obtain ⟨_, hl, _⟩ := hv
    rw [hx]
    have := bulk_len (elems.map (·.1))
    simp only [Ytiebmodokjaokab.Rows.uptoBulk]
    simp at this
    omega
theorem bulk_sum : ∀ (ps : List (Value × List Byte)) (ds : List (DataW H)), ps.length = ds.length → (∀ i (h1 : i < ps.length) (h2 : i < ds.length), ps[i].2.length ≤ Ytiebmodokjaokab.Rows.uptoBulk ds[i]) → (joinB ps).length ≤ Ytiebmodokjaokab.Rows.uptoBulkAll ds
  | [], [], _, _ => by simp [joinB]
  | p :: ps, d :: ds, hl, h => by
    have h0 := h 0 (by simp) (by simp)
    have ih := bulk_sum ps ds (by simpa using hl) (fun i h1 h2 => h (i + 1) (by simpa using h1) (by simpa using h2))
    simp only [List.getElem_cons_zero] at h0
    have e : joinB (p :: ps) = p.2 ++ joinB ps := by simp [joinB]
    rw [e, List.length_append]
    simp only [Ytiebmodokjaokab.Rows.uptoBulkAll]
    omega
  | [], _ :: _, hl, _ => by simp at hl
  | _ :: _, [], hl, _ => by simp at hl
/-- ... of slices of bytes: what they hold together. -/
theorem bulk_rs {t e e2 fuel : Nat} {v : Value} {ps : List (Value × List Byte)} {x : DataW H × List MemPlace} (ht : P.underlying t = some (.slice e)) (hc : P.cellsOf e = 1) (ht2 : P.underlying e = some (.slice e2)) (hin : InR w v ps) (h : DataW.trod enc P w base spare held fuel t [v] = some x) :
    (joinB ps).length + ps.length ≤ 2 * Ytiebmodokjaokab.Rows.uptoBulk x.1 := by
  obtain ⟨a, c, rfl, _, _⟩ := hin.sh
  rcases DataW.trod_slice ht h with ⟨hv, hx⟩|⟨a', len, cap, elems, rest, n, _, hv, hx, _, _, _, hlen, hel, _⟩
  · simp only [List.cons.injEq, Value.slice.injEq, and_true] at hv
    have : ps = [] := List.eq_nil_of_length_eq_zero (by omega)
    subst this
    simp [joinB]
  · simp only [List.cons.injEq, Value.slice.injEq, and_true] at hv
    obtain ⟨rfl, hl, rfl⟩ := hv
    rw [hc] at hel
    have hs := bulk_sum ps (elems.map (·.1)) (by simp; omega) (fun i h1 h2 => by
      have h3 := hel i (by omega)
      have h4 : i < elems.length := by omega
      rw [List.getElem?_eq_getElem h4] at h3
      obtain ⟨cs', h5, h6⟩ := Option.bind_eq_some_iff.1 h3
      have h7 := World.cells?_some h5
      have hcell : cs' = [ps[i].1] := by
        obtain ⟨hb, o, hc'⟩ := hin.sl.isSome (by omega)
        simp only [Option.some.injEq] at hc'
        subst hc'
        obtain ⟨cc, E, fr, hh, hg⟩ := hin.sl.cellAt h1
        have h8 := h7.2.2 0 (by omega)
        have e1 : ((⟨hb, o, none⟩ : Addr).add (i * 1)).add 0 = ⟨hb, o + i, none⟩ := by rw [addr_add, addr_add]; simp
        rw [e1] at h8
        unfold World.cell? at h8
        rw [hh] at h8
        simp only [Option.isSome_none, Bool.false_eq_true, if_false] at h8
        rw [hg] at h8
        have hl1 : cs'.length = 1 := h7.2.1
        match cs', hl1 with
        | [u], _ =>
          simp [h1] at h8
          rw [h8]
      rw [hcell] at h6
      simp only [List.getElem_map]
      exact bulk_bs ht2 (hin.el _ (List.getElem_mem h1)) h6)
    have hl2 := bulk_len (elems.map (·.1))
    rw [hx]
    simp only [Ytiebmodokjaokab.Rows.uptoBulk]
    simp at hl2
    omega
end Go.Sl

/- tag: numbers of 64 bits; products and sums of 128 bits. -/
set_option maxHeartbeats 4000000
set_option maxRecDepth 10000
set_option linter.unusedVariables false
set_option linter.unusedSimpArgs false
namespace Go.Sl
open Go Go.Proofs
attribute [local irreducible] cl pt own old pur ex all den denOps denS xOps xC cX CX xthen xblk xcut xloop retX resX Calls PV Rd Con
def carry (x y c : BitVec 64) : BitVec 64 := BitVec.ofNat 64 ((x.toNat + y.toNat + c.toNat) / 18446744073709551616)
def borrow (x y c : BitVec 64) : BitVec 64 := if x.toNat < y.toNat + c.toNat then 1#64 else 0#64
theorem ext_add64 (x y c : BitVec 64) (hc : c.toNat ≤ 1) : extv Try.prog 37 [u64b x, u64b y, u64b c] (.tuple #[u64b (x + y + c), u64b (carry x y c)]) := by
  intro w
  show (callFunc _ #[u64b x, u64b y, u64b c]).run _ w = _
  rw [run_callFunc_extern Try.func37 (by kernel_rfl) (by kernel_rfl) (by kernel_rfl) (e := add64Entry) (by kernel_rfl), run_add64 _ _ _ (by omega) (by omega) (by omega) (by omega)]
  simp only [Result.andThen]
  have hx := x.isLt; have hy := y.isLt; have hz := c.isLt
  have e1 : ((x + y + c).toNat : Int) = (x.toNat + y.toNat + c.toNat) % 18446744073709551616 := by simp only [BitVec.toNat_add]; omega
  have e2 : ((carry x y c).toNat : Int) = (x.toNat + y.toNat + c.toNat) / 18446744073709551616 := by simp only [carry, BitVec.toNat_ofNat]; omega
  rw [← e1, ← e2]
def sub64E : Array Value → Sem Value := fun args => do
  let (x, y, b) ← Extern.MathBitsCarry.three "Sub64" args
  pure (Extern.MathBitsCarry.pair ((x + Extern.MathBitsCarry.m64 - y - b) % Extern.MathBitsCarry.m64) (if x < y + b then 1 else 0))
theorem run_sub64E {P : Program} (x y b : Nat) (hb : b ≤ 1) (w : World) :
    (sub64E #[.int .u64 x, .int .u64 y, .int .u64 b]).run P w =
      .ok (.tuple #[.int .u64 (((x + 18446744073709551616 - y - b) % 18446744073709551616 : Nat) : Int), .int .u64 ((if x < y + b then 1 else 0 : Nat) : Int)]) w := by
  have : b = 0 ∨ b = 1 := by omega
  rcases this with rfl|rfl <;> rfl
theorem ext_sub64 (x y c : BitVec 64) (hc : c.toNat ≤ 1) : extv Try.prog 36 [u64b x, u64b y, u64b c] (.tuple #[u64b (x - y - c), u64b (borrow x y c)]) := by
  intro w
  show (callFunc _ #[u64b x, u64b y, u64b c]).run _ w = _
  rw [run_callFunc_extern Try.func36 (by kernel_rfl) (by kernel_rfl) (by kernel_rfl) (e := sub64E) (by kernel_rfl), run_sub64E _ _ _ hc]
  simp only [Result.andThen]
  have hx := x.isLt; have hy := y.isLt; have hz := c.isLt
  have e1 : (x - y - c).toNat = (x.toNat + 18446744073709551616 - y.toNat - c.toNat) % 18446744073709551616 := by simp only [BitVec.toNat_sub]; omega
  have e2 : (borrow x y c).toNat = if x.toNat < y.toNat + c.toNat then 1 else 0 := by unfold borrow; split <;> rfl
  rw [← e1, ← e2]
/-- Eight bytes as a number, the lowest first. -/
def wordB (b : List (BitVec 8)) : BitVec 64 := b.foldr (fun x a => a <<< 8 ||| x.setWidth 64) 0#64
theorem word_c (b : List (BitVec 8)) (hb : b.length = 8) : Con Try.prog 34 [.agg (b.map u8b).toArray] [] (fun v M => v = u64b (wordB b) ∧ M = []) := by
  refine fn_x Try.func34 rfl rfl rfl Try.mixed (by kernel_rfl) ?_
  intro w0
  repeat (first|refine zA ?_|refine zB ?_|refine zC ?_|refine zD ?_|refine zE ?_|refine zF ?_|refine zG ?_|refine zH ?_|refine zI ?_|refine zJ ?_|refine zK ?_|refine zL ?_|refine zM rfl ?_|refine zN ?_|refine zO ?_|refine zP ?_|refine zQ ?_)
  refine Zgb ?_
  refine Zh5 rfl ?_; intro b1
  first|refine Zhg (Zaz rfl) ?_|refine Zhg (Zas rfl) ?_
  refine Zg3 ?_
  repeat (first|refine zA ?_|refine zB ?_|refine zC ?_|refine zD ?_|refine zE ?_|refine zF ?_|refine zG ?_|refine zH ?_|refine zI ?_|refine zJ ?_|refine zK ?_|refine zL ?_|refine zM rfl ?_|refine zN ?_|refine zO ?_|refine zP ?_|refine zQ ?_)
  refine Zgb ?_
  first|refine Zhg (Zaz rfl) ?_|refine Zhg (Zas rfl) ?_
  refine Zg3 ?_
  repeat (first|refine zA ?_|refine zB ?_|refine zC ?_|refine zD ?_|refine zE ?_|refine zF ?_|refine zG ?_|refine zH ?_|refine zI ?_|refine zJ ?_|refine zK ?_|refine zL ?_|refine zM rfl ?_|refine zN ?_|refine zO ?_|refine zP ?_|refine zQ ?_)
  refine Zgb ?_
  first|refine Zhg (Zaz rfl) ?_|refine Zhg (Zas rfl) ?_
  refine Zg3 ?_
  repeat (first|refine zA ?_|refine zB ?_|refine zC ?_|refine zD ?_|refine zE ?_|refine zF ?_|refine zG ?_|refine zH ?_|refine zI ?_|refine zJ ?_|refine zK ?_|refine zL ?_|refine zM rfl ?_|refine zN ?_|refine zO ?_|refine zP ?_|refine zQ ?_)
  refine Zgo [(3, 15)] (by kernel_rfl) (fun i : Nat => i ≤ 8) (fun _ => [cl b1 (b.map u8b).toArray 76]) (fun i => [(3, u64b (wordB (b.drop i))), (4, .int .i64 ((i : Int) - 1))]) (fun i => i) 8 (by omega) (by exact Imp.arr (by repeat (first|exact Arr.nil|exact Arr.stop|refine Arr.cons (by repeat constructor) ?_|refine Arr.skip ?_))) ⟨by rw [List.drop_of_length_le (by omega)]; rfl, rfl, trivial⟩ ?_
  intro i u hi
  repeat (first|refine zA ?_|refine zB ?_|refine zC ?_|refine zD ?_|refine zE ?_|refine zF ?_|refine zG ?_|refine zH ?_|refine zI ?_|refine zJ ?_|refine zK ?_|refine zL ?_|refine zM rfl ?_|refine zN ?_|refine zO ?_|refine zP ?_|refine zQ ?_)
  refine Zgb ?_
  first|refine Zhg (Zat rfl) ?_|refine Zhg (Zar rfl) ?_
  first|refine Zhg (Zmi (b := 0) rfl rfl) ?_|refine Zhg (Zbq rfl rfl) ?_
  refine Zg3 ?_
  repeat (first|refine zA ?_|refine zB ?_|refine zC ?_|refine zD ?_|refine zE ?_|refine zF ?_|refine zG ?_|refine zH ?_|refine zI ?_|refine zJ ?_|refine zK ?_|refine zL ?_|refine zM rfl ?_|refine zN ?_|refine zO ?_|refine zP ?_|refine zQ ?_)
  refine Zgg rfl (fun hB => ?_) (fun hB => ?_)
  · obtain ⟨k, rfl⟩ : ∃ k, i = k + 1 := ⟨i - 1, by omega⟩
    repeat (first|refine zA ?_|refine zB ?_|refine zC ?_|refine zD ?_|refine zE ?_|refine zF ?_|refine zG ?_|refine zH ?_|refine zI ?_|refine zJ ?_|refine zK ?_|refine zL ?_|refine zM rfl ?_|refine zN ?_|refine zO ?_|refine zP ?_|refine zQ ?_)
    refine Zgb ?_
    first|refine Zhg (Zat rfl) ?_|refine Zhg (Zar rfl) ?_
    refine Zhg (Zlj (m := 8) rfl rfl) ?_
    first|refine Zhg (Zat rfl) ?_|refine Zhg (Zar rfl) ?_
    first|refine Zhg (Zl5 (n := k) rfl (int_eq (by push_cast; omega))) ?_|refine Zhg (Zl3 (n := k) rfl (int_eq (by push_cast; omega))) ?_
    refine Zhp rfl (by repeat constructor) (getL (by omega)) ?_
    refine Zhg (Zjx rfl) ?_
    refine Zhg (Zlg rfl rfl) ?_
    first|refine Zhg (Zaz rfl) ?_|refine Zhg (Zas rfl) ?_
    refine Zg3 ?_
    repeat (first|refine zA ?_|refine zB ?_|refine zC ?_|refine zD ?_|refine zE ?_|refine zF ?_|refine zG ?_|refine zH ?_|refine zI ?_|refine zJ ?_|refine zK ?_|refine zL ?_|refine zM rfl ?_|refine zN ?_|refine zO ?_|refine zP ?_|refine zQ ?_)
    refine Zgb ?_
    first|refine Zhg (Zat rfl) ?_|refine Zhg (Zar rfl) ?_
    first|refine Zhg (Zmb (b := 1) rfl rfl) ?_|refine Zhg (Zbh rfl rfl) ?_
    first|refine Zhg (Zaz rfl) ?_|refine Zhg (Zas rfl) ?_
    refine Zg3 ?_
    repeat (first|refine zA ?_|refine zB ?_|refine zC ?_|refine zD ?_|refine zE ?_|refine zF ?_|refine zG ?_|refine zH ?_|refine zI ?_|refine zJ ?_|refine zK ?_|refine zL ?_|refine zM rfl ?_|refine zN ?_|refine zO ?_|refine zP ?_|refine zQ ?_)
    refine Zgl k (by first|omega|(dsimp only; omega)|(simp only []; omega)) (by first|omega|(dsimp only; omega)|(simp only []; omega)) (by exact Imp.arr (by repeat (first|exact Arr.nil|exact Arr.stop|refine Arr.cons (by repeat constructor) ?_|refine Arr.skip ?_))) ⟨?_, ?_, trivial⟩
    · rw [List.drop_eq_getElem_cons (show k < b.length by omega)]; rfl
    · show Value.int _ _ = _; congr 1; omega
  · have : i = 0 := by omega
    subst this
    repeat (first|refine zA ?_|refine zB ?_|refine zC ?_|refine zD ?_|refine zE ?_|refine zF ?_|refine zG ?_|refine zH ?_|refine zI ?_|refine zJ ?_|refine zK ?_|refine zL ?_|refine zM rfl ?_|refine zN ?_|refine zO ?_|refine zP ?_|refine zQ ?_)
    refine Zgb ?_
    first|refine Zhg (Zat rfl) ?_|refine Zhg (Zar rfl) ?_
    first|refine Zhg (Zaz rfl) ?_|refine Zhg (Zas rfl) ?_
    refine Zg3 ?_
    repeat (first|refine zA ?_|refine zB ?_|refine zC ?_|refine zD ?_|refine zE ?_|refine zF ?_|refine zG ?_|refine zH ?_|refine zI ?_|refine zJ ?_|refine zK ?_|refine zL ?_|refine zM rfl ?_|refine zN ?_|refine zO ?_|refine zP ?_|refine zQ ?_)
    refine rx1 (Zg9 rfl (Zg7)) ?_
    exact ⟨_, ⟨rfl, rfl⟩, by exact Imp.arr (by repeat (first|exact Arr.nil|exact Arr.stop|refine Arr.cons (by repeat constructor) ?_|refine Arr.skip ?_))⟩
theorem carry_le (x y c : BitVec 64) (hc : c.toNat ≤ 1) : (carry x y c).toNat ≤ 1 := by
  have hx := x.isLt; have hy := y.isLt
  simp only [carry, BitVec.toNat_ofNat]; omega
theorem borrow_le (x y c : BitVec 64) : (borrow x y c).toNat ≤ 1 := by
  unfold borrow; split <;> simp
def mulHi (x y : BitVec 64) : BitVec 64 := BitVec.ofNat 64 (x.toNat * y.toNat / 18446744073709551616)
theorem mulHi_eq (x y : BitVec 64) : (x >>> 32) * (y >>> 32) + (((x >>> 32) * (y &&& 4294967295#64) + ((x &&& 4294967295#64) * (y &&& 4294967295#64)) >>> 32) >>> 32) +
    ((((x >>> 32) * (y &&& 4294967295#64) + ((x &&& 4294967295#64) * (y &&& 4294967295#64)) >>> 32) &&& 4294967295#64) + (x &&& 4294967295#64) * (y >>> 32)) >>> 32 = mulHi x y := by
  have hx := x.isLt; have hy := y.isLt
  obtain ⟨h1, h2, h3, h4⟩ := Lib.mul64_hi x.toNat y.toNat hx hy
  have m : ∀ a : BitVec 64, (a &&& 4294967295#64).toNat = a.toNat % 4294967296 := fun a => by
    rw [BitVec.toNat_and]; exact Nat.and_two_pow_sub_one_eq_mod a.toNat 32
  have s : ∀ a : BitVec 64, (a >>> 32).toNat = a.toNat / 4294967296 := fun a => by
    rw [BitVec.toNat_ushiftRight, Nat.shiftRight_eq_div_pow]
  have ha := Lib.half_mul_le (a := x.toNat / 4294967296) (b := y.toNat / 4294967296) (by omega) (by omega)
  have hb := Lib.half_mul_le (a := x.toNat / 4294967296) (b := y.toNat % 4294967296) (by omega) (by omega)
  have hc := Lib.half_mul_le (a := x.toNat % 4294967296) (b := y.toNat / 4294967296) (by omega) (by omega)
  have hd := Lib.half_mul_le (a := x.toNat % 4294967296) (b := y.toNat % 4294967296) (by omega) (by omega)
  apply BitVec.eq_of_toNat_eq
  simp only [BitVec.toNat_add, BitVec.toNat_mul, m, s, mulHi, BitVec.toNat_ofNat]
  rw [← h4]
  generalize x.toNat / 4294967296 * (y.toNat / 4294967296) = a at *
  generalize x.toNat / 4294967296 * (y.toNat % 4294967296) = b at *
  generalize x.toNat % 4294967296 * (y.toNat / 4294967296) = c at *
  generalize x.toNat % 4294967296 * (y.toNat % 4294967296) = d at *
  omega
theorem mul64_c (x y : BitVec 64) : Con Try.prog 46 [u64b x, u64b y] [] (fun v M => v = .tuple #[u64b (mulHi x y), u64b (x * y)] ∧ M = []) := by
  refine fn_x Try.func46 rfl rfl rfl Try.mixed (by kernel_rfl) ?_
  intro w0
  repeat (first|refine zA ?_|refine zB ?_|refine zC ?_|refine zD ?_|refine zE ?_|refine zF ?_|refine zG ?_|refine zH ?_|refine zI ?_|refine zJ ?_|refine zK ?_|refine zL ?_|refine zM rfl ?_|refine zN ?_|refine zO ?_|refine zP ?_|refine zQ ?_)
  refine Zgb ?_
  first|refine Zhg (Zaz rfl) ?_|refine Zhg (Zas rfl) ?_
  first|refine Zhg (Zaz rfl) ?_|refine Zhg (Zas rfl) ?_
  refine Zg3 ?_
  repeat (first|refine zA ?_|refine zB ?_|refine zC ?_|refine zD ?_|refine zE ?_|refine zF ?_|refine zG ?_|refine zH ?_|refine zI ?_|refine zJ ?_|refine zK ?_|refine zL ?_|refine zM rfl ?_|refine zN ?_|refine zO ?_|refine zP ?_|refine zQ ?_)
  refine Zgb ?_
  first|refine Zhg (Zat rfl) ?_|refine Zhg (Zar rfl) ?_
  refine Zhg (Zlf (y := 4294967295#64) rfl rfl) ?_
  first|refine Zhg (Zaz rfl) ?_|refine Zhg (Zas rfl) ?_
  refine Zg3 ?_
  repeat (first|refine zA ?_|refine zB ?_|refine zC ?_|refine zD ?_|refine zE ?_|refine zF ?_|refine zG ?_|refine zH ?_|refine zI ?_|refine zJ ?_|refine zK ?_|refine zL ?_|refine zM rfl ?_|refine zN ?_|refine zO ?_|refine zP ?_|refine zQ ?_)
  refine Zgb ?_
  first|refine Zhg (Zat rfl) ?_|refine Zhg (Zar rfl) ?_
  refine Zhg (Zlk (m := 32) rfl rfl) ?_
  first|refine Zhg (Zaz rfl) ?_|refine Zhg (Zas rfl) ?_
  refine Zg3 ?_
  repeat (first|refine zA ?_|refine zB ?_|refine zC ?_|refine zD ?_|refine zE ?_|refine zF ?_|refine zG ?_|refine zH ?_|refine zI ?_|refine zJ ?_|refine zK ?_|refine zL ?_|refine zM rfl ?_|refine zN ?_|refine zO ?_|refine zP ?_|refine zQ ?_)
  refine Zgb ?_
  first|refine Zhg (Zat rfl) ?_|refine Zhg (Zar rfl) ?_
  refine Zhg (Zlf (y := 4294967295#64) rfl rfl) ?_
  first|refine Zhg (Zaz rfl) ?_|refine Zhg (Zas rfl) ?_
  refine Zg3 ?_
  repeat (first|refine zA ?_|refine zB ?_|refine zC ?_|refine zD ?_|refine zE ?_|refine zF ?_|refine zG ?_|refine zH ?_|refine zI ?_|refine zJ ?_|refine zK ?_|refine zL ?_|refine zM rfl ?_|refine zN ?_|refine zO ?_|refine zP ?_|refine zQ ?_)
  refine Zgb ?_
  first|refine Zhg (Zat rfl) ?_|refine Zhg (Zar rfl) ?_
  refine Zhg (Zlk (m := 32) rfl rfl) ?_
  first|refine Zhg (Zaz rfl) ?_|refine Zhg (Zas rfl) ?_
  refine Zg3 ?_
  repeat (first|refine zA ?_|refine zB ?_|refine zC ?_|refine zD ?_|refine zE ?_|refine zF ?_|refine zG ?_|refine zH ?_|refine zI ?_|refine zJ ?_|refine zK ?_|refine zL ?_|refine zM rfl ?_|refine zN ?_|refine zO ?_|refine zP ?_|refine zQ ?_)
  refine Zgb ?_
  first|refine Zhg (Zat rfl) ?_|refine Zhg (Zar rfl) ?_
  first|refine Zhg (Zat rfl) ?_|refine Zhg (Zar rfl) ?_
  refine Zhg (Zle rfl rfl) ?_
  first|refine Zhg (Zaz rfl) ?_|refine Zhg (Zas rfl) ?_
  refine Zg3 ?_
  repeat (first|refine zA ?_|refine zB ?_|refine zC ?_|refine zD ?_|refine zE ?_|refine zF ?_|refine zG ?_|refine zH ?_|refine zI ?_|refine zJ ?_|refine zK ?_|refine zL ?_|refine zM rfl ?_|refine zN ?_|refine zO ?_|refine zP ?_|refine zQ ?_)
  refine Zgb ?_
  first|refine Zhg (Zat rfl) ?_|refine Zhg (Zar rfl) ?_
  first|refine Zhg (Zat rfl) ?_|refine Zhg (Zar rfl) ?_
  refine Zhg (Zle rfl rfl) ?_
  first|refine Zhg (Zat rfl) ?_|refine Zhg (Zar rfl) ?_
  refine Zhg (Zlk (m := 32) rfl rfl) ?_
  refine Zhg (Zlc rfl rfl) ?_
  first|refine Zhg (Zaz rfl) ?_|refine Zhg (Zas rfl) ?_
  refine Zg3 ?_
  repeat (first|refine zA ?_|refine zB ?_|refine zC ?_|refine zD ?_|refine zE ?_|refine zF ?_|refine zG ?_|refine zH ?_|refine zI ?_|refine zJ ?_|refine zK ?_|refine zL ?_|refine zM rfl ?_|refine zN ?_|refine zO ?_|refine zP ?_|refine zQ ?_)
  refine Zgb ?_
  first|refine Zhg (Zat rfl) ?_|refine Zhg (Zar rfl) ?_
  refine Zhg (Zlf (y := 4294967295#64) rfl rfl) ?_
  first|refine Zhg (Zaz rfl) ?_|refine Zhg (Zas rfl) ?_
  refine Zg3 ?_
  repeat (first|refine zA ?_|refine zB ?_|refine zC ?_|refine zD ?_|refine zE ?_|refine zF ?_|refine zG ?_|refine zH ?_|refine zI ?_|refine zJ ?_|refine zK ?_|refine zL ?_|refine zM rfl ?_|refine zN ?_|refine zO ?_|refine zP ?_|refine zQ ?_)
  refine Zgb ?_
  first|refine Zhg (Zat rfl) ?_|refine Zhg (Zar rfl) ?_
  refine Zhg (Zlk (m := 32) rfl rfl) ?_
  first|refine Zhg (Zaz rfl) ?_|refine Zhg (Zas rfl) ?_
  refine Zg3 ?_
  repeat (first|refine zA ?_|refine zB ?_|refine zC ?_|refine zD ?_|refine zE ?_|refine zF ?_|refine zG ?_|refine zH ?_|refine zI ?_|refine zJ ?_|refine zK ?_|refine zL ?_|refine zM rfl ?_|refine zN ?_|refine zO ?_|refine zP ?_|refine zQ ?_)
  refine Zgb ?_
  first|refine Zhg (Zat rfl) ?_|refine Zhg (Zar rfl) ?_
  first|refine Zhg (Zat rfl) ?_|refine Zhg (Zar rfl) ?_
  first|refine Zhg (Zat rfl) ?_|refine Zhg (Zar rfl) ?_
  refine Zhg (Zle rfl rfl) ?_
  refine Zhg (Zlc rfl rfl) ?_
  first|refine Zhg (Zaz rfl) ?_|refine Zhg (Zas rfl) ?_
  refine Zg3 ?_
  repeat (first|refine zA ?_|refine zB ?_|refine zC ?_|refine zD ?_|refine zE ?_|refine zF ?_|refine zG ?_|refine zH ?_|refine zI ?_|refine zJ ?_|refine zK ?_|refine zL ?_|refine zM rfl ?_|refine zN ?_|refine zO ?_|refine zP ?_|refine zQ ?_)
  refine Zgb ?_
  first|refine Zhg (Zat rfl) ?_|refine Zhg (Zar rfl) ?_
  first|refine Zhg (Zat rfl) ?_|refine Zhg (Zar rfl) ?_
  refine Zhg (Zle rfl rfl) ?_
  first|refine Zhg (Zat rfl) ?_|refine Zhg (Zar rfl) ?_
  refine Zhg (Zlc rfl rfl) ?_
  first|refine Zhg (Zat rfl) ?_|refine Zhg (Zar rfl) ?_
  refine Zhg (Zlk (m := 32) rfl rfl) ?_
  refine Zhg (Zlc rfl rfl) ?_
  first|refine Zhg (Zaz rfl) ?_|refine Zhg (Zas rfl) ?_
  refine Zg3 ?_
  repeat (first|refine zA ?_|refine zB ?_|refine zC ?_|refine zD ?_|refine zE ?_|refine zF ?_|refine zG ?_|refine zH ?_|refine zI ?_|refine zJ ?_|refine zK ?_|refine zL ?_|refine zM rfl ?_|refine zN ?_|refine zO ?_|refine zP ?_|refine zQ ?_)
  refine Zgb ?_
  first|refine Zhg (Zat rfl) ?_|refine Zhg (Zar rfl) ?_
  first|refine Zhg (Zat rfl) ?_|refine Zhg (Zar rfl) ?_
  refine Zhg (Zle rfl rfl) ?_
  first|refine Zhg (Zaz rfl) ?_|refine Zhg (Zas rfl) ?_
  refine Zg3 ?_
  repeat (first|refine zA ?_|refine zB ?_|refine zC ?_|refine zD ?_|refine zE ?_|refine zF ?_|refine zG ?_|refine zH ?_|refine zI ?_|refine zJ ?_|refine zK ?_|refine zL ?_|refine zM rfl ?_|refine zN ?_|refine zO ?_|refine zP ?_|refine zQ ?_)
  rw [mulHi_eq]
  refine rx2 (Zg9 rfl (Zg9 rfl (Zg7))) ?_
  exact ⟨_, ⟨rfl, rfl⟩, by exact Imp.arr (by repeat (first|exact Arr.nil|exact Arr.stop|refine Arr.cons (by repeat constructor) ?_|refine Arr.skip ?_))⟩
abbrev W128 := BitVec 64 × BitVec 64
abbrev W192 := BitVec 64 × BitVec 64 × BitVec 64
def wA (x : W128) : Array Value := #[u64b x.1, u64b x.2]
def hA (x : W192) : Array Value := #[u64b x.1, u64b x.2.1, u64b x.2.2]
def mulW (x y : BitVec 64) : W128 := (x * y, mulHi x y)
theorem mul_c (x y : BitVec 64) : Con Try.prog 43 [u64b x, u64b y] [] (fun v M => v = .agg (wA (mulW x y)) ∧ M = []) := by
  refine fn_x Try.func43 rfl rfl rfl Try.mixed (by kernel_rfl) ?_
  intro w0
  repeat (first|refine zA ?_|refine zB ?_|refine zC ?_|refine zD ?_|refine zE ?_|refine zF ?_|refine zG ?_|refine zH ?_|refine zI ?_|refine zJ ?_|refine zK ?_|refine zL ?_|refine zM rfl ?_|refine zN ?_|refine zO ?_|refine zP ?_|refine zQ ?_)
  refine Zgb ?_
  refine Zhz (cs := #[u64b 0#64, u64b 0#64]) rfl ?_; intro b4
  refine Zg3 ?_
  repeat (first|refine zA ?_|refine zB ?_|refine zC ?_|refine zD ?_|refine zE ?_|refine zF ?_|refine zG ?_|refine zH ?_|refine zI ?_|refine zJ ?_|refine zK ?_|refine zL ?_|refine zM rfl ?_|refine zN ?_|refine zO ?_|refine zP ?_|refine zQ ?_)
  refine Zgb ?_
  first|refine Zhg (Zat rfl) ?_|refine Zhg (Zar rfl) ?_
  first|refine Zhg (Zat rfl) ?_|refine Zhg (Zar rfl) ?_
  refine Zh8 rfl (by kernel_rfl) (mul64_c _ _) rfl (by repeat (first|exact Take.nil|exact Take.all|(apply Take.cons; (next => (repeat constructor); done))|apply Take.skip)) ?_
  rintro _ _ ⟨rfl, rfl⟩
  refine Zg2 (by repeat (first|exact App.nil|apply App.cons|(apply App.flip; first|exact App.nil|apply App.cons)|exact App.any)) ?_
  first|refine Zhg (Zmm rfl) ?_|refine Zhg (Zar rfl) ?_
  refine Zhg (Zco rfl rfl) ?_
  refine Zhg (Zco rfl rfl) ?_
  first|refine Zhg (Zaz rfl) ?_|refine Zhg (Zas rfl) ?_
  first|refine Zhg (Zaz rfl) ?_|refine Zhg (Zas rfl) ?_
  refine Zg3 ?_
  repeat (first|refine zA ?_|refine zB ?_|refine zC ?_|refine zD ?_|refine zE ?_|refine zF ?_|refine zG ?_|refine zH ?_|refine zI ?_|refine zJ ?_|refine zK ?_|refine zL ?_|refine zM rfl ?_|refine zN ?_|refine zO ?_|refine zP ?_|refine zQ ?_)
  refine Zgb ?_
  first|refine Zhg (Zat rfl) ?_|refine Zhg (Zar rfl) ?_
  first|refine Zhg (Zat rfl) ?_|refine Zhg (Zar rfl) ?_
  refine Zhg (Zdm (cs := #[.int .u64 _, .int .u64 _]) rfl) ?_
  first|refine Zhy rfl rfl (by repeat constructor) (by first|rfl|omega|(rw [szL]; omega)|exact Nat.le_of_ble_eq_true rfl|(simp; done)|(simp; omega)) (by first|rfl|exact oneM_u8 _|exact oneL_u8 _|(simp [oneC]; done)) (by first|rfl|omega|(rw [szL]; omega)|exact Nat.le_of_ble_eq_true rfl|(simp; done)|(simp; omega)) ?_|refine Zhx rfl rfl (by repeat constructor) (by first|rfl|omega|(rw [szL]; omega)|exact Nat.le_of_ble_eq_true rfl|(simp; done)|(simp; omega)) (by first|rfl|exact oneM_u8 _|exact oneL_u8 _|(simp [oneC]; done)) (by first|rfl|omega|(rw [szL]; omega)|exact Nat.le_of_ble_eq_true rfl|(simp; done)|(simp; omega)) rfl ?_
  refine Zg3 ?_
  repeat (first|refine zA ?_|refine zB ?_|refine zC ?_|refine zD ?_|refine zE ?_|refine zF ?_|refine zG ?_|refine zH ?_|refine zI ?_|refine zJ ?_|refine zK ?_|refine zL ?_|refine zM rfl ?_|refine zN ?_|refine zO ?_|refine zP ?_|refine zQ ?_)
  refine rx1 (Zhe rfl (by repeat constructor) (by first|rfl|omega|(rw [szL]; omega)|exact Nat.le_of_ble_eq_true rfl|(simp; done)|(simp; omega)) (Zg7)) ?_
  exact ⟨_, ⟨rfl, rfl⟩, by exact Imp.arr (by repeat (first|exact Arr.nil|exact Arr.stop|refine Arr.cons (by repeat constructor) ?_|refine Arr.skip ?_))⟩
def addW (x y : W128) : W128 := (x.1 + y.1 + 0#64, x.2 + y.2 + carry x.1 y.1 0#64)
theorem add_c (x y : W128) : Con Try.prog 44 [.agg (wA x), .agg (wA y)] [] (fun v M => v = .agg (wA (addW x y)) ∧ M = []) := by
  refine fn_x Try.func44 rfl rfl rfl Try.mixed (by kernel_rfl) ?_
  intro w0
  repeat (first|refine zA ?_|refine zB ?_|refine zC ?_|refine zD ?_|refine zE ?_|refine zF ?_|refine zG ?_|refine zH ?_|refine zI ?_|refine zJ ?_|refine zK ?_|refine zL ?_|refine zM rfl ?_|refine zN ?_|refine zO ?_|refine zP ?_|refine zQ ?_)
  refine Zgb ?_
  refine Zh5 rfl ?_; intro b2
  refine Zh5 rfl ?_; intro b3
  refine Zhz (cs := #[u64b 0#64, u64b 0#64]) rfl ?_; intro b4
  refine Zg3 ?_
  repeat (first|refine zA ?_|refine zB ?_|refine zC ?_|refine zD ?_|refine zE ?_|refine zF ?_|refine zG ?_|refine zH ?_|refine zI ?_|refine zJ ?_|refine zK ?_|refine zL ?_|refine zM rfl ?_|refine zN ?_|refine zO ?_|refine zP ?_|refine zQ ?_)
  refine Zgb ?_
  first|refine Zhg (Zl8 rfl) ?_|refine Zhg (Zce rfl) ?_
  refine Zhp rfl (by repeat constructor) rfl ?_
  first|refine Zhg (Zl8 rfl) ?_|refine Zhg (Zce rfl) ?_
  refine Zhp rfl (by repeat constructor) rfl ?_
  refine Zhg (Zh9 rfl (ext_add64 _ _ 0#64 (by decide)) rfl) ?_
  first|refine Zhg (Zmm rfl) ?_|refine Zhg (Zar rfl) ?_
  refine Zhg (Zco rfl rfl) ?_
  refine Zhg (Zco rfl rfl) ?_
  first|refine Zhg (Zaz rfl) ?_|refine Zhg (Zas rfl) ?_
  first|refine Zhg (Zaz rfl) ?_|refine Zhg (Zas rfl) ?_
  refine Zg3 ?_
  repeat (first|refine zA ?_|refine zB ?_|refine zC ?_|refine zD ?_|refine zE ?_|refine zF ?_|refine zG ?_|refine zH ?_|refine zI ?_|refine zJ ?_|refine zK ?_|refine zL ?_|refine zM rfl ?_|refine zN ?_|refine zO ?_|refine zP ?_|refine zQ ?_)
  refine Zgb ?_
  first|refine Zhg (Zl8 rfl) ?_|refine Zhg (Zce rfl) ?_
  refine Zhp rfl (by repeat constructor) rfl ?_
  first|refine Zhg (Zl8 rfl) ?_|refine Zhg (Zce rfl) ?_
  refine Zhp rfl (by repeat constructor) rfl ?_
  first|refine Zhg (Zat rfl) ?_|refine Zhg (Zar rfl) ?_
  refine Zhg (Zh9 rfl (ext_add64 _ _ _ (carry_le _ _ _ (by decide))) rfl) ?_
  first|refine Zhg (Zmm rfl) ?_|refine Zhg (Zar rfl) ?_
  refine Zhg (Zco rfl rfl) ?_
  refine Zhg (Zco rfl rfl) ?_
  first|refine Zhg (Zaz rfl) ?_|refine Zhg (Zas rfl) ?_
  first|refine Zhg (Zaz rfl) ?_|refine Zhg (Zas rfl) ?_
  refine Zg3 ?_
  repeat (first|refine zA ?_|refine zB ?_|refine zC ?_|refine zD ?_|refine zE ?_|refine zF ?_|refine zG ?_|refine zH ?_|refine zI ?_|refine zJ ?_|refine zK ?_|refine zL ?_|refine zM rfl ?_|refine zN ?_|refine zO ?_|refine zP ?_|refine zQ ?_)
  refine Zgb ?_
  first|refine Zhg (Zat rfl) ?_|refine Zhg (Zar rfl) ?_
  first|refine Zhg (Zat rfl) ?_|refine Zhg (Zar rfl) ?_
  refine Zhg (Zdm (cs := #[.int .u64 _, .int .u64 _]) rfl) ?_
  first|refine Zhy rfl rfl (by repeat constructor) (by first|rfl|omega|(rw [szL]; omega)|exact Nat.le_of_ble_eq_true rfl|(simp; done)|(simp; omega)) (by first|rfl|exact oneM_u8 _|exact oneL_u8 _|(simp [oneC]; done)) (by first|rfl|omega|(rw [szL]; omega)|exact Nat.le_of_ble_eq_true rfl|(simp; done)|(simp; omega)) ?_|refine Zhx rfl rfl (by repeat constructor) (by first|rfl|omega|(rw [szL]; omega)|exact Nat.le_of_ble_eq_true rfl|(simp; done)|(simp; omega)) (by first|rfl|exact oneM_u8 _|exact oneL_u8 _|(simp [oneC]; done)) (by first|rfl|omega|(rw [szL]; omega)|exact Nat.le_of_ble_eq_true rfl|(simp; done)|(simp; omega)) rfl ?_
  refine Zg3 ?_
  repeat (first|refine zA ?_|refine zB ?_|refine zC ?_|refine zD ?_|refine zE ?_|refine zF ?_|refine zG ?_|refine zH ?_|refine zI ?_|refine zJ ?_|refine zK ?_|refine zL ?_|refine zM rfl ?_|refine zN ?_|refine zO ?_|refine zP ?_|refine zQ ?_)
  refine rx1 (Zhe rfl (by repeat constructor) (by first|rfl|omega|(rw [szL]; omega)|exact Nat.le_of_ble_eq_true rfl|(simp; done)|(simp; omega)) (Zg7)) ?_
  exact ⟨_, ⟨rfl, rfl⟩, by exact Imp.arr (by repeat (first|exact Arr.nil|exact Arr.stop|refine Arr.cons (by repeat constructor) ?_|refine Arr.skip ?_))⟩
def plusW (h : W192) (x : W128) : W192 := (h.1 + x.1 + 0#64, h.2.1 + x.2 + carry h.1 x.1 0#64, h.2.2 + carry h.2.1 x.2 (carry h.1 x.1 0#64))
theorem plus_c (h : W192) (x : W128) : Con Try.prog 45 [.agg (hA h), .agg (wA x)] [] (fun v M => v = .agg (hA (plusW h x)) ∧ M = []) := by
  refine fn_x Try.func45 rfl rfl rfl Try.mixed (by kernel_rfl) ?_
  intro w0
  repeat (first|refine zA ?_|refine zB ?_|refine zC ?_|refine zD ?_|refine zE ?_|refine zF ?_|refine zG ?_|refine zH ?_|refine zI ?_|refine zJ ?_|refine zK ?_|refine zL ?_|refine zM rfl ?_|refine zN ?_|refine zO ?_|refine zP ?_|refine zQ ?_)
  refine Zgb ?_
  refine Zh5 rfl ?_; intro b2
  refine Zh5 rfl ?_; intro b3
  refine Zhz (cs := #[u64b 0#64, u64b 0#64, u64b 0#64]) rfl ?_; intro b4
  refine Zg3 ?_
  repeat (first|refine zA ?_|refine zB ?_|refine zC ?_|refine zD ?_|refine zE ?_|refine zF ?_|refine zG ?_|refine zH ?_|refine zI ?_|refine zJ ?_|refine zK ?_|refine zL ?_|refine zM rfl ?_|refine zN ?_|refine zO ?_|refine zP ?_|refine zQ ?_)
  refine Zgb ?_
  first|refine Zhg (Zaz rfl) ?_|refine Zhg (Zas rfl) ?_
  refine Zg3 ?_
  repeat (first|refine zA ?_|refine zB ?_|refine zC ?_|refine zD ?_|refine zE ?_|refine zF ?_|refine zG ?_|refine zH ?_|refine zI ?_|refine zJ ?_|refine zK ?_|refine zL ?_|refine zM rfl ?_|refine zN ?_|refine zO ?_|refine zP ?_|refine zQ ?_)
  refine Zgb ?_
  first|refine Zhg (Zl5 (n := 0) rfl rfl) ?_|refine Zhg (Zl3 (n := 0) rfl rfl) ?_
  refine Zhp rfl (by repeat constructor) rfl ?_
  first|refine Zhg (Zl8 rfl) ?_|refine Zhg (Zce rfl) ?_
  refine Zhp rfl (by repeat constructor) rfl ?_
  refine Zhg (Zh9 rfl (ext_add64 _ _ 0#64 (by decide)) rfl) ?_
  first|refine Zhg (Zmm rfl) ?_|refine Zhg (Zar rfl) ?_
  refine Zhg (Zco rfl rfl) ?_
  refine Zhg (Zco rfl rfl) ?_
  first|refine Zhg (Zl5 (n := 0) rfl rfl) ?_|refine Zhg (Zl3 (n := 0) rfl rfl) ?_
  refine Zht rfl rfl (by repeat constructor) (by first|rfl|omega|(rw [szL]; omega)|exact Nat.le_of_ble_eq_true rfl|(simp; done)|(simp; omega)) rfl ?_
  first|refine Zhg (Zaz rfl) ?_|refine Zhg (Zas rfl) ?_
  refine Zg3 ?_
  repeat (first|refine zA ?_|refine zB ?_|refine zC ?_|refine zD ?_|refine zE ?_|refine zF ?_|refine zG ?_|refine zH ?_|refine zI ?_|refine zJ ?_|refine zK ?_|refine zL ?_|refine zM rfl ?_|refine zN ?_|refine zO ?_|refine zP ?_|refine zQ ?_)
  refine Zgb ?_
  first|refine Zhg (Zl5 (n := 1) rfl rfl) ?_|refine Zhg (Zl3 (n := 1) rfl rfl) ?_
  refine Zhp rfl (by repeat constructor) rfl ?_
  first|refine Zhg (Zl8 rfl) ?_|refine Zhg (Zce rfl) ?_
  refine Zhp rfl (by repeat constructor) rfl ?_
  first|refine Zhg (Zat rfl) ?_|refine Zhg (Zar rfl) ?_
  refine Zhg (Zh9 rfl (ext_add64 _ _ _ (carry_le _ _ _ (by decide))) rfl) ?_
  first|refine Zhg (Zmm rfl) ?_|refine Zhg (Zar rfl) ?_
  refine Zhg (Zco rfl rfl) ?_
  refine Zhg (Zco rfl rfl) ?_
  first|refine Zhg (Zl5 (n := 1) rfl rfl) ?_|refine Zhg (Zl3 (n := 1) rfl rfl) ?_
  refine Zht rfl rfl (by repeat constructor) (by first|rfl|omega|(rw [szL]; omega)|exact Nat.le_of_ble_eq_true rfl|(simp; done)|(simp; omega)) rfl ?_
  first|refine Zhg (Zaz rfl) ?_|refine Zhg (Zas rfl) ?_
  refine Zg3 ?_
  repeat (first|refine zA ?_|refine zB ?_|refine zC ?_|refine zD ?_|refine zE ?_|refine zF ?_|refine zG ?_|refine zH ?_|refine zI ?_|refine zJ ?_|refine zK ?_|refine zL ?_|refine zM rfl ?_|refine zN ?_|refine zO ?_|refine zP ?_|refine zQ ?_)
  refine Zgb ?_
  first|refine Zhg (Zl5 (n := 2) rfl rfl) ?_|refine Zhg (Zl3 (n := 2) rfl rfl) ?_
  refine Zhp rfl (by repeat constructor) rfl ?_
  first|refine Zhg (Zat rfl) ?_|refine Zhg (Zar rfl) ?_
  refine Zhg (Zlc rfl rfl) ?_
  first|refine Zhg (Zl5 (n := 2) rfl rfl) ?_|refine Zhg (Zl3 (n := 2) rfl rfl) ?_
  refine Zht rfl rfl (by repeat constructor) (by first|rfl|omega|(rw [szL]; omega)|exact Nat.le_of_ble_eq_true rfl|(simp; done)|(simp; omega)) rfl ?_
  refine Zg3 ?_
  repeat (first|refine zA ?_|refine zB ?_|refine zC ?_|refine zD ?_|refine zE ?_|refine zF ?_|refine zG ?_|refine zH ?_|refine zI ?_|refine zJ ?_|refine zK ?_|refine zL ?_|refine zM rfl ?_|refine zN ?_|refine zO ?_|refine zP ?_|refine zQ ?_)
  refine Zgb ?_
  first|refine Zhr rfl (by repeat constructor) (by first|rfl|omega|(rw [szL]; omega)|exact Nat.le_of_ble_eq_true rfl|(simp; done)|(simp; omega)) ?_|refine Zhq rfl (by repeat constructor) (by first|rfl|omega|(rw [szL]; omega)|exact Nat.le_of_ble_eq_true rfl|(simp; done)|(simp; omega)) rfl ?_
  first|refine Zhy rfl rfl (by repeat constructor) (by first|rfl|omega|(rw [szL]; omega)|exact Nat.le_of_ble_eq_true rfl|(simp; done)|(simp; omega)) (by first|rfl|exact oneM_u8 _|exact oneL_u8 _|(simp [oneC]; done)) (by first|rfl|omega|(rw [szL]; omega)|exact Nat.le_of_ble_eq_true rfl|(simp; done)|(simp; omega)) ?_|refine Zhx rfl rfl (by repeat constructor) (by first|rfl|omega|(rw [szL]; omega)|exact Nat.le_of_ble_eq_true rfl|(simp; done)|(simp; omega)) (by first|rfl|exact oneM_u8 _|exact oneL_u8 _|(simp [oneC]; done)) (by first|rfl|omega|(rw [szL]; omega)|exact Nat.le_of_ble_eq_true rfl|(simp; done)|(simp; omega)) rfl ?_
  refine Zg3 ?_
  repeat (first|refine zA ?_|refine zB ?_|refine zC ?_|refine zD ?_|refine zE ?_|refine zF ?_|refine zG ?_|refine zH ?_|refine zI ?_|refine zJ ?_|refine zK ?_|refine zL ?_|refine zM rfl ?_|refine zN ?_|refine zO ?_|refine zP ?_|refine zQ ?_)
  refine rx1 (Zhe rfl (by repeat constructor) (by first|rfl|omega|(rw [szL]; omega)|exact Nat.le_of_ble_eq_true rfl|(simp; done)|(simp; omega)) (Zg7)) ?_
  exact ⟨_, ⟨rfl, rfl⟩, by exact Imp.arr (by repeat (first|exact Arr.nil|exact Arr.stop|refine Arr.cons (by repeat constructor) ?_|refine Arr.skip ?_))⟩
def timesW (h : W192) (r : W128) : W192 :=
  let m0 := mulW h.1 r.1
  let m1 := addW (mulW h.2.1 r.1) (mulW h.1 r.2)
  let m2 := addW (mulW h.2.2 r.1) (mulW h.2.1 r.2)
  let m3 := mulW h.2.2 r.2
  let t1 := m1.1 + m0.2 + 0#64
  let c1 := carry m1.1 m0.2 0#64
  let t2 := m2.1 + m1.2 + c1
  let c2 := carry m2.1 m1.2 c1
  let t3 := m3.1 + m2.2 + c2
  let f : W128 := (t2 &&& ~~~ 3#64, t3)
  plusW (plusW (m0.1, t1, t2 &&& 3#64) f) (f.1 >>> 2 ||| f.2 <<< 62, f.2 >>> 2)
theorem times_c (h : W192) (r : W128) : Con Try.prog 42 [.agg (hA h), .agg (wA r)] [] (fun v M => v = .agg (hA (timesW h r)) ∧ M = []) := by
  refine fn_x Try.func42 rfl rfl rfl Try.mixed (by kernel_rfl) ?_
  intro w0
  repeat (first|refine zA ?_|refine zB ?_|refine zC ?_|refine zD ?_|refine zE ?_|refine zF ?_|refine zG ?_|refine zH ?_|refine zI ?_|refine zJ ?_|refine zK ?_|refine zL ?_|refine zM rfl ?_|refine zN ?_|refine zO ?_|refine zP ?_|refine zQ ?_)
  refine Zgb ?_
  refine Zh5 rfl ?_; intro b2
  refine Zh5 rfl ?_; intro b3
  refine Zhz (cs := #[u64b 0#64, u64b 0#64, u64b 0#64]) rfl ?_; intro b4
  refine Zg3 ?_
  repeat (first|refine zA ?_|refine zB ?_|refine zC ?_|refine zD ?_|refine zE ?_|refine zF ?_|refine zG ?_|refine zH ?_|refine zI ?_|refine zJ ?_|refine zK ?_|refine zL ?_|refine zM rfl ?_|refine zN ?_|refine zO ?_|refine zP ?_|refine zQ ?_)
  refine Zgb ?_
  first|refine Zhg (Zl5 (n := 0) rfl rfl) ?_|refine Zhg (Zl3 (n := 0) rfl rfl) ?_
  refine Zhp rfl (by repeat constructor) rfl ?_
  first|refine Zhg (Zl5 (n := 0) rfl rfl) ?_|refine Zhg (Zl3 (n := 0) rfl rfl) ?_
  refine Zhp rfl (by repeat constructor) rfl ?_
  refine Zh8 rfl (by kernel_rfl) (mul_c _ _) rfl (by repeat (first|exact Take.nil|exact Take.all|(apply Take.cons; (next => (repeat constructor); done))|apply Take.skip)) ?_
  rintro _ _ ⟨rfl, rfl⟩
  refine Zg2 (by repeat (first|exact App.nil|apply App.cons|(apply App.flip; first|exact App.nil|apply App.cons)|exact App.any)) ?_
  refine Zhz (cs := #[u64b 0#64, u64b 0#64]) rfl ?_; intro b5
  first|refine Zhy rfl rfl (by repeat constructor) (by first|rfl|omega|(rw [szL]; omega)|exact Nat.le_of_ble_eq_true rfl|(simp; done)|(simp; omega)) (by first|rfl|exact oneM_u8 _|exact oneL_u8 _|(simp [oneC]; done)) (by first|rfl|omega|(rw [szL]; omega)|exact Nat.le_of_ble_eq_true rfl|(simp; done)|(simp; omega)) ?_|refine Zhx rfl rfl (by repeat constructor) (by first|rfl|omega|(rw [szL]; omega)|exact Nat.le_of_ble_eq_true rfl|(simp; done)|(simp; omega)) (by first|rfl|exact oneM_u8 _|exact oneL_u8 _|(simp [oneC]; done)) (by first|rfl|omega|(rw [szL]; omega)|exact Nat.le_of_ble_eq_true rfl|(simp; done)|(simp; omega)) rfl ?_
  refine Zg3 ?_
  repeat (first|refine zA ?_|refine zB ?_|refine zC ?_|refine zD ?_|refine zE ?_|refine zF ?_|refine zG ?_|refine zH ?_|refine zI ?_|refine zJ ?_|refine zK ?_|refine zL ?_|refine zM rfl ?_|refine zN ?_|refine zO ?_|refine zP ?_|refine zQ ?_)
  refine Zij (_) [0, 1, 2, 3, 4, 5, 6, 7, 8, 9, 10, 11] (.r 0 (.r 1 (.r 2 (.r 3 (.r 5 (.r 6 (.r 7 (.r 8 (.e 4 true (.e 9 true (.e 10 true (.a 11 (.e 12 false .nil))))))))))))) (by kernel_rfl) (by kernel_rfl) (Imp.refl _) ?_
  first|refine Ziz rfl (Zl5 (n := 1) rfl rfl) ?_|refine Ziz rfl (Zl3 (n := 1) rfl rfl) ?_
  refine Ziv rfl rfl (by repeat constructor) rfl ?_
  first|refine Ziz rfl (Zl5 (n := 0) rfl rfl) ?_|refine Ziz rfl (Zl3 (n := 0) rfl rfl) ?_
  refine Ziv rfl rfl (by repeat constructor) rfl ?_
  first|refine Ziz rfl (Zl5 (n := 0) rfl rfl) ?_|refine Ziz rfl (Zl3 (n := 0) rfl rfl) ?_
  refine Ziv rfl rfl (by repeat constructor) rfl ?_
  first|refine Ziz rfl (Zl5 (n := 1) rfl rfl) ?_|refine Ziz rfl (Zl3 (n := 1) rfl rfl) ?_
  refine Ziv rfl rfl (by repeat constructor) rfl ?_
  refine Ziq rfl ?_
  refine Zh8 rfl (by kernel_rfl) (mul_c _ _) rfl (by repeat (first|exact Take.nil|exact Take.all|(apply Take.cons; (next => (repeat constructor); done))|apply Take.skip)) ?_
  rintro _ _ ⟨rfl, rfl⟩
  refine Zg2 (by repeat (first|exact App.nil|apply App.cons|(apply App.flip; first|exact App.nil|apply App.cons)|exact App.any)) ?_
  refine Zg3 ⟨fun _ => Imp.arr (by repeat (first|exact Arr.nil|exact Arr.stop|refine Arr.cons (by repeat constructor) ?_|refine Arr.skip ?_)), ?_⟩
  refine Ziq rfl ?_
  refine Zh8 rfl (by kernel_rfl) (mul_c _ _) rfl (by repeat (first|exact Take.nil|exact Take.all|(apply Take.cons; (next => (repeat constructor); done))|apply Take.skip)) ?_
  rintro _ _ ⟨rfl, rfl⟩
  refine Zg2 (by repeat (first|exact App.nil|apply App.cons|(apply App.flip; first|exact App.nil|apply App.cons)|exact App.any)) ?_
  refine Zg3 ⟨fun _ => Imp.arr (by repeat (first|exact Arr.nil|exact Arr.stop|refine Arr.cons (by repeat constructor) ?_|refine Arr.skip ?_)), ?_⟩
  refine Ziq rfl ?_
  refine Zh8 rfl (by kernel_rfl) (add_c _ _) rfl (by repeat (first|exact Take.nil|exact Take.all|(apply Take.cons; (next => (repeat constructor); done))|apply Take.skip)) ?_
  rintro _ _ ⟨rfl, rfl⟩
  refine Zg2 (by repeat (first|exact App.nil|apply App.cons|(apply App.flip; first|exact App.nil|apply App.cons)|exact App.any)) ?_
  refine Zg3 ⟨fun _ => Imp.arr (by repeat (first|exact Arr.nil|exact Arr.stop|refine Arr.cons (by repeat constructor) ?_|refine Arr.skip ?_)), ?_⟩
  refine Zir rfl (cs := #[u64b 0#64, u64b 0#64]) rfl ?_; intro b6
  refine Ziq rfl ?_
  first|refine Zhy rfl rfl (by repeat constructor) (by first|rfl|omega|(rw [szL]; omega)|exact Nat.le_of_ble_eq_true rfl|(simp; done)|(simp; omega)) (by first|rfl|exact oneM_u8 _|exact oneL_u8 _|(simp [oneC]; done)) (by first|rfl|omega|(rw [szL]; omega)|exact Nat.le_of_ble_eq_true rfl|(simp; done)|(simp; omega)) ?_|refine Zhx rfl rfl (by repeat constructor) (by first|rfl|omega|(rw [szL]; omega)|exact Nat.le_of_ble_eq_true rfl|(simp; done)|(simp; omega)) (by first|rfl|exact oneM_u8 _|exact oneL_u8 _|(simp [oneC]; done)) (by first|rfl|omega|(rw [szL]; omega)|exact Nat.le_of_ble_eq_true rfl|(simp; done)|(simp; omega)) rfl ?_
  refine Zg3 ⟨(fun hh => Bool.noConfusion hh), ?_⟩
  refine Zik ?_
  repeat (first|refine zA ?_|refine zB ?_|refine zC ?_|refine zD ?_|refine zE ?_|refine zF ?_|refine zG ?_|refine zH ?_|refine zI ?_|refine zJ ?_|refine zK ?_|refine zL ?_|refine zM rfl ?_|refine zN ?_|refine zO ?_|refine zP ?_|refine zQ ?_)
  refine Zij (_) [0, 1, 2, 3, 4, 5, 6, 7, 8, 9, 10, 11] (.r 0 (.r 1 (.r 2 (.r 3 (.r 5 (.r 6 (.r 7 (.r 8 (.e 4 true (.e 9 true (.e 10 true (.a 11 (.e 12 false .nil))))))))))))) (by kernel_rfl) (by kernel_rfl) (Imp.refl _) ?_
  first|refine Ziz rfl (Zl5 (n := 2) rfl rfl) ?_|refine Ziz rfl (Zl3 (n := 2) rfl rfl) ?_
  refine Ziv rfl rfl (by repeat constructor) rfl ?_
  first|refine Ziz rfl (Zl5 (n := 0) rfl rfl) ?_|refine Ziz rfl (Zl3 (n := 0) rfl rfl) ?_
  refine Ziv rfl rfl (by repeat constructor) rfl ?_
  first|refine Ziz rfl (Zl5 (n := 1) rfl rfl) ?_|refine Ziz rfl (Zl3 (n := 1) rfl rfl) ?_
  refine Ziv rfl rfl (by repeat constructor) rfl ?_
  first|refine Ziz rfl (Zl5 (n := 1) rfl rfl) ?_|refine Ziz rfl (Zl3 (n := 1) rfl rfl) ?_
  refine Ziv rfl rfl (by repeat constructor) rfl ?_
  refine Ziq rfl ?_
  refine Zh8 rfl (by kernel_rfl) (mul_c _ _) rfl (by repeat (first|exact Take.nil|exact Take.all|(apply Take.cons; (next => (repeat constructor); done))|apply Take.skip)) ?_
  rintro _ _ ⟨rfl, rfl⟩
  refine Zg2 (by repeat (first|exact App.nil|apply App.cons|(apply App.flip; first|exact App.nil|apply App.cons)|exact App.any)) ?_
  refine Zg3 ⟨fun _ => Imp.arr (by repeat (first|exact Arr.nil|exact Arr.stop|refine Arr.cons (by repeat constructor) ?_|refine Arr.skip ?_)), ?_⟩
  refine Ziq rfl ?_
  refine Zh8 rfl (by kernel_rfl) (mul_c _ _) rfl (by repeat (first|exact Take.nil|exact Take.all|(apply Take.cons; (next => (repeat constructor); done))|apply Take.skip)) ?_
  rintro _ _ ⟨rfl, rfl⟩
  refine Zg2 (by repeat (first|exact App.nil|apply App.cons|(apply App.flip; first|exact App.nil|apply App.cons)|exact App.any)) ?_
  refine Zg3 ⟨fun _ => Imp.arr (by repeat (first|exact Arr.nil|exact Arr.stop|refine Arr.cons (by repeat constructor) ?_|refine Arr.skip ?_)), ?_⟩
  refine Ziq rfl ?_
  refine Zh8 rfl (by kernel_rfl) (add_c _ _) rfl (by repeat (first|exact Take.nil|exact Take.all|(apply Take.cons; (next => (repeat constructor); done))|apply Take.skip)) ?_
  rintro _ _ ⟨rfl, rfl⟩
  refine Zg2 (by repeat (first|exact App.nil|apply App.cons|(apply App.flip; first|exact App.nil|apply App.cons)|exact App.any)) ?_
  refine Zg3 ⟨fun _ => Imp.arr (by repeat (first|exact Arr.nil|exact Arr.stop|refine Arr.cons (by repeat constructor) ?_|refine Arr.skip ?_)), ?_⟩
  refine Zir rfl (cs := #[u64b 0#64, u64b 0#64]) rfl ?_; intro b7
  refine Ziq rfl ?_
  first|refine Zhy rfl rfl (by repeat constructor) (by first|rfl|omega|(rw [szL]; omega)|exact Nat.le_of_ble_eq_true rfl|(simp; done)|(simp; omega)) (by first|rfl|exact oneM_u8 _|exact oneL_u8 _|(simp [oneC]; done)) (by first|rfl|omega|(rw [szL]; omega)|exact Nat.le_of_ble_eq_true rfl|(simp; done)|(simp; omega)) ?_|refine Zhx rfl rfl (by repeat constructor) (by first|rfl|omega|(rw [szL]; omega)|exact Nat.le_of_ble_eq_true rfl|(simp; done)|(simp; omega)) (by first|rfl|exact oneM_u8 _|exact oneL_u8 _|(simp [oneC]; done)) (by first|rfl|omega|(rw [szL]; omega)|exact Nat.le_of_ble_eq_true rfl|(simp; done)|(simp; omega)) rfl ?_
  refine Zg3 ⟨(fun hh => Bool.noConfusion hh), ?_⟩
  refine Zik ?_
  repeat (first|refine zA ?_|refine zB ?_|refine zC ?_|refine zD ?_|refine zE ?_|refine zF ?_|refine zG ?_|refine zH ?_|refine zI ?_|refine zJ ?_|refine zK ?_|refine zL ?_|refine zM rfl ?_|refine zN ?_|refine zO ?_|refine zP ?_|refine zQ ?_)
  refine Zgb ?_
  first|refine Zhg (Zl5 (n := 2) rfl rfl) ?_|refine Zhg (Zl3 (n := 2) rfl rfl) ?_
  refine Zhp rfl (by repeat constructor) rfl ?_
  first|refine Zhg (Zl5 (n := 1) rfl rfl) ?_|refine Zhg (Zl3 (n := 1) rfl rfl) ?_
  refine Zhp rfl (by repeat constructor) rfl ?_
  refine Zh8 rfl (by kernel_rfl) (mul_c _ _) rfl (by repeat (first|exact Take.nil|exact Take.all|(apply Take.cons; (next => (repeat constructor); done))|apply Take.skip)) ?_
  rintro _ _ ⟨rfl, rfl⟩
  refine Zg2 (by repeat (first|exact App.nil|apply App.cons|(apply App.flip; first|exact App.nil|apply App.cons)|exact App.any)) ?_
  refine Zhz (cs := #[u64b 0#64, u64b 0#64]) rfl ?_; intro b8
  first|refine Zhy rfl rfl (by repeat constructor) (by first|rfl|omega|(rw [szL]; omega)|exact Nat.le_of_ble_eq_true rfl|(simp; done)|(simp; omega)) (by first|rfl|exact oneM_u8 _|exact oneL_u8 _|(simp [oneC]; done)) (by first|rfl|omega|(rw [szL]; omega)|exact Nat.le_of_ble_eq_true rfl|(simp; done)|(simp; omega)) ?_|refine Zhx rfl rfl (by repeat constructor) (by first|rfl|omega|(rw [szL]; omega)|exact Nat.le_of_ble_eq_true rfl|(simp; done)|(simp; omega)) (by first|rfl|exact oneM_u8 _|exact oneL_u8 _|(simp [oneC]; done)) (by first|rfl|omega|(rw [szL]; omega)|exact Nat.le_of_ble_eq_true rfl|(simp; done)|(simp; omega)) rfl ?_
  refine Zg3 ?_
  repeat (first|refine zA ?_|refine zB ?_|refine zC ?_|refine zD ?_|refine zE ?_|refine zF ?_|refine zG ?_|refine zH ?_|refine zI ?_|refine zJ ?_|refine zK ?_|refine zL ?_|refine zM rfl ?_|refine zN ?_|refine zO ?_|refine zP ?_|refine zQ ?_)
  refine Zgb ?_
  first|refine Zhg (Zl8 rfl) ?_|refine Zhg (Zce rfl) ?_
  refine Zhp rfl (by repeat constructor) rfl ?_
  first|refine Zhg (Zaz rfl) ?_|refine Zhg (Zas rfl) ?_
  refine Zg3 ?_
  repeat (first|refine zA ?_|refine zB ?_|refine zC ?_|refine zD ?_|refine zE ?_|refine zF ?_|refine zG ?_|refine zH ?_|refine zI ?_|refine zJ ?_|refine zK ?_|refine zL ?_|refine zM rfl ?_|refine zN ?_|refine zO ?_|refine zP ?_|refine zQ ?_)
  refine Zgb ?_
  first|refine Zhg (Zl8 rfl) ?_|refine Zhg (Zce rfl) ?_
  refine Zhp rfl (by repeat constructor) rfl ?_
  first|refine Zhg (Zl8 rfl) ?_|refine Zhg (Zce rfl) ?_
  refine Zhp rfl (by repeat constructor) rfl ?_
  refine Zhg (Zh9 rfl (ext_add64 _ _ 0#64 (by decide)) rfl) ?_
  first|refine Zhg (Zmm rfl) ?_|refine Zhg (Zar rfl) ?_
  refine Zhg (Zco rfl rfl) ?_
  refine Zhg (Zco rfl rfl) ?_
  first|refine Zhg (Zaz rfl) ?_|refine Zhg (Zas rfl) ?_
  first|refine Zhg (Zaz rfl) ?_|refine Zhg (Zas rfl) ?_
  refine Zg3 ?_
  repeat (first|refine zA ?_|refine zB ?_|refine zC ?_|refine zD ?_|refine zE ?_|refine zF ?_|refine zG ?_|refine zH ?_|refine zI ?_|refine zJ ?_|refine zK ?_|refine zL ?_|refine zM rfl ?_|refine zN ?_|refine zO ?_|refine zP ?_|refine zQ ?_)
  refine Zgb ?_
  first|refine Zhg (Zl8 rfl) ?_|refine Zhg (Zce rfl) ?_
  refine Zhp rfl (by repeat constructor) rfl ?_
  first|refine Zhg (Zl8 rfl) ?_|refine Zhg (Zce rfl) ?_
  refine Zhp rfl (by repeat constructor) rfl ?_
  first|refine Zhg (Zat rfl) ?_|refine Zhg (Zar rfl) ?_
  refine Zhg (Zh9 rfl (ext_add64 _ _ _ (carry_le _ _ _ (by decide))) rfl) ?_
  first|refine Zhg (Zmm rfl) ?_|refine Zhg (Zar rfl) ?_
  refine Zhg (Zco rfl rfl) ?_
  refine Zhg (Zco rfl rfl) ?_
  first|refine Zhg (Zaz rfl) ?_|refine Zhg (Zas rfl) ?_
  first|refine Zhg (Zaz rfl) ?_|refine Zhg (Zas rfl) ?_
  refine Zg3 ?_
  repeat (first|refine zA ?_|refine zB ?_|refine zC ?_|refine zD ?_|refine zE ?_|refine zF ?_|refine zG ?_|refine zH ?_|refine zI ?_|refine zJ ?_|refine zK ?_|refine zL ?_|refine zM rfl ?_|refine zN ?_|refine zO ?_|refine zP ?_|refine zQ ?_)
  refine Zgb ?_
  first|refine Zhg (Zl8 rfl) ?_|refine Zhg (Zce rfl) ?_
  refine Zhp rfl (by repeat constructor) rfl ?_
  first|refine Zhg (Zl8 rfl) ?_|refine Zhg (Zce rfl) ?_
  refine Zhp rfl (by repeat constructor) rfl ?_
  first|refine Zhg (Zat rfl) ?_|refine Zhg (Zar rfl) ?_
  refine Zhg (Zh9 rfl (ext_add64 _ _ _ (carry_le _ _ _ (carry_le _ _ _ (by decide)))) rfl) ?_
  first|refine Zhg (Zmm rfl) ?_|refine Zhg (Zar rfl) ?_
  refine Zhg (Zco rfl rfl) ?_
  refine Zhg (Zco rfl rfl) ?_
  first|refine Zhg (Zaz rfl) ?_|refine Zhg (Zas rfl) ?_
  first|refine Zhg (Zaz rfl) ?_|refine Zhg (Zas rfl) ?_
  refine Zg3 ?_
  repeat (first|refine zA ?_|refine zB ?_|refine zC ?_|refine zD ?_|refine zE ?_|refine zF ?_|refine zG ?_|refine zH ?_|refine zI ?_|refine zJ ?_|refine zK ?_|refine zL ?_|refine zM rfl ?_|refine zN ?_|refine zO ?_|refine zP ?_|refine zQ ?_)
  refine Zgb ?_
  first|refine Zhg (Zat rfl) ?_|refine Zhg (Zar rfl) ?_
  first|refine Zhg (Zat rfl) ?_|refine Zhg (Zar rfl) ?_
  first|refine Zhg (Zat rfl) ?_|refine Zhg (Zar rfl) ?_
  refine Zhg (Zlf (y := 3#64) rfl rfl) ?_
  refine Zhg (Zdn (cs := #[.int .u64 _, .int .u64 _, .int .u64 _]) rfl) ?_
  refine Zhz (cs := #[u64b 0#64, u64b 0#64, u64b 0#64]) rfl ?_; intro b15
  first|refine Zhy rfl rfl (by repeat constructor) (by first|rfl|omega|(rw [szL]; omega)|exact Nat.le_of_ble_eq_true rfl|(simp; done)|(simp; omega)) (by first|rfl|exact oneM_u8 _|exact oneL_u8 _|(simp [oneC]; done)) (by first|rfl|omega|(rw [szL]; omega)|exact Nat.le_of_ble_eq_true rfl|(simp; done)|(simp; omega)) ?_|refine Zhx rfl rfl (by repeat constructor) (by first|rfl|omega|(rw [szL]; omega)|exact Nat.le_of_ble_eq_true rfl|(simp; done)|(simp; omega)) (by first|rfl|exact oneM_u8 _|exact oneL_u8 _|(simp [oneC]; done)) (by first|rfl|omega|(rw [szL]; omega)|exact Nat.le_of_ble_eq_true rfl|(simp; done)|(simp; omega)) rfl ?_
  refine Zg3 ?_
  repeat (first|refine zA ?_|refine zB ?_|refine zC ?_|refine zD ?_|refine zE ?_|refine zF ?_|refine zG ?_|refine zH ?_|refine zI ?_|refine zJ ?_|refine zK ?_|refine zL ?_|refine zM rfl ?_|refine zN ?_|refine zO ?_|refine zP ?_|refine zQ ?_)
  refine Zgb ?_
  first|refine Zhg (Zat rfl) ?_|refine Zhg (Zar rfl) ?_
  refine Zhg (Zli (y := 3#64) rfl rfl) ?_
  first|refine Zhg (Zat rfl) ?_|refine Zhg (Zar rfl) ?_
  refine Zhg (Zdm (cs := #[.int .u64 _, .int .u64 _]) rfl) ?_
  refine Zhz (cs := #[u64b 0#64, u64b 0#64]) rfl ?_; intro b16
  first|refine Zhy rfl rfl (by repeat constructor) (by first|rfl|omega|(rw [szL]; omega)|exact Nat.le_of_ble_eq_true rfl|(simp; done)|(simp; omega)) (by first|rfl|exact oneM_u8 _|exact oneL_u8 _|(simp [oneC]; done)) (by first|rfl|omega|(rw [szL]; omega)|exact Nat.le_of_ble_eq_true rfl|(simp; done)|(simp; omega)) ?_|refine Zhx rfl rfl (by repeat constructor) (by first|rfl|omega|(rw [szL]; omega)|exact Nat.le_of_ble_eq_true rfl|(simp; done)|(simp; omega)) (by first|rfl|exact oneM_u8 _|exact oneL_u8 _|(simp [oneC]; done)) (by first|rfl|omega|(rw [szL]; omega)|exact Nat.le_of_ble_eq_true rfl|(simp; done)|(simp; omega)) rfl ?_
  refine Zg3 ?_
  repeat (first|refine zA ?_|refine zB ?_|refine zC ?_|refine zD ?_|refine zE ?_|refine zF ?_|refine zG ?_|refine zH ?_|refine zI ?_|refine zJ ?_|refine zK ?_|refine zL ?_|refine zM rfl ?_|refine zN ?_|refine zO ?_|refine zP ?_|refine zQ ?_)
  refine Zgb ?_
  first|refine Zhr rfl (by repeat constructor) (by first|rfl|omega|(rw [szL]; omega)|exact Nat.le_of_ble_eq_true rfl|(simp; done)|(simp; omega)) ?_|refine Zhq rfl (by repeat constructor) (by first|rfl|omega|(rw [szL]; omega)|exact Nat.le_of_ble_eq_true rfl|(simp; done)|(simp; omega)) rfl ?_
  first|refine Zhr rfl (by repeat constructor) (by first|rfl|omega|(rw [szL]; omega)|exact Nat.le_of_ble_eq_true rfl|(simp; done)|(simp; omega)) ?_|refine Zhq rfl (by repeat constructor) (by first|rfl|omega|(rw [szL]; omega)|exact Nat.le_of_ble_eq_true rfl|(simp; done)|(simp; omega)) rfl ?_
  refine Zh8 rfl (by kernel_rfl) (plus_c (_, _, _) (_, _)) rfl (by repeat (first|exact Take.nil|exact Take.all|(apply Take.cons; (next => (repeat constructor); done))|apply Take.skip)) ?_
  rintro _ _ ⟨rfl, rfl⟩
  refine Zg2 (by repeat (first|exact App.nil|apply App.cons|(apply App.flip; first|exact App.nil|apply App.cons)|exact App.any)) ?_
  first|refine Zhy rfl rfl (by repeat constructor) (by first|rfl|omega|(rw [szL]; omega)|exact Nat.le_of_ble_eq_true rfl|(simp; done)|(simp; omega)) (by first|rfl|exact oneM_u8 _|exact oneL_u8 _|(simp [oneC]; done)) (by first|rfl|omega|(rw [szL]; omega)|exact Nat.le_of_ble_eq_true rfl|(simp; done)|(simp; omega)) ?_|refine Zhx rfl rfl (by repeat constructor) (by first|rfl|omega|(rw [szL]; omega)|exact Nat.le_of_ble_eq_true rfl|(simp; done)|(simp; omega)) (by first|rfl|exact oneM_u8 _|exact oneL_u8 _|(simp [oneC]; done)) (by first|rfl|omega|(rw [szL]; omega)|exact Nat.le_of_ble_eq_true rfl|(simp; done)|(simp; omega)) rfl ?_
  refine Zg3 ?_
  repeat (first|refine zA ?_|refine zB ?_|refine zC ?_|refine zD ?_|refine zE ?_|refine zF ?_|refine zG ?_|refine zH ?_|refine zI ?_|refine zJ ?_|refine zK ?_|refine zL ?_|refine zM rfl ?_|refine zN ?_|refine zO ?_|refine zP ?_|refine zQ ?_)
  refine Zgb ?_
  first|refine Zhr rfl (by repeat constructor) (by first|rfl|omega|(rw [szL]; omega)|exact Nat.le_of_ble_eq_true rfl|(simp; done)|(simp; omega)) ?_|refine Zhq rfl (by repeat constructor) (by first|rfl|omega|(rw [szL]; omega)|exact Nat.le_of_ble_eq_true rfl|(simp; done)|(simp; omega)) rfl ?_
  first|refine Zhg (Zl8 rfl) ?_|refine Zhg (Zce rfl) ?_
  refine Zhp rfl (by repeat constructor) rfl ?_
  refine Zhg (Zlk (m := 2) rfl rfl) ?_
  first|refine Zhg (Zl8 rfl) ?_|refine Zhg (Zce rfl) ?_
  refine Zhp rfl (by repeat constructor) rfl ?_
  refine Zhg (Zlj (m := 62) rfl rfl) ?_
  refine Zhg (Zlg rfl rfl) ?_
  first|refine Zhg (Zl8 rfl) ?_|refine Zhg (Zce rfl) ?_
  refine Zhp rfl (by repeat constructor) rfl ?_
  refine Zhg (Zlk (m := 2) rfl rfl) ?_
  refine Zhg (Zdm (cs := #[.int .u64 _, .int .u64 _]) rfl) ?_
  refine Zh8 rfl (by kernel_rfl) (plus_c _ (_, _)) rfl (by repeat (first|exact Take.nil|exact Take.all|(apply Take.cons; (next => (repeat constructor); done))|apply Take.skip)) ?_
  rintro _ _ ⟨rfl, rfl⟩
  refine Zg2 (by repeat (first|exact App.nil|apply App.cons|(apply App.flip; first|exact App.nil|apply App.cons)|exact App.any)) ?_
  first|refine Zhy rfl rfl (by repeat constructor) (by first|rfl|omega|(rw [szL]; omega)|exact Nat.le_of_ble_eq_true rfl|(simp; done)|(simp; omega)) (by first|rfl|exact oneM_u8 _|exact oneL_u8 _|(simp [oneC]; done)) (by first|rfl|omega|(rw [szL]; omega)|exact Nat.le_of_ble_eq_true rfl|(simp; done)|(simp; omega)) ?_|refine Zhx rfl rfl (by repeat constructor) (by first|rfl|omega|(rw [szL]; omega)|exact Nat.le_of_ble_eq_true rfl|(simp; done)|(simp; omega)) (by first|rfl|exact oneM_u8 _|exact oneL_u8 _|(simp [oneC]; done)) (by first|rfl|omega|(rw [szL]; omega)|exact Nat.le_of_ble_eq_true rfl|(simp; done)|(simp; omega)) rfl ?_
  refine Zg3 ?_
  repeat (first|refine zA ?_|refine zB ?_|refine zC ?_|refine zD ?_|refine zE ?_|refine zF ?_|refine zG ?_|refine zH ?_|refine zI ?_|refine zJ ?_|refine zK ?_|refine zL ?_|refine zM rfl ?_|refine zN ?_|refine zO ?_|refine zP ?_|refine zQ ?_)
  refine rx1 (Zhe rfl (by repeat constructor) (by first|rfl|omega|(rw [szL]; omega)|exact Nat.le_of_ble_eq_true rfl|(simp; done)|(simp; omega)) (Zg7)) ?_
  exact ⟨_, ⟨rfl, rfl⟩, by exact Imp.arr (by repeat (first|exact Arr.nil|exact Arr.stop|refine Arr.cons (by repeat constructor) ?_|refine Arr.skip ?_))⟩
end Go.Sl

/- tag: a poly's state, in plain Lean. -/
set_option linter.unusedVariables false
set_option linter.unusedSimpArgs false
namespace Go.Sl
open Go
structure PolyS where
  r : W128
  s : W128
  h : W192
  rest : List Byte
  used : Nat
def setU (t : PolyS) (n : Nat) : PolyS := ⟨t.r, t.s, t.h, t.rest, n⟩
def setH (t : PolyS) (h : W192) : PolyS := ⟨t.r, t.s, h, t.rest, t.used⟩
/-- The cells of a Poly. -/
def pc (t : PolyS) : Array Value :=
  (u64b t.r.1 :: u64b t.r.2 :: u64b t.s.1 :: u64b t.s.2 :: u64b t.h.1 :: u64b t.h.2.1 :: u64b t.h.2.2 :: (t.rest.map u8b ++ [.int .i64 t.used])).toArray
def takeW (h : W192) (r : W128) (b : List Byte) (top : BitVec 64) : W192 :=
  let c0 := carry h.1 (wordB (b.take 8)) 0#64
  timesW (h.1 + wordB (b.take 8) + 0#64, h.2.1 + wordB (b.drop 8) + c0, h.2.2 + (carry h.2.1 (wordB (b.drop 8)) c0 + top)) r
def newS (key : List Byte) : PolyS :=
  ⟨(wordB (key.take 8) &&& 1152921487695413247#64, wordB ((key.drop 8).take 8) &&& 1152921487695413244#64), (wordB ((key.drop 16).take 8), wordB (key.drop 24)), (0#64, 0#64, 0#64), List.replicate 16 0#8, 0⟩
/-- One byte more. -/
def push (t : PolyS) (x : Byte) : PolyS :=
  if t.used + 1 = 16 then { t with h := takeW t.h t.r (t.rest.set t.used x) 1#64, rest := t.rest.set t.used x, used := 0 }
  else { t with rest := t.rest.set t.used x, used := t.used + 1 }
def writeS (t : PolyS) (b : List Byte) : PolyS := b.foldl push t
structure PolyOk (t : PolyS) : Prop where
  rest : t.rest.length = 16
  used : t.used < 16
theorem newS_ok (key : List Byte) : PolyOk (newS key) := ⟨by simp [newS], by simp [newS]⟩
theorem push_ok {t : PolyS} (h : PolyOk t) (x : Byte) : PolyOk (push t x) := by
  have hu := h.used
  unfold push
  split
  · exact ⟨by simp [h.rest], by simp⟩
  · exact ⟨by simp [h.rest], by show t.used + 1 < 16; omega⟩
theorem writeS_ok {b : List Byte} : ∀ {t : PolyS}, PolyOk t → PolyOk (writeS t b) := by
  induction b with
  | nil => exact fun h => h
  | cons x b ih => exact fun h => ih (push_ok h x)
theorem writeS_nil (t : PolyS) : writeS t [] = t := rfl
theorem writeS_zero (t : PolyS) (b : List Byte) : writeS t (b.take 0) = t := rfl
theorem writeS_append (t : PolyS) (a b : List Byte) : writeS t (a ++ b) = writeS (writeS t a) b := by simp [writeS, List.foldl_append]
/-- What a copy into the rest leaves. -/
def put1 (t : PolyS) (x : List Byte) : PolyS := { t with rest := t.rest.take t.used ++ x ++ t.rest.drop (t.used + x.length), used := t.used + x.length }
def full (t : PolyS) : PolyS := if t.used = 16 then setU (setH t (takeW t.h t.r t.rest 1#64)) 0 else t
theorem set_split {l : List Byte} {i : Nat} {x : Byte} (h : i < l.length) : l.set i x = l.take i ++ x :: l.drop (i + 1) := by
  rw [List.set_eq_take_append_cons_drop, if_pos h]
theorem write_put {x : List Byte} : ∀ {t : PolyS}, PolyOk t → t.used + x.length ≤ 16 → writeS t x = full (put1 t x) := by
  induction x with
  | nil =>
    intro t ht _
    have := ht.used
    show t = full (put1 t [])
    have e : put1 t [] = t := by simp [put1]
    rw [e, full, if_neg (by omega)]
  | cons a x ih =>
    intro t ht hl
    simp only [List.length_cons] at hl
    have hr := ht.rest
    have hu := ht.used
    show writeS (push t a) x = _
    by_cases h16 : t.used + 1 = 16
    · have hx : x = [] := List.eq_nil_of_length_eq_zero (by omega)
      subst hx
      show push t a = _
      have e : put1 t [a] = { t with rest := t.rest.set t.used a, used := t.used + 1 } := by
        simp only [put1, List.length_cons, List.length_nil, set_split (show t.used < t.rest.length by omega)]
        simp
      rw [e, full, if_pos h16, push, if_pos h16]; rfl
    · have hp : push t a = { t with rest := t.rest.set t.used a, used := t.used + 1 } := by rw [push, if_neg h16]
      rw [ih (push_ok ht a) (by rw [hp]; show t.used + 1 + x.length ≤ 16; omega)]
      congr 1
      rw [hp]
      simp only [put1, List.length_cons]
      have e : List.take (t.used + 1) (t.rest.set t.used a) = t.rest.take t.used ++ [a] := by
        rw [set_split (by omega), List.take_append, List.take_take]
        have e2 : (t.rest.take t.used).length = t.used := by simp; omega
        rw [e2]
        simp
      have e3 : List.drop (t.used + 1 + x.length) (t.rest.set t.used a) = t.rest.drop (t.used + (x.length + 1)) := by
        rw [List.drop_set_of_lt (by omega)]; congr 1; omega
      rw [e, e3]
      simp; omega
theorem put1_rest {t : PolyS} {x : List Byte} (ht : PolyOk t) (h : t.used + x.length ≤ 16) : (put1 t x).rest.length = 16 := by
  have := ht.rest
  simp [put1]; omega
theorem full_ok {t : PolyS} (h : t.rest.length = 16) (hu : t.used ≤ 16) : PolyOk (full t) := by
  unfold full
  split
  · exact ⟨h, by show 0 < 16; omega⟩
  · exact ⟨h, by omega⟩

theorem pc_size {t : PolyS} (h : t.rest.length = 16) : (pc t).size = 24 := by simp [pc, h]
theorem pc_used {t : PolyS} (h : t.rest.length = 16) : (pc t)[23]? = some (.int .i64 t.used) := by
  simp [pc, List.getElem?_append, h]
theorem pc_rest {t : PolyS} (h : t.rest.length = 16) : (pc t).extract 7 23 = (t.rest.map u8b).toArray := by
  apply Array.ext'
  simp only [pc, Array.toList_extract, List.extract_eq_take_drop]
  simp [h]
theorem pc_setUsed {t : PolyS} (h : t.rest.length = 16) (n : Nat) : (pc t).setIfInBounds 23 (.int .i64 n) = pc (setU t n) := by
  apply Array.ext'
  simp [pc, setU, List.set_append, h]
theorem pc_copy {t : PolyS} {x : List Byte} (h : t.rest.length = 16) (hx : t.used + x.length ≤ 16) : wr (pc t) (7 + t.used) (x.map u8b) = pc (setU (put1 t x) t.used) := by
  apply Array.ext'
  rw [wr_toList _ _ _ (by rw [pc_size h, List.length_map]; omega)]
  have e : (pc t).toList = [u64b t.r.1, u64b t.r.2, u64b t.s.1, u64b t.s.2, u64b t.h.1, u64b t.h.2.1, u64b t.h.2.2] ++ (t.rest.map u8b ++ [.int .i64 t.used]) := rfl
  rw [e, List.take_append, List.drop_append]
  have l7 : [u64b t.r.1, u64b t.r.2, u64b t.s.1, u64b t.s.2, u64b t.h.1, u64b t.h.2.1, u64b t.h.2.2].length = 7 := rfl
  rw [l7, List.take_of_length_le (by rw [l7]; omega), List.drop_of_length_le (by rw [l7, List.length_map]; omega)]
  have e1 : 7 + t.used - 7 = t.used := by omega
  have e2 : 7 + t.used + (x.map u8b).length - 7 = t.used + x.length := by rw [List.length_map]; omega
  rw [e1, e2, List.take_append_of_le_length (by simp; omega), List.drop_append_of_le_length (by simp; omega)]
  simp [pc, setU, put1, ← List.map_take, ← List.map_drop]
theorem pc_h (t : PolyS) : (pc t).extract 4 7 = hA t.h := by
  apply Array.ext'
  simp [pc, hA, List.extract_eq_take_drop]
theorem pc_r (t : PolyS) : (pc t).extract 0 2 = wA t.r := by
  apply Array.ext'
  simp [pc, wA, List.extract_eq_take_drop]
theorem pc_setH (t : PolyS) (h : W192) : wr (pc t) 4 (hA h).toList = pc (setH t h) := rfl
theorem ext_map (b : List Byte) (i j : Nat) : ((b.map u8b).toArray).extract i j = (((b.drop i).take (j - i)).map u8b).toArray := by
  apply Array.ext'
  simp [List.extract_eq_take_drop]
/-- The end of it. -/
def lastB (t : PolyS) : List Byte := (t.rest.take t.used ++ List.replicate (16 - t.used) 0#8).set t.used 1#8
def finS (t : PolyS) : PolyS := if 0 < t.used then setH t (takeW t.h t.r (lastB t) 0#64) else t
def outW (h : W192) (s : W128) : W128 :=
  let b0 := borrow h.1 18446744073709551611#64 0#64
  let l0 := h.1 - 18446744073709551611#64 - 0#64
  let l1 := h.2.1 - 18446744073709551615#64 - b0
  let b1 := borrow h.2.1 18446744073709551615#64 b0
  let keep := - borrow h.2.2 3#64 b1
  let k0 := h.1 &&& keep ||| l0 &&& ~~~ keep
  let k1 := h.2.1 &&& keep ||| l1 &&& ~~~ keep
  (k0 + s.1 + 0#64, k1 + s.2 + carry k0 s.1 0#64)
def outB (o : W128) (i : Nat) : Byte := ((if i / 8 = 0 then o.1 else o.2) >>> (8 * (i % 8))).setWidth 8
def bytesOf (o : W128) : List Byte := (List.range 16).map (outB o)
def sumS (t : PolyS) : List Byte := bytesOf (outW (finS t).h (finS t).s)
def code (key all : List Byte) : List Byte := sumS (writeS (newS key) all)
def upto (f : Nat → Byte) (i : Nat) : List Byte := (List.range 16).map fun j => if j < i then f j else 0#8
theorem upto_set (f : Nat → Byte) (i : Nat) : (upto f i).set i (f i) = upto f (i + 1) := by
  apply List.ext_getElem (by simp [upto])
  intro j h1 h2
  simp only [upto, List.getElem_set, List.getElem_map, List.getElem_range]
  by_cases e : i = j
  · subst e; simp
  · rw [if_neg e]
    by_cases h : j < i
    · rw [if_pos h, if_pos (by omega)]
    · rw [if_neg h, if_neg (by omega)]
theorem upto_zero (f : Nat → Byte) : upto f 0 = List.replicate 16 0#8 := by simp [upto, List.range_succ]
theorem upto_end (f : Nat → Byte) : upto f 16 = (List.range 16).map f := by
  apply List.map_congr_left
  intro j hj
  rw [if_pos (by simpa using hj)]
theorem pc_restTake {t : PolyS} (h : t.rest.length = 16) (hu : t.used ≤ 16) : ((pc t).extract 7 (7 + t.used * 1)).toList = (t.rest.take t.used).map u8b := by
  simp only [pc, Array.toList_extract, List.extract_eq_take_drop, Nat.mul_one]
  have e : 7 + t.used - 7 = t.used := by omega
  rw [e]
  show List.take t.used (t.rest.map u8b ++ [.int .i64 t.used]) = _
  rw [List.take_append_of_le_length (by simp; omega), List.map_take]
theorem copy_last {t : PolyS} (h : t.rest.length = 16) (hu : t.used < 16) : wr ((List.replicate 16 0#8).map u8b).toArray 0 ((t.rest.take t.used).map u8b) = ((t.rest.take t.used ++ List.replicate (16 - t.used) 0#8).map u8b).toArray := by
  apply Array.ext'
  rw [wr_toList _ _ _ (by simp; omega)]
  have e : (0 + ((t.rest.take t.used).map u8b).length) = t.used := by simp; omega
  rw [e, List.map_replicate, List.map_append, List.map_replicate]
  show List.take 0 (List.replicate 16 (u8b 0#8)) ++ _ ++ List.drop t.used (List.replicate 16 (u8b 0#8)) = _
  rw [List.drop_replicate]; rfl
theorem pc_one (t : PolyS) : (pc t).toList.all oneC = true := by simp [pc, oneC]
theorem pc_s0 (t : PolyS) : (pc t)[2]? = some (u64b t.s.1) := rfl
theorem pc_s1 (t : PolyS) : (pc t)[3]? = some (u64b t.s.2) := rfl
theorem setH_eqs (t : PolyS) (h : W192) : (setH t h).s = t.s ∧ (setH t h).h = h ∧ (setH t h).rest = t.rest ∧ (setH t h).used = t.used := ⟨rfl, rfl, rfl, rfl⟩
theorem finS_rest (t : PolyS) : (finS t).rest = t.rest := by unfold finS; split <;> rfl
theorem finS_s (t : PolyS) : (finS t).s = t.s := by unfold finS; split <;> rfl
theorem lastB_len {t : PolyS} (h : t.rest.length = 16) (hu : t.used ≤ 16) : (lastB t).length = 16 := by simp [lastB, h]; omega
theorem bytesOf_len (o : W128) : (bytesOf o).length = 16 := by simp [bytesOf]
theorem code_len (key all : List Byte) : (code key all).length = 16 := bytesOf_len _
end Go.Sl
