/- The engine over pieces alone: one operation behind the other. -/
import Derived.Test.YtiebmodokjaokabEngS
import Derived.Test.YtiebmodokjaokabEngM
set_option linter.unusedVariables false
set_option linter.unusedSimpArgs false
namespace Go.Sl
open Go
attribute [local irreducible] cl pt own old

section
variable {P : Program} {w0 : World} {ops : Array Oper} {dst : Option Nat} {ty T E : TypeId} {pos : String} {after : Array Edge} {rest l : List Oper} {ρ : Env} {K : XK} {M M' M2 : List Asrt} {x y : Operand} {b o : Nat} {c c' : Array Value}
theorem x_pv {op : Op} {v : Value} (h : PV P op ρ v) (k : xOps P w0 ops rest (put ρ dst v) M K) : xOps P w0 ops (⟨dst, op, ty, pos, after, none⟩ :: rest) ρ M K :=
  fun F w H => d_pv h (k F w H)
theorem x_gy {op : Op} {j : Nat} {b : Bool} (hg : yl ops ρ j = some b) (h : xOps P w0 ops (⟨dst, op, ty, pos, after, none⟩ :: rest) ρ M K) : xOps P w0 ops (⟨dst, op, ty, pos, after, some (j, b)⟩ :: rest) ρ M K :=
  fun F w H => d_gy hg (h F w H)
theorem x_gn {op : Op} {j : Nat} {b : Bool} (hg : yl ops ρ j = some (!b)) (h : xOps P w0 ops rest (put ρ dst undef) M K) : xOps P w0 ops (⟨dst, op, ty, pos, after, some (j, b)⟩ :: rest) ρ M K :=
  fun F w H => d_gn hg (h F w H)
theorem x_gu {op : Op} {j : Nat} {b : Bool} (hg : yl ops ρ j = none) (h : xOps P w0 ops rest (put ρ dst undef) M K) : xOps P w0 ops (⟨dst, op, ty, pos, after, some (j, b)⟩ :: rest) ρ M K :=
  fun F w H => d_gu hg (h F w H)
/-- A test split, or known. -/
theorem x_case (d : Nat) {p : Prop} [Decidable p] (hd : ρ d = .bool (decide p)) (h1 : p → xOps P w0 ops l (put ρ (some d) (.bool true)) M K) (h2 : ¬ p → xOps P w0 ops l (put ρ (some d) (.bool false)) M K) : xOps P w0 ops l ρ M K :=
  fun F w H => d_case d hd (fun hp => h1 hp F w H) (fun hp => h2 hp F w H)
theorem x_caseb (d : Nat) {t : Bool} (hd : ρ d = .bool t) (h1 : t = true → xOps P w0 ops l (put ρ (some d) (.bool true)) M K) (h2 : t = false → xOps P w0 ops l (put ρ (some d) (.bool false)) M K) : xOps P w0 ops l ρ M K :=
  fun F w H => d_caseb d hd (fun hp => h1 hp F w H) (fun hp => h2 hp F w H)
theorem x_isT (d : Nat) {t : Bool} (hd : ρ d = .bool t) (e : t = true) (h : xOps P w0 ops l (put ρ (some d) (.bool true)) M K) : xOps P w0 ops l ρ M K := by
  subst e; rwa [put_self hd] at h
theorem x_isF (d : Nat) {t : Bool} (hd : ρ d = .bool t) (e : t = false) (h : xOps P w0 ops l (put ρ (some d) (.bool false)) M K) : xOps P w0 ops l ρ M K := by
  subst e; rwa [put_self hd] at h
/-- What a slot holds, said otherwise. -/
theorem x_slot (d : Nat) {v u : Value} (hd : ρ d = v) (e : v = u) (h : xOps P w0 ops l (put ρ (some d) u) M K) : xOps P w0 ops l ρ M K := by
  subst e; rwa [put_self hd] at h

-- loads
theorem x_load [hs : TyScal P T] {v : Value} (hx : ev ρ x = .pointer (some ⟨b, o, none⟩)) (hm : Has M (cl b c E) M') (hv : c[o]? = some v) (k : xOps P w0 ops rest (put ρ dst v) M K) :
    xOps P w0 ops (⟨dst, .load T x, ty, pos, after, none⟩ :: rest) ρ M K := fun F w H => d_load H hx (.there hm) hv (k F w H)
theorem x_load_agg [hs : TyAggr P T] {n by' : Nat} {z : Value} {cs : Array Value} [hi : TyI P T n by' z] (hx : ev ρ x = .pointer (some ⟨b, o, none⟩)) (hm : Has M (cl b c E) M') (hv : o + n ≤ c.size) (hc : c.extract o (o + n) = cs) (k : xOps P w0 ops rest (put ρ dst (.agg cs)) M K) :
    xOps P w0 ops (⟨dst, .load T x, ty, pos, after, none⟩ :: rest) ρ M K := fun F w H => d_load_agg H hx (.there hm) hv (by rw [hc]; exact k F w H)
theorem x_load_all [hs : TyAggr P T] {n by' : Nat} {z : Value} [hi : TyI P T n by' z] (hx : ev ρ x = .pointer (some ⟨b, 0, none⟩)) (hm : Has M (cl b c E) M') (hv : c.size = n) (k : xOps P w0 ops rest (put ρ dst (.agg c)) M K) :
    xOps P w0 ops (⟨dst, .load T x, ty, pos, after, none⟩ :: rest) ρ M K := fun F w H => d_load_all H hx (.there hm) hv (k F w H)
-- stores
theorem x_store {by' : Nat} {z v : Value} [hi : TyI P T 1 by' z] (hx : ev ρ x = .pointer (some ⟨b, o, none⟩)) (hy : ev ρ y = v) (h1 : oneC v = true) (hm : Repl M (cl b c E) (cl b c' E) M2) (hv : o < c.size) (hc : c.setIfInBounds o v = c')
    (k : xOps P w0 ops rest (put ρ dst undef) M2 K) : xOps P w0 ops (⟨dst, .store T x y, ty, pos, after, none⟩ :: rest) ρ M K := by
  subst hc; exact fun F w H => d_store H hx hy h1 (.there hm) hv (fun w' H' => k F w' H')
theorem x_store_i {by' : Nat} {z : Value} {kk : IntKind} {v : Int} [hi : TyI P T 1 by' z] (hx : ev ρ x = .pointer (some ⟨b, o, none⟩)) (hy : ev ρ y = .int kk v) (hm : Repl M (cl b c E) (cl b c' E) M2) (hv : o < c.size) (hc : c.setIfInBounds o (.int kk v) = c')
    (k : xOps P w0 ops rest (put ρ dst undef) M2 K) : xOps P w0 ops (⟨dst, .store T x y, ty, pos, after, none⟩ :: rest) ρ M K := x_store hx hy rfl hm hv hc k
theorem x_store_b {by' : Nat} {z : Value} {v : Bool} [hi : TyI P T 1 by' z] (hx : ev ρ x = .pointer (some ⟨b, o, none⟩)) (hy : ev ρ y = .bool v) (hm : Repl M (cl b c E) (cl b c' E) M2) (hv : o < c.size) (hc : c.setIfInBounds o (.bool v) = c')
    (k : xOps P w0 ops rest (put ρ dst undef) M2 K) : xOps P w0 ops (⟨dst, .store T x y, ty, pos, after, none⟩ :: rest) ρ M K := x_store hx hy rfl hm hv hc k
theorem x_store_p {by' : Nat} {z : Value} {v : Option Addr} [hi : TyI P T 1 by' z] (hx : ev ρ x = .pointer (some ⟨b, o, none⟩)) (hy : ev ρ y = .pointer v) (hm : Repl M (cl b c E) (cl b c' E) M2) (hv : o < c.size) (hc : c.setIfInBounds o (.pointer v) = c')
    (k : xOps P w0 ops rest (put ρ dst undef) M2 K) : xOps P w0 ops (⟨dst, .store T x y, ty, pos, after, none⟩ :: rest) ρ M K := x_store hx hy rfl hm hv hc k
theorem x_store_s {by' : Nat} {z : Value} {v : Option Addr} {l cc : Nat} [hi : TyI P T 1 by' z] (hx : ev ρ x = .pointer (some ⟨b, o, none⟩)) (hy : ev ρ y = .slice v l cc) (hm : Repl M (cl b c E) (cl b c' E) M2) (hv : o < c.size) (hc : c.setIfInBounds o (.slice v l cc) = c')
    (k : xOps P w0 ops rest (put ρ dst undef) M2 K) : xOps P w0 ops (⟨dst, .store T x y, ty, pos, after, none⟩ :: rest) ρ M K := x_store hx hy rfl hm hv hc k
theorem x_store_agg {n by' : Nat} {z : Value} {vs : Array Value} [hi : TyI P T n by' z] (hx : ev ρ x = .pointer (some ⟨b, o, none⟩)) (hy : ev ρ y = .agg vs) (hm : Repl M (cl b c E) (cl b c' E) M2) (hn : vs.size = n) (h1 : vs.toList.all oneC = true) (hv : o + n ≤ c.size) (hc : wr c o vs.toList = c')
    (k : xOps P w0 ops rest (put ρ dst undef) M2 K) : xOps P w0 ops (⟨dst, .store T x y, ty, pos, after, none⟩ :: rest) ρ M K := by
  subst hc; exact fun F w H => d_store_agg H hx hy hn h1 (.there hm) hv (fun w' H' => k F w' H')
theorem x_store_all {n by' : Nat} {z : Value} {vs : Array Value} [hi : TyI P T n by' z] (hx : ev ρ x = .pointer (some ⟨b, 0, none⟩)) (hy : ev ρ y = .agg vs) (hm : Repl M (cl b c E) (cl b vs E) M2) (hn : vs.size = n) (h1 : vs.toList.all oneC = true) (hv : c.size = n)
    (k : xOps P w0 ops rest (put ρ dst undef) M2 K) : xOps P w0 ops (⟨dst, .store T x y, ty, pos, after, none⟩ :: rest) ρ M K :=
  fun F w H => d_store_all H hx hy hn h1 (.there hm) hv (fun w' H' => k F w' H')
-- new blocks
theorem x_alloc {n by' : Nat} {z : Value} {cs : Array Value} [hi : TyI P T n by' z] (hz : z.cells = cs) (k : ∀ b, xOps P w0 ops rest (put ρ dst (.pointer (some ⟨b, 0, none⟩))) (cl b cs T :: M) K) :
    xOps P w0 ops (⟨dst, .alloc T, ty, pos, after, none⟩ :: rest) ρ M K := by
  subst hz; exact fun F w H => d_alloc H (fun w' b H' => k b F w' H'.swap)
theorem x_box {v : Value} {cs : Array Value} (hx : ev ρ x = v) (hz : v.cells = cs) (k : ∀ b, xOps P w0 ops rest (put ρ dst (.pointer (some ⟨b, 0, none⟩))) (cl b cs T :: M) K) :
    xOps P w0 ops (⟨dst, .box T x, ty, pos, after, none⟩ :: rest) ρ M K := by
  subst hz; exact fun F w H => d_box H hx (fun w' b H' => k b F w' H'.swap)
theorem x_box_i {kk : IntKind} {n : Int} (hx : ev ρ x = .int kk n) (k : ∀ b, xOps P w0 ops rest (put ρ dst (.pointer (some ⟨b, 0, none⟩))) (cl b #[.int kk n] T :: M) K) :
    xOps P w0 ops (⟨dst, .box T x, ty, pos, after, none⟩ :: rest) ρ M K := x_box hx rfl k
theorem x_box_b {n : Bool} (hx : ev ρ x = .bool n) (k : ∀ b, xOps P w0 ops rest (put ρ dst (.pointer (some ⟨b, 0, none⟩))) (cl b #[.bool n] T :: M) K) :
    xOps P w0 ops (⟨dst, .box T x, ty, pos, after, none⟩ :: rest) ρ M K := x_box hx rfl k
theorem x_box_p {n : Option Addr} (hx : ev ρ x = .pointer n) (k : ∀ b, xOps P w0 ops rest (put ρ dst (.pointer (some ⟨b, 0, none⟩))) (cl b #[.pointer n] T :: M) K) :
    xOps P w0 ops (⟨dst, .box T x, ty, pos, after, none⟩ :: rest) ρ M K := x_box hx rfl k
theorem x_box_s {n : Option Addr} {l cc : Nat} (hx : ev ρ x = .slice n l cc) (k : ∀ b, xOps P w0 ops rest (put ρ dst (.pointer (some ⟨b, 0, none⟩))) (cl b #[.slice n l cc] T :: M) K) :
    xOps P w0 ops (⟨dst, .box T x, ty, pos, after, none⟩ :: rest) ρ M K := x_box hx rfl k
theorem x_box_a {cs : Array Value} (hx : ev ρ x = .agg cs) (k : ∀ b, xOps P w0 ops rest (put ρ dst (.pointer (some ⟨b, 0, none⟩))) (cl b cs T :: M) K) :
    xOps P w0 ops (⟨dst, .box T x, ty, pos, after, none⟩ :: rest) ρ M K := x_box hx rfl k
theorem x_makeSlice {n by' : Nat} {z : Value} {len cap : Nat} [hs : TySlice P T E] [hi : TyI P E n by' z] (hl : ev ρ x = .int .i64 len) (hc : ev ρ y = .int .i64 cap) (hle : len ≤ cap) (hcap : cap ≤ 9223372036854775807) (hb : cap * by' ≤ 281474976710656) (h0 : 0 < n)
    (k : ∀ b, xOps P w0 ops rest (put ρ dst (.slice (some ⟨b, 0, none⟩) len cap)) (cl b (List.replicate cap z.cells.toList).flatten.toArray E :: M) K) :
    xOps P w0 ops (⟨dst, .makeSlice T x y, ty, pos, after, none⟩ :: rest) ρ M K := fun F w H => d_makeSlice H hl hc hle hcap hb h0 (fun w' b H' => k b F w' H'.swap)
theorem x_buildSlice {n by' : Nat} {z : Value} {len : Nat} {ps : Array (Nat × Operand)} {cs : Array Value} [hs : TySlice P T E] [hi : TyI P E n by' z] (hlen : len * n ≤ 16777216) (h0 : 0 < n)
    (hf : Instr.fill (fun i => some (i * n, n)) (List.replicate len z.cells.toList).flatten.toArray (partsV ρ ps) = some cs)
    (k : ∀ b, xOps P w0 ops rest (put ρ dst (.slice (some ⟨b, 0, none⟩) len len)) (cl b cs E :: M) K) :
    xOps P w0 ops (⟨dst, .buildSlice T len ps, ty, pos, after, none⟩ :: rest) ρ M K := fun F w H => d_buildSlice H hlen h0 hf (fun w' b H' => k b F w' H'.swap)
-- calls
theorem x_call {F : FuncId} {f : Operand} {as : Array Operand} {ts : Array TypeId} {fi ca : Array Value} {vs : List Value} {M1 R : List Asrt} {Φ : Value → List Asrt → Prop} (hf : ev ρ f = .func (.func F) fi ca) (hb : callable P F = true)
    (hc : Con P F vs M1 Φ) (ha : argL ρ fi as ca = vs) (hs : Take M M1 R) (k : ∀ v M', Φ v M' → xOps P w0 ops rest (put ρ dst v) (M' ++ R) K) :
    xOps P w0 ops (⟨dst, .call { callee := .value f, args := as, argTypes := ts }, ty, pos, after, none⟩ :: rest) ρ M K := by
  intro F' w H
  have H1 : St w0 w (F' :: (M1 ++ R)) := H.enx hs.ent
  have H2 : St w0 w (all (F' :: R) :: M1) := by
    refine H1.ent (Imp.trans (Imp.cons Imp.app) (Imp.trans Imp.swap ?_))
    have h3 : Imp (all M1 :: (F' :: R)) ((F' :: R) ++ [all M1]) := Imp.comm (L := [all M1]) (M := F' :: R)
    refine h3.trans (Imp.app.trans (Imp.cons ?_))
    have := Imp.unapp (L := M1) (M := [])
    rwa [List.append_nil] at this
  refine d_call hf hb (hc w0 _ w H2) ha ?_
  rintro v w' ⟨M', H', hφ⟩
  exact k v M' hφ F' w' (H'.ent (Imp.unapp.trans (Imp.cons Imp.comm)))
/-- A function that the model itself answers. -/
def extv (P : Program) (F : FuncId) (args : List Value) (v : Value) : Prop := ∀ w, (callFunc F args.toArray).run P w = .ok (.value v) w
theorem pv_ext {F : FuncId} {f : Operand} {as : Array Operand} {ts : Array TypeId} {fi ca : Array Value} {vs : List Value} {v : Value} (hf : ev ρ f = .func (.func F) fi ca) (h : extv P F vs v) (ha : argL ρ fi as ca = vs) :
    PV P (.call { callee := .value f, args := as, argTypes := ts }) ρ v := by
  intro oo w ho
  unfold execOp
  subst ha
  simp only [ho, resolve, hf, Deferred.ofValue, pure_bind, invoke]
  have : fi ++ Array.map (ev ρ) as ++ ca = (argL ρ fi as ca).toArray := by
    apply Array.ext'
    simp [argL]
  rw [this]
  exact h w
-- slices
/-- Among the pieces M the slice v has n elements, of the cells xs. -/
def Rd (M : List Asrt) (size : Nat) (v : Value) (n : Nat) (xs : List Value) : Prop := ∀ w0 F w, St w0 w (F :: M) → SlW w size v n xs
theorem Rd.own {size n : Nat} {v : Value} {xs : List Value} (hm : Has M (own E size v n xs) M') : Rd M size v n xs := fun _ _ _ H => (H.pick (.there hm)).own_sl
theorem Rd.old {W : World} {size n : Nat} {v : Value} {xs : List Value} (hm : Has M (old W) M') (h : SlW W size v n xs) : Rd M size v n xs := fun _ _ _ H => (H.pick (.there hm)).old_sl h
theorem Rd.cl {size n k : Nat} {xs : List Value} (hm : Has M (cl b c E) M') (hx : xs.length = n * size) (hle : o + n * size ≤ c.size) (h : (c.extract o (o + n * size)).toList = xs) : Rd M size (.slice (some ⟨b, o, none⟩) n k) n xs :=
  fun _ _ _ H => ⟨hx, .inr ⟨b, o, k, c, E, (0, 0), rfl, (H.pick (.there hm)).cl_get, hle, h⟩⟩
theorem Rd.nil {size k : Nat} {a : Option Addr} : Rd M size (.slice a 0 k) 0 [] := fun _ _ _ H => ⟨by simp, .inl ⟨a, k, rfl, rfl⟩⟩
theorem Rd.imp {size n : Nat} {v : Value} {xs : List Value} (h : Rd M size v n xs) (hi : Imp M' M) : Rd M' size v n xs := fun _ _ _ H => h _ _ _ (H.enx hi)
theorem Rd.someAt {w : World} {F : Asrt} {size n k : Nat} {a : Option Addr} {xs : List Value} (h : Rd M size (.slice a n k) n xs) (hn : 0 < n) (H : St w0 w (F :: M)) : ∃ b o, a = some ⟨b, o, none⟩ := (h _ _ _ H).isSome hn
theorem Rd.len {w : World} {F : Asrt} {size n : Nat} {v : Value} {xs : List Value} (h : Rd M size v n xs) (H : St w0 w (F :: M)) : ∃ a k, v = .slice a n k := SlW.len (h _ _ _ H)
theorem x_append {size by' n m T' E' : Nat} {z v sv : Value} {xs news : List Value} [hs : TySlice P T E] [hi : TyI P E size by' z] [ht : TySlice P T' E']
    (hx : ev ρ x = v) (hy : ev ρ y = sv) (hm : Has M (own E size v n xs) M') (hsl : Rd M size sv m news)
    (h1 : news.all oneC = true) (hby : by' ≠ 0) (hb : (n + m) * by' ≤ 140737488355328)
    (k : ∀ a' c', xOps P w0 ops rest (put ρ dst (.slice a' (n + m) c')) (own E size (.slice a' (n + m) c') (n + m) (xs ++ news) :: M') K) :
    xOps P w0 ops (⟨dst, .call { callee := .builtin .append, args := #[x, y], argTypes := #[T, T'] }, ty, pos, after, none⟩ :: rest) ρ M K :=
  fun F w H => d_append_sl H hx hy (.there hm) (hsl _ _ _ H) h1 hby hb (fun a' c' w' H' => k a' c' F w' H'.swap)
theorem x_copy {size by' n dl dc T' : Nat} {z sv : Value} {xs : List Value} [hs : TySlice P T E] [hi : TyI P E size by' z] {E0 : Nat}
    (hx : ev ρ x = .slice (some ⟨b, o, none⟩) dl dc) (hy : ev ρ y = sv) (hsl : Rd M size sv n xs) (hm : Repl M (cl b c E0) (cl b c' E0) M2) (hle : o + dl * size ≤ c.size) (h1 : xs.all oneC = true) (hc : wr c o (xs.take (min n dl * size)) = c')
    (k : xOps P w0 ops rest (put ρ dst (.int .i64 (min n dl : Nat))) M2 K) :
    xOps P w0 ops (⟨dst, .call { callee := .builtin .copy, args := #[x, y], argTypes := #[T, T'] }, ty, pos, after, none⟩ :: rest) ρ M K :=
  fun F w H => d_copy H hx hy (hsl _ _ _ H) (.there hm) hle h1 hc (fun w' H' => k F w' H')
/-- An element of a slice, read. -/
theorem x_load_sl {m k j : Nat} {xs : List Value} {v : Value} [hs : TyScal P T] (hx : ev ρ x = .pointer (some ⟨b, o + j, none⟩)) (HS : Rd M 1 (.slice (some ⟨b, o, none⟩) m k) m xs) (hj : j < m) (hv : xs[j]? = some v)
    (kk : xOps P w0 ops rest (put ρ dst v) M K) : xOps P w0 ops (⟨dst, .load T x, ty, pos, after, none⟩ :: rest) ρ M K := fun F w H => d_load_sl hx (HS _ _ _ H) hj hv (kk F w H)
theorem x_load_agg_sl {k j sz by' : Nat} {z : Value} [hs : TyAggr P T] [hi : TyI P T sz by' z]
    {α : Type} {enc : α → List Value} {l : List α} (he : ∀ a, (enc a).length = sz) (hsz : 0 < sz) (hx : ev ρ x = .pointer (some ⟨b, o + j * sz, none⟩)) (HS : Rd M sz (.slice (some ⟨b, o, none⟩) l.length k) l.length (l.flatMap enc)) (hj : j < l.length)
    (kk : xOps P w0 ops rest (put ρ dst (.agg (enc l[j]).toArray)) M K) : xOps P w0 ops (⟨dst, .load T x, ty, pos, after, none⟩ :: rest) ρ M K := fun F w H => d_load_agg_sl he hsz hx (HS _ _ _ H) hj (kk F w H)
theorem x_load_sln {k i j sz : Nat} {v : Value} [hs : TyScal P T]
    {α : Type} {enc : α → List Value} {l : List α} (he : ∀ a, (enc a).length = sz) (hsz : 0 < sz) (hx : ev ρ x = .pointer (some ⟨b, o + i * sz + j, none⟩)) (HS : Rd M sz (.slice (some ⟨b, o, none⟩) l.length k) l.length (l.flatMap enc)) (hi : i < l.length) (hj : j < sz) (hv : (enc l[i])[j]? = some v)
    (kk : xOps P w0 ops rest (put ρ dst v) M K) : xOps P w0 ops (⟨dst, .load T x, ty, pos, after, none⟩ :: rest) ρ M K := fun F w H => d_load_sln he hsz hx (HS _ _ _ H) hi hj hv (kk F w H)
end
section maps
variable {P : Program} {w0 : World} {ops : Array Oper} {dst : Option Nat} {ty : TypeId} {pos : String} {after : Array Edge} {rest : List Oper} {ρ : Env} {K : XK} {M M' M2 : List Asrt}
variable {x y z' : Operand} {T Kt E b : Nat} {α : Type} {A : Value → α → Asrt} {d : α} {f : Int → α} {k : Int} {v : Value}
theorem x_makeMap {α : Type} (A : Value → α → Asrt) (d : α) (kk : ∀ b, xOps P w0 ops rest (put ρ dst (.map (some b))) (omap b A d (fun _ => d) :: M) K) :
    xOps P w0 ops (⟨dst, .makeMap T none, ty, pos, after, none⟩ :: rest) ρ M K := fun F w H => d_makeMap H A d (fun w' b H' => kk b F w' H'.swap)
theorem x_lookup {by' : Nat} [hm : TyMap P T Kt E] [hk : TyInt P Kt .i64] [hz : TyI P E 1 by' (.slice none 0 0)] (hx : ev ρ x = .map (some b)) (hy : ev ρ y = .int .i64 k) (hh : Has M (ohole b A d f k v) M') (kk : xOps P w0 ops rest (put ρ dst v) M K) :
    xOps P w0 ops (⟨dst, .lookup T x y false, ty, pos, after, none⟩ :: rest) ρ M K := fun F w H => d_lookup H hx hy (.there hh) (kk F w H)
theorem x_mapUpdate [hm : TyMap P T Kt E] [hk : TyInt P Kt .i64] {v' : Value} (hx : ev ρ x = .map (some b)) (hy : ev ρ y = .int .i64 k) (hz : ev ρ z' = v') (hh : Repl M (ohole b A d f k v) (oheld b A d f k v') M2) (kk : xOps P w0 ops rest (put ρ dst undef) M2 K) :
    xOps P w0 ops (⟨dst, .mapUpdate T x y z', ty, pos, after, none⟩ :: rest) ρ M K := fun F w H => d_mapUpdate H hx hy hz (.there hh) (fun w' H' => kk F w' H')
theorem x_delete {K2 : Nat} [hm : TyMap P T Kt E] [hk : TyInt P Kt .i64] (hx : ev ρ x = .map (some b)) (hy : ev ρ y = .int .i64 k) (hh : Repl M (ohole b A d f k v) (omap b A d (upd f k d)) M2) (kk : xOps P w0 ops rest (put ρ dst (.tuple #[])) M2 K) :
    xOps P w0 ops (⟨dst, .call { callee := .builtin .delete, args := #[x, y], argTypes := #[T, K2] }, ty, pos, after, none⟩ :: rest) ρ M K := fun F w H => d_delete H hx hy (.there hh) (fun w' H' => kk F w' H')
end maps
end Go.Sl
