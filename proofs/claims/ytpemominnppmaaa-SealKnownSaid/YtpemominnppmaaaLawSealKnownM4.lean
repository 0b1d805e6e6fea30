/- Parts of the proof, joined: EngI, RefQ, RefR, SealG, SealH, SealI, RefS, KnA, SealE, SealJ. -/
import Derived.Test.YtpemominnppmaaaLawSealKnownM0
import Derived.Test.YtpemominnppmaaaLawSealKnownM1
import Derived.Test.YtpemominnppmaaaLawSealKnownM2
import Derived.Test.YtpemominnppmaaaLawSealKnownM3
/- append that keeps what stood there: in place, or beside it. -/
set_option linter.unusedVariables false
set_option linter.unusedSimpArgs false
namespace Go.Sl
open Go
theorem run_append2 {P : Program} {w w0 : World} {L : List Asrt} {ty T E : TypeId} {size by' n m T' cap : Nat} {a : Option Addr} {z xv : Value} {xs news : List Value} {E2 : Nat} [hs : TySlice P T E] [hi : TyI P E size by' z]
    (hd : P.underlying T' = some (.slice E2)) (hz : z.cells.size = size)
    (hn : (Builtin.lenOf xv).run P w = .ok m w) (hr : ∀ d, (Builtin.firstCells size m xv).run P { w with drawn := d } = .ok news.toArray { w with drawn := d })
    (hl : news.length = m * size) (h1 : news.all oneC = true) (hby : by' ≠ 0) (hb : (n + m) * by' ≤ 140737488355328) (hm0 : 0 < m)
    (H : St w0 w (own E size (.slice a n cap) n xs :: L)) :
    ∃ a' cap' w', (Builtin.append_ #[T, T'] ty #[.slice a n cap, xv]).run P w = .ok (.slice a' (n + m) cap') w' ∧
      ((a' = a ∧ cap' = cap ∧ St w0 w' (own E size (.slice a (n + m) cap) (n + m) (xs ++ news) :: L)) ∨ St w0 w' (own E size (.slice a' (n + m) cap') (n + m) (xs ++ news) :: own E size (.slice a n cap) n xs :: L)) := by
  have key : ∀ (hxl : xs.length = n * size) (ho : ∀ d, (Builtin.firstCells size n (.slice a n cap)).run P { w with drawn := d } = .ok xs.toArray { w with drawn := d }) (hgrow : cap < n + m),
      ∃ a' cap' w', (Builtin.append_ #[T, T'] ty #[.slice a n cap, xv]).run P w = .ok (.slice a' (n + m) cap') w' ∧ St w0 w' (own E size (.slice a' (n + m) cap') (n + m) (xs ++ news) :: own E size (.slice a n cap) n xs :: L) := by
    intro hxl ho hgrow
    obtain ⟨c', dr, hc1, hc2, hrun⟩ := run_append_grow (ty := ty) (T := T) (E := E) (z := z) hd hn hr ho hby hgrow hb
    refine ⟨_, _, _, hrun, ?_⟩
    have Hn := H.alloc (.cells (xs.toArray ++ news.toArray ++ Builtin.zeroCells z.cells (c' - (n + m))) E (0, 0))
    refine St.own_mk (cur := xs.toArray ++ news.toArray ++ Builtin.zeroCells z.cells (c' - (n + m))) ⟨Hn.os, Hn.tape, Hn.output, Hn.size, Hn.sat⟩ hc1 hc2 ?_ ?_
    · simp only [Array.size_append, size_zeroC, hz, List.size_toArray, hxl, hl]
      rw [← Nat.add_mul, ← Nat.add_mul]; congr 1; omega
    · simp only [Array.toList_append]
      rw [List.take_append_of_le_length (by simp [hxl, hl, Nat.add_mul]), List.take_of_length_le (by simp [hxl, hl, Nat.add_mul])]
  rcases H.own_get with ⟨hv, rfl, rfl, Hl⟩|⟨g, cap', cur, hv, h2, h3, h4, h5, h6, Hl⟩
  · simp only [Value.slice.injEq] at hv
    obtain ⟨rfl, _, rfl⟩ := hv
    obtain ⟨a', c', w', h, h'⟩ := key (by simp) (fun d => rfl) (by omega)
    exact ⟨a', c', w', h, .inr h'⟩
  · simp only [Value.slice.injEq] at hv
    obtain ⟨rfl, _, rfl⟩ := hv
    by_cases hroom : n + m ≤ cap
    · refine ⟨_, _, _, run_append_room (ty := ty) hd hn (hr w.drawn) hl h1 hroom Hl.cl_get h4, .inl ⟨rfl, rfl, ?_⟩⟩
      have Hn := Hl.set (.cells (wr cur (n * size) news) E (0, 0))
      have hfit : n * size + news.length ≤ cur.size := by rw [hl, h4, ← Nat.add_mul]; exact Nat.mul_le_mul_right _ hroom
      refine St.own_mk (cur := wr cur (n * size) news) Hn hroom h3 (by rw [wr_size, h4]) ?_
      rw [wr_toList _ _ _ hfit, h5, List.take_append_of_le_length (by simp [h6, hl, Nat.add_mul]), List.take_of_length_le (by simp [h6, hl, Nat.add_mul])]
    · obtain ⟨a', c', w', h, h'⟩ := key h6 (fun d => by
        have hg : ({ w with drawn := d } : World).heap[g]? = some (.cells cur E (0, 0)) := Hl.cl_get
        show (loadCells ⟨g, 0, none⟩ (n * size)).run P _ = _
        rw [run_loadCells hg 0 (n * size) (by rw [h4]; have := Nat.mul_le_mul_right size h2; omega)]
        congr 1
        apply Array.ext'
        rw [Array.toList_extract]
        simp [List.extract, h5]) (by omega)
      exact ⟨a', c', w', h, .inr h'⟩
theorem Znp {P : Program} {w0 : World} {ops : Array Oper} {dst : Option Nat} {ty T E : TypeId} {pos : String} {after : Array Edge} {rest : List Oper} {ρ : Env} {K : XK} {M M' : List Asrt} {x y : Operand} {size by' n m T' E' cap : Nat} {a : Option Addr} {z sv : Value} {xs news : List Value} [hs : TySlice P T E] [hi : TyI P E size by' z] [ht : TySlice P T' E']
    (hx : ev ρ x = .slice a n cap) (hy : ev ρ y = sv) (hm : Has M (own E size (.slice a n cap) n xs) M') (hsl : Rd M size sv m news)
    (h1 : news.all oneC = true) (hby : by' ≠ 0) (hb : (n + m) * by' ≤ 140737488355328) (hm0 : 0 < m)
    (k1 : xOps P w0 ops rest (put ρ dst (.slice a (n + m) cap)) (own E size (.slice a (n + m) cap) (n + m) (xs ++ news) :: M') K)
    (k2 : ∀ a' c', xOps P w0 ops rest (put ρ dst (.slice a' (n + m) c')) (own E size (.slice a' (n + m) c') (n + m) (xs ++ news) :: own E size (.slice a n cap) n xs :: M') K) :
    xOps P w0 ops (⟨dst, .call { callee := .builtin .append, args := #[x, y], argTypes := #[T, T'] }, ty, pos, after, none⟩ :: rest) ρ M K := by
  intro F w H
  have hsl := hsl _ _ _ H
  refine Zcy ?_
  obtain ⟨a', c', w', hr, H'⟩ := run_append2 (P := P) (T := T) (E := E) (ty := ty) (xv := sv) (m := m) (news := news) ht.h hi.zs hsl.lenOf (fun d => by
    have := (hsl.drawn d).first (P := P) m (Nat.le_refl _)
    rwa [← hsl.1, List.take_length] at this) hsl.1 h1 hby hb hm0 (H.pick (.there hm))
  have : (execOp (ev ρ) ⟨dst, .call { callee := .builtin .append, args := #[x, y], argTypes := #[T, T'] }, ty, pos, after, none⟩).run P w = .ok (.value (.slice a' (n + m) c')) w' := by
    refine op_run_value ?_
    simp only [List.map_toArray, List.map_cons, List.map_nil, hx, hy]
    exact hr
  rw [this]
  rcases H' with ⟨rfl, rfl, H'⟩|H'
  · exact k1 F w' H'.swap
  · refine k2 a' c' F w' ?_
    exact H'.pick (.there (.there .here))
theorem Znq {P : Program} {w0 : World} {ops : Array Oper} {dst : Option Nat} {ty T E : TypeId} {pos : String} {after : Array Edge} {rest : List Oper} {ρ : Env} {K : XK} {M M' : List Asrt} {x y : Operand} {size by' n m T' E' cap : Nat} {a : Option Addr} {z sv : Value} {xs news : List Value} [hs : TySlice P T E] [hi : TyI P E size by' z] [ht : TySlice P T' E']
    (hx : ev ρ x = .slice a n cap) (hy : ev ρ y = sv) (hm : Has M (own E size (.slice a n cap) n xs) M') (hsl : Rd M size sv m news)
    (h1 : news.all oneC = true) (hby : by' ≠ 0) (hb : (n + m) * by' ≤ 140737488355328) (hm0 : 0 < m)
    (k : ∀ (s : Bool) a' c', (s = true → a' = a ∧ c' = cap) → xOps P w0 ops rest (put ρ dst (.slice a' (n + m) c')) (own E size (.slice a' (n + m) c') (n + m) (xs ++ news) :: all (if s then [] else [own E size (.slice a n cap) n xs]) :: M') K) :
    xOps P w0 ops (⟨dst, .call { callee := .builtin .append, args := #[x, y], argTypes := #[T, T'] }, ty, pos, after, none⟩ :: rest) ρ M K := by
  refine Znp hx hy hm hsl h1 hby hb hm0 ?_ ?_
  · intro F w H
    exact k true a cap (fun _ => ⟨rfl, rfl⟩) F w (H.enx (Imp.cons (Imp.app (L := []))))
  · intro a' c' F w H
    exact k false a' c' (fun h => Bool.noConfusion h) F w (H.enx (Imp.cons (Imp.app (L := [own E size (.slice a n cap) n xs]))))
theorem own_take {E n m c : Nat} {a : Option Addr} {xs : List Value} {M : List Asrt} (h : m ≤ n) : Imp (own E 1 (.slice a n c) n xs :: M) (own E 1 (.slice a m c) m (xs.take m) :: M) :=
  Imp.head fun h' hg => by
    obtain ⟨hl, hg⟩ := hg
    refine ⟨by simp; omega, ?_⟩
    rcases hg with ⟨hv, rfl⟩|⟨g, cap, cur, hv, hg, h1, h2, h3, h4⟩
    · simp only [Value.slice.injEq] at hv
      obtain ⟨rfl, _, rfl⟩ := hv
      obtain rfl : m = 0 := by omega
      exact .inl ⟨rfl, rfl⟩
    · simp only [Value.slice.injEq] at hv
      obtain ⟨rfl, _, rfl⟩ := hv
      exact .inr ⟨g, c, cur, rfl, hg, by omega, h2, h3, by rw [← h4, Nat.mul_one, Nat.mul_one, List.take_take, Nat.min_eq_left h]⟩
theorem Znr {P : Program} {ρ : Env} {x y : Operand} {S i : Nat} {k : IntKind} {s : ByteArray} {b : Byte} (hS : P.underlying S = some .string) (hx : ev ρ x = .string s) (hy : ev ρ y = .int k (i : Int)) (hb : s[i]? = some (UInt8.ofBitVec b)) : PV P (.index S x y) ρ (u8b b) := by
  intro oo w ho; unfold execOp; rw [ho]; refine op_run_value ?_; rw [hx, hy]
  unfold Instr.index
  simp only [asIntOf, pure_bind]
  rw [run_bind P _ _ w w _ (run_under hS)]
  simp only []
  rw [if_pos (by omega), Int.toNat_natCast, hb]
  rfl
theorem str_at {s : ByteArray} {b : List Byte} (hb : s.data.toList = b.map (fun x => UInt8.ofBitVec x)) {i : Nat} (hi : i < b.length) : s[i]? = some (UInt8.ofBitVec b[i]) := by
  have hsz : s.size = b.length := by show s.data.size = _; rw [← Array.length_toList, hb, List.length_map]
  rw [getElem?_pos s i (by omega)]
  congr 1
  show s.data[i]'(by show i < s.size; omega) = _
  rw [← Array.getElem_toList]
  simp only [hb, List.getElem_map]
end Go.Sl

/- the statements' small helpers: slices that do not share (Apart). -/
set_option maxHeartbeats 4000000
set_option maxRecDepth 10000
set_option linter.unusedVariables false
set_option linter.unusedSimpArgs false
namespace Go.Sl
open Go Go.Proofs
attribute [local irreducible] cl pt own old pur ex all den denOps denS xOps xC cX CX xthen xblk xcut xloop xgo xng retX resX Calls PV Rd Con
abbrev ni (n : Nat) : Value := .int .i64 (n : Int)
def mkB (i j : Nat) : Byte := BitVec.ofInt 8 ((i * 31 + j * 7 + 1 : Nat) : Int)
theorem mark_x (i j : Nat) (hi : i ≤ 1048576) (hj : j ≤ 1099511627776) : Con Try.prog 31 [ni i, ni j] [] (fun r M => r = u8b (mkB i j) ∧ M = []) := by
  refine fn_x Try.func31 rfl rfl rfl Try.mixed (by kernel_rfl) ?_
  intro w0
  refine Ct.o ?_
  refine Zgb ?_
  first|refine Zhg (Zaz rfl) ?_|refine Zhg (Zas rfl) ?_
  refine Zg3 ?_
  refine Ct.o ?_
  refine Zgb ?_
  first|refine Zhg (Zat rfl) ?_|refine Zhg (Zar rfl) ?_
  first|refine Zhg (Zmc (b := 31) rfl rfl) ?_|refine Zhg (Zbi rfl rfl) ?_
  first|refine Zhg (Zat rfl) ?_|refine Zhg (Zar rfl) ?_
  first|refine Zhg (Zmc (b := 7) rfl rfl) ?_|refine Zhg (Zbi rfl rfl) ?_
  first|refine Zhg (Zma rfl rfl) ?_|refine Zhg (Zbg rfl rfl) ?_
  first|refine Zhg (Zma (b := 1) rfl rfl) ?_|refine Zhg (Zbg rfl rfl) ?_
  refine Zhg (Zjs rfl) ?_
  first|refine Zhg (Zaz rfl) ?_|refine Zhg (Zas rfl) ?_
  refine Zg3 ?_
  refine Ct.o ?_
  refine rx1 (Zg9 rfl (Zg7)) ?_
  exact ⟨_, ⟨rfl, rfl⟩, by exact Imp.arr (by repeat (first|exact Arr.nil|exact Arr.stop|refine Arr.cons (by repeat constructor) ?_|refine Arr.skip ?_))⟩
abbrev Part := Option Addr × Nat × List Byte
def vP (p : Part) : Value := .slice p.1 p.2.2.length p.2.1
def ownP (p : Part) : Asrt := own 5 1 (vP p) p.2.2.length (p.2.2.map u8b)
def MkUp (i : Nat) (l : List Byte) (n : Nat) : Prop := ∀ j, j < n → l[j]? = some (mkB i j)
theorem MkUp.set {i j : Nat} {l : List Byte} (h : MkUp i l j) (hj : j < l.length) : MkUp i (l.set j (mkB i j)) (j + 1) := by
  intro k hk
  by_cases e : j = k
  · subst e; rw [List.getElem?_set_self hj]
  · rw [List.getElem?_set_ne e]; exact h k (by omega)
theorem MkUp.snoc {i : Nat} {l : List Byte} (h : MkUp i l l.length) : MkUp i (l ++ [mkB i l.length]) (l.length + 1) := by
  intro k hk
  by_cases e : k = l.length
  · subst e; rw [List.getElem?_append_right (Nat.le_refl _), Nat.sub_self]; rfl
  · rw [List.getElem?_append_left (by omega)]; exact h k (by omega)
theorem MkUp.at {i j n : Nat} {l : List Byte} (h : MkUp i l n) (hj : j < n) (hl : j < l.length) : l[j] = mkB i j := by
  have := h j hj
  rw [List.getElem?_eq_getElem hl] at this
  exact Option.some.inj this
def remP (s : Bool) (p : Part) : Asrt := all (if s then [] else [ownP p])
abbrev Trip := Part × Part × Bool
def A2 (t : Trip) : Asrt := all [ownP t.2.1, remP t.2.2 t.1]
/-- What a part and its longer heir are to each other. -/
def Heir (i k : Nat) (p q : Part) (s : Bool) : Prop := MkUp i p.2.2 p.2.2.length ∧ MkUp i q.2.2 q.2.2.length ∧ q.2.2.length = p.2.2.length + k ∧ (s = true → q.1 = p.1 ∧ q.2.1 = p.2.1 ∧ q.2.2.take p.2.2.length = p.2.2)
theorem ownP_bs {M M' : List Asrt} {p : Part} (hm : Has M (ownP p) M') : Bs M (vP p) p.2.2 := Bs.own (E := 5) hm
theorem A2_q {t : Trip} {M : List Asrt} : Bs (A2 t :: M) (vP t.2.1) t.2.1.2.2 :=
  (ownP_bs (p := t.2.1) (M := ownP t.2.1 :: remP t.2.2 t.1 :: M) .here).imp (Imp.unapp (L := [ownP t.2.1, remP t.2.2 t.1]))
theorem A2_p {i k : Nat} {t : Trip} {M : List Asrt} (h : Heir i k t.1 t.2.1 t.2.2) : Bs (A2 t :: M) (vP t.1) t.1.2.2 := by
  obtain ⟨p, q, s⟩ := t
  have h0 : Imp (A2 (p, q, s) :: M) (ownP q :: remP s p :: M) := Imp.unapp (L := [ownP q, remP s p])
  cases s with
  | false =>
    have h1 : Imp (A2 (p, q, false) :: M) (ownP q :: ownP p :: M) := h0.trans (Imp.cons (Imp.unapp (L := [ownP p])))
    exact (ownP_bs (.there .here)).imp h1
  | true =>
    obtain ⟨_, _, hl, h3⟩ := h
    obtain ⟨ha, hc, ht⟩ := h3 rfl
    dsimp only at ha hc ht hl
    have h1 : Imp (A2 (p, q, true) :: M) (ownP p :: remP true p :: M) := by
      refine h0.trans ?_
      have := own_take (E := 5) (n := q.2.2.length) (m := p.2.2.length) (c := q.2.1) (a := q.1) (xs := q.2.2.map u8b) (M := remP true p :: M) (by omega)
      rw [← List.map_take, ht, ha, hc] at this
      have e : ownP q = own 5 1 (.slice p.1 q.2.2.length p.2.1) q.2.2.length (q.2.2.map u8b) := by unfold ownP vP; rw [ha, hc]
      rw [e]
      exact this
    exact (ownP_bs .here).imp h1
theorem star_bs {α : Type} {A : α → Asrt} {l : List α} {x : α} {v : Value} {b : List Byte} (hx : x ∈ l) (h : ∀ R, Bs (A x :: R) v b) {M M' : List Asrt} (hm : Has M (star A l) M') : Bs M v b := by
  obtain ⟨R, hR⟩ := star_has (A := A) hx hm
  exact (h R).imp hR
end Go.Sl

/- Apart: slices that do not share, walked. -/
set_option maxHeartbeats 4000000
set_option maxRecDepth 10000
set_option linter.unusedVariables false
set_option linter.unusedSimpArgs false
namespace Go.Sl
open Go Go.Proofs
attribute [local irreducible] cl pt own old pur ex all den denOps denS xOps xC cX CX xthen xblk xcut xloop xgo xng retX resX Calls PV Rd Con
theorem vP_at {ps : List Part} {qs : List Part} {i : Nat} (hi : i < qs.length) (h : qs.map vP = ps.map vP) {a : Option Addr} {c : Nat} {l : List Byte} (hq : (a, c, l) = qs[i]) : (ps.map vP)[i]? = some (.slice a l.length c) := by
  rw [← h, List.getElem?_map, List.getElem?_eq_getElem hi, ← hq]; rfl
theorem vP_len {ps : List Part} {i n c : Nat} {a : Option Addr} (h : (ps.map vP)[i]? = some (.slice a n c)) {B : Nat} (hb : ∀ p ∈ ps, p.2.2.length ≤ B) : n ≤ B := by
  rw [List.getElem?_map] at h
  obtain ⟨p, hp, h⟩ := Option.map_eq_some_iff.mp h
  simp only [vP, Value.slice.injEq] at h
  have := hb p (List.mem_of_getElem? hp)
  omega
attribute [local irreducible] mkB
theorem apart_x {L : List Asrt} {va : Option Addr} {vc N : Nat} (ps : List Part) (hN : ps.length = N) (hNl : N ≤ 1048576) (hlen : ∀ p ∈ ps, p.2.2.length ≤ 1099511620000) (h : Rd L 1 (.slice va N vc) N (ps.map vP)) :
    Con Try.prog 16 [.slice va N vc] (star ownP ps :: L) (fun r M => r = .bool true ∧ L = M) := by
  refine fn_x Try.func16 rfl rfl rfl Try.mixed (by kernel_rfl) ?_
  intro w0
  refine Ct.o ?_
  refine Zgb ?_
  first|refine Zhg (Za0 rfl) ?_|refine Zhg (Zas rfl) ?_
  refine Zg3 ?_
  refine Ct.o ?_
  refine Zgb ?_
  first|refine Zhg (Zaz rfl) ?_|refine Zhg (Zas rfl) ?_
  refine Zg3 ?_
  refine Ct.o ?_
  refine Zgo [(3, 4), (11, 34)] (by kernel_rfl) (fun s : Nat × List Part => s.1 ≤ N ∧ s.2.map vP = ps.map vP ∧ ∀ k p, k < s.1 → s.2[k]? = some p → MkUp k p.2.2 p.2.2.length) (fun s => star ownP s.2 :: L) (fun s => [(3, ni s.1)]) (fun s => N - s.1) (0, ps) ⟨Nat.zero_le _, rfl, fun k p h => absurd h (Nat.not_lt_zero _)⟩ qI ⟨rfl, trivial⟩ ?_
  rintro ⟨i, qs⟩ u ⟨hi, hqv, hqm⟩
  dsimp only at hi hqv hqm ⊢
  have hql : qs.length = N := by rw [← List.length_map (f := vP), hqv, List.length_map, hN]
  refine Ct.o ?_
  refine Zgb ?_
  first|refine Zhg (Zat rfl) ?_|refine Zhg (Zar rfl) ?_
  first|refine Zhg (Zaw rfl) ?_|refine Zhg (Zar rfl) ?_
  first|refine Zhg (Zcr rfl) ?_|refine Zhg (Zct) ?_|refine Zhg (Zcu rfl) ?_
  first|refine Zhg (Zmf rfl rfl) ?_|refine Zhg (Zbn rfl rfl) ?_
  refine Zg3 ?_
  refine Ct.o ?_
  refine Zgg rfl (fun hB => ?_) (fun hB => ?_)
  · have hiq : i < qs.length := by omega
    obtain ⟨⟨qa, qc, l⟩, hq⟩ : ∃ p, p = qs[i] := ⟨_, rfl⟩
    have hgi := vP_at hiq hqv hq
    have hll := vP_len hgi hlen
    refine Zgt (fun F w H => (h.imp qI).someAt (by omega) H) ?_
    rintro ⟨a1, a2, rfl⟩
    refine Zgp (star_at hiq) ?_
    rw [← hq]
    refine Ct.o ?_
    refine Zgb ?_
    first|refine Zhg (Zaz rfl) ?_|refine Zhg (Zas rfl) ?_
    refine Zg3 ?_
    refine Ct.o ?_
    refine Zgo [(4, 4), (17, 34)] (by kernel_rfl) (fun s : Nat × List Byte => s.1 ≤ l.length ∧ s.2.length = l.length ∧ MkUp i s.2 s.1) (fun s => own 5 1 (.slice qa l.length qc) l.length (s.2.map u8b) :: star ownP (qs.eraseIdx i) :: L) (fun s => [(4, ni s.1)]) (fun s => l.length - s.1) (0, l) ⟨Nat.zero_le _, rfl, fun k h => absurd h (Nat.not_lt_zero _)⟩ (Imp.refl _) ⟨rfl, trivial⟩ ?_
    rintro ⟨j, x⟩ u2 ⟨hj, hxl, hxm⟩
    dsimp only at hj hxl hxm ⊢
    refine Ct.o ?_
    refine Zgb ?_
    first|refine Zhg (Zat rfl) ?_|refine Zhg (Zar rfl) ?_
    first|refine Zhg (Zaw rfl) ?_|refine Zhg (Zar rfl) ?_
    first|refine Zhg (Zat rfl) ?_|refine Zhg (Zar rfl) ?_
    first|refine Zhg (Zl4 rfl rfl) ?_|refine Zhg (Zl1 rfl rfl) ?_
    refine Zff rfl ((h.imp qI).at hB hgi) ?_
    first|refine Zhg (Zcr rfl) ?_|refine Zhg (Zct) ?_|refine Zhg (Zcu rfl) ?_
    first|refine Zhg (Zmf rfl rfl) ?_|refine Zhg (Zbn rfl rfl) ?_
    refine Zg3 ?_
    refine Ct.o ?_
    refine Zgg rfl (fun hA => ?_) (fun hA => ?_)
    · refine Zgt (fun F w H => own_some (a := qa) qH (by omega) H) ?_
      rintro ⟨g, rfl⟩
      refine Ct.o ?_
      refine Zij (_) [7] (.q 0 (.q 1 (.q 2 (.q 4 (.q 5 (.q 6 (.r 3 (.e 7 true (.q 8 (.e 9 false .nil)))))))))) (by kernel_rfl) (by kernel_rfl) (Imp.refl _) ?_
      first|refine Zim rfl (Zaw rfl) ?_|refine Zim rfl (Zar rfl) ?_
      first|refine Zim rfl (Zat rfl) ?_|refine Zim rfl (Zar rfl) ?_
      first|refine Zim rfl (Zl4 rfl rfl) ?_|refine Zim rfl (Zl1 rfl rfl) ?_
      first|refine Zim rfl (Zat rfl) ?_|refine Zim rfl (Zar rfl) ?_
      first|refine Zim rfl (Zat rfl) ?_|refine Zim rfl (Zar rfl) ?_
      first|refine Zim rfl (Zat rfl) ?_|refine Zim rfl (Zar rfl) ?_
      refine Zfh rfl rfl ((h.imp qI).at hB hgi) ?_
      refine Ziq rfl ?_
      refine Zh8 rfl (by kernel_rfl) (mark_x i j (by omega) (by omega)) rfl qT ?_
      rintro _ _ ⟨rfl, rfl⟩
      refine Zg2 qA ?_
      refine Zg3 ⟨fun _ => Imp.arr qV, ?_⟩
      first|refine Zim rfl (Zl4 rfl rfl) ?_|refine Zim rfl (Zl1 rfl rfl) ?_
      refine Ziq rfl ?_; refine Zm7 (u := u8b (mkB i j)) (i := j) (xs := x.map u8b) (ys := (x.set j (mkB i j)).map u8b) rfl rfl rfl qR (by omega) (by rw [List.map_set]) ?_; refine Zg3 ⟨(fun hh => Bool.noConfusion hh), ?_⟩
      refine Zik ?_
      refine Ct.o ?_
      refine Zgb ?_
      first|refine Zhg (Zat rfl) ?_|refine Zhg (Zar rfl) ?_
      first|refine Zhg (Zma (b := 1) rfl rfl) ?_|refine Zhg (Zbg rfl rfl) ?_
      first|refine Zhg (Zaz rfl) ?_|refine Zhg (Zas rfl) ?_
      refine Zg3 ?_
      refine Ct.o ?_
      exact Zgl (j + 1, x.set j (mkB i j)) qO ⟨by dsimp only; omega, by simp [hxl], hxm.set (by omega)⟩ qI ⟨rfl, trivial⟩
    · have hje : j = l.length := by omega
      subst hje
      refine Ct.o ?_
      refine Zgb ?_
      first|refine Zhg (Zat rfl) ?_|refine Zhg (Zar rfl) ?_
      first|refine Zhg (Zma (b := 1) rfl rfl) ?_|refine Zhg (Zbg rfl rfl) ?_
      first|refine Zhg (Zaz rfl) ?_|refine Zhg (Zas rfl) ?_
      refine Zg3 ?_
      refine Ct.o ?_
      have e1 : vP (qa, qc, x) = vP qs[i] := by rw [← hq]; simp [vP, hxl]
      refine Zgl (i + 1, qs.set i (qa, qc, x)) qO ⟨by dsimp only; omega, ?_, ?_⟩ ?_ ⟨rfl, trivial⟩
      · dsimp only; rw [List.map_set, e1, ← List.map_set, List.set_getElem_self, hqv]
      · intro k p hk hp
        dsimp only at hk hp
        by_cases e : i = k
        · subst e
          rw [List.getElem?_set_self hiq] at hp
          obtain rfl := Option.some.inj hp
          dsimp only; rw [hxl]; exact hxm
        · rw [List.getElem?_set_ne e] at hp
          exact hqm k p (by omega) hp
      · dsimp only
        have := star_back (A := ownP) hiq (qa, qc, x) (M := L)
        refine Imp.trans ?_ this
        show Imp _ (own 5 1 (.slice qa x.length qc) x.length (x.map u8b) :: _)
        rw [hxl]
        exact qI
  · have hie : i = N := by omega
    subst hie
    have hqm2 : ∀ k p, qs[k]? = some p → MkUp k p.2.2 p.2.2.length := fun k p hp => hqm k p (by have := (List.getElem?_eq_some_iff.mp hp).1; omega) hp
    have hqb : ∀ (k : Nat) (a : Option Addr) (c : Nat) (l : List Byte), qs[k]? = some (a, c, l) → (ps.map vP)[k]? = some (.slice a l.length c) ∧ l.length ≤ 1099511620000 := fun k a c l hk => by
      obtain ⟨h1, h2⟩ := List.getElem?_eq_some_iff.mp hk
      have := vP_at h1 hqv h2.symm
      exact ⟨this, vP_len this hlen⟩
    refine Ct.o ?_
    refine Zgb ?_
    first|refine Zhg (Za2 rfl) ?_|refine Zhg (Zas rfl) ?_
    refine Zg3 ?_
    refine Ct.o ?_
    refine Zgb ?_
    first|refine Zhg (Zaz rfl) ?_|refine Zhg (Zas rfl) ?_
    refine Zg3 ?_
    refine Ct.o ?_
    refine Zgo [(5, 8), (35, 64)] (by kernel_rfl) (fun s : Nat × List Trip × Option Addr × Nat => s.1 ≤ qs.length ∧ s.2.1.length = s.1 ∧ ∀ k t, s.2.1[k]? = some t → qs[k]? = some t.1 ∧ Heir k 70 t.1 t.2.1 t.2.2) (fun s => own 26 1 (.slice s.2.2.1 s.1 s.2.2.2) s.1 (s.2.1.map fun t => vP t.2.1) :: star A2 s.2.1 :: star ownP (qs.drop s.1) :: L) (fun s => [(6, ni s.1), (5, .slice s.2.2.1 s.1 s.2.2.2)]) (fun s => qs.length - s.1) (0, [], none, 0) ⟨Nat.zero_le _, rfl, fun k t h => by simp at h⟩ (Imp.trans (star_nil (A := A2)) Imp.own_nil) ⟨rfl, rfl, trivial⟩ ?_
    rintro ⟨i, ds, ha, hc⟩ u2 ⟨hi, hdl, hdi⟩
    dsimp only at hi hdl hdi ⊢
    refine Ct.o ?_
    refine Zgb ?_
    first|refine Zhg (Zat rfl) ?_|refine Zhg (Zar rfl) ?_
    first|refine Zhg (Zaw rfl) ?_|refine Zhg (Zar rfl) ?_
    first|refine Zhg (Zcr rfl) ?_|refine Zhg (Zct) ?_|refine Zhg (Zcu rfl) ?_
    first|refine Zhg (Zmf rfl rfl) ?_|refine Zhg (Zbn rfl rfl) ?_
    refine Zg3 ?_
    refine Ct.o ?_
    refine Zgg rfl (fun hB => ?_) (fun hB => ?_)
    · have hiq : i < qs.length := by omega
      obtain ⟨⟨qa, qc, l⟩, hq⟩ : ∃ p, p = qs[i] := ⟨_, rfl⟩
      have hqs : qs[i]? = some (qa, qc, l) := by rw [List.getElem?_eq_getElem hiq, ← hq]
      obtain ⟨hgi, hll⟩ := hqb i _ _ _ hqs
      have hmk : MkUp i l l.length := hqm2 i _ hqs
      refine Zgt (fun F w H => (h.imp qI).someAt (by omega) H) ?_
      rintro ⟨a1, a2, rfl⟩
      rw [List.drop_eq_getElem_cons hiq, ← hq]
      refine Zgp (Imp.cons (Imp.cons star_uncons)) ?_
      refine Ct.o ?_
      refine Zgb ?_
      first|refine Zhg (Zaw rfl) ?_|refine Zhg (Zar rfl) ?_
      first|refine Zhg (Zat rfl) ?_|refine Zhg (Zar rfl) ?_
      first|refine Zhg (Zl4 rfl rfl) ?_|refine Zhg (Zl1 rfl rfl) ?_
      refine Zff rfl ((h.imp qI).at hB hgi) ?_
      first|refine Zhg (Za2 rfl) ?_|refine Zhg (Zas rfl) ?_
      refine Zg3 ?_
      refine Ct.o ?_
      refine Zgb ?_
      first|refine Zhg (Zaz rfl) ?_|refine Zhg (Zas rfl) ?_
      refine Zg3 ?_
      refine Ct.o ?_
      refine Zgo [(7, 8), (45, 60)] (by kernel_rfl) (fun s : Nat × Part × Bool => s.1 ≤ 70 ∧ Heir i s.1 (qa, qc, l) s.2.1 s.2.2)
        (fun s => own 5 1 (.slice s.2.1.1 (l.length + s.1) s.2.1.2.1) (l.length + s.1) (s.2.1.2.2.map u8b) :: remP s.2.2 (qa, qc, l) :: own 26 1 (.slice ha i hc) i (ds.map fun t => vP t.2.1) :: star A2 ds :: star ownP (qs.drop (i + 1)) :: L)
        (fun s => [(8, ni s.1), (7, .slice s.2.1.1 (l.length + s.1) s.2.1.2.1)]) (fun s => 70 - s.1) (0, (qa, qc, l), true) ⟨Nat.zero_le _, hmk, hmk, rfl, fun _ => ⟨rfl, rfl, List.take_length⟩⟩ ?_ ⟨rfl, rfl, trivial⟩ ?_
      · refine Imp.trans (Imp.app (L := [])) ?_
        show Imp (remP true (qa, qc, l) :: own 26 1 (.slice ha i hc) i (ds.map fun t => vP t.2.1) :: star A2 ds :: own 5 1 (.slice qa l.length qc) l.length (l.map u8b) :: star ownP (qs.drop (i + 1)) :: L) (own 5 1 (.slice qa l.length qc) l.length (l.map u8b) :: remP true (qa, qc, l) :: own 26 1 (.slice ha i hc) i (ds.map fun t => vP t.2.1) :: star A2 ds :: star ownP (qs.drop (i + 1)) :: L)
        exact qI
      rintro ⟨j, ⟨xa, xc, x⟩, s⟩ u3 ⟨hj, hpm, hxm, hxl, hxs⟩
      dsimp only at hj hpm hxm hxl hxs ⊢
      refine Ct.o ?_
      refine Zgb ?_
      first|refine Zhg (Zat rfl) ?_|refine Zhg (Zar rfl) ?_
      first|refine Zhg (Zmf (b := 70) rfl rfl) ?_|refine Zhg (Zbn rfl rfl) ?_
      refine Zg3 ?_
      refine Ct.o ?_
      refine Zgg rfl (fun hA => ?_) (fun hA => ?_)
      · refine Ct.o ?_
        refine Zgb ?_
        first|refine Zhg (Zaw rfl) ?_|refine Zhg (Zar rfl) ?_
        first|refine Zhg (Zat rfl) ?_|refine Zhg (Zar rfl) ?_
        first|refine Zhg (Zaw rfl) ?_|refine Zhg (Zar rfl) ?_
        first|refine Zhg (Zat rfl) ?_|refine Zhg (Zar rfl) ?_
        first|refine Zhg (Zl4 rfl rfl) ?_|refine Zhg (Zl1 rfl rfl) ?_
        refine Zff rfl ((h.imp qI).at hB hgi) ?_
        first|refine Zhg (Zcr rfl) ?_|refine Zhg (Zct) ?_|refine Zhg (Zcu rfl) ?_
        first|refine Zhg (Zat rfl) ?_|refine Zhg (Zar rfl) ?_
        first|refine Zhg (Zma rfl rfl) ?_|refine Zhg (Zbg rfl rfl) ?_
        refine Zh8 rfl (by kernel_rfl) (mark_x i (l.length + j) (by omega) (by omega)) rfl qT ?_
        rintro _ _ ⟨rfl, rfl⟩
        refine Zg2 qA ?_
        refine Zh7 (cs := #[.int .u8 _]) (by omega) (by omega) rfl ?_; intro b59
        refine Znq rfl rfl qH (Rd.cl (xs := [u8b (mkB i (l.length + j))]) qH rfl qZ rfl) qN (by omega) qS (by omega) ?_; intro s' a' c' hs'
        first|refine Zhg (Za2 rfl) ?_|refine Zhg (Zas rfl) ?_
        refine Zg3 ?_
        refine Ct.o ?_
        have e2 : x.map u8b ++ [u8b (mkB i (l.length + j))] = (x ++ [mkB i (l.length + j)]).map u8b := by simp only [List.map_append, List.map_cons, List.map_nil]
        rw [e2]
        have hm2 : MkUp i (x ++ [mkB i (l.length + j)]) (x ++ [mkB i (l.length + j)]).length := by
          have := MkUp.snoc hxm
          rw [List.length_append]; rw [hxl] at this ⊢; exact this
        have hl2 : (x ++ [mkB i (l.length + j)]).length = l.length + (j + 1) := by rw [List.length_append, hxl]; rfl
        refine Ct.o ?_
        refine Zgb ?_
        first|refine Zhg (Zat rfl) ?_|refine Zhg (Zar rfl) ?_
        first|refine Zhg (Zma (b := 1) rfl rfl) ?_|refine Zhg (Zbg rfl rfl) ?_
        first|refine Zhg (Zaz rfl) ?_|refine Zhg (Zas rfl) ?_
        refine Zg3 ?_
        refine Ct.o ?_
        cases s with
        | false =>
          refine Zgl (j + 1, (a', c', x ++ [mkB i (l.length + j)]), false) qO ⟨by dsimp only; omega, hpm, hm2, hl2, fun h => Bool.noConfusion h⟩ ?_ ⟨rfl, rfl, trivial⟩
          show Imp _ (own 5 1 (.slice a' (l.length + j + 1) c') (l.length + j + 1) ((x ++ [mkB i (l.length + j)]).map u8b) :: remP false (qa, qc, l) :: own 26 1 (.slice ha i hc) i (ds.map fun t => vP t.2.1) :: star A2 ds :: star ownP (qs.drop (i + 1)) :: L)
          exact qI
        | true =>
          obtain ⟨rfl, rfl, ht⟩ := hxs rfl
          cases s' with
          | true =>
            obtain ⟨rfl, rfl⟩ := hs' rfl
            refine Zgl (j + 1, (_, _, x ++ [mkB i (l.length + j)]), true) qO ⟨by dsimp only; omega, hpm, hm2, hl2, fun _ => ⟨rfl, rfl, by dsimp only; rw [List.take_append_of_le_length (by omega), ht]⟩⟩ ?_ ⟨rfl, rfl, trivial⟩
            show Imp _ (own 5 1 (.slice _ (l.length + j + 1) _) (l.length + j + 1) ((x ++ [mkB i (l.length + j)]).map u8b) :: remP true (_, _, l) :: own 26 1 (.slice ha i hc) i (ds.map fun t => vP t.2.1) :: star A2 ds :: star ownP (qs.drop (i + 1)) :: L)
            exact qI
          | false =>
            refine Zgl (j + 1, (a', c', x ++ [mkB i (l.length + j)]), false) qO ⟨by dsimp only; omega, hpm, hm2, hl2, fun h => Bool.noConfusion h⟩ ?_ ⟨rfl, rfl, trivial⟩
            refine Imp.trans (Imp.cons ((Imp.unapp (L := [own 5 1 (.slice xa (l.length + j) xc) (l.length + j) (x.map u8b)])).trans (own_take (m := l.length) (by omega)))) ?_
            rw [← List.map_take, ht]
            refine Imp.trans (Imp.arr (N := own 5 1 (.slice xa l.length xc) l.length (l.map u8b) :: own 5 1 (.slice a' (l.length + j + 1) c') (l.length + j + 1) ((x ++ [mkB i (l.length + j)]).map u8b) :: own 26 1 (.slice ha i hc) i (ds.map fun t => vP t.2.1) :: star A2 ds :: star ownP (qs.drop (i + 1)) :: L) qV) ?_
            exact (Imp.app (L := [ownP (xa, xc, l)])).trans Imp.swap
      · have hje : j = 70 := by omega
        subst hje
        refine Ct.o ?_
        refine Zgb ?_
        first|refine Zhg (Zaw rfl) ?_|refine Zhg (Zar rfl) ?_
        first|refine Zhg (Zaw rfl) ?_|refine Zhg (Zar rfl) ?_
        refine Zh7 (cs := #[.slice _ _ _]) (by omega) (by omega) rfl ?_; intro b63
        refine Zia rfl rfl qH (Rd.cl (xs := [.slice xa (l.length + 70) xc]) qH rfl qZ rfl) qN (by omega) qS ?_; intro a3 c3
        first|refine Zhg (Za2 rfl) ?_|refine Zhg (Zas rfl) ?_
        refine Zg3 ?_
        refine Ct.o ?_
        refine Zgb ?_
        first|refine Zhg (Zat rfl) ?_|refine Zhg (Zar rfl) ?_
        first|refine Zhg (Zma (b := 1) rfl rfl) ?_|refine Zhg (Zbg rfl rfl) ?_
        first|refine Zhg (Zaz rfl) ?_|refine Zhg (Zas rfl) ?_
        refine Zg3 ?_
        refine Ct.o ?_
        refine Zgl (i + 1, ds ++ [((qa, qc, l), (xa, xc, x), s)], a3, c3) qO ⟨by dsimp only; omega, by simp [hdl], ?_⟩ ?_ ⟨rfl, rfl, trivial⟩
        · intro k t hk
          dsimp only at hk
          by_cases e : k < ds.length
          · rw [List.getElem?_append_left e] at hk; exact hdi k t hk
          · rw [List.getElem?_append_right (by omega)] at hk
            obtain ⟨h1, h2⟩ := List.getElem?_eq_some_iff.mp hk
            have : k = i := by simp at h1; omega
            subst this
            have : t = ((qa, qc, l), (xa, xc, x), s) := by rw [← h2]; simp [hdl]
            subst this
            exact ⟨hqs, hpm, hxm, hxl, hxs⟩
        · dsimp only
          have e3 : (ds ++ [((qa, qc, l), (xa, xc, x), s)]).map (fun t : Trip => vP t.2.1) = (ds.map fun t => vP t.2.1) ++ [.slice xa (l.length + 70) xc] := by
            rw [List.map_append]; simp only [List.map_cons, List.map_nil, vP]; rw [hxl]
          rw [e3]
          refine Imp.trans (Imp.arr (N := own 5 1 (.slice xa (l.length + 70) xc) (l.length + 70) (x.map u8b) :: remP s (qa, qc, l) :: star A2 ds :: own 26 1 (.slice a3 (i + 1) c3) (i + 1) ((ds.map fun t => vP t.2.1) ++ [.slice xa (l.length + 70) xc]) :: star ownP (qs.drop (i + 1)) :: L) qV) ?_
          have h1 : Imp (own 5 1 (.slice xa (l.length + 70) xc) (l.length + 70) (x.map u8b) :: remP s (qa, qc, l) :: star A2 ds :: own 26 1 (.slice a3 (i + 1) c3) (i + 1) ((ds.map fun t => vP t.2.1) ++ [.slice xa (l.length + 70) xc]) :: star ownP (qs.drop (i + 1)) :: L)
              (A2 ((qa, qc, l), (xa, xc, x), s) :: star A2 ds :: own 26 1 (.slice a3 (i + 1) c3) (i + 1) ((ds.map fun t => vP t.2.1) ++ [.slice xa (l.length + 70) xc]) :: star ownP (qs.drop (i + 1)) :: L) := by
            have e4 : own 5 1 (.slice xa (l.length + 70) xc) (l.length + 70) (x.map u8b) = ownP (xa, xc, x) := by unfold ownP vP; dsimp only; rw [hxl]
            rw [e4]
            exact Imp.app (L := [ownP (xa, xc, x), remP s (qa, qc, l)])
          exact h1.trans (star_snoc.trans Imp.swap)
    · have hie : i = qs.length := by omega
      subst hie
      refine Ct.o ?_
      refine Zgb ?_
      first|refine Zhg (Zaz rfl) ?_|refine Zhg (Zas rfl) ?_
      refine Zg3 ?_
      refine Ct.o ?_
      refine Zgo [(2, 2), (9, 10), (65, 112)] (by kernel_rfl) (fun k : Nat => k ≤ qs.length) (fun _ => own 26 1 (.slice ha qs.length hc) qs.length (ds.map fun t => vP t.2.1) :: star A2 ds :: L) (fun k => [(9, ni k)]) (fun k => qs.length - k) 0 (Nat.zero_le _) qI ⟨rfl, trivial⟩ ?_
      intro k u3 hk
      refine Ct.o ?_
      refine Zgb ?_
      first|refine Zhg (Zat rfl) ?_|refine Zhg (Zar rfl) ?_
      first|refine Zhg (Zaw rfl) ?_|refine Zhg (Zar rfl) ?_
      first|refine Zhg (Zcr rfl) ?_|refine Zhg (Zct) ?_|refine Zhg (Zcu rfl) ?_
      first|refine Zhg (Zmf rfl rfl) ?_|refine Zhg (Zbn rfl rfl) ?_
      refine Zg3 ?_
      refine Ct.o ?_
      refine Zgg rfl (fun hB => ?_) (fun hB => ?_)
      · have hkd : k < ds.length := by omega
        have hkq : k < qs.length := by omega
        obtain ⟨⟨⟨pa, pc, p⟩, ⟨qa, qc, q⟩, s⟩, ht⟩ : ∃ t, t = ds[k] := ⟨_, rfl⟩
        have hmem : ((pa, pc, p), (qa, qc, q), s) ∈ ds := by rw [ht]; exact List.getElem_mem hkd
        obtain ⟨hps, hheir⟩ := hdi k ((pa, pc, p), (qa, qc, q), s) (by rw [List.getElem?_eq_getElem hkd, ← ht])
        obtain ⟨hgp, hpl⟩ := hqb k _ _ _ hps
        have hge : (ds.map fun t => vP t.2.1)[k]? = some (.slice qa q.length qc) := by rw [List.getElem?_map, List.getElem?_eq_getElem hkd, ← ht]; rfl
        have bq : ∀ {M M' : List Asrt}, Has M (star A2 ds) M' → Bs M (.slice qa q.length qc) q := fun hm => star_bs hmem (fun R => A2_q) hm
        have bp : ∀ {M M' : List Asrt}, Has M (star A2 ds) M' → Bs M (.slice pa p.length pc) p := fun hm => star_bs hmem (fun R => A2_p hheir) hm
        obtain ⟨hpm, hqm3, hql2, _⟩ := hheir
        dsimp only at hpm hqm3 hql2
        refine Zgt (fun F w H => (h.imp qI).someAt (by omega) H) ?_
        rintro ⟨a1, a2, rfl⟩
        refine Zgt (fun F w H => own_some (a := ha) qH (by omega) H) ?_
        rintro ⟨gh, rfl⟩
        refine Ct.o ?_
        refine Zgb ?_
        first|refine Zhg (Zaz rfl) ?_|refine Zhg (Zas rfl) ?_
        refine Zg3 ?_
        refine Ct.o ?_
        refine Zgo [(2, 2), (10, 10), (71, 112)] (by kernel_rfl) (fun j : Nat => j ≤ q.length) (fun _ => own 26 1 (.slice (some ⟨gh, 0, none⟩) qs.length hc) qs.length (ds.map fun t => vP t.2.1) :: star A2 ds :: L) (fun j => [(10, ni j)]) (fun j => q.length - j) 0 (Nat.zero_le _) qI ⟨rfl, trivial⟩ ?_
        intro j u4 hj
        refine Ct.o ?_
        refine Zgb ?_
        first|refine Zhg (Zat rfl) ?_|refine Zhg (Zar rfl) ?_
        first|refine Zhg (Zaw rfl) ?_|refine Zhg (Zar rfl) ?_
        first|refine Zhg (Zat rfl) ?_|refine Zhg (Zar rfl) ?_
        first|refine Zhg (Zl4 rfl rfl) ?_|refine Zhg (Zl1 rfl rfl) ?_
        refine Zff rfl ((Rd.own (n := qs.length) qH).at0 hkq hge) ?_
        first|refine Zhg (Zcr rfl) ?_|refine Zhg (Zct) ?_|refine Zhg (Zcu rfl) ?_
        first|refine Zhg (Zmf rfl rfl) ?_|refine Zhg (Zbn rfl rfl) ?_
        refine Zg3 ?_
        refine Ct.o ?_
        refine Zgg rfl (fun hA => ?_) (fun hA => ?_)
        · have hqv2 : q[j] = mkB k j := hqm3.at hA hA
          refine Zgt (fun F w H => (bq qH).some (by omega) H) ?_
          rintro ⟨c1, c2, rfl⟩
          by_cases hjp : j < p.length
          · have hpv2 : p[j] = mkB k j := hpm.at hjp hjp
            refine Zgt (fun F w H => (bp qH).some (by omega) H) ?_
            rintro ⟨d1, d2, rfl⟩
            refine Ct.o ?_
            refine Zij (_) [9, 29] (.q 0 (.q 1 (.q 2 (.q 4 (.q 7 (.q 8 (.r 3 (.q 5 (.r 6 (.e 9 true (.q 10 (.q 11 (.q 12 (.q 13 (.q 14 (.q 15 (.r 16 (.q 17 (.q 18 (.q 19 (.q 20 (.q 21 (.q 22 (.q 24 (.q 27 (.q 28 (.r 23 (.q 25 (.r 26 (.e 29 true (.q 30 (.q 31 (.q 32 .nil))))))))))))))))))))))))))))))))) (by kernel_rfl) (by kernel_rfl) (Imp.refl _) ?_
            first|refine Zim rfl (Zaw rfl) ?_|refine Zim rfl (Zar rfl) ?_
            first|refine Zim rfl (Zat rfl) ?_|refine Zim rfl (Zar rfl) ?_
            first|refine Zim rfl (Zl4 rfl rfl) ?_|refine Zim rfl (Zl1 rfl rfl) ?_
            first|refine Zim rfl (Zat rfl) ?_|refine Zim rfl (Zar rfl) ?_
            first|refine Zim rfl (Zat rfl) ?_|refine Zim rfl (Zar rfl) ?_
            first|refine Zim rfl (Zat rfl) ?_|refine Zim rfl (Zar rfl) ?_
            refine Zfh rfl rfl ((Rd.own (n := qs.length) qH).at0 hkq hge) ?_
            first|refine Zim rfl (Zl4 rfl rfl) ?_|refine Zim rfl (Zl1 rfl rfl) ?_
            refine Zfh rfl rfl ((bq qH).rd.at hA (getM hA)) ?_
            refine Ziq rfl ?_
            refine Zh8 rfl (by kernel_rfl) (mark_x k j (by omega) (by omega)) rfl qT ?_
            rintro _ _ ⟨rfl, rfl⟩
            refine Zg2 qA ?_
            refine Zg3 ⟨fun _ => Imp.arr qV, ?_⟩
            refine Zim rfl (Zjl rfl rfl) ?_
            refine Zi6 90 rfl (decide_eq_false ((fun hh => hh hqv2))) ?_
            first|refine Zim rfl (Zau rfl) ?_|refine Zim rfl (Zar rfl) ?_
            first|refine Zio rfl rfl ?_|refine Zip rfl rfl ?_|refine Zin rfl rfl (Zat rfl) ?_|refine Zin rfl rfl (Zar rfl) ?_
            first|refine Zio rfl rfl ?_|refine Zip rfl rfl ?_|refine Zin rfl rfl (Zaw rfl) ?_|refine Zin rfl rfl (Zar rfl) ?_
            first|refine Zio rfl rfl ?_|refine Zip rfl rfl ?_|refine Zin rfl rfl (Zat rfl) ?_|refine Zin rfl rfl (Zar rfl) ?_
            first|refine Zio rfl rfl ?_|refine Zip rfl rfl ?_|refine Zin rfl rfl (Zl4 rfl rfl) ?_|refine Zin rfl rfl (Zl1 rfl rfl) ?_
            first|refine Zi1 rfl rfl ?_|refine Zi2 rfl rfl ?_|refine Zfi rfl rfl rfl ((h.imp qI).at (by omega) hgp) ?_
            first|refine Zio rfl rfl ?_|refine Zip rfl rfl ?_|refine Zin rfl rfl (Zcr rfl) ?_|refine Zin rfl rfl (Zct) ?_|refine Zin rfl rfl (Zcu rfl) ?_
            first|refine Zio rfl rfl ?_|refine Zip rfl rfl ?_|refine Zin rfl rfl (Zmf rfl rfl) ?_|refine Zin rfl rfl (Zbn rfl rfl) ?_
            refine Zi5 98 rfl (decide_eq_true (hjp)) ?_
            first|refine Zio rfl rfl ?_|refine Zip rfl rfl ?_|refine Zin rfl rfl (Zau rfl) ?_|refine Zin rfl rfl (Zar rfl) ?_
            first|refine Zio rfl rfl ?_|refine Zip rfl rfl ?_|refine Zin rfl rfl (Zaw rfl) ?_|refine Zin rfl rfl (Zar rfl) ?_
            first|refine Zio rfl rfl ?_|refine Zip rfl rfl ?_|refine Zin rfl rfl (Zat rfl) ?_|refine Zin rfl rfl (Zar rfl) ?_
            first|refine Zio rfl rfl ?_|refine Zip rfl rfl ?_|refine Zin rfl rfl (Zl4 rfl rfl) ?_|refine Zin rfl rfl (Zl1 rfl rfl) ?_
            first|refine Zio rfl rfl ?_|refine Zip rfl rfl ?_|refine Zin rfl rfl (Zat rfl) ?_|refine Zin rfl rfl (Zar rfl) ?_
            first|refine Zio rfl rfl ?_|refine Zip rfl rfl ?_|refine Zin rfl rfl (Zat rfl) ?_|refine Zin rfl rfl (Zar rfl) ?_
            first|refine Zio rfl rfl ?_|refine Zip rfl rfl ?_|refine Zin rfl rfl (Zat rfl) ?_|refine Zin rfl rfl (Zar rfl) ?_
            first|refine Zi1 rfl rfl ?_|refine Zi2 rfl rfl ?_|refine Zfi rfl rfl rfl ((h.imp qI).at (by omega) hgp) ?_
            first|refine Zio rfl rfl ?_|refine Zip rfl rfl ?_|refine Zin rfl rfl (Zl4 rfl rfl) ?_|refine Zin rfl rfl (Zl1 rfl rfl) ?_
            first|refine Zi1 rfl rfl ?_|refine Zi2 rfl rfl ?_|refine Zfi rfl rfl rfl ((bp qH).rd.at hjp (getM hjp)) ?_
            refine Ziq rfl ?_
            first|refine Zhi rfl ?_|refine Zhj rfl ?_|(refine Zhh rfl ?_; (refine Zh8 rfl (by kernel_rfl) (mark_x k j (by omega) (by omega)) rfl qT ?_); (rintro _ _ ⟨rfl, rfl⟩); (refine Zg2 qA ?_))
            refine Zg3 ⟨fun _ => Imp.arr qV, ?_⟩
            first|refine Zio rfl rfl ?_|refine Zip rfl rfl ?_|refine Zin rfl rfl (Zjl rfl rfl) ?_
            refine Zi6 110 rfl (decide_eq_false ((fun hh => hh hpv2))) ?_
            first|refine Zio rfl rfl ?_|refine Zip rfl rfl ?_|refine Zin rfl rfl (Zdz rfl rfl) ?_|refine Zin rfl rfl (Zd0 rfl rfl) ?_|refine Zin rfl rfl (Za8 rfl rfl) ?_|refine Zin rfl rfl (Za9 rfl rfl) ?_|refine Zin rfl rfl (Za6 rfl rfl) ?_|refine Zin rfl rfl (Za7 rfl rfl) ?_
            first|refine Zim rfl (Zdz rfl rfl) ?_|refine Zim rfl (Zd0 rfl rfl) ?_|refine Zim rfl (Za8 rfl rfl) ?_|refine Zim rfl (Za9 rfl rfl) ?_|refine Zim rfl (Za6 rfl rfl) ?_|refine Zim rfl (Za7 rfl rfl) ?_
            refine Zik ?_
            refine Ct.o ?_
            refine Zgf rfl ?_
            refine Ct.o ?_
            refine Zgb ?_
            first|refine Zhg (Zat rfl) ?_|refine Zhg (Zar rfl) ?_
            first|refine Zhg (Zma (b := 1) rfl rfl) ?_|refine Zhg (Zbg rfl rfl) ?_
            first|refine Zhg (Zaz rfl) ?_|refine Zhg (Zas rfl) ?_
            refine Zg3 ?_
            refine Ct.o ?_
            exact Zgl (j + 1) qO (by omega) qI ⟨rfl, trivial⟩
          · refine Ct.o ?_
            refine Zij (_) [9, 29] (.q 0 (.q 1 (.q 2 (.q 4 (.q 7 (.q 8 (.r 3 (.q 5 (.r 6 (.e 9 true (.q 10 (.q 11 (.q 12 (.q 13 (.q 14 (.q 15 (.r 16 (.q 17 (.q 18 (.q 19 (.q 20 (.q 21 (.q 22 (.q 24 (.q 27 (.q 28 (.r 23 (.q 25 (.r 26 (.e 29 true (.q 30 (.q 31 (.q 32 .nil))))))))))))))))))))))))))))))))) (by kernel_rfl) (by kernel_rfl) (Imp.refl _) ?_
            first|refine Zim rfl (Zaw rfl) ?_|refine Zim rfl (Zar rfl) ?_
            first|refine Zim rfl (Zat rfl) ?_|refine Zim rfl (Zar rfl) ?_
            first|refine Zim rfl (Zl4 rfl rfl) ?_|refine Zim rfl (Zl1 rfl rfl) ?_
            first|refine Zim rfl (Zat rfl) ?_|refine Zim rfl (Zar rfl) ?_
            first|refine Zim rfl (Zat rfl) ?_|refine Zim rfl (Zar rfl) ?_
            first|refine Zim rfl (Zat rfl) ?_|refine Zim rfl (Zar rfl) ?_
            refine Zfh rfl rfl ((Rd.own (n := qs.length) qH).at0 hkq hge) ?_
            first|refine Zim rfl (Zl4 rfl rfl) ?_|refine Zim rfl (Zl1 rfl rfl) ?_
            refine Zfh rfl rfl ((bq qH).rd.at hA (getM hA)) ?_
            refine Ziq rfl ?_
            refine Zh8 rfl (by kernel_rfl) (mark_x k j (by omega) (by omega)) rfl qT ?_
            rintro _ _ ⟨rfl, rfl⟩
            refine Zg2 qA ?_
            refine Zg3 ⟨fun _ => Imp.arr qV, ?_⟩
            refine Zim rfl (Zjl rfl rfl) ?_
            refine Zi6 90 rfl (decide_eq_false ((fun hh => hh hqv2))) ?_
            first|refine Zim rfl (Zau rfl) ?_|refine Zim rfl (Zar rfl) ?_
            first|refine Zio rfl rfl ?_|refine Zip rfl rfl ?_|refine Zin rfl rfl (Zat rfl) ?_|refine Zin rfl rfl (Zar rfl) ?_
            first|refine Zio rfl rfl ?_|refine Zip rfl rfl ?_|refine Zin rfl rfl (Zaw rfl) ?_|refine Zin rfl rfl (Zar rfl) ?_
            first|refine Zio rfl rfl ?_|refine Zip rfl rfl ?_|refine Zin rfl rfl (Zat rfl) ?_|refine Zin rfl rfl (Zar rfl) ?_
            first|refine Zio rfl rfl ?_|refine Zip rfl rfl ?_|refine Zin rfl rfl (Zl4 rfl rfl) ?_|refine Zin rfl rfl (Zl1 rfl rfl) ?_
            first|refine Zi1 rfl rfl ?_|refine Zi2 rfl rfl ?_|refine Zfi rfl rfl rfl ((h.imp qI).at (by omega) hgp) ?_
            first|refine Zio rfl rfl ?_|refine Zip rfl rfl ?_|refine Zin rfl rfl (Zcr rfl) ?_|refine Zin rfl rfl (Zct) ?_|refine Zin rfl rfl (Zcu rfl) ?_
            first|refine Zio rfl rfl ?_|refine Zip rfl rfl ?_|refine Zin rfl rfl (Zmf rfl rfl) ?_|refine Zin rfl rfl (Zbn rfl rfl) ?_
            refine Zi6 98 rfl (decide_eq_false (hjp)) ?_
            first|refine Zio rfl rfl ?_|refine Zip rfl rfl ?_|refine Zin rfl rfl (Zau rfl) ?_|refine Zin rfl rfl (Zar rfl) ?_
            first|refine Zio rfl rfl ?_|refine Zip rfl rfl ?_|refine Zin rfl rfl (Zaw rfl) ?_|refine Zin rfl rfl (Zar rfl) ?_
            first|refine Zio rfl rfl ?_|refine Zip rfl rfl ?_|refine Zin rfl rfl (Zat rfl) ?_|refine Zin rfl rfl (Zar rfl) ?_
            first|refine Zio rfl rfl ?_|refine Zip rfl rfl ?_|refine Zin rfl rfl (Zl4 rfl rfl) ?_|refine Zin rfl rfl (Zl1 rfl rfl) ?_
            first|refine Zio rfl rfl ?_|refine Zip rfl rfl ?_|refine Zin rfl rfl (Zat rfl) ?_|refine Zin rfl rfl (Zar rfl) ?_
            first|refine Zio rfl rfl ?_|refine Zip rfl rfl ?_|refine Zin rfl rfl (Zat rfl) ?_|refine Zin rfl rfl (Zar rfl) ?_
            first|refine Zio rfl rfl ?_|refine Zip rfl rfl ?_|refine Zin rfl rfl (Zat rfl) ?_|refine Zin rfl rfl (Zar rfl) ?_
            first|refine Zi1 rfl rfl ?_|refine Zi2 rfl rfl ?_|refine Ziw rfl rfl rfl qH rfl ?_
            first|refine Zio rfl rfl ?_|refine Zip rfl rfl ?_|refine Zin rfl rfl (Zl4 rfl rfl) ?_|refine Zin rfl rfl (Zl1 rfl rfl) ?_
            first|refine Zi1 rfl rfl ?_|refine Zi2 rfl rfl ?_|refine Ziw rfl rfl rfl qH rfl ?_
            refine Ziq rfl ?_
            first|refine Zhi rfl ?_|refine Zhj rfl ?_|(refine Zhh rfl ?_; (refine Zh8 rfl (by kernel_rfl) (mark_x k j (by omega) (by omega)) rfl qT ?_); (rintro _ _ ⟨rfl, rfl⟩); (refine Zg2 qA ?_))
            refine Zg3 ⟨fun _ => Imp.arr qV, ?_⟩
            first|refine Zio rfl rfl ?_|refine Zip rfl rfl ?_|refine Zin rfl rfl (Zjl rfl rfl) ?_
            first|refine Zio rfl rfl ?_|refine Zip rfl rfl ?_|refine Zin rfl rfl (Zdz rfl rfl) ?_|refine Zin rfl rfl (Zd0 rfl rfl) ?_|refine Zin rfl rfl (Za8 rfl rfl) ?_|refine Zin rfl rfl (Za9 rfl rfl) ?_|refine Zin rfl rfl (Za6 rfl rfl) ?_|refine Zin rfl rfl (Za7 rfl rfl) ?_
            first|refine Zim rfl (Zdz rfl rfl) ?_|refine Zim rfl (Zd0 rfl rfl) ?_|refine Zim rfl (Za8 rfl rfl) ?_|refine Zim rfl (Za9 rfl rfl) ?_|refine Zim rfl (Za6 rfl rfl) ?_|refine Zim rfl (Za7 rfl rfl) ?_
            refine Zik ?_
            refine Ct.o ?_
            refine Zgf rfl ?_
            refine Ct.o ?_
            refine Zgb ?_
            first|refine Zhg (Zat rfl) ?_|refine Zhg (Zar rfl) ?_
            first|refine Zhg (Zma (b := 1) rfl rfl) ?_|refine Zhg (Zbg rfl rfl) ?_
            first|refine Zhg (Zaz rfl) ?_|refine Zhg (Zas rfl) ?_
            refine Zg3 ?_
            refine Ct.o ?_
            exact Zgl (j + 1) qO (by omega) qI ⟨rfl, trivial⟩
        · refine Ct.o ?_
          refine Zgb ?_
          first|refine Zhg (Zat rfl) ?_|refine Zhg (Zar rfl) ?_
          first|refine Zhg (Zma (b := 1) rfl rfl) ?_|refine Zhg (Zbg rfl rfl) ?_
          first|refine Zhg (Zaz rfl) ?_|refine Zhg (Zas rfl) ?_
          refine Zg3 ?_
          refine Ct.o ?_
          exact Zgl (k + 1) qO (by omega) qI ⟨rfl, trivial⟩
      · refine Ct.o ?_
        refine Zgb ?_
        first|refine Zhg (Za0 rfl) ?_|refine Zhg (Zas rfl) ?_
        refine Zg3 ?_
        refine Ct.o ?_
        refine rx1 (Zha rfl (Zg7)) ?_
        exact ⟨_, ⟨rfl, rfl⟩, qI⟩
end Go.Sl

/- trystlaw07: SealSeals, walked. -/
set_option maxHeartbeats 4000000
set_option maxRecDepth 10000
set_option linter.unusedVariables false
set_option linter.unusedSimpArgs false
namespace Go.Sl
open Go Go.Proofs
attribute [local irreducible] cl pt own old pur ex all den denOps denS xOps xC cX CX xthen xblk xcut xloop xgo xng retX resX Calls PV Rd Con
attribute [local irreducible] code blockB ksB xorB vouchB leB sealB textB rightB ccl sealR
theorem sealR_len (key nonce more text : List Byte) : (sealR key nonce more text).1.length ≤ 1048592 := by
  unfold sealR
  split
  · simp
  · dsimp only; rw [sealB_len]; omega
/-- A text whose bytes are turned up to a place. -/
def flB (l : List Byte) (i : Nat) : List Byte := (l.take i).map (· ^^^ 49#8) ++ l.drop i
theorem flB_len (l : List Byte) (i : Nat) : (flB l i).length = l.length := by simp [flB]; omega
theorem flB_zero (l : List Byte) : flB l 0 = l := by simp [flB]
theorem flB_at (l : List Byte) (i : Nat) (h : i < l.length) : (flB l i)[i]? = some l[i] := by
  unfold flB
  rw [List.getElem?_append_right (by simp; omega), List.length_map, List.length_take, Nat.min_eq_left (by omega), Nat.sub_self, List.getElem?_drop, Nat.add_zero, List.getElem?_eq_getElem h]
theorem flB_set (l : List Byte) (i : Nat) (h : i < l.length) : (flB l i).set i (l[i] ^^^ 49#8) = flB l (i + 1) := by
  unfold flB
  rw [List.set_append_right _ _ (by simp; omega), List.length_map, List.length_take, Nat.min_eq_left (by omega), Nat.sub_self, List.drop_eq_getElem_cons h, List.set_cons_zero, List.take_succ_eq_append_getElem h, List.map_append, List.append_assoc]; rfl
theorem bs_front {M M' : List Asrt} {g n c E : Nat} {l t : List Byte} (hm : Has M (cl g ((l ++ t).map u8b).toArray E) M') (hn : l.length = n) (hc : n ≤ c) (hcm : c ≤ 9223372036854775807) : Bs M (.slice (some ⟨g, 0, none⟩) n c) l := by
  subst hn
  exact Bs.cl (o := 0) hm (by simp) (by
    simp only [Array.toList_extract, List.extract_eq_take_drop]
    rw [Nat.zero_add, Nat.sub_zero, List.drop_zero, ← List.map_take, List.take_append_of_le_length (Nat.le_refl _), List.take_length]) hc hcm
attribute [local irreducible] flB
theorem seals_g {L : List Asrt} (key nonce : List Byte) (hk : key.length = 32) (hn : nonce.length = 12) {vm vt : Value} {more text : List Byte} (hma : Bs L vm more) (hta : Bs L vt text) (hml : more.length ≤ 140737488351232) (htl : text.length ≤ 140737488351232) :
    Con Try.prog 3 [.agg (ccl key nonce vm vt).toArray] L (fun r M => r = .bool true ∧ L = M) := by
  refine Con.get (fun w0 w F H => hma.sh _ _ _ H) ?_
  rintro ⟨ma, mc, rfl, hmc1, hmc2⟩
  refine Con.get (fun w0 w F H => hta.sh _ _ _ H) ?_
  rintro ⟨ta, tc, rfl, htc1, htc2⟩
  have hlen := ccl_len (v2 := .slice ma more.length mc) (v3 := .slice ta text.length tc) hk hn
  have c0 := ccl_key (v2 := .slice ma more.length mc) (v3 := .slice ta text.length tc) hk hn
  have c1 := ccl_nonce (v2 := .slice ma more.length mc) (v3 := .slice ta text.length tc) hk hn
  have c2 := ccl_2 (v2 := .slice ma more.length mc) (v3 := .slice ta text.length tc) hk hn
  have c3 := ccl_3 (v2 := .slice ma more.length mc) (v3 := .slice ta text.length tc) hk hn
  refine fn_x Try.func3 rfl rfl rfl Try.mixed (by kernel_rfl) ?_
  intro w0
  refine Ct.o ?_
  refine Zgb ?_
  refine Zh5 rfl ?_; intro b1
  first|refine Zhg (Za0 rfl) ?_|refine Zhg (Zas rfl) ?_
  refine Zg3 ?_
  refine Ct.o ?_
  refine Zgb ?_
  first|refine Zhg (Zl8 rfl) ?_|refine Zhg (Zce rfl) ?_
  refine Zhp rfl qH (c2) ?_
  refine Zh8 rfl (by kernel_rfl) (spare_x (L := L) hma (by omega)) rfl qT ?_
  rintro _ _ ⟨gm, rfl, rfl⟩
  refine Zg2 qA ?_
  first|refine Zhg (Za2 rfl) ?_|refine Zhg (Zas rfl) ?_
  refine Zg3 ?_
  refine Ct.o ?_
  refine Zgb ?_
  first|refine Zhg (Zl8 rfl) ?_|refine Zhg (Zce rfl) ?_
  refine Zhp rfl qH (c3) ?_
  refine Zh8 rfl (by kernel_rfl) (spare_x (L := L) hta (by omega)) rfl qT ?_
  rintro _ _ ⟨gt, rfl, rfl⟩
  refine Zg2 qA ?_
  first|refine Zhg (Za2 rfl) ?_|refine Zhg (Zas rfl) ?_
  refine Zg3 ?_
  refine Ct.o ?_
  have hsp : spareL text = text ++ (spareL text).drop text.length := by
    conv => lhs; rw [← List.take_append_drop text.length (spareL text), spareL_take]
  have htail : ((spareL text).drop text.length).length = 80 := by rw [List.length_drop, spareL_len]; omega
  have hs3 := sealRef_x (L := L) key nonce hk hn hma hta
  have hs4 := seal_x (L := [cl gm ((spareL more).map u8b).toArray 5, cl gt ((spareL text).map u8b).toArray 5]) key nonce hk hn (bs_spare .here (by omega)) (bs_spare (.there .here) (by omega)) (by omega) (by omega)
  have hRl := sealR_len key nonce more text
  generalize sealR key nonce more text = R at hs3 hs4 hRl
  obtain ⟨S, e⟩ := R
  dsimp only at hs3 hs4 hRl
  refine Ct.o ?_
  refine Zgb ?_
  first|refine Zhg (Zl8 rfl) ?_|refine Zhg (Zce rfl) ?_
  refine Zhq (n := 32) rfl qH qZ (c0) ?_
  first|refine Zhg (Zl8 rfl) ?_|refine Zhg (Zce rfl) ?_
  refine Zhq (n := 12) rfl qH qZ (c1) ?_
  first|refine Zhg (Zl8 rfl) ?_|refine Zhg (Zce rfl) ?_
  refine Zhp rfl qH (c2) ?_
  first|refine Zhg (Zl8 rfl) ?_|refine Zhg (Zce rfl) ?_
  refine Zhp rfl qH (c3) ?_
  refine Zh8 rfl (by kernel_rfl) (hs3) rfl qT ?_
  rintro _ _ ⟨ra, rc, rfl, rfl⟩
  refine Zg2 qA ?_
  first|refine Zhg (Zmm rfl) ?_|refine Zhg (Zar rfl) ?_
  refine Zhg (Zco rfl rfl) ?_
  refine Zhg (Zco rfl rfl) ?_
  first|refine Zhg (Za2 rfl) ?_|refine Zhg (Zas rfl) ?_
  first|refine Zhg (Zaz rfl) ?_|refine Zhg (Zas rfl) ?_
  refine Zg3 ?_
  refine Ct.o ?_
  refine Zgb ?_
  first|refine Zhg (Zl8 rfl) ?_|refine Zhg (Zce rfl) ?_
  refine Zhq (n := 32) rfl qH qZ (c0) ?_
  first|refine Zhg (Zl8 rfl) ?_|refine Zhg (Zce rfl) ?_
  refine Zhq (n := 12) rfl qH qZ (c1) ?_
  first|refine Zhg (Zaw rfl) ?_|refine Zhg (Zar rfl) ?_
  first|refine Zhg (Zaw rfl) ?_|refine Zhg (Zar rfl) ?_
  refine Zh8 rfl (by kernel_rfl) (hs4) rfl qT ?_
  rintro _ _ ⟨sa, sc, rfl, rfl⟩
  refine Zg2 qA ?_
  first|refine Zhg (Zmm rfl) ?_|refine Zhg (Zar rfl) ?_
  refine Zhg (Zco rfl rfl) ?_
  refine Zhg (Zco rfl rfl) ?_
  first|refine Zhg (Za2 rfl) ?_|refine Zhg (Zas rfl) ?_
  first|refine Zhg (Zaz rfl) ?_|refine Zhg (Zas rfl) ?_
  refine Zg3 ?_
  refine Ct.o ?_
  refine Zgb ?_
  first|refine Zhg (Zl8 rfl) ?_|refine Zhg (Zce rfl) ?_
  refine Zhq (n := 32) rfl qH qZ (c0) ?_
  first|refine Zhg (Zl8 rfl) ?_|refine Zhg (Zce rfl) ?_
  refine Zhq (n := 12) rfl qH qZ (c1) ?_
  first|refine Zhg (Zaw rfl) ?_|refine Zhg (Zar rfl) ?_
  first|refine Zhg (Zaw rfl) ?_|refine Zhg (Zar rfl) ?_
  refine Zh8 rfl (by kernel_rfl) (hs4) rfl qT ?_
  rintro _ _ ⟨ua, uc, rfl, rfl⟩
  refine Zg2 qA ?_
  first|refine Zhg (Zmm rfl) ?_|refine Zhg (Zar rfl) ?_
  refine Zhg (Zco rfl rfl) ?_
  refine Zhg (Zco rfl rfl) ?_
  first|refine Zhg (Za2 rfl) ?_|refine Zhg (Zas rfl) ?_
  first|refine Zhg (Zaz rfl) ?_|refine Zhg (Zas rfl) ?_
  refine Zg3 ?_
  refine Ct.o ?_
  have ebA := eqBytes_x (L := [own 5 1 (.slice sa S.length sc) S.length (S.map u8b), own 5 1 (.slice ra S.length rc) S.length (S.map u8b)]) (a := S) (b := S) (Bs.own .here) (Bs.own (.there .here))
  have ebB := eqBytes_x (L := [own 5 1 (.slice ua S.length uc) S.length (S.map u8b), own 5 1 (.slice ra S.length rc) S.length (S.map u8b)]) (a := S) (b := S) (Bs.own .here) (Bs.own (.there .here))
  refine Ct.o ?_
  refine Zgb ?_
  first|refine Zhg (Zat rfl) ?_|refine Zhg (Zar rfl) ?_
  first|refine Zhg (Zat rfl) ?_|refine Zhg (Zar rfl) ?_
  first|refine Zhg (Zmk rfl rfl) ?_|refine Zhg (Zbs rfl rfl) ?_
  refine Zhn 56 rfl (decide_eq_false ((fun h => h rfl))) ?_
  first|refine Zhg (Zau rfl) ?_|refine Zhg (Zar rfl) ?_
  first|refine Zhi rfl ?_|refine Zhj rfl ?_|(refine Zhh rfl ?_; (first|refine Zhg (Zat rfl) ?_|refine Zhg (Zar rfl) ?_))
  first|refine Zhi rfl ?_|refine Zhj rfl ?_|(refine Zhh rfl ?_; (first|refine Zhg (Zat rfl) ?_|refine Zhg (Zar rfl) ?_))
  first|refine Zhi rfl ?_|refine Zhj rfl ?_|(refine Zhh rfl ?_; (first|refine Zhg (Zmk rfl rfl) ?_|refine Zhg (Zbs rfl rfl) ?_))
  refine Zhn 60 rfl (decide_eq_false ((fun h => h rfl))) ?_
  first|refine Zhg (Zdz rfl rfl) ?_|refine Zhg (Zd0 rfl rfl) ?_|refine Zhg (Za8 rfl rfl) ?_|refine Zhg (Za9 rfl rfl) ?_|refine Zhg (Za6 rfl rfl) ?_|refine Zhg (Za7 rfl rfl) ?_
  first|refine Zhg (Zau rfl) ?_|refine Zhg (Zar rfl) ?_
  first|refine Zhi rfl ?_|refine Zhj rfl ?_|(refine Zhh rfl ?_; (first|refine Zhg (Zaw rfl) ?_|refine Zhg (Zar rfl) ?_))
  first|refine Zhi rfl ?_|refine Zhj rfl ?_|(refine Zhh rfl ?_; (first|refine Zhg (Zaw rfl) ?_|refine Zhg (Zar rfl) ?_))
  first|refine Zhi rfl ?_|refine Zhj rfl ?_|(refine Zhh rfl ?_; (refine Zh8 rfl (by kernel_rfl) (ebA) rfl qT ?_); (rintro _ _ ⟨rfl, rfl⟩); (refine Zg2 qA ?_))
  refine Zhm 65 rfl (decide_eq_true (rfl)) ?_
  first|refine Zhi rfl ?_|refine Zhj rfl ?_|(refine Zhh rfl ?_; (first|refine Zhg (Zb1 rfl) ?_|refine Zhg (Zb0 rfl) ?_))
  refine Zhn 66 rfl (rfl) ?_
  first|refine Zhg (Zdz rfl rfl) ?_|refine Zhg (Zd0 rfl rfl) ?_|refine Zhg (Za8 rfl rfl) ?_|refine Zhg (Za9 rfl rfl) ?_|refine Zhg (Za6 rfl rfl) ?_|refine Zhg (Za7 rfl rfl) ?_
  first|refine Zhg (Zau rfl) ?_|refine Zhg (Zar rfl) ?_
  first|refine Zhi rfl ?_|refine Zhj rfl ?_|(refine Zhh rfl ?_; (first|refine Zhg (Zaw rfl) ?_|refine Zhg (Zar rfl) ?_))
  first|refine Zhi rfl ?_|refine Zhj rfl ?_|(refine Zhh rfl ?_; (first|refine Zhg (Zaw rfl) ?_|refine Zhg (Zar rfl) ?_))
  first|refine Zhi rfl ?_|refine Zhj rfl ?_|(refine Zhh rfl ?_; (refine Zh8 rfl (by kernel_rfl) (ebB) rfl qT ?_); (rintro _ _ ⟨rfl, rfl⟩); (refine Zg2 qA ?_))
  refine Zhm 71 rfl (decide_eq_true (rfl)) ?_
  first|refine Zhi rfl ?_|refine Zhj rfl ?_|(refine Zhh rfl ?_; (first|refine Zhg (Zb1 rfl) ?_|refine Zhg (Zb0 rfl) ?_))
  refine Zhn 72 rfl (rfl) ?_
  first|refine Zhg (Zdz rfl rfl) ?_|refine Zhg (Zd0 rfl rfl) ?_|refine Zhg (Za8 rfl rfl) ?_|refine Zhg (Za9 rfl rfl) ?_|refine Zhg (Za6 rfl rfl) ?_|refine Zhg (Za7 rfl rfl) ?_
  first|refine Zhg (Zau rfl) ?_|refine Zhg (Zar rfl) ?_
  first|refine Zhi rfl ?_|refine Zhj rfl ?_|(refine Zhh rfl ?_; (first|refine Zhg (Zaw rfl) ?_|refine Zhg (Zar rfl) ?_))
  first|refine Zhi rfl ?_|refine Zhj rfl ?_|(refine Zhh rfl ?_; (first|refine Zhg (Zl8 rfl) ?_|refine Zhg (Zce rfl) ?_))
  first|refine Zhi rfl ?_|refine Zhj rfl ?_|(refine Zhh rfl ?_; (refine Zhp rfl qH (c2) ?_))
  first|refine Zhi rfl ?_|refine Zhj rfl ?_|(refine Zhh rfl ?_; (refine Zh8 rfl (by kernel_rfl) (kept_x (L := (cl gm ((spareL more).map u8b).toArray 5 :: L)) .here (hma.imp Imp.tail) (by omega)) rfl qT ?_); (rintro _ _ ⟨rfl, rfl⟩); (refine Zg2 qA ?_))
  first|refine Zhi rfl ?_|refine Zhj rfl ?_|(refine Zhh rfl ?_; (first|refine Zhg (Zb1 rfl) ?_|refine Zhg (Zb0 rfl) ?_))
  refine Zhn 79 rfl (rfl) ?_
  first|refine Zhg (Zdz rfl rfl) ?_|refine Zhg (Zd0 rfl rfl) ?_|refine Zhg (Za8 rfl rfl) ?_|refine Zhg (Za9 rfl rfl) ?_|refine Zhg (Za6 rfl rfl) ?_|refine Zhg (Za7 rfl rfl) ?_
  first|refine Zhg (Zau rfl) ?_|refine Zhg (Zar rfl) ?_
  first|refine Zhi rfl ?_|refine Zhj rfl ?_|(refine Zhh rfl ?_; (first|refine Zhg (Zaw rfl) ?_|refine Zhg (Zar rfl) ?_))
  first|refine Zhi rfl ?_|refine Zhj rfl ?_|(refine Zhh rfl ?_; (first|refine Zhg (Zl8 rfl) ?_|refine Zhg (Zce rfl) ?_))
  first|refine Zhi rfl ?_|refine Zhj rfl ?_|(refine Zhh rfl ?_; (refine Zhp rfl qH (c3) ?_))
  first|refine Zhi rfl ?_|refine Zhj rfl ?_|(refine Zhh rfl ?_; (refine Zh8 rfl (by kernel_rfl) (kept_x (L := (cl gt ((spareL text).map u8b).toArray 5 :: L)) .here (hta.imp Imp.tail) (by omega)) rfl qT ?_); (rintro _ _ ⟨rfl, rfl⟩); (refine Zg2 qA ?_))
  first|refine Zhi rfl ?_|refine Zhj rfl ?_|(refine Zhh rfl ?_; (first|refine Zhg (Zb1 rfl) ?_|refine Zhg (Zb0 rfl) ?_))
  refine Zhn 86 rfl (rfl) ?_
  first|refine Zhg (Zdz rfl rfl) ?_|refine Zhg (Zd0 rfl rfl) ?_|refine Zhg (Za8 rfl rfl) ?_|refine Zhg (Za9 rfl rfl) ?_|refine Zhg (Za6 rfl rfl) ?_|refine Zhg (Za7 rfl rfl) ?_
  refine Zg3 ?_
  refine Ct.o ?_
  refine Zgf rfl ?_
  refine Ct.o ?_
  refine Zgb ?_
  first|refine Zhg (Zl8 rfl) ?_|refine Zhg (Zce rfl) ?_
  refine Zhp rfl qH (c3) ?_
  refine Zh8 rfl (by kernel_rfl) (copyBytes_x (L := L) hta (by omega)) rfl qT ?_
  rintro _ _ ⟨ca, cc, rfl, rfl⟩
  refine Zg2 qA ?_
  first|refine Zhg (Za2 rfl) ?_|refine Zhg (Zas rfl) ?_
  refine Zg3 ?_
  refine Ct.o ?_
  refine Zgb ?_
  first|refine Zhg (Zaz rfl) ?_|refine Zhg (Zas rfl) ?_
  refine Zg3 ?_
  refine Ct.o ?_
  rw [hsp]
  generalize (spareL text).drop text.length = tl at htail
  refine Zgo [(12, 12), (91, 112)] (by kernel_rfl) (fun i : Nat => i ≤ text.length) (fun i => cl gt ((flB text i ++ tl).map u8b).toArray 5 :: own 5 1 (.slice ca text.length cc) text.length ((flB text i).map u8b) :: own 5 1 (.slice sa S.length sc) S.length (S.map u8b) :: own 5 1 (.slice ua S.length uc) S.length (S.map u8b) :: own 5 1 (.slice ra S.length rc) S.length (S.map u8b) :: cl gm ((spareL more).map u8b).toArray 5 :: cl b1 (ccl key nonce (.slice ma more.length mc) (.slice ta text.length tc)).toArray 28 :: L)
    (fun i => [(12, nvv i)]) (fun i => text.length - i) 0 (Nat.zero_le _) (by rw [flB_zero]; exact qI) ⟨rfl, trivial⟩ ?_
  intro i u hi
  have hfl := flB_len text i
  refine Ct.o ?_
  refine Zgb ?_
  first|refine Zhg (Zat rfl) ?_|refine Zhg (Zar rfl) ?_
  first|refine Zhg (Zaw rfl) ?_|refine Zhg (Zar rfl) ?_
  first|refine Zhg (Zcr rfl) ?_|refine Zhg (Zct) ?_|refine Zhg (Zcu rfl) ?_
  first|refine Zhg (Zmf rfl rfl) ?_|refine Zhg (Zbn rfl rfl) ?_
  refine Zg3 ?_
  refine Ct.o ?_
  refine Zgg rfl (fun hB => ?_) (fun hB => ?_)
  · have hfa := flB_at text i hB
    have hg : (((flB text i ++ tl).map u8b).toArray)[i]? = some (u8b text[i]) := by
      rw [List.getElem?_toArray, List.getElem?_map, List.getElem?_append_left (by omega), hfa]; rfl
    have hg2 : ((flB text i).map u8b)[i]? = some (u8b text[i]) := by rw [List.getElem?_map, hfa]; rfl
    have hst : (flB text i ++ tl).set i (text[i] ^^^ 49#8) = flB text (i + 1) ++ tl := by rw [List.set_append_left _ _ (by omega), flB_set text i hB]
    refine Zgt (fun F w H => own_some (a := ca) qH (by omega) H) ?_
    rintro ⟨gc, rfl⟩
    refine Ct.o ?_
    refine Zgb ?_
    first|refine Zhg (Zaw rfl) ?_|refine Zhg (Zar rfl) ?_
    first|refine Zhg (Zat rfl) ?_|refine Zhg (Zar rfl) ?_
    first|refine Zhg (Zaw rfl) ?_|refine Zhg (Zar rfl) ?_
    first|refine Zhg (Zat rfl) ?_|refine Zhg (Zar rfl) ?_
    first|refine Zhg (Zl4 rfl rfl) ?_|refine Zhg (Zl1 rfl rfl) ?_
    refine Zhp rfl qH (hg) ?_
    refine Zhg (Zje (y := 49#8) rfl rfl) ?_
    first|refine Zhg (Zl4 rfl rfl) ?_|refine Zhg (Zl1 rfl rfl) ?_
    refine Zht rfl rfl qR qZ (setL (f := u8b)) ?_
    refine Zg3 ?_
    refine Ct.o ?_
    rw [hst]
    refine Ct.o ?_
    refine Zgb ?_
    first|refine Zhg (Zaw rfl) ?_|refine Zhg (Zar rfl) ?_
    first|refine Zhg (Zat rfl) ?_|refine Zhg (Zar rfl) ?_
    first|refine Zhg (Zaw rfl) ?_|refine Zhg (Zar rfl) ?_
    first|refine Zhg (Zat rfl) ?_|refine Zhg (Zar rfl) ?_
    first|refine Zhg (Zl4 rfl rfl) ?_|refine Zhg (Zl1 rfl rfl) ?_
    refine Zff rfl (((Rd.own (n := text.length) qH).at0 hB hg2)) ?_
    refine Zhg (Zje (y := 49#8) rfl rfl) ?_
    first|refine Zhg (Zl4 rfl rfl) ?_|refine Zhg (Zl1 rfl rfl) ?_
    refine Zm7 (u := u8b (text[i] ^^^ 49#8)) (i := i) (xs := (flB text i).map u8b) (ys := ((flB text i).set i (text[i] ^^^ 49#8)).map u8b) rfl rfl rfl qR hB (by rw [List.map_set]) ?_
    refine Zg3 ?_
    refine Ct.o ?_
    rw [flB_set text i hB]
    refine Ct.o ?_
    refine Zgb ?_
    first|refine Zhg (Zat rfl) ?_|refine Zhg (Zar rfl) ?_
    first|refine Zhg (Zma (b := 1) rfl rfl) ?_|refine Zhg (Zbg rfl rfl) ?_
    first|refine Zhg (Zaz rfl) ?_|refine Zhg (Zas rfl) ?_
    refine Zg3 ?_
    refine Ct.o ?_
    exact Zgl (i + 1) qO (by omega) qI ⟨rfl, trivial⟩
  · have hie : i = text.length := by omega
    rw [hie] at hfl ⊢
    generalize flB text text.length = T at hfl
    have hs3 := sealRef_x (L := (own 5 1 (.slice ca text.length cc) text.length (T.map u8b) :: L)) key nonce hk hn (hma.imp Imp.tail) (bs_own .here hfl)
    have hs4 := seal_x (L := [cl gm ((spareL more).map u8b).toArray 5, cl gt ((T ++ tl).map u8b).toArray 5]) key nonce hk hn (bs_spare .here (by omega)) (bs_front (c := text.length + 80) (.there .here) hfl (by omega) (by omega)) (by omega) (by omega)
    have hR2 := sealR_len key nonce more T
    generalize sealR key nonce more T = R2 at hs3 hs4 hR2
    obtain ⟨S2, e2⟩ := R2
    dsimp only at hs3 hs4 hR2
    refine Ct.o ?_
    refine Zgb ?_
    first|refine Zhg (Zl8 rfl) ?_|refine Zhg (Zce rfl) ?_
    refine Zhq (n := 32) rfl qH qZ (c0) ?_
    first|refine Zhg (Zl8 rfl) ?_|refine Zhg (Zce rfl) ?_
    refine Zhq (n := 12) rfl qH qZ (c1) ?_
    first|refine Zhg (Zl8 rfl) ?_|refine Zhg (Zce rfl) ?_
    refine Zhp rfl qH (c2) ?_
    first|refine Zhg (Zaw rfl) ?_|refine Zhg (Zar rfl) ?_
    refine Zh8 rfl (by kernel_rfl) (hs3) rfl qT ?_
    rintro _ _ ⟨qa, qc, rfl, rfl⟩
    refine Zg2 qA ?_
    first|refine Zhg (Zmm rfl) ?_|refine Zhg (Zar rfl) ?_
    refine Zhg (Zco rfl rfl) ?_
    refine Zhg (Zco rfl rfl) ?_
    first|refine Zhg (Za2 rfl) ?_|refine Zhg (Zas rfl) ?_
    first|refine Zhg (Zaz rfl) ?_|refine Zhg (Zas rfl) ?_
    refine Zg3 ?_
    refine Ct.o ?_
    refine Zgb ?_
    first|refine Zhg (Zl8 rfl) ?_|refine Zhg (Zce rfl) ?_
    refine Zhq (n := 32) rfl qH qZ (c0) ?_
    first|refine Zhg (Zl8 rfl) ?_|refine Zhg (Zce rfl) ?_
    refine Zhq (n := 12) rfl qH qZ (c1) ?_
    first|refine Zhg (Zaw rfl) ?_|refine Zhg (Zar rfl) ?_
    first|refine Zhg (Zaw rfl) ?_|refine Zhg (Zar rfl) ?_
    refine Zh8 rfl (by kernel_rfl) (hs4) rfl qT ?_
    rintro _ _ ⟨wa, wc, rfl, rfl⟩
    refine Zg2 qA ?_
    first|refine Zhg (Zmm rfl) ?_|refine Zhg (Zar rfl) ?_
    refine Zhg (Zco rfl rfl) ?_
    refine Zhg (Zco rfl rfl) ?_
    first|refine Zhg (Za2 rfl) ?_|refine Zhg (Zas rfl) ?_
    first|refine Zhg (Zaz rfl) ?_|refine Zhg (Zas rfl) ?_
    refine Zg3 ?_
    refine Ct.o ?_
    have ebC := eqBytes_x (L := [own 5 1 (.slice wa S2.length wc) S2.length (S2.map u8b), own 5 1 (.slice qa S2.length qc) S2.length (S2.map u8b)]) (a := S2) (b := S2) (Bs.own .here) (Bs.own (.there .here))
    refine Ct.o ?_
    refine Zgb ?_
    first|refine Zhg (Zat rfl) ?_|refine Zhg (Zar rfl) ?_
    first|refine Zhg (Zat rfl) ?_|refine Zhg (Zar rfl) ?_
    first|refine Zhg (Zmk rfl rfl) ?_|refine Zhg (Zbs rfl rfl) ?_
    refine Zhn 136 rfl (decide_eq_false ((fun h => h rfl))) ?_
    first|refine Zhg (Zau rfl) ?_|refine Zhg (Zar rfl) ?_
    first|refine Zhi rfl ?_|refine Zhj rfl ?_|(refine Zhh rfl ?_; (first|refine Zhg (Zaw rfl) ?_|refine Zhg (Zar rfl) ?_))
    first|refine Zhi rfl ?_|refine Zhj rfl ?_|(refine Zhh rfl ?_; (first|refine Zhg (Zaw rfl) ?_|refine Zhg (Zar rfl) ?_))
    first|refine Zhi rfl ?_|refine Zhj rfl ?_|(refine Zhh rfl ?_; (refine Zh8 rfl (by kernel_rfl) (ebC) rfl qT ?_); (rintro _ _ ⟨rfl, rfl⟩); (refine Zg2 qA ?_))
    refine Zhm 140 rfl (decide_eq_true (rfl)) ?_
    first|refine Zhi rfl ?_|refine Zhj rfl ?_|(refine Zhh rfl ?_; (first|refine Zhg (Zb1 rfl) ?_|refine Zhg (Zb0 rfl) ?_))
    refine Zhn 141 rfl (rfl) ?_
    first|refine Zhg (Zdz rfl rfl) ?_|refine Zhg (Zd0 rfl rfl) ?_|refine Zhg (Za8 rfl rfl) ?_|refine Zhg (Za9 rfl rfl) ?_|refine Zhg (Za6 rfl rfl) ?_|refine Zhg (Za7 rfl rfl) ?_
    first|refine Zhg (Zau rfl) ?_|refine Zhg (Zar rfl) ?_
    first|refine Zhi rfl ?_|refine Zhj rfl ?_|(refine Zhh rfl ?_; (first|refine Zhg (Zaw rfl) ?_|refine Zhg (Zar rfl) ?_))
    first|refine Zhi rfl ?_|refine Zhj rfl ?_|(refine Zhh rfl ?_; (first|refine Zhg (Zaw rfl) ?_|refine Zhg (Zar rfl) ?_))
    first|refine Zhi rfl ?_|refine Zhj rfl ?_|(refine Zhh rfl ?_; (refine Zh8 rfl (by kernel_rfl) (ebA) rfl qT ?_); (rintro _ _ ⟨rfl, rfl⟩); (refine Zg2 qA ?_))
    refine Zhm 146 rfl (decide_eq_true (rfl)) ?_
    first|refine Zhi rfl ?_|refine Zhj rfl ?_|(refine Zhh rfl ?_; (first|refine Zhg (Zb1 rfl) ?_|refine Zhg (Zb0 rfl) ?_))
    refine Zhn 147 rfl (rfl) ?_
    first|refine Zhg (Zdz rfl rfl) ?_|refine Zhg (Zd0 rfl rfl) ?_|refine Zhg (Za8 rfl rfl) ?_|refine Zhg (Za9 rfl rfl) ?_|refine Zhg (Za6 rfl rfl) ?_|refine Zhg (Za7 rfl rfl) ?_
    first|refine Zhg (Zau rfl) ?_|refine Zhg (Zar rfl) ?_
    first|refine Zhi rfl ?_|refine Zhj rfl ?_|(refine Zhh rfl ?_; (first|refine Zhg (Zaw rfl) ?_|refine Zhg (Zar rfl) ?_))
    first|refine Zhi rfl ?_|refine Zhj rfl ?_|(refine Zhh rfl ?_; (first|refine Zhg (Zaw rfl) ?_|refine Zhg (Zar rfl) ?_))
    first|refine Zhi rfl ?_|refine Zhj rfl ?_|(refine Zhh rfl ?_; (refine Zh8 rfl (by kernel_rfl) (ebB) rfl qT ?_); (rintro _ _ ⟨rfl, rfl⟩); (refine Zg2 qA ?_))
    refine Zhm 152 rfl (decide_eq_true (rfl)) ?_
    first|refine Zhi rfl ?_|refine Zhj rfl ?_|(refine Zhh rfl ?_; (first|refine Zhg (Zb1 rfl) ?_|refine Zhg (Zb0 rfl) ?_))
    refine Zhn 153 rfl (rfl) ?_
    first|refine Zhg (Zdz rfl rfl) ?_|refine Zhg (Zd0 rfl rfl) ?_|refine Zhg (Za8 rfl rfl) ?_|refine Zhg (Za9 rfl rfl) ?_|refine Zhg (Za6 rfl rfl) ?_|refine Zhg (Za7 rfl rfl) ?_
    refine Zg3 ?_
    refine Ct.o ?_
    refine Zgf rfl ?_
    refine Ct.o ?_
    refine Zgp (Imp.arr (N := own 5 1 (.slice sa S.length sc) S.length (S.map u8b) :: own 5 1 (.slice ua S.length uc) S.length (S.map u8b) :: own 5 1 (.slice wa S2.length wc) S2.length (S2.map u8b) :: cl gt ((T ++ tl).map u8b).toArray 5 :: own 5 1 (.slice ca text.length cc) text.length (T.map u8b) :: L) qV) ?_
    refine Zgp (Imp.cons (Imp.cons (Imp.cons (star_nil (A := ownP))))) ?_
    refine Zgp (Imp.cons (Imp.cons (star_cons (A := ownP) (x := (wa, wc, S2))))) ?_
    refine Zgp (Imp.cons (star_cons (A := ownP) (x := (ua, uc, S)))) ?_
    refine Zgp (star_cons (A := ownP) (x := (sa, sc, S))) ?_
    have ebD := eqBytes_x (L := [cl gt ((T ++ tl).map u8b).toArray 5, own 5 1 (.slice ca text.length cc) text.length (T.map u8b)]) (a := T) (b := T) (bs_front (c := text.length + 80) .here hfl (by omega) (by omega)) (bs_own (.there .here) hfl)
    refine Ct.o ?_
    refine Zgb ?_
    first|refine Zhg (Zaw rfl) ?_|refine Zhg (Zar rfl) ?_
    first|refine Zhg (Zaw rfl) ?_|refine Zhg (Zar rfl) ?_
    first|refine Zhg (Zaw rfl) ?_|refine Zhg (Zar rfl) ?_
    refine Zh7 (cs := #[.slice _ _ _, .slice _ _ _, .slice _ _ _]) (by omega) (by omega) rfl ?_; intro b158
    refine Zh8 rfl (by kernel_rfl) (apart_x (N := 3) (L := [cl b158 #[.slice sa S.length sc, .slice ua S.length uc, .slice wa S2.length wc] 26]) [(sa, sc, S), (ua, uc, S), (wa, wc, S2)] rfl (by omega) (by intro p hp; simp only [List.mem_cons, List.not_mem_nil, or_false] at hp; rcases hp with rfl|rfl|rfl <;> (dsimp only; omega)) (Rd.cl (o := 0) .here rfl (by simp) rfl)) rfl qT ?_
    rintro _ _ ⟨rfl, rfl⟩
    refine Zg2 qA ?_
    refine Zhm 159 rfl (rfl) ?_
    first|refine Zhg (Zau rfl) ?_|refine Zhg (Zar rfl) ?_
    first|refine Zhi rfl ?_|refine Zhj rfl ?_|(refine Zhh rfl ?_; (first|refine Zhg (Zaw rfl) ?_|refine Zhg (Zar rfl) ?_))
    first|refine Zhi rfl ?_|refine Zhj rfl ?_|(refine Zhh rfl ?_; (first|refine Zhg (Zaw rfl) ?_|refine Zhg (Zar rfl) ?_))
    first|refine Zhi rfl ?_|refine Zhj rfl ?_|(refine Zhh rfl ?_; (refine Zh8 rfl (by kernel_rfl) (ebD) rfl qT ?_); (rintro _ _ ⟨rfl, rfl⟩); (refine Zg2 qA ?_))
    refine Zhm 163 rfl (decide_eq_true (rfl)) ?_
    first|refine Zhg (Zdz rfl rfl) ?_|refine Zhg (Zd0 rfl rfl) ?_|refine Zhg (Za8 rfl rfl) ?_|refine Zhg (Za9 rfl rfl) ?_|refine Zhg (Za6 rfl rfl) ?_|refine Zhg (Za7 rfl rfl) ?_
    refine Zhm 164 rfl (rfl) ?_
    first|refine Zhg (Zau rfl) ?_|refine Zhg (Zar rfl) ?_
    first|refine Zhi rfl ?_|refine Zhj rfl ?_|(refine Zhh rfl ?_; (refine Zh8 rfl (by kernel_rfl) (works_x) rfl qT ?_); (rintro _ _ ⟨rfl, rfl⟩); (refine Zg2 qA ?_))
    first|refine Zhg (Zdz rfl rfl) ?_|refine Zhg (Zd0 rfl rfl) ?_|refine Zhg (Za8 rfl rfl) ?_|refine Zhg (Za9 rfl rfl) ?_|refine Zhg (Za6 rfl rfl) ?_|refine Zhg (Za7 rfl rfl) ?_
    first|refine Zhg (Za0 rfl) ?_|refine Zhg (Zas rfl) ?_
    refine Zg3 ?_
    refine Ct.o ?_
    refine rx1 (Zha rfl (Zg7)) ?_
    exact ⟨_, ⟨rfl, rfl⟩, qI⟩
theorem seals_x (W : World) (x : CaseV) (ok : CaseVOk W x) : Con Try.prog 3 [.agg x.cells.toArray] [old W] (fun r M => r = .bool true ∧ [old W] = M) := by
  rw [case_ccl]
  exact seals_g x.key_ x.nonce_ ok.key_ ok.nonce_ (ok.more_.bs .here) (ok.text_.bs .here) ok.more_.len ok.text_.len
end Go.Sl

/- trystlaw07: opened, walked. -/
set_option maxHeartbeats 4000000
set_option maxRecDepth 10000
set_option linter.unusedVariables false
set_option linter.unusedSimpArgs false
namespace Go.Sl
open Go Go.Proofs
attribute [local irreducible] cl pt own old pur ex all den denOps denS xOps xC cX CX xthen xblk xcut xloop xgo xng retX resX Calls PV Rd Con
attribute [local irreducible] code blockB ksB xorB vouchB leB sealB textB rightB sealR
theorem wrong_cases (key nonce more box : List Byte) : (wrongR more.length box.length = 0 ∧ ¬ box.length < 16 ∧ ¬ (1048576 < more.length ∨ 1048576 < box.length - 16)) ∨
    ∃ k : Nat, 0 < k ∧ k < 5 ∧ wrongR more.length box.length = k ∧ openR key nonce more box = ([], k) ∧ lookR key nonce more box = ([], 0#64, k) := by
  by_cases h : box.length < 16
  · exact .inr ⟨4, by omega, by omega, if_pos h, if_pos h, if_pos h⟩
  · by_cases hl : 1048576 < more.length ∨ 1048592 < box.length
    · have hl2 : 1048576 < more.length ∨ 1048576 < box.length - 16 := by omega
      exact .inr ⟨3, by omega, by omega, by unfold wrongR; rw [if_neg h, if_pos hl], by unfold openR; rw [if_neg h, if_pos hl2], by unfold lookR; rw [if_neg h, if_pos hl2]⟩
    · exact .inl ⟨by unfold wrongR; rw [if_neg h, if_neg hl], h, by omega⟩
attribute [local irreducible] ccl
theorem opened_x {L : List Asrt} (key nonce : List Byte) (hk : key.length = 32) (hn : nonce.length = 12) {vm vb v1 v2 : Value} {more box : List Byte} (hm : Bs L vm more) (hb : Bs L vb box) (hm1 : Bs L v1 more) (hb1 : Bs L v2 box) (hml : more.length ≤ 140737488351232) (hbl : box.length ≤ 140737488351232) :
    Con Try.prog 18 [.agg (ccl key nonce vm vb).toArray, v1, v2] L (fun r M => r = .bool true ∧ L = M) := by
  refine Con.get (fun w0 w F H => hm.sh _ _ _ H) ?_
  rintro ⟨ma, mc, rfl, hmc, hmcm⟩
  refine Con.get (fun w0 w F H => hb.sh _ _ _ H) ?_
  rintro ⟨ba, bc, rfl, hbc, hbcm⟩
  refine Con.get (fun w0 w F H => hm1.sh _ _ _ H) ?_
  rintro ⟨na, nc, rfl, hnc, hncm⟩
  refine Con.get (fun w0 w F H => hb1.sh _ _ _ H) ?_
  rintro ⟨da, dc, rfl, hdc, hdcm⟩
  have hlen := ccl_len (v2 := .slice ma more.length mc) (v3 := .slice ba box.length bc) hk hn
  have c0 := ccl_key (v2 := .slice ma more.length mc) (v3 := .slice ba box.length bc) hk hn
  have c1 := ccl_nonce (v2 := .slice ma more.length mc) (v3 := .slice ba box.length bc) hk hn
  have c2 := ccl_2 (v2 := .slice ma more.length mc) (v3 := .slice ba box.length bc) hk hn
  have c3 := ccl_3 (v2 := .slice ma more.length mc) (v3 := .slice ba box.length bc) hk hn
  have ho := open_x (L := L) key nonce hk hn hm1 hb1 hml hbl
  have hp := peek_x (L := L) key nonce hk hn hm1 hb1 hml hbl
  refine fn_x Try.func18 rfl rfl rfl Try.mixed (by kernel_rfl) ?_
  intro w0
  refine Ct.o ?_
  refine Zgb ?_
  refine Zh5 rfl ?_; intro b3
  first|refine Zhg (Za0 rfl) ?_|refine Zhg (Zas rfl) ?_
  refine Zg3 ?_
  refine Ct.o ?_
  refine Zgb ?_
  first|refine Zhg (Zl8 rfl) ?_|refine Zhg (Zce rfl) ?_
  refine Zhp rfl qH (c2) ?_
  first|refine Zhg (Zl8 rfl) ?_|refine Zhg (Zce rfl) ?_
  refine Zhp rfl qH (c3) ?_
  refine Zh8 rfl (by kernel_rfl) (wrong_x (L := L) (by omega) (by omega)) rfl qT ?_
  rintro _ _ ⟨rfl, rfl⟩
  refine Zg2 qA ?_
  first|refine Zhg (Zaz rfl) ?_|refine Zhg (Zas rfl) ?_
  refine Zg3 ?_
  refine Ct.o ?_
  refine Zgb ?_
  first|refine Zhg (Za2 rfl) ?_|refine Zhg (Zas rfl) ?_
  refine Zg3 ?_
  refine Ct.o ?_
  refine Zgb ?_
  first|refine Zhg (Za0 rfl) ?_|refine Zhg (Zas rfl) ?_
  refine Zg3 ?_
  refine Ct.o ?_
  rcases wrong_cases key nonce more box with ⟨e0, h16, hlong⟩|⟨k, hk0, hk5, e0, e1, e2⟩
  · rw [e0]
    refine Ct.o ?_
    refine Zgb ?_
    first|refine Zhg (Zat rfl) ?_|refine Zhg (Zar rfl) ?_
    first|refine Zhg (Zmj (b := 0) rfl rfl) ?_|refine Zhg (Zbr rfl rfl) ?_
    refine Zhm 21 rfl (rfl) ?_
    refine Zg3 ?_
    refine Ct.o ?_
    refine Zge rfl ?_
    refine Ct.o ?_
    refine Zgb ?_
    first|refine Zhg (Zl8 rfl) ?_|refine Zhg (Zce rfl) ?_
    refine Zhq (n := 32) rfl qH qZ (c0) ?_
    first|refine Zhg (Zl8 rfl) ?_|refine Zhg (Zce rfl) ?_
    refine Zhq (n := 12) rfl qH qZ (c1) ?_
    first|refine Zhg (Zl8 rfl) ?_|refine Zhg (Zce rfl) ?_
    refine Zhp rfl qH (c2) ?_
    first|refine Zhg (Zl8 rfl) ?_|refine Zhg (Zce rfl) ?_
    refine Zhp rfl qH (c3) ?_
    refine Zh8 rfl (by kernel_rfl) (textR_x (L := L) key nonce hk hn hm hb (by omega) (by omega) (by omega)) rfl qT ?_
    rintro _ _ ⟨xa, xc, rfl, rfl⟩
    refine Zg2 qA ?_
    first|refine Zhg (Zmm rfl) ?_|refine Zhg (Zar rfl) ?_
    refine Zhg (Zco rfl rfl) ?_
    refine Zhg (Zco rfl rfl) ?_
    first|refine Zhg (Za2 rfl) ?_|refine Zhg (Zas rfl) ?_
    first|refine Zhg (Za0 rfl) ?_|refine Zhg (Zas rfl) ?_
    refine Zg3 ?_
    refine Ct.o ?_
    by_cases hr : rightB key nonce more box = true
    · have e1 : openR key nonce more box = (textB key nonce box, 0) := by unfold openR; rw [if_neg h16, if_neg hlong, if_pos hr]
      have e2 : lookR key nonce more box = (textB key nonce box, 18446744073709551615#64, 0) := by unfold lookR; rw [if_neg h16, if_neg hlong, if_pos hr]
      have e3 : textR key nonce more box = textB key nonce box := if_pos hr
      have htl := textB_len key nonce box
      rw [e1] at ho
      rw [e2] at hp
      rw [e3, hr]
      generalize textB key nonce box = T at ho hp htl
      dsimp only at ho hp
      refine Ct.o ?_
      refine Zgb ?_
      first|refine Zhg (Zl8 rfl) ?_|refine Zhg (Zce rfl) ?_
      refine Zhq (n := 32) rfl qH qZ (c0) ?_
      first|refine Zhg (Zl8 rfl) ?_|refine Zhg (Zce rfl) ?_
      refine Zhq (n := 12) rfl qH qZ (c1) ?_
      first|refine Zhg (Zaw rfl) ?_|refine Zhg (Zar rfl) ?_
      first|refine Zhg (Zaw rfl) ?_|refine Zhg (Zar rfl) ?_
      refine Zh8 rfl (by kernel_rfl) (ho) rfl qT ?_
      rintro _ _ ⟨oa, oc, rfl, rfl⟩
      refine Zg2 qA ?_
      first|refine Zhg (Zmm rfl) ?_|refine Zhg (Zar rfl) ?_
      refine Zhg (Zco rfl rfl) ?_
      refine Zhg (Zco rfl rfl) ?_
      first|refine Zhg (Za2 rfl) ?_|refine Zhg (Zas rfl) ?_
      first|refine Zhg (Zaz rfl) ?_|refine Zhg (Zas rfl) ?_
      refine Zg3 ?_
      refine Ct.o ?_
      refine Zgb ?_
      first|refine Zhg (Zl8 rfl) ?_|refine Zhg (Zce rfl) ?_
      refine Zhq (n := 32) rfl qH qZ (c0) ?_
      first|refine Zhg (Zl8 rfl) ?_|refine Zhg (Zce rfl) ?_
      refine Zhq (n := 12) rfl qH qZ (c1) ?_
      first|refine Zhg (Zaw rfl) ?_|refine Zhg (Zar rfl) ?_
      first|refine Zhg (Zaw rfl) ?_|refine Zhg (Zar rfl) ?_
      refine Zh8 rfl (by kernel_rfl) (hp) rfl qT ?_
      rintro _ _ ⟨pa, pc, rfl, rfl⟩
      refine Zg2 qA ?_
      first|refine Zhg (Zmm rfl) ?_|refine Zhg (Zar rfl) ?_
      refine Zhg (Zco rfl rfl) ?_
      refine Zhg (Zco rfl rfl) ?_
      refine Zhg (Zco rfl rfl) ?_
      first|refine Zhg (Za2 rfl) ?_|refine Zhg (Zas rfl) ?_
      first|refine Zhg (Zaz rfl) ?_|refine Zhg (Zas rfl) ?_
      first|refine Zhg (Zaz rfl) ?_|refine Zhg (Zas rfl) ?_
      refine Zg3 ?_
      refine Ct.o ?_
      refine Zgb ?_
      first|refine Zhg (Zat rfl) ?_|refine Zhg (Zar rfl) ?_
      first|refine Zhg (Zmk (b := 0) rfl rfl) ?_|refine Zhg (Zbs rfl rfl) ?_
      refine Zhn 56 rfl (rfl) ?_
      refine Zg3 ?_
      refine Ct.o ?_
      refine Zgf rfl ?_
      refine Ct.o ?_
      refine Zgb ?_
      first|refine Zhg (Zau rfl) ?_|refine Zhg (Zar rfl) ?_
      refine Zg3 ?_
      refine Ct.o ?_
      refine Zge rfl ?_
      refine Ct.o ?_
      refine Zgb ?_
      first|refine Zhg (Zat rfl) ?_|refine Zhg (Zar rfl) ?_
      first|refine Zhg (Zmj (b := 0) rfl rfl) ?_|refine Zhg (Zbr rfl rfl) ?_
      refine Zhm 81 rfl (rfl) ?_
      first|refine Zhg (Zau rfl) ?_|refine Zhg (Zar rfl) ?_
      first|refine Zhi rfl ?_|refine Zhj rfl ?_|(refine Zhh rfl ?_; (first|refine Zhg (Zat rfl) ?_|refine Zhg (Zar rfl) ?_))
      first|refine Zhi rfl ?_|refine Zhj rfl ?_|(refine Zhh rfl ?_; (first|refine Zhg (Zmj (b := 0) rfl rfl) ?_|refine Zhg (Zbr rfl rfl) ?_))
      refine Zhm 84 rfl (rfl) ?_
      first|refine Zhg (Zdz rfl rfl) ?_|refine Zhg (Zd0 rfl rfl) ?_|refine Zhg (Za8 rfl rfl) ?_|refine Zhg (Za9 rfl rfl) ?_|refine Zhg (Za6 rfl rfl) ?_|refine Zhg (Za7 rfl rfl) ?_
      first|refine Zhg (Zau rfl) ?_|refine Zhg (Zar rfl) ?_
      first|refine Zhi rfl ?_|refine Zhj rfl ?_|(refine Zhh rfl ?_; (first|refine Zhg (Zat rfl) ?_|refine Zhg (Zar rfl) ?_))
      first|refine Zhi rfl ?_|refine Zhj rfl ?_|(refine Zhh rfl ?_; (refine Zhg (Zln (x := 18446744073709551615#64) (y := 18446744073709551615#64) rfl rfl) ?_))
      refine Zhm 88 rfl (decide_eq_true (rfl)) ?_
      first|refine Zhg (Zdz rfl rfl) ?_|refine Zhg (Zd0 rfl rfl) ?_|refine Zhg (Za8 rfl rfl) ?_|refine Zhg (Za9 rfl rfl) ?_|refine Zhg (Za6 rfl rfl) ?_|refine Zhg (Za7 rfl rfl) ?_
      first|refine Zhg (Zau rfl) ?_|refine Zhg (Zar rfl) ?_
      first|refine Zhi rfl ?_|refine Zhj rfl ?_|(refine Zhh rfl ?_; (first|refine Zhg (Zaw rfl) ?_|refine Zhg (Zar rfl) ?_))
      first|refine Zhi rfl ?_|refine Zhj rfl ?_|(refine Zhh rfl ?_; (first|refine Zhg (Zaw rfl) ?_|refine Zhg (Zar rfl) ?_))
      first|refine Zhi rfl ?_|refine Zhj rfl ?_|(refine Zhh rfl ?_; (refine Zh8 rfl (by kernel_rfl) (eqBytes_x (L := [own 5 1 (.slice oa T.length oc) T.length (T.map u8b), own 5 1 (.slice xa T.length xc) T.length (T.map u8b)]) (a := T) (b := T) (Bs.own .here) (Bs.own (.there .here))) rfl qT ?_); (rintro _ _ ⟨rfl, rfl⟩); (refine Zg2 qA ?_))
      refine Zhm 93 rfl (decide_eq_true (rfl)) ?_
      first|refine Zhg (Zdz rfl rfl) ?_|refine Zhg (Zd0 rfl rfl) ?_|refine Zhg (Za8 rfl rfl) ?_|refine Zhg (Za9 rfl rfl) ?_|refine Zhg (Za6 rfl rfl) ?_|refine Zhg (Za7 rfl rfl) ?_
      first|refine Zhg (Zau rfl) ?_|refine Zhg (Zar rfl) ?_
      first|refine Zhi rfl ?_|refine Zhj rfl ?_|(refine Zhh rfl ?_; (first|refine Zhg (Zaw rfl) ?_|refine Zhg (Zar rfl) ?_))
      first|refine Zhi rfl ?_|refine Zhj rfl ?_|(refine Zhh rfl ?_; (first|refine Zhg (Zaw rfl) ?_|refine Zhg (Zar rfl) ?_))
      first|refine Zhi rfl ?_|refine Zhj rfl ?_|(refine Zhh rfl ?_; (refine Zh8 rfl (by kernel_rfl) (eqBytes_x (L := [own 5 1 (.slice pa T.length pc) T.length (T.map u8b), own 5 1 (.slice xa T.length xc) T.length (T.map u8b)]) (a := T) (b := T) (Bs.own .here) (Bs.own (.there .here))) rfl qT ?_); (rintro _ _ ⟨rfl, rfl⟩); (refine Zg2 qA ?_))
      refine Zhm 98 rfl (decide_eq_true (rfl)) ?_
      first|refine Zhg (Zdz rfl rfl) ?_|refine Zhg (Zd0 rfl rfl) ?_|refine Zhg (Za8 rfl rfl) ?_|refine Zhg (Za9 rfl rfl) ?_|refine Zhg (Za6 rfl rfl) ?_|refine Zhg (Za7 rfl rfl) ?_
      first|refine Zhg (Za0 rfl) ?_|refine Zhg (Zas rfl) ?_
      refine Zg3 ?_
      refine Ct.o ?_
      refine rx1 (Zha rfl (Zg7)) ?_
      exact ⟨_, ⟨rfl, rfl⟩, qI⟩
    · have hrf : rightB key nonce more box = false := by simpa using hr
      have e1 : openR key nonce more box = ([], 70) := by unfold openR; rw [if_neg h16, if_neg hlong, if_neg hr]
      have e2 : lookR key nonce more box = (List.replicate (box.length - 16) 0#8, 0#64, 0) := by unfold lookR; rw [if_neg h16, if_neg hlong, if_neg hr]
      have e3 : textR key nonce more box = [] := if_neg hr
      rw [e1] at ho
      rw [e2] at hp
      rw [e3, hrf]
      have hzl : (List.replicate (box.length - 16) 0#8).length = box.length - 16 := List.length_replicate
      dsimp only at ho hp
      refine Ct.o ?_
      refine Zgb ?_
      first|refine Zhg (Zl8 rfl) ?_|refine Zhg (Zce rfl) ?_
      refine Zhq (n := 32) rfl qH qZ (c0) ?_
      first|refine Zhg (Zl8 rfl) ?_|refine Zhg (Zce rfl) ?_
      refine Zhq (n := 12) rfl qH qZ (c1) ?_
      first|refine Zhg (Zaw rfl) ?_|refine Zhg (Zar rfl) ?_
      first|refine Zhg (Zaw rfl) ?_|refine Zhg (Zar rfl) ?_
      refine Zh8 rfl (by kernel_rfl) (ho) rfl qT ?_
      rintro _ _ ⟨oa, oc, rfl, rfl⟩
      refine Zg2 qA ?_
      first|refine Zhg (Zmm rfl) ?_|refine Zhg (Zar rfl) ?_
      refine Zhg (Zco rfl rfl) ?_
      refine Zhg (Zco rfl rfl) ?_
      first|refine Zhg (Za2 rfl) ?_|refine Zhg (Zas rfl) ?_
      first|refine Zhg (Zaz rfl) ?_|refine Zhg (Zas rfl) ?_
      refine Zg3 ?_
      refine Ct.o ?_
      refine Zgb ?_
      first|refine Zhg (Zl8 rfl) ?_|refine Zhg (Zce rfl) ?_
      refine Zhq (n := 32) rfl qH qZ (c0) ?_
      first|refine Zhg (Zl8 rfl) ?_|refine Zhg (Zce rfl) ?_
      refine Zhq (n := 12) rfl qH qZ (c1) ?_
      first|refine Zhg (Zaw rfl) ?_|refine Zhg (Zar rfl) ?_
      first|refine Zhg (Zaw rfl) ?_|refine Zhg (Zar rfl) ?_
      refine Zh8 rfl (by kernel_rfl) (hp) rfl qT ?_
      rintro _ _ ⟨pa, pc, rfl, rfl⟩
      refine Zg2 qA ?_
      first|refine Zhg (Zmm rfl) ?_|refine Zhg (Zar rfl) ?_
      refine Zhg (Zco rfl rfl) ?_
      refine Zhg (Zco rfl rfl) ?_
      refine Zhg (Zco rfl rfl) ?_
      first|refine Zhg (Za2 rfl) ?_|refine Zhg (Zas rfl) ?_
      first|refine Zhg (Zaz rfl) ?_|refine Zhg (Zas rfl) ?_
      first|refine Zhg (Zaz rfl) ?_|refine Zhg (Zas rfl) ?_
      refine Zg3 ?_
      refine Ct.o ?_
      refine Zgb ?_
      first|refine Zhg (Zat rfl) ?_|refine Zhg (Zar rfl) ?_
      first|refine Zhg (Zmk (b := 0) rfl rfl) ?_|refine Zhg (Zbs rfl rfl) ?_
      refine Zhn 56 rfl (rfl) ?_
      refine Zg3 ?_
      refine Ct.o ?_
      refine Zgf rfl ?_
      refine Ct.o ?_
      refine Zgb ?_
      first|refine Zhg (Zau rfl) ?_|refine Zhg (Zar rfl) ?_
      refine Zg3 ?_
      refine Ct.o ?_
      refine Zgf rfl ?_
      refine Ct.o ?_
      refine Zgb ?_
      first|refine Zhg (Zat rfl) ?_|refine Zhg (Zar rfl) ?_
      first|refine Zhg (Zmj (b := 70) rfl rfl) ?_|refine Zhg (Zbr rfl rfl) ?_
      refine Zhm 101 rfl (rfl) ?_
      first|refine Zhg (Zau rfl) ?_|refine Zhg (Zar rfl) ?_
      first|refine Zhi rfl ?_|refine Zhj rfl ?_|(refine Zhh rfl ?_; (first|refine Zhg (Zaw rfl) ?_|refine Zhg (Zar rfl) ?_))
      first|refine Zhi rfl ?_|refine Zhj rfl ?_|(refine Zhh rfl ?_; (first|refine Zhg (Zcr rfl) ?_|refine Zhg (Zct) ?_|refine Zhg (Zcu rfl) ?_))
      first|refine Zhi rfl ?_|refine Zhj rfl ?_|(refine Zhh rfl ?_; (first|refine Zhg (Zmj (b := 0) rfl rfl) ?_|refine Zhg (Zbr rfl rfl) ?_))
      refine Zhm 105 rfl (rfl) ?_
      first|refine Zhg (Zdz rfl rfl) ?_|refine Zhg (Zd0 rfl rfl) ?_|refine Zhg (Za8 rfl rfl) ?_|refine Zhg (Za9 rfl rfl) ?_|refine Zhg (Za6 rfl rfl) ?_|refine Zhg (Za7 rfl rfl) ?_
      first|refine Zhg (Zau rfl) ?_|refine Zhg (Zar rfl) ?_
      first|refine Zhi rfl ?_|refine Zhj rfl ?_|(refine Zhh rfl ?_; (first|refine Zhg (Zat rfl) ?_|refine Zhg (Zar rfl) ?_))
      first|refine Zhi rfl ?_|refine Zhj rfl ?_|(refine Zhh rfl ?_; (first|refine Zhg (Zmj (b := 0) rfl rfl) ?_|refine Zhg (Zbr rfl rfl) ?_))
      refine Zhm 109 rfl (rfl) ?_
      first|refine Zhg (Zdz rfl rfl) ?_|refine Zhg (Zd0 rfl rfl) ?_|refine Zhg (Za8 rfl rfl) ?_|refine Zhg (Za9 rfl rfl) ?_|refine Zhg (Za6 rfl rfl) ?_|refine Zhg (Za7 rfl rfl) ?_
      first|refine Zhg (Zau rfl) ?_|refine Zhg (Zar rfl) ?_
      first|refine Zhi rfl ?_|refine Zhj rfl ?_|(refine Zhh rfl ?_; (first|refine Zhg (Zat rfl) ?_|refine Zhg (Zar rfl) ?_))
      first|refine Zhi rfl ?_|refine Zhj rfl ?_|(refine Zhh rfl ?_; (refine Zhg (Zln (x := 0#64) (y := 0#64) rfl rfl) ?_))
      refine Zhm 113 rfl (decide_eq_true (rfl)) ?_
      first|refine Zhg (Zdz rfl rfl) ?_|refine Zhg (Zd0 rfl rfl) ?_|refine Zhg (Za8 rfl rfl) ?_|refine Zhg (Za9 rfl rfl) ?_|refine Zhg (Za6 rfl rfl) ?_|refine Zhg (Za7 rfl rfl) ?_
      first|refine Zhg (Zau rfl) ?_|refine Zhg (Zar rfl) ?_
      first|refine Zhi rfl ?_|refine Zhj rfl ?_|(refine Zhh rfl ?_; (first|refine Zhg (Zaw rfl) ?_|refine Zhg (Zar rfl) ?_))
      first|refine Zhi rfl ?_|refine Zhj rfl ?_|(refine Zhh rfl ?_; (first|refine Zhg (Zl8 rfl) ?_|refine Zhg (Zce rfl) ?_))
      first|refine Zhi rfl ?_|refine Zhj rfl ?_|(refine Zhh rfl ?_; (refine Zhp rfl qH (c3) ?_))
      first|refine Zhi rfl ?_|refine Zhj rfl ?_|(refine Zhh rfl ?_; (first|refine Zhg (Zcr rfl) ?_|refine Zhg (Zct) ?_|refine Zhg (Zcu rfl) ?_))
      first|refine Zhi rfl ?_|refine Zhj rfl ?_|(refine Zhh rfl ?_; (refine Zhg (PV.eq (v' := nvv (box.length - 16)) (Zbh (b := 16) rfl rfl (by omega)) (int_eq (by omega))) ?_))
      first|refine Zhi rfl ?_|refine Zhj rfl ?_|(refine Zhh rfl ?_; (refine Zm3 (f := u8b) (a := 0#8) rfl rfl rfl qS qS qS ?_; intro b121))
      first|refine Zhi rfl ?_|refine Zhj rfl ?_|(refine Zhh rfl ?_; (refine Zh8 rfl (by kernel_rfl) (eqBytes_x (L := [cl b121 ((List.replicate (box.length - 16) 0#8).map u8b).toArray 5, own 5 1 (.slice pa (List.replicate (box.length - 16) 0#8).length pc) (List.replicate (box.length - 16) 0#8).length ((List.replicate (box.length - 16) 0#8).map u8b)]) (a := List.replicate (box.length - 16) 0#8) (b := List.replicate (box.length - 16) 0#8) (Bs.own (.there .here)) (bs_full .here hzl (by omega))) rfl qT ?_); (rintro _ _ ⟨rfl, rfl⟩); (refine Zg2 qA ?_))
      refine Zhm 122 rfl (decide_eq_true (rfl)) ?_
      first|refine Zhg (Zdz rfl rfl) ?_|refine Zhg (Zd0 rfl rfl) ?_|refine Zhg (Za8 rfl rfl) ?_|refine Zhg (Za9 rfl rfl) ?_|refine Zhg (Za6 rfl rfl) ?_|refine Zhg (Za7 rfl rfl) ?_
      first|refine Zhg (Za0 rfl) ?_|refine Zhg (Zas rfl) ?_
      refine Zg3 ?_
      refine Ct.o ?_
      refine rx1 (Zha rfl (Zg7)) ?_
      exact ⟨_, ⟨rfl, rfl⟩, qI⟩
  · rw [e1] at ho
    rw [e2] at hp
    rw [e0]
    dsimp only at ho hp
    refine Ct.o ?_
    refine Zgb ?_
    first|refine Zhg (Zat rfl) ?_|refine Zhg (Zar rfl) ?_
    first|refine Zhg (Zmj (b := 0) rfl rfl) ?_|refine Zhg (Zbr rfl rfl) ?_
    refine Zhn 21 rfl (decide_eq_false ((by omega))) ?_
    refine Zg3 ?_
    refine Ct.o ?_
    refine Zgf rfl ?_
    refine Ct.o ?_
    refine Zgb ?_
    first|refine Zhg (Zl8 rfl) ?_|refine Zhg (Zce rfl) ?_
    refine Zhq (n := 32) rfl qH qZ (c0) ?_
    first|refine Zhg (Zl8 rfl) ?_|refine Zhg (Zce rfl) ?_
    refine Zhq (n := 12) rfl qH qZ (c1) ?_
    first|refine Zhg (Zaw rfl) ?_|refine Zhg (Zar rfl) ?_
    first|refine Zhg (Zaw rfl) ?_|refine Zhg (Zar rfl) ?_
    refine Zh8 rfl (by kernel_rfl) (ho) rfl qT ?_
    rintro _ _ ⟨oa, oc, rfl, rfl⟩
    refine Zg2 qA ?_
    first|refine Zhg (Zmm rfl) ?_|refine Zhg (Zar rfl) ?_
    refine Zhg (Zco rfl rfl) ?_
    refine Zhg (Zco rfl rfl) ?_
    first|refine Zhg (Za2 rfl) ?_|refine Zhg (Zas rfl) ?_
    first|refine Zhg (Zaz rfl) ?_|refine Zhg (Zas rfl) ?_
    refine Zg3 ?_
    refine Ct.o ?_
    refine Zgb ?_
    first|refine Zhg (Zl8 rfl) ?_|refine Zhg (Zce rfl) ?_
    refine Zhq (n := 32) rfl qH qZ (c0) ?_
    first|refine Zhg (Zl8 rfl) ?_|refine Zhg (Zce rfl) ?_
    refine Zhq (n := 12) rfl qH qZ (c1) ?_
    first|refine Zhg (Zaw rfl) ?_|refine Zhg (Zar rfl) ?_
    first|refine Zhg (Zaw rfl) ?_|refine Zhg (Zar rfl) ?_
    refine Zh8 rfl (by kernel_rfl) (hp) rfl qT ?_
    rintro _ _ ⟨pa, pc, rfl, rfl⟩
    refine Zg2 qA ?_
    first|refine Zhg (Zmm rfl) ?_|refine Zhg (Zar rfl) ?_
    refine Zhg (Zco rfl rfl) ?_
    refine Zhg (Zco rfl rfl) ?_
    refine Zhg (Zco rfl rfl) ?_
    first|refine Zhg (Za2 rfl) ?_|refine Zhg (Zas rfl) ?_
    first|refine Zhg (Zaz rfl) ?_|refine Zhg (Zas rfl) ?_
    first|refine Zhg (Zaz rfl) ?_|refine Zhg (Zas rfl) ?_
    refine Zg3 ?_
    refine Ct.o ?_
    refine Zgb ?_
    first|refine Zhg (Zat rfl) ?_|refine Zhg (Zar rfl) ?_
    first|refine Zhg (Zmk (b := 0) rfl rfl) ?_|refine Zhg (Zbs rfl rfl) ?_
    refine Zhm 56 rfl (decide_eq_true ((by omega))) ?_
    refine Zg3 ?_
    refine Ct.o ?_
    refine Zge rfl ?_
    refine Ct.o ?_
    refine Zgb ?_
    first|refine Zhg (Zat rfl) ?_|refine Zhg (Zar rfl) ?_
    first|refine Zhg (Zat rfl) ?_|refine Zhg (Zar rfl) ?_
    first|refine Zhg (Zmj rfl rfl) ?_|refine Zhg (Zbr rfl rfl) ?_
    refine Zhm 59 rfl (decide_eq_true (rfl)) ?_
    first|refine Zhg (Zau rfl) ?_|refine Zhg (Zar rfl) ?_
    first|refine Zhi rfl ?_|refine Zhj rfl ?_|(refine Zhh rfl ?_; (first|refine Zhg (Zat rfl) ?_|refine Zhg (Zar rfl) ?_))
    first|refine Zhi rfl ?_|refine Zhj rfl ?_|(refine Zhh rfl ?_; (first|refine Zhg (Zat rfl) ?_|refine Zhg (Zar rfl) ?_))
    first|refine Zhi rfl ?_|refine Zhj rfl ?_|(refine Zhh rfl ?_; (first|refine Zhg (Zmj rfl rfl) ?_|refine Zhg (Zbr rfl rfl) ?_))
    refine Zhm 63 rfl (decide_eq_true (rfl)) ?_
    first|refine Zhg (Zdz rfl rfl) ?_|refine Zhg (Zd0 rfl rfl) ?_|refine Zhg (Za8 rfl rfl) ?_|refine Zhg (Za9 rfl rfl) ?_|refine Zhg (Za6 rfl rfl) ?_|refine Zhg (Za7 rfl rfl) ?_
    first|refine Zhg (Zau rfl) ?_|refine Zhg (Zar rfl) ?_
    first|refine Zhi rfl ?_|refine Zhj rfl ?_|(refine Zhh rfl ?_; (first|refine Zhg (Zat rfl) ?_|refine Zhg (Zar rfl) ?_))
    first|refine Zhi rfl ?_|refine Zhj rfl ?_|(refine Zhh rfl ?_; (refine Zhg (Zln (x := 0#64) (y := 0#64) rfl rfl) ?_))
    refine Zhm 67 rfl (decide_eq_true (rfl)) ?_
    first|refine Zhg (Zdz rfl rfl) ?_|refine Zhg (Zd0 rfl rfl) ?_|refine Zhg (Za8 rfl rfl) ?_|refine Zhg (Za9 rfl rfl) ?_|refine Zhg (Za6 rfl rfl) ?_|refine Zhg (Za7 rfl rfl) ?_
    first|refine Zhg (Zau rfl) ?_|refine Zhg (Zar rfl) ?_
    first|refine Zhi rfl ?_|refine Zhj rfl ?_|(refine Zhh rfl ?_; (first|refine Zhg (Zaw rfl) ?_|refine Zhg (Zar rfl) ?_))
    first|refine Zhi rfl ?_|refine Zhj rfl ?_|(refine Zhh rfl ?_; (first|refine Zhg (Zcr rfl) ?_|refine Zhg (Zct) ?_|refine Zhg (Zcu rfl) ?_))
    first|refine Zhi rfl ?_|refine Zhj rfl ?_|(refine Zhh rfl ?_; (first|refine Zhg (Zmj (b := 0) rfl rfl) ?_|refine Zhg (Zbr rfl rfl) ?_))
    refine Zhm 72 rfl (rfl) ?_
    first|refine Zhg (Zdz rfl rfl) ?_|refine Zhg (Zd0 rfl rfl) ?_|refine Zhg (Za8 rfl rfl) ?_|refine Zhg (Za9 rfl rfl) ?_|refine Zhg (Za6 rfl rfl) ?_|refine Zhg (Za7 rfl rfl) ?_
    first|refine Zhg (Zau rfl) ?_|refine Zhg (Zar rfl) ?_
    first|refine Zhi rfl ?_|refine Zhj rfl ?_|(refine Zhh rfl ?_; (first|refine Zhg (Zaw rfl) ?_|refine Zhg (Zar rfl) ?_))
    first|refine Zhi rfl ?_|refine Zhj rfl ?_|(refine Zhh rfl ?_; (first|refine Zhg (Zcr rfl) ?_|refine Zhg (Zct) ?_|refine Zhg (Zcu rfl) ?_))
    first|refine Zhi rfl ?_|refine Zhj rfl ?_|(refine Zhh rfl ?_; (first|refine Zhg (Zmj (b := 0) rfl rfl) ?_|refine Zhg (Zbr rfl rfl) ?_))
    refine Zhm 77 rfl (rfl) ?_
    first|refine Zhg (Zdz rfl rfl) ?_|refine Zhg (Zd0 rfl rfl) ?_|refine Zhg (Za8 rfl rfl) ?_|refine Zhg (Za9 rfl rfl) ?_|refine Zhg (Za6 rfl rfl) ?_|refine Zhg (Za7 rfl rfl) ?_
    first|refine Zhg (Za0 rfl) ?_|refine Zhg (Zas rfl) ?_
    refine Zg3 ?_
    refine Ct.o ?_
    refine rx1 (Zha rfl (Zg7)) ?_
    exact ⟨_, ⟨rfl, rfl⟩, qI⟩
end Go.Sl

/- trystlaw07: SealOpens, walked. -/
set_option maxHeartbeats 4000000
set_option maxRecDepth 10000
set_option linter.unusedVariables false
set_option linter.unusedSimpArgs false
namespace Go.Sl
open Go Go.Proofs
attribute [local irreducible] cl pt own old pur ex all den denOps denS xOps xC cX CX xthen xblk xcut xloop xgo xng retX resX Calls PV Rd Con
attribute [local irreducible] code blockB ksB xorB vouchB leB sealB textB rightB sealR openR lookR ccl
theorem openR_len (key nonce more box : List Byte) : (openR key nonce more box).1.length ≤ 1048576 := by
  unfold openR
  split
  · simp
  · split
    · simp
    · split
      · dsimp only; rw [textB_len]; omega
      · simp
theorem lookR_len (key nonce more box : List Byte) : (lookR key nonce more box).1.length ≤ 1048576 := by
  unfold lookR
  split
  · simp
  · split
    · simp
    · split
      · dsimp only; rw [textB_len]; omega
      · dsimp only; rw [List.length_replicate]; omega
theorem opens_g {L : List Asrt} (key nonce : List Byte) (hk : key.length = 32) (hn : nonce.length = 12) {vm vt : Value} {more box : List Byte} (hma : Bs L vm more) (hta : Bs L vt box) (hml : more.length ≤ 140737488351232) (htl : box.length ≤ 140737488351232) :
    Con Try.prog 5 [.agg (ccl key nonce vm vt).toArray] L (fun r M => r = .bool true ∧ L = M) := by
  refine Con.get (fun w0 w F H => hma.sh _ _ _ H) ?_
  rintro ⟨ma, mc, rfl, hmc1, hmc2⟩
  refine Con.get (fun w0 w F H => hta.sh _ _ _ H) ?_
  rintro ⟨ta, tc, rfl, htc1, htc2⟩
  have hlen := ccl_len (v2 := .slice ma more.length mc) (v3 := .slice ta box.length tc) hk hn
  have c0 := ccl_key (v2 := .slice ma more.length mc) (v3 := .slice ta box.length tc) hk hn
  have c1 := ccl_nonce (v2 := .slice ma more.length mc) (v3 := .slice ta box.length tc) hk hn
  have c2 := ccl_2 (v2 := .slice ma more.length mc) (v3 := .slice ta box.length tc) hk hn
  have c3 := ccl_3 (v2 := .slice ma more.length mc) (v3 := .slice ta box.length tc) hk hn
  refine fn_x Try.func5 rfl rfl rfl Try.mixed (by kernel_rfl) ?_
  intro w0
  refine Ct.o ?_
  refine Zgb ?_
  refine Zh5 rfl ?_; intro b1
  first|refine Zhg (Za0 rfl) ?_|refine Zhg (Zas rfl) ?_
  refine Zg3 ?_
  refine Ct.o ?_
  refine Zgb ?_
  first|refine Zhg (Zl8 rfl) ?_|refine Zhg (Zce rfl) ?_
  refine Zhp rfl qH (c2) ?_
  refine Zh8 rfl (by kernel_rfl) (spare_x (L := L) hma (by omega)) rfl qT ?_
  rintro _ _ ⟨gm, rfl, rfl⟩
  refine Zg2 qA ?_
  first|refine Zhg (Za2 rfl) ?_|refine Zhg (Zas rfl) ?_
  refine Zg3 ?_
  refine Ct.o ?_
  refine Zgb ?_
  first|refine Zhg (Zl8 rfl) ?_|refine Zhg (Zce rfl) ?_
  refine Zhp rfl qH (c3) ?_
  refine Zh8 rfl (by kernel_rfl) (spare_x (L := L) hta (by omega)) rfl qT ?_
  rintro _ _ ⟨gt, rfl, rfl⟩
  refine Zg2 qA ?_
  first|refine Zhg (Za2 rfl) ?_|refine Zhg (Zas rfl) ?_
  refine Zg3 ?_
  refine Ct.o ?_
  refine Zgb ?_
  first|refine Zhr rfl qH qZ ?_|refine Zhq rfl qH qZ rfl ?_
  first|refine Zhg (Zaw rfl) ?_|refine Zhg (Zar rfl) ?_
  first|refine Zhg (Zaw rfl) ?_|refine Zhg (Zar rfl) ?_
  refine Zh8 rfl (by kernel_rfl) (opened_x (L := (cl gm ((spareL more).map u8b).toArray 5 :: cl gt ((spareL box).map u8b).toArray 5 :: L)) key nonce hk hn (hma.imp (Imp.arr qV)) (hta.imp (Imp.arr qV)) (bs_spare .here (by omega)) (bs_spare (.there .here) (by omega)) (by omega) (by omega)) rfl qT ?_
  rintro _ _ ⟨rfl, rfl⟩
  refine Zg2 qA ?_
  first|refine Zhg (Zb1 rfl) ?_|refine Zhg (Zb0 rfl) ?_
  refine Zhn 28 rfl (rfl) ?_
  first|refine Zhg (Zau rfl) ?_|refine Zhg (Zar rfl) ?_
  first|refine Zhi rfl ?_|refine Zhj rfl ?_|(refine Zhh rfl ?_; (first|refine Zhg (Zaw rfl) ?_|refine Zhg (Zar rfl) ?_))
  first|refine Zhi rfl ?_|refine Zhj rfl ?_|(refine Zhh rfl ?_; (first|refine Zhg (Zl8 rfl) ?_|refine Zhg (Zce rfl) ?_))
  first|refine Zhi rfl ?_|refine Zhj rfl ?_|(refine Zhh rfl ?_; (refine Zhp rfl qH (c2) ?_))
  first|refine Zhi rfl ?_|refine Zhj rfl ?_|(refine Zhh rfl ?_; (refine Zh8 rfl (by kernel_rfl) (kept_x (L := (cl gm ((spareL more).map u8b).toArray 5 :: L)) .here (hma.imp Imp.tail) (by omega)) rfl qT ?_); (rintro _ _ ⟨rfl, rfl⟩); (refine Zg2 qA ?_))
  first|refine Zhi rfl ?_|refine Zhj rfl ?_|(refine Zhh rfl ?_; (first|refine Zhg (Zb1 rfl) ?_|refine Zhg (Zb0 rfl) ?_))
  refine Zhn 34 rfl (rfl) ?_
  first|refine Zhg (Zdz rfl rfl) ?_|refine Zhg (Zd0 rfl rfl) ?_|refine Zhg (Za8 rfl rfl) ?_|refine Zhg (Za9 rfl rfl) ?_|refine Zhg (Za6 rfl rfl) ?_|refine Zhg (Za7 rfl rfl) ?_
  first|refine Zhg (Zau rfl) ?_|refine Zhg (Zar rfl) ?_
  first|refine Zhi rfl ?_|refine Zhj rfl ?_|(refine Zhh rfl ?_; (first|refine Zhg (Zaw rfl) ?_|refine Zhg (Zar rfl) ?_))
  first|refine Zhi rfl ?_|refine Zhj rfl ?_|(refine Zhh rfl ?_; (first|refine Zhg (Zl8 rfl) ?_|refine Zhg (Zce rfl) ?_))
  first|refine Zhi rfl ?_|refine Zhj rfl ?_|(refine Zhh rfl ?_; (refine Zhp rfl qH (c3) ?_))
  first|refine Zhi rfl ?_|refine Zhj rfl ?_|(refine Zhh rfl ?_; (refine Zh8 rfl (by kernel_rfl) (kept_x (L := (cl gt ((spareL box).map u8b).toArray 5 :: L)) .here (hta.imp Imp.tail) (by omega)) rfl qT ?_); (rintro _ _ ⟨rfl, rfl⟩); (refine Zg2 qA ?_))
  first|refine Zhi rfl ?_|refine Zhj rfl ?_|(refine Zhh rfl ?_; (first|refine Zhg (Zb1 rfl) ?_|refine Zhg (Zb0 rfl) ?_))
  refine Zhn 41 rfl (rfl) ?_
  first|refine Zhg (Zdz rfl rfl) ?_|refine Zhg (Zd0 rfl rfl) ?_|refine Zhg (Za8 rfl rfl) ?_|refine Zhg (Za9 rfl rfl) ?_|refine Zhg (Za6 rfl rfl) ?_|refine Zhg (Za7 rfl rfl) ?_
  refine Zg3 ?_
  refine Ct.o ?_
  refine Zgf rfl ?_
  refine Ct.o ?_
  have hsp : spareL box = box ++ (spareL box).drop box.length := by
    conv => lhs; rw [← List.take_append_drop box.length (spareL box), spareL_take]
  have htail : ((spareL box).drop box.length).length = 80 := by rw [List.length_drop, spareL_len]; omega
  have ho := open_x (L := [cl gm ((spareL more).map u8b).toArray 5, cl gt ((spareL box).map u8b).toArray 5]) key nonce hk hn (bs_spare .here (by omega)) (bs_spare (.there .here) (by omega)) (by omega) (by omega)
  have hp := peek_x (L := [cl gm ((spareL more).map u8b).toArray 5, cl gt ((spareL box).map u8b).toArray 5]) key nonce hk hn (bs_spare .here (by omega)) (bs_spare (.there .here) (by omega)) (by omega) (by omega)
  have hol := openR_len key nonce more box
  have hll := lookR_len key nonce more box
  generalize openR key nonce more box = R at ho hol
  generalize lookR key nonce more box = R2 at hp hll
  obtain ⟨O, eo⟩ := R
  obtain ⟨K, km, ek⟩ := R2
  dsimp only at ho hp hol hll
  refine Ct.o ?_
  refine Zgb ?_
  first|refine Zhg (Zl8 rfl) ?_|refine Zhg (Zce rfl) ?_
  refine Zhq (n := 32) rfl qH qZ (c0) ?_
  first|refine Zhg (Zl8 rfl) ?_|refine Zhg (Zce rfl) ?_
  refine Zhq (n := 12) rfl qH qZ (c1) ?_
  first|refine Zhg (Zaw rfl) ?_|refine Zhg (Zar rfl) ?_
  first|refine Zhg (Zaw rfl) ?_|refine Zhg (Zar rfl) ?_
  refine Zh8 rfl (by kernel_rfl) (ho) rfl qT ?_
  rintro _ _ ⟨oa, oc, rfl, rfl⟩
  refine Zg2 qA ?_
  first|refine Zhg (Zmm rfl) ?_|refine Zhg (Zar rfl) ?_
  refine Zhg (Zco rfl rfl) ?_
  refine Zhg (Zco rfl rfl) ?_
  first|refine Zhg (Za2 rfl) ?_|refine Zhg (Zas rfl) ?_
  first|refine Zhg (Zaz rfl) ?_|refine Zhg (Zas rfl) ?_
  refine Zg3 ?_
  refine Ct.o ?_
  refine Zgb ?_
  first|refine Zhg (Zl8 rfl) ?_|refine Zhg (Zce rfl) ?_
  refine Zhq (n := 32) rfl qH qZ (c0) ?_
  first|refine Zhg (Zl8 rfl) ?_|refine Zhg (Zce rfl) ?_
  refine Zhq (n := 12) rfl qH qZ (c1) ?_
  first|refine Zhg (Zaw rfl) ?_|refine Zhg (Zar rfl) ?_
  first|refine Zhg (Zaw rfl) ?_|refine Zhg (Zar rfl) ?_
  refine Zh8 rfl (by kernel_rfl) (ho) rfl qT ?_
  rintro _ _ ⟨ua, uc, rfl, rfl⟩
  refine Zg2 qA ?_
  first|refine Zhg (Zmm rfl) ?_|refine Zhg (Zar rfl) ?_
  refine Zhg (Zco rfl rfl) ?_
  refine Zhg (Zco rfl rfl) ?_
  first|refine Zhg (Za2 rfl) ?_|refine Zhg (Zas rfl) ?_
  first|refine Zhg (Zaz rfl) ?_|refine Zhg (Zas rfl) ?_
  refine Zg3 ?_
  refine Ct.o ?_
  refine Zgb ?_
  first|refine Zhg (Zl8 rfl) ?_|refine Zhg (Zce rfl) ?_
  refine Zhq (n := 32) rfl qH qZ (c0) ?_
  first|refine Zhg (Zl8 rfl) ?_|refine Zhg (Zce rfl) ?_
  refine Zhq (n := 12) rfl qH qZ (c1) ?_
  first|refine Zhg (Zaw rfl) ?_|refine Zhg (Zar rfl) ?_
  first|refine Zhg (Zaw rfl) ?_|refine Zhg (Zar rfl) ?_
  refine Zh8 rfl (by kernel_rfl) (hp) rfl qT ?_
  rintro _ _ ⟨pa, pc, rfl, rfl⟩
  refine Zg2 qA ?_
  first|refine Zhg (Zmm rfl) ?_|refine Zhg (Zar rfl) ?_
  refine Zhg (Zco rfl rfl) ?_
  refine Zhg (Zco rfl rfl) ?_
  refine Zhg (Zco rfl rfl) ?_
  first|refine Zhg (Za2 rfl) ?_|refine Zhg (Zas rfl) ?_
  first|refine Zhg (Zaz rfl) ?_|refine Zhg (Zas rfl) ?_
  first|refine Zhg (Zaz rfl) ?_|refine Zhg (Zas rfl) ?_
  refine Zg3 ?_
  refine Ct.o ?_
  refine Zgb ?_
  first|refine Zhg (Zl8 rfl) ?_|refine Zhg (Zce rfl) ?_
  refine Zhq (n := 32) rfl qH qZ (c0) ?_
  first|refine Zhg (Zl8 rfl) ?_|refine Zhg (Zce rfl) ?_
  refine Zhq (n := 12) rfl qH qZ (c1) ?_
  first|refine Zhg (Zaw rfl) ?_|refine Zhg (Zar rfl) ?_
  first|refine Zhg (Zaw rfl) ?_|refine Zhg (Zar rfl) ?_
  refine Zh8 rfl (by kernel_rfl) (hp) rfl qT ?_
  rintro _ _ ⟨qa, qc, rfl, rfl⟩
  refine Zg2 qA ?_
  first|refine Zhg (Zmm rfl) ?_|refine Zhg (Zar rfl) ?_
  refine Zhg (Zco rfl rfl) ?_
  refine Zhg (Zco rfl rfl) ?_
  refine Zhg (Zco rfl rfl) ?_
  first|refine Zhg (Za2 rfl) ?_|refine Zhg (Zas rfl) ?_
  first|refine Zhg (Zaz rfl) ?_|refine Zhg (Zas rfl) ?_
  first|refine Zhg (Zaz rfl) ?_|refine Zhg (Zas rfl) ?_
  refine Zg3 ?_
  refine Ct.o ?_
  refine Zgb ?_
  first|refine Zhg (Zat rfl) ?_|refine Zhg (Zar rfl) ?_
  first|refine Zhg (Zat rfl) ?_|refine Zhg (Zar rfl) ?_
  first|refine Zhg (Zmk rfl rfl) ?_|refine Zhg (Zbs rfl rfl) ?_
  refine Zhn 87 rfl (decide_eq_false ((fun h => h rfl))) ?_
  first|refine Zhg (Zau rfl) ?_|refine Zhg (Zar rfl) ?_
  first|refine Zhi rfl ?_|refine Zhj rfl ?_|(refine Zhh rfl ?_; (first|refine Zhg (Zat rfl) ?_|refine Zhg (Zar rfl) ?_))
  first|refine Zhi rfl ?_|refine Zhj rfl ?_|(refine Zhh rfl ?_; (first|refine Zhg (Zat rfl) ?_|refine Zhg (Zar rfl) ?_))
  first|refine Zhi rfl ?_|refine Zhj rfl ?_|(refine Zhh rfl ?_; (first|refine Zhg (Zmk rfl rfl) ?_|refine Zhg (Zbs rfl rfl) ?_))
  refine Zhn 91 rfl (decide_eq_false ((fun h => h rfl))) ?_
  first|refine Zhg (Zdz rfl rfl) ?_|refine Zhg (Zd0 rfl rfl) ?_|refine Zhg (Za8 rfl rfl) ?_|refine Zhg (Za9 rfl rfl) ?_|refine Zhg (Za6 rfl rfl) ?_|refine Zhg (Za7 rfl rfl) ?_
  first|refine Zhg (Zau rfl) ?_|refine Zhg (Zar rfl) ?_
  first|refine Zhi rfl ?_|refine Zhj rfl ?_|(refine Zhh rfl ?_; (first|refine Zhg (Zaw rfl) ?_|refine Zhg (Zar rfl) ?_))
  first|refine Zhi rfl ?_|refine Zhj rfl ?_|(refine Zhh rfl ?_; (first|refine Zhg (Zaw rfl) ?_|refine Zhg (Zar rfl) ?_))
  first|refine Zhi rfl ?_|refine Zhj rfl ?_|(refine Zhh rfl ?_; (refine Zh8 rfl (by kernel_rfl) (eqBytes_x (L := [own 5 1 (.slice oa O.length oc) O.length (O.map u8b), own 5 1 (.slice ua O.length uc) O.length (O.map u8b)]) (a := O) (b := O) (Bs.own .here) (Bs.own (.there .here))) rfl qT ?_); (rintro _ _ ⟨rfl, rfl⟩); (refine Zg2 qA ?_))
  refine Zhm 96 rfl (decide_eq_true (rfl)) ?_
  first|refine Zhi rfl ?_|refine Zhj rfl ?_|(refine Zhh rfl ?_; (first|refine Zhg (Zb1 rfl) ?_|refine Zhg (Zb0 rfl) ?_))
  refine Zhn 97 rfl (rfl) ?_
  first|refine Zhg (Zdz rfl rfl) ?_|refine Zhg (Zd0 rfl rfl) ?_|refine Zhg (Za8 rfl rfl) ?_|refine Zhg (Za9 rfl rfl) ?_|refine Zhg (Za6 rfl rfl) ?_|refine Zhg (Za7 rfl rfl) ?_
  first|refine Zhg (Zau rfl) ?_|refine Zhg (Zar rfl) ?_
  first|refine Zhi rfl ?_|refine Zhj rfl ?_|(refine Zhh rfl ?_; (first|refine Zhg (Zaw rfl) ?_|refine Zhg (Zar rfl) ?_))
  first|refine Zhi rfl ?_|refine Zhj rfl ?_|(refine Zhh rfl ?_; (first|refine Zhg (Zaw rfl) ?_|refine Zhg (Zar rfl) ?_))
  first|refine Zhi rfl ?_|refine Zhj rfl ?_|(refine Zhh rfl ?_; (refine Zh8 rfl (by kernel_rfl) (eqBytes_x (L := [own 5 1 (.slice pa K.length pc) K.length (K.map u8b), own 5 1 (.slice qa K.length qc) K.length (K.map u8b)]) (a := K) (b := K) (Bs.own .here) (Bs.own (.there .here))) rfl qT ?_); (rintro _ _ ⟨rfl, rfl⟩); (refine Zg2 qA ?_))
  refine Zhm 102 rfl (decide_eq_true (rfl)) ?_
  first|refine Zhi rfl ?_|refine Zhj rfl ?_|(refine Zhh rfl ?_; (first|refine Zhg (Zb1 rfl) ?_|refine Zhg (Zb0 rfl) ?_))
  refine Zhn 103 rfl (rfl) ?_
  first|refine Zhg (Zdz rfl rfl) ?_|refine Zhg (Zd0 rfl rfl) ?_|refine Zhg (Za8 rfl rfl) ?_|refine Zhg (Za9 rfl rfl) ?_|refine Zhg (Za6 rfl rfl) ?_|refine Zhg (Za7 rfl rfl) ?_
  refine Zg3 ?_
  refine Ct.o ?_
  refine Zgf rfl ?_
  refine Ct.o ?_
  refine Zgb ?_
  first|refine Zhg (Zaw rfl) ?_|refine Zhg (Zar rfl) ?_
  refine Zh8 rfl (by kernel_rfl) (copyBytes_x (L := [own 5 1 (.slice oa O.length oc) O.length (O.map u8b)]) (Bs.own .here) (by omega)) rfl qT ?_
  rintro _ _ ⟨ra, rc, rfl, rfl⟩
  refine Zg2 qA ?_
  first|refine Zhg (Za2 rfl) ?_|refine Zhg (Zas rfl) ?_
  refine Zg3 ?_
  refine Ct.o ?_
  refine Zgb ?_
  first|refine Zhg (Zaw rfl) ?_|refine Zhg (Zar rfl) ?_
  refine Zh8 rfl (by kernel_rfl) (copyBytes_x (L := [own 5 1 (.slice pa K.length pc) K.length (K.map u8b)]) (Bs.own .here) (by omega)) rfl qT ?_
  rintro _ _ ⟨sa, sc, rfl, rfl⟩
  refine Zg2 qA ?_
  first|refine Zhg (Za2 rfl) ?_|refine Zhg (Zas rfl) ?_
  refine Zg3 ?_
  refine Ct.o ?_
  refine Zgb ?_
  first|refine Zhr rfl qH qZ ?_|refine Zhq rfl qH qZ rfl ?_
  refine Zhz (cs := #[u8b 0#8, u8b 0#8, u8b 0#8, u8b 0#8, u8b 0#8, u8b 0#8, u8b 0#8, u8b 0#8, u8b 0#8, u8b 0#8, u8b 0#8, u8b 0#8, u8b 0#8, u8b 0#8, u8b 0#8, u8b 0#8, u8b 0#8, u8b 0#8, u8b 0#8, u8b 0#8, u8b 0#8, u8b 0#8, u8b 0#8, u8b 0#8, u8b 0#8, u8b 0#8, u8b 0#8, u8b 0#8, u8b 0#8, u8b 0#8, u8b 0#8, u8b 0#8, u8b 0#8, u8b 0#8, u8b 0#8, u8b 0#8, u8b 0#8, u8b 0#8, u8b 0#8, u8b 0#8, u8b 0#8, u8b 0#8, u8b 0#8, u8b 0#8, .slice none 0 0, .slice none 0 0]) rfl ?_; intro b17
  first|refine Zhy rfl rfl qR qZ (by first|rfl|exact oneM_u8 _|exact oneL_u8 _|exact ccl_one _ _ _ _ _ _ _ _|(simp [oneC]; done)) qZ ?_|refine Zhx rfl rfl qR qZ (by first|rfl|exact oneM_u8 _|exact oneL_u8 _|exact ccl_one _ _ _ _ _ _ _ _|(simp [oneC]; done)) qZ rfl ?_
  refine Zg3 ?_
  refine Ct.o ?_
  refine Zgb ?_
  first|refine Zhg (Zl8 rfl) ?_|refine Zhg (Zce rfl) ?_
  refine Zhp rfl qH (c3) ?_
  refine Zh8 rfl (by kernel_rfl) (copyBytes_x (L := L) hta (by omega)) rfl qT ?_
  rintro _ _ ⟨ca, cc, rfl, rfl⟩
  refine Zg2 qA ?_
  first|refine Zhg (Zl8 rfl) ?_|refine Zhg (Zce rfl) ?_
  refine Zhw rfl rfl qR qZ (ccl_set hk hn) ?_
  refine Zg3 ?_
  refine Ct.o ?_
  rw [hsp]
  generalize (spareL box).drop box.length = tl at htail
  have hlen2 := ccl_len (v2 := .slice ma more.length mc) (v3 := .slice ca box.length cc) hk hn
  have d3 := ccl_3 (v2 := .slice ma more.length mc) (v3 := .slice ca box.length cc) hk hn
  refine Ct.o ?_
  refine Zgb ?_
  first|refine Zhg (Zaw rfl) ?_|refine Zhg (Zar rfl) ?_
  first|refine Zhg (Zcr rfl) ?_|refine Zhg (Zct) ?_|refine Zhg (Zcu rfl) ?_
  first|refine Zhg (Zmh (b := 0) rfl rfl) ?_|refine Zhg (Zbp rfl rfl) ?_
  refine Zg3 ?_
  refine Ct.o ?_
  refine Zgn [(117, 130)] (by kernel_rfl) (fun T : List Byte => T.length = box.length) (fun T => (cl b17 ((ccl key nonce (.slice ma more.length mc) (.slice ca box.length cc)).toArray) 28 :: own 5 1 (.slice ca box.length cc) box.length (T.map u8b) :: cl gt ((T ++ tl).map u8b).toArray 5 :: cl gm ((spareL more).map u8b).toArray 5 :: own 5 1 (.slice sa K.length sc) K.length (K.map u8b) :: own 5 1 (.slice ra O.length rc) O.length (O.map u8b) :: own 5 1 (.slice qa K.length qc) K.length (K.map u8b) :: own 5 1 (.slice pa K.length pc) K.length (K.map u8b) :: own 5 1 (.slice ua O.length uc) O.length (O.map u8b) :: own 5 1 (.slice oa O.length oc) O.length (O.map u8b) :: L)) (fun _ => []) ?_ ?_
  · refine Zgg rfl (fun hA => ?_) (fun hA => ?_)
    · have hA0 : 0 < box.length := by omega
      have hg : (((box ++ tl).map u8b).toArray)[0]? = some (u8b box[0]) := by
        rw [List.getElem?_toArray, List.getElem?_map, List.getElem?_append_left (by omega), List.getElem?_eq_getElem hA0]; rfl
      refine Zgt (fun F w H => own_some (a := ca) qH (by omega) H) ?_
      rintro ⟨g2, rfl⟩
      refine Ct.o ?_
      refine Zgb ?_
      first|refine Zhg (Zaw rfl) ?_|refine Zhg (Zar rfl) ?_
      first|refine Zhg (Zaw rfl) ?_|refine Zhg (Zar rfl) ?_
      first|refine Zhg (Zl4 (n := 0) rfl rfl) ?_|refine Zhg (Zl1 (n := 0) rfl rfl) ?_
      refine Zhp rfl qH (hg) ?_
      refine Zhg (Zje (y := 1#8) rfl rfl) ?_
      first|refine Zhg (Zl4 (n := 0) rfl rfl) ?_|refine Zhg (Zl1 (n := 0) rfl rfl) ?_
      refine Zht rfl rfl qR qZ (setL (f := u8b)) ?_
      refine Zg3 ?_
      refine Ct.o ?_
      rw [List.set_append_left _ _ hA0]
      refine Ct.o ?_
      refine Zij (_) [3, 4, 5, 6] (.q 0 (.q 2 (.r 1 (.r 3 (.r 4 (.r 5 (.r 6 (.q 7 (.e 8 false .nil))))))))) (by kernel_rfl) (by kernel_rfl) (Imp.refl _) ?_
      first|refine Zim rfl (Zl8 rfl) ?_|refine Zim rfl (Zce rfl) ?_
      first|refine Zim rfl (Zl8 rfl) ?_|refine Zim rfl (Zce rfl) ?_
      refine Ziv rfl rfl qH (d3) ?_
      refine Ziv rfl rfl qH (d3) ?_
      first|refine Ziz rfl (Zl4 (n := 0) rfl rfl) ?_|refine Ziz rfl (Zl1 (n := 0) rfl rfl) ?_
      refine Zfh rfl rfl (((Rd.own (n := box.length) qH).at0 hA0 (getM hA0))) ?_
      refine Ziz rfl (Zje (y := 1#8) rfl rfl) ?_
      first|refine Zim rfl (Zl4 (n := 0) rfl rfl) ?_|refine Zim rfl (Zl1 (n := 0) rfl rfl) ?_
      refine Ziq rfl ?_; refine Zm7 (u := u8b (box[0] ^^^ 1#8)) (i := 0) (xs := box.map u8b) (ys := (box.set 0 (box[0] ^^^ 1#8)).map u8b) rfl rfl rfl qR hA0 (by rw [List.map_set]) ?_; refine Zg3 ⟨(fun hh => Bool.noConfusion hh), ?_⟩
      refine Zik ?_
      refine Ct.o ?_
      exact Zgk (box.set 0 (box[0] ^^^ 1#8)) (by simp) qI trivial
    · refine Ct.o ?_
      exact Zgk box rfl qI trivial
  intro T u hT
  refine Ct.o ?_
  refine Zgb ?_
  first|refine Zhr rfl qH qZ ?_|refine Zhq rfl qH qZ rfl ?_
  first|refine Zhg (Zaw rfl) ?_|refine Zhg (Zar rfl) ?_
  first|refine Zhg (Zaw rfl) ?_|refine Zhg (Zar rfl) ?_
  refine Zh8 rfl (by kernel_rfl) (opened_x (L := (cl gm ((spareL more).map u8b).toArray 5 :: cl gt ((T ++ tl).map u8b).toArray 5 :: own 5 1 (.slice ca box.length cc) box.length (T.map u8b) :: L)) key nonce hk hn (hma.imp (Imp.arr qV)) (bs_own (.there (.there .here)) hT) (bs_spare .here (by omega)) (bs_front (c := box.length + 80) (.there .here) hT (by omega) (by omega)) (by omega) (by omega)) rfl qT ?_
  rintro _ _ ⟨rfl, rfl⟩
  refine Zg2 qA ?_
  first|refine Zhg (Zb1 rfl) ?_|refine Zhg (Zb0 rfl) ?_
  refine Zhn 135 rfl (rfl) ?_
  first|refine Zhg (Zau rfl) ?_|refine Zhg (Zar rfl) ?_
  first|refine Zhi rfl ?_|refine Zhj rfl ?_|(refine Zhh rfl ?_; (first|refine Zhg (Zaw rfl) ?_|refine Zhg (Zar rfl) ?_))
  first|refine Zhi rfl ?_|refine Zhj rfl ?_|(refine Zhh rfl ?_; (first|refine Zhg (Zaw rfl) ?_|refine Zhg (Zar rfl) ?_))
  first|refine Zhi rfl ?_|refine Zhj rfl ?_|(refine Zhh rfl ?_; (refine Zh8 rfl (by kernel_rfl) (eqBytes_x (L := [own 5 1 (.slice oa O.length oc) O.length (O.map u8b), own 5 1 (.slice ra O.length rc) O.length (O.map u8b)]) (a := O) (b := O) (Bs.own .here) (Bs.own (.there .here))) rfl qT ?_); (rintro _ _ ⟨rfl, rfl⟩); (refine Zg2 qA ?_))
  refine Zhm 139 rfl (decide_eq_true (rfl)) ?_
  first|refine Zhi rfl ?_|refine Zhj rfl ?_|(refine Zhh rfl ?_; (first|refine Zhg (Zb1 rfl) ?_|refine Zhg (Zb0 rfl) ?_))
  refine Zhn 140 rfl (rfl) ?_
  first|refine Zhg (Zdz rfl rfl) ?_|refine Zhg (Zd0 rfl rfl) ?_|refine Zhg (Za8 rfl rfl) ?_|refine Zhg (Za9 rfl rfl) ?_|refine Zhg (Za6 rfl rfl) ?_|refine Zhg (Za7 rfl rfl) ?_
  first|refine Zhg (Zau rfl) ?_|refine Zhg (Zar rfl) ?_
  first|refine Zhi rfl ?_|refine Zhj rfl ?_|(refine Zhh rfl ?_; (first|refine Zhg (Zaw rfl) ?_|refine Zhg (Zar rfl) ?_))
  first|refine Zhi rfl ?_|refine Zhj rfl ?_|(refine Zhh rfl ?_; (first|refine Zhg (Zaw rfl) ?_|refine Zhg (Zar rfl) ?_))
  first|refine Zhi rfl ?_|refine Zhj rfl ?_|(refine Zhh rfl ?_; (refine Zh8 rfl (by kernel_rfl) (eqBytes_x (L := [own 5 1 (.slice ua O.length uc) O.length (O.map u8b), own 5 1 (.slice ra O.length rc) O.length (O.map u8b)]) (a := O) (b := O) (Bs.own .here) (Bs.own (.there .here))) rfl qT ?_); (rintro _ _ ⟨rfl, rfl⟩); (refine Zg2 qA ?_))
  refine Zhm 145 rfl (decide_eq_true (rfl)) ?_
  first|refine Zhi rfl ?_|refine Zhj rfl ?_|(refine Zhh rfl ?_; (first|refine Zhg (Zb1 rfl) ?_|refine Zhg (Zb0 rfl) ?_))
  refine Zhn 146 rfl (rfl) ?_
  first|refine Zhg (Zdz rfl rfl) ?_|refine Zhg (Zd0 rfl rfl) ?_|refine Zhg (Za8 rfl rfl) ?_|refine Zhg (Za9 rfl rfl) ?_|refine Zhg (Za6 rfl rfl) ?_|refine Zhg (Za7 rfl rfl) ?_
  first|refine Zhg (Zau rfl) ?_|refine Zhg (Zar rfl) ?_
  first|refine Zhi rfl ?_|refine Zhj rfl ?_|(refine Zhh rfl ?_; (first|refine Zhg (Zaw rfl) ?_|refine Zhg (Zar rfl) ?_))
  first|refine Zhi rfl ?_|refine Zhj rfl ?_|(refine Zhh rfl ?_; (first|refine Zhg (Zaw rfl) ?_|refine Zhg (Zar rfl) ?_))
  first|refine Zhi rfl ?_|refine Zhj rfl ?_|(refine Zhh rfl ?_; (refine Zh8 rfl (by kernel_rfl) (eqBytes_x (L := [own 5 1 (.slice pa K.length pc) K.length (K.map u8b), own 5 1 (.slice sa K.length sc) K.length (K.map u8b)]) (a := K) (b := K) (Bs.own .here) (Bs.own (.there .here))) rfl qT ?_); (rintro _ _ ⟨rfl, rfl⟩); (refine Zg2 qA ?_))
  refine Zhm 151 rfl (decide_eq_true (rfl)) ?_
  first|refine Zhi rfl ?_|refine Zhj rfl ?_|(refine Zhh rfl ?_; (first|refine Zhg (Zb1 rfl) ?_|refine Zhg (Zb0 rfl) ?_))
  refine Zhn 152 rfl (rfl) ?_
  first|refine Zhg (Zdz rfl rfl) ?_|refine Zhg (Zd0 rfl rfl) ?_|refine Zhg (Za8 rfl rfl) ?_|refine Zhg (Za9 rfl rfl) ?_|refine Zhg (Za6 rfl rfl) ?_|refine Zhg (Za7 rfl rfl) ?_
  first|refine Zhg (Zau rfl) ?_|refine Zhg (Zar rfl) ?_
  first|refine Zhi rfl ?_|refine Zhj rfl ?_|(refine Zhh rfl ?_; (first|refine Zhg (Zaw rfl) ?_|refine Zhg (Zar rfl) ?_))
  first|refine Zhi rfl ?_|refine Zhj rfl ?_|(refine Zhh rfl ?_; (first|refine Zhg (Zaw rfl) ?_|refine Zhg (Zar rfl) ?_))
  first|refine Zhi rfl ?_|refine Zhj rfl ?_|(refine Zhh rfl ?_; (refine Zh8 rfl (by kernel_rfl) (eqBytes_x (L := [own 5 1 (.slice qa K.length qc) K.length (K.map u8b), own 5 1 (.slice sa K.length sc) K.length (K.map u8b)]) (a := K) (b := K) (Bs.own .here) (Bs.own (.there .here))) rfl qT ?_); (rintro _ _ ⟨rfl, rfl⟩); (refine Zg2 qA ?_))
  refine Zhm 157 rfl (decide_eq_true (rfl)) ?_
  first|refine Zhi rfl ?_|refine Zhj rfl ?_|(refine Zhh rfl ?_; (first|refine Zhg (Zb1 rfl) ?_|refine Zhg (Zb0 rfl) ?_))
  refine Zhn 158 rfl (rfl) ?_
  first|refine Zhg (Zdz rfl rfl) ?_|refine Zhg (Zd0 rfl rfl) ?_|refine Zhg (Za8 rfl rfl) ?_|refine Zhg (Za9 rfl rfl) ?_|refine Zhg (Za6 rfl rfl) ?_|refine Zhg (Za7 rfl rfl) ?_
  refine Zg3 ?_
  refine Ct.o ?_
  refine Zgf rfl ?_
  refine Ct.o ?_
  refine Zgp (Imp.arr (N := own 5 1 (.slice oa O.length oc) O.length (O.map u8b) :: own 5 1 (.slice ua O.length uc) O.length (O.map u8b) :: own 5 1 (.slice pa K.length pc) K.length (K.map u8b) :: own 5 1 (.slice qa K.length qc) K.length (K.map u8b) :: cl b17 ((ccl key nonce (.slice ma more.length mc) (.slice ca box.length cc)).toArray) 28 :: cl gt ((T ++ tl).map u8b).toArray 5 :: own 5 1 (.slice ca box.length cc) box.length (T.map u8b) :: L) qV) ?_
  refine Zgp (Imp.cons (Imp.cons (Imp.cons (Imp.cons (star_nil (A := ownP)))))) ?_
  refine Zgp (Imp.cons (Imp.cons (Imp.cons (star_cons (A := ownP) (x := (qa, qc, K)))))) ?_
  refine Zgp (Imp.cons (Imp.cons (star_cons (A := ownP) (x := (pa, pc, K))))) ?_
  refine Zgp (Imp.cons (star_cons (A := ownP) (x := (ua, uc, O)))) ?_
  refine Zgp (star_cons (A := ownP) (x := (oa, oc, O))) ?_
  refine Ct.o ?_
  refine Zgb ?_
  first|refine Zhg (Zaw rfl) ?_|refine Zhg (Zar rfl) ?_
  first|refine Zhg (Zaw rfl) ?_|refine Zhg (Zar rfl) ?_
  first|refine Zhg (Zaw rfl) ?_|refine Zhg (Zar rfl) ?_
  first|refine Zhg (Zaw rfl) ?_|refine Zhg (Zar rfl) ?_
  refine Zh7 (cs := #[.slice _ _ _, .slice _ _ _, .slice _ _ _, .slice _ _ _]) (by omega) (by omega) rfl ?_; intro b164
  refine Zh8 rfl (by kernel_rfl) (apart_x (N := 4) (L := [cl b164 #[.slice oa O.length oc, .slice ua O.length uc, .slice pa K.length pc, .slice qa K.length qc] 26]) [(oa, oc, O), (ua, uc, O), (pa, pc, K), (qa, qc, K)] rfl (by omega) (by intro p hp; simp only [List.mem_cons, List.not_mem_nil, or_false] at hp; rcases hp with rfl|rfl|rfl|rfl <;> (dsimp only; omega)) (Rd.cl (o := 0) .here rfl (by simp) rfl)) rfl qT ?_
  rintro _ _ ⟨rfl, rfl⟩
  refine Zg2 qA ?_
  refine Zhm 165 rfl (rfl) ?_
  first|refine Zhg (Zau rfl) ?_|refine Zhg (Zar rfl) ?_
  first|refine Zhi rfl ?_|refine Zhj rfl ?_|(refine Zhh rfl ?_; (first|refine Zhg (Zaw rfl) ?_|refine Zhg (Zar rfl) ?_))
  first|refine Zhi rfl ?_|refine Zhj rfl ?_|(refine Zhh rfl ?_; (first|refine Zhg (Zl8 rfl) ?_|refine Zhg (Zce rfl) ?_))
  first|refine Zhi rfl ?_|refine Zhj rfl ?_|(refine Zhh rfl ?_; (refine Zhp rfl qH (d3) ?_))
  first|refine Zhi rfl ?_|refine Zhj rfl ?_|(refine Zhh rfl ?_; (refine Zh8 rfl (by kernel_rfl) (eqBytes_x (L := [cl gt ((T ++ tl).map u8b).toArray 5, own 5 1 (.slice ca box.length cc) box.length (T.map u8b)]) (a := T) (b := T) (bs_front (c := box.length + 80) .here hT (by omega) (by omega)) (bs_own (.there .here) hT)) rfl qT ?_); (rintro _ _ ⟨rfl, rfl⟩); (refine Zg2 qA ?_))
  refine Zhm 170 rfl (decide_eq_true (rfl)) ?_
  first|refine Zhg (Zdz rfl rfl) ?_|refine Zhg (Zd0 rfl rfl) ?_|refine Zhg (Za8 rfl rfl) ?_|refine Zhg (Za9 rfl rfl) ?_|refine Zhg (Za6 rfl rfl) ?_|refine Zhg (Za7 rfl rfl) ?_
  refine Zhm 171 rfl (rfl) ?_
  first|refine Zhg (Zau rfl) ?_|refine Zhg (Zar rfl) ?_
  first|refine Zhi rfl ?_|refine Zhj rfl ?_|(refine Zhh rfl ?_; (refine Zh8 rfl (by kernel_rfl) (works_x) rfl qT ?_); (rintro _ _ ⟨rfl, rfl⟩); (refine Zg2 qA ?_))
  first|refine Zhg (Zdz rfl rfl) ?_|refine Zhg (Zd0 rfl rfl) ?_|refine Zhg (Za8 rfl rfl) ?_|refine Zhg (Za9 rfl rfl) ?_|refine Zhg (Za6 rfl rfl) ?_|refine Zhg (Za7 rfl rfl) ?_
  first|refine Zhg (Za0 rfl) ?_|refine Zhg (Zas rfl) ?_
  refine Zg3 ?_
  refine Ct.o ?_
  refine rx1 (Zha rfl (Zg7)) ?_
  exact ⟨_, ⟨rfl, rfl⟩, qI⟩
theorem opens_x (W : World) (x : CaseV) (ok : CaseVOk W x) : Con Try.prog 5 [.agg x.cells.toArray] [old W] (fun r M => r = .bool true ∧ [old W] = M) := by
  rw [case_ccl]
  exact opens_g x.key_ x.nonce_ ok.key_ ok.nonce_ (ok.more_.bs .here) (ok.text_.bs .here) ok.more_.len ok.text_.len
end Go.Sl

/- the statements' small helpers: rising, KeyOf, Text, walked. -/
set_option maxHeartbeats 4000000
set_option maxRecDepth 10000
set_option linter.unusedVariables false
set_option linter.unusedSimpArgs false
namespace Go.Sl
open Go Go.Proofs
attribute [local irreducible] cl pt own old pur ex all den denOps denS xOps xC cX CX xthen xblk xcut xloop xgo xng retX resX Calls PV Rd Con
def riseB (f : Byte) (n : Nat) : List Byte := (List.range n).map fun i : Nat => f + BitVec.ofInt 8 ((i : Nat) : Int)
theorem riseB_len (f : Byte) (n : Nat) : (riseB f n).length = n := by simp [riseB]
theorem riseB_succ (f : Byte) (n : Nat) : riseB f (n + 1) = riseB f n ++ [f + BitVec.ofInt 8 (n : Int)] := by simp [riseB, List.range_succ]
theorem rising_x {L : List Asrt} (f : Byte) (n : Nat) (hn : n ≤ 1048576) : Con Try.prog 24 [u8b f, nvv n] L (fun r M => ∃ a c, r = .slice a n c ∧ M = own 5 1 r n ((riseB f n).map u8b) :: L) := by
  refine fn_x Try.func24 rfl rfl rfl Try.mixed (by kernel_rfl) ?_
  intro w0
  refine Ct.o ?_
  refine Zgb ?_
  first|refine Zhg (Za2 rfl) ?_|refine Zhg (Zas rfl) ?_
  refine Zg3 ?_
  refine Ct.o ?_
  refine Zgb ?_
  first|refine Zhg (Za2 rfl) ?_|refine Zhg (Zas rfl) ?_
  refine Zg3 ?_
  refine Ct.o ?_
  refine Zgb ?_
  first|refine Zhg (Zaz rfl) ?_|refine Zhg (Zas rfl) ?_
  refine Zg3 ?_
  refine Ct.o ?_
  refine Zgo [(5, 18)] (by kernel_rfl) (fun s : Nat × Option Addr × Nat => s.1 ≤ n) (fun s => own 5 1 (.slice s.2.1 s.1 s.2.2) s.1 ((riseB f s.1).map u8b) :: L)
    (fun s => [(6, nvv s.1), (5, .slice s.2.1 s.1 s.2.2)]) (fun s => n - s.1) (0, none, 0) (Nat.zero_le _) (Imp.own_nil) ⟨rfl, rfl, trivial⟩ ?_
  rintro ⟨i, a, c⟩ u hi
  dsimp only at hi ⊢
  refine Ct.o ?_
  refine Zgb ?_
  first|refine Zhg (Zat rfl) ?_|refine Zhg (Zar rfl) ?_
  first|refine Zhg (Zat rfl) ?_|refine Zhg (Zar rfl) ?_
  first|refine Zhg (Zmf rfl rfl) ?_|refine Zhg (Zbn rfl rfl) ?_
  refine Zg3 ?_
  refine Ct.o ?_
  refine Zgg rfl (fun hB => ?_) (fun hB => ?_)
  · refine Ct.o ?_
    refine Zgb ?_
    first|refine Zhg (Zaw rfl) ?_|refine Zhg (Zar rfl) ?_
    first|refine Zhg (Zat rfl) ?_|refine Zhg (Zar rfl) ?_
    first|refine Zhg (Zat rfl) ?_|refine Zhg (Zar rfl) ?_
    refine Zhg (Zjs rfl) ?_
    refine Zhg (Zi9 rfl rfl) ?_
    refine Zh7 (cs := #[.int .u8 _]) (by omega) (by omega) rfl ?_; intro b17
    refine Zia rfl rfl qH (Rd.cl (xs := [u8b (f + BitVec.ofInt 8 (i : Int))]) qH rfl qZ rfl) qN (by omega) qS ?_; intro a3 c3
    first|refine Zhg (Za2 rfl) ?_|refine Zhg (Zas rfl) ?_
    refine Zg3 ?_
    refine Ct.o ?_
    have e2 : (riseB f i).map u8b ++ [u8b (f + BitVec.ofInt 8 (i : Int))] = (riseB f (i + 1)).map u8b := by rw [riseB_succ]; simp only [List.map_append, List.map_cons, List.map_nil]
    rw [e2]
    refine Ct.o ?_
    refine Zgb ?_
    first|refine Zhg (Zat rfl) ?_|refine Zhg (Zar rfl) ?_
    first|refine Zhg (Zma (b := 1) rfl rfl) ?_|refine Zhg (Zbg rfl rfl) ?_
    first|refine Zhg (Zaz rfl) ?_|refine Zhg (Zas rfl) ?_
    refine Zg3 ?_
    refine Ct.o ?_
    exact Zgl (i + 1, a3, c3) qO qO qI ⟨rfl, rfl, trivial⟩
  · have hie : i = n := by omega
    subst hie
    refine Ct.o ?_
    refine Zgb ?_
    first|refine Zhg (Zaw rfl) ?_|refine Zhg (Zar rfl) ?_
    first|refine Zhg (Za2 rfl) ?_|refine Zhg (Zas rfl) ?_
    refine Zg3 ?_
    refine Ct.o ?_
    refine rx1 (Zhc rfl (Zg7)) ?_
    exact ⟨_, ⟨a, c, rfl, rfl⟩, qI⟩
theorem keyOf_x {L : List Asrt} {v : Value} {b : List Byte} (h : Bs L v b) (hb : b.length = 32) : Con Try.prog 23 [v] L (fun r M => r = .agg (b.map u8b).toArray ∧ L = M) := by
  refine Con.get (fun w0 w F H => h.sh _ _ _ H) ?_
  rintro ⟨va, vc, rfl, hvc, hvcm⟩
  refine Con.get (fun w0 w F H => h.some (by omega) H) ?_
  rintro ⟨g, o, rfl⟩
  refine fn_x Try.func23 rfl rfl rfl Try.mixed (by kernel_rfl) ?_
  intro w0
  refine Ct.o ?_
  refine Zgb ?_
  refine Zhz (cs := ((List.replicate 32 0#8).map u8b).toArray) rfl ?_; intro b2
  refine Zg3 ?_
  refine Ct.o ?_
  refine Zgb ?_
  refine Zhz (cs := ((List.replicate 32 0#8).map u8b).toArray) rfl ?_; intro b3
  refine Zg3 ?_
  refine Ct.o ?_
  refine Zgb ?_
  first|refine Zhg (Zaz rfl) ?_|refine Zhg (Zas rfl) ?_
  refine Zg3 ?_
  refine Ct.o ?_
  refine Zgo [(4, 20)] (by kernel_rfl) (fun i : Nat => i ≤ 32) (fun i => cl b3 ((cpK b 32 i).map u8b).toArray 23 :: cl b2 ((List.replicate 32 0#8).map u8b).toArray 23 :: L)
    (fun i => [(4, nvv i)]) (fun i => 32 - i) 0 (by omega) (by show Imp _ (cl b3 ((List.replicate 32 0#8).map u8b).toArray _ :: _); exact qI) ⟨rfl, trivial⟩ ?_
  intro i u hi
  have hkl := cpK_len b 32 i hi (by omega)
  by_cases hB : i < 32
  · have hiN : i < b.length := by omega
    refine Ct.o ?_
    refine Zgb ?_
    first|refine Zhg (Zat rfl) ?_|refine Zhg (Zar rfl) ?_
    first|refine Zhg (Zmf (b := 32) rfl rfl) ?_|refine Zhg (Zbn rfl rfl) ?_
    refine Zhm 6 rfl (decide_eq_true (hB)) ?_
    first|refine Zhg (Zau rfl) ?_|refine Zhg (Zar rfl) ?_
    first|refine Zhi rfl ?_|refine Zhj rfl ?_|(refine Zhh rfl ?_; (first|refine Zhg (Zat rfl) ?_|refine Zhg (Zar rfl) ?_))
    first|refine Zhi rfl ?_|refine Zhj rfl ?_|(refine Zhh rfl ?_; (first|refine Zhg (Zaw rfl) ?_|refine Zhg (Zar rfl) ?_))
    first|refine Zhi rfl ?_|refine Zhj rfl ?_|(refine Zhh rfl ?_; (first|refine Zhg (Zcr rfl) ?_|refine Zhg (Zct) ?_|refine Zhg (Zcu rfl) ?_))
    first|refine Zhi rfl ?_|refine Zhj rfl ?_|(refine Zhh rfl ?_; (first|refine Zhg (Zmf rfl rfl) ?_|refine Zhg (Zbn rfl rfl) ?_))
    refine Zhm 11 rfl (decide_eq_true (hiN)) ?_
    first|refine Zhg (Zdz rfl rfl) ?_|refine Zhg (Zd0 rfl rfl) ?_|refine Zhg (Za8 rfl rfl) ?_|refine Zhg (Za9 rfl rfl) ?_|refine Zhg (Za6 rfl rfl) ?_|refine Zhg (Za7 rfl rfl) ?_
    refine Zg3 ?_
    refine Ct.o ?_
    refine Zge rfl ?_
    refine Ct.o ?_
    refine Zgb ?_
    first|refine Zhg (Zat rfl) ?_|refine Zhg (Zar rfl) ?_
    first|refine Zhg (Zaw rfl) ?_|refine Zhg (Zar rfl) ?_
    first|refine Zhg (Zat rfl) ?_|refine Zhg (Zar rfl) ?_
    first|refine Zhg (Zl4 rfl rfl) ?_|refine Zhg (Zl1 rfl rfl) ?_
    refine Zff rfl ((h.imp (Imp.arr qV)).rd.at hiN (getM hiN)) ?_
    first|refine Zhg (Zl5 rfl rfl) ?_|refine Zhg (Zl3 rfl rfl) ?_
    refine Zht rfl rfl qR qZ (setL (f := u8b)) ?_
    refine Zg3 ?_
    refine Ct.o ?_
    rw [cpK_set b 32 i hB hiN]
    refine Ct.o ?_
    refine Zgb ?_
    first|refine Zhg (Zat rfl) ?_|refine Zhg (Zar rfl) ?_
    first|refine Zhg (Zma (b := 1) rfl rfl) ?_|refine Zhg (Zbg rfl rfl) ?_
    first|refine Zhg (Zaz rfl) ?_|refine Zhg (Zas rfl) ?_
    refine Zg3 ?_
    refine Ct.o ?_
    exact Zgl (i + 1) qO (by omega) qI ⟨rfl, trivial⟩
  · have hie : i = 32 := by omega
    subst hie
    refine Ct.o ?_
    refine Zgb ?_
    first|refine Zhg (Zat rfl) ?_|refine Zhg (Zar rfl) ?_
    first|refine Zhg (Zmf (b := 32) rfl rfl) ?_|refine Zhg (Zbn rfl rfl) ?_
    refine Zhn 6 rfl (decide_eq_false (hB)) ?_
    first|refine Zhg (Zau rfl) ?_|refine Zhg (Zar rfl) ?_
    first|refine Zhi rfl ?_|refine Zhj rfl ?_|(refine Zhh rfl ?_; (first|refine Zhg (Zat rfl) ?_|refine Zhg (Zar rfl) ?_))
    first|refine Zhi rfl ?_|refine Zhj rfl ?_|(refine Zhh rfl ?_; (first|refine Zhg (Zaw rfl) ?_|refine Zhg (Zar rfl) ?_))
    first|refine Zhi rfl ?_|refine Zhj rfl ?_|(refine Zhh rfl ?_; (first|refine Zhg (Zcr rfl) ?_|refine Zhg (Zct) ?_|refine Zhg (Zcu rfl) ?_))
    first|refine Zhi rfl ?_|refine Zhj rfl ?_|(refine Zhh rfl ?_; (first|refine Zhg (Zmf rfl rfl) ?_|refine Zhg (Zbn rfl rfl) ?_))
    first|refine Zhg (Zdz rfl rfl) ?_|refine Zhg (Zd0 rfl rfl) ?_|refine Zhg (Za8 rfl rfl) ?_|refine Zhg (Za9 rfl rfl) ?_|refine Zhg (Za6 rfl rfl) ?_|refine Zhg (Za7 rfl rfl) ?_
    refine Zg3 ?_
    refine Ct.o ?_
    refine Zgf rfl ?_
    refine Ct.o ?_
    rw [cpK_end b 32 (by omega), List.take_of_length_le (by omega)]
    refine Ct.o ?_
    refine Zgb ?_
    first|refine Zhr rfl qH qZ ?_|refine Zhq rfl qH qZ rfl ?_
    first|refine Zhy rfl rfl qR qZ qN qZ ?_|refine Zhx rfl rfl qR qZ qN qZ rfl ?_
    refine Zg3 ?_
    refine Ct.o ?_
    refine rx1 (Zhe rfl qH qZ (Zg7)) ?_
    exact ⟨_, ⟨rfl, rfl⟩, qI⟩
theorem text_x {L : List Asrt} (s : ByteArray) (b : List Byte) (hb : s.data.toList = b.map (fun x => UInt8.ofBitVec x)) (hl : b.length ≤ 1048576) : Con Try.prog 26 [.string s] L (fun r M => ∃ a c, r = .slice a b.length c ∧ M = own 5 1 r b.length (b.map u8b) :: L) := by
  have hsz : s.size = b.length := by show s.data.size = _; rw [← Array.length_toList, hb, List.length_map]
  refine fn_x Try.func26 rfl rfl rfl Try.mixed (by kernel_rfl) ?_
  intro w0
  refine Ct.o ?_
  refine Zgb ?_
  first|refine Zhg (Za2 rfl) ?_|refine Zhg (Zas rfl) ?_
  refine Zg3 ?_
  refine Ct.o ?_
  refine Zgb ?_
  first|refine Zhg (Za2 rfl) ?_|refine Zhg (Zas rfl) ?_
  refine Zg3 ?_
  refine Ct.o ?_
  refine Zgb ?_
  first|refine Zhg (Zaz rfl) ?_|refine Zhg (Zas rfl) ?_
  refine Zg3 ?_
  refine Ct.o ?_
  refine Zgo [(3, 16)] (by kernel_rfl) (fun t : Nat × Option Addr × Nat => t.1 ≤ b.length) (fun t => own 5 1 (.slice t.2.1 t.1 t.2.2) t.1 ((b.take t.1).map u8b) :: L)
    (fun t => [(4, nvv t.1), (3, .slice t.2.1 t.1 t.2.2)]) (fun t => b.length - t.1) (0, none, 0) (Nat.zero_le _) (Imp.own_nil) ⟨rfl, rfl, trivial⟩ ?_
  rintro ⟨i, a, c⟩ u hi
  dsimp only at hi ⊢
  refine Ct.o ?_
  refine Zgb ?_
  first|refine Zhg (Zat rfl) ?_|refine Zhg (Zar rfl) ?_
  first|refine Zhg (Zmo rfl) ?_|refine Zhg (Zar rfl) ?_
  first|refine Zhg (Zcr rfl) ?_|refine Zhg (Zct) ?_|refine Zhg (Zcu rfl) ?_
  first|refine Zhg (Zmf rfl rfl) ?_|refine Zhg (Zbn rfl rfl) ?_
  refine Zg3 ?_
  refine Ct.o ?_
  refine Zgg rfl (fun hB => ?_) (fun hB => ?_)
  · have hB2 : i < b.length := by omega
    refine Ct.o ?_
    refine Zgb ?_
    first|refine Zhg (Zaw rfl) ?_|refine Zhg (Zar rfl) ?_
    first|refine Zhg (Zmo rfl) ?_|refine Zhg (Zar rfl) ?_
    first|refine Zhg (Zat rfl) ?_|refine Zhg (Zar rfl) ?_
    refine Zhg (Znr Try.underlying9 rfl rfl (str_at hb hB2)) ?_
    refine Zh7 (cs := #[.int .u8 _]) (by omega) (by omega) rfl ?_; intro b15
    refine Zia rfl rfl qH (Rd.cl (xs := [u8b b[i]]) qH rfl qZ rfl) qN (by omega) qS ?_; intro a3 c3
    first|refine Zhg (Za2 rfl) ?_|refine Zhg (Zas rfl) ?_
    refine Zg3 ?_
    refine Ct.o ?_
    have e2 : (b.take i).map u8b ++ [u8b b[i]] = (b.take (i + 1)).map u8b := by rw [List.take_succ_eq_append_getElem hB2]; simp only [List.map_append, List.map_cons, List.map_nil]
    rw [e2]
    refine Ct.o ?_
    refine Zgb ?_
    first|refine Zhg (Zat rfl) ?_|refine Zhg (Zar rfl) ?_
    first|refine Zhg (Zma (b := 1) rfl rfl) ?_|refine Zhg (Zbg rfl rfl) ?_
    first|refine Zhg (Zaz rfl) ?_|refine Zhg (Zas rfl) ?_
    refine Zg3 ?_
    refine Ct.o ?_
    exact Zgl (i + 1, a3, c3) qO qO qI ⟨rfl, rfl, trivial⟩
  · have hie : i = b.length := by omega
    subst hie
    rw [List.take_length]
    refine Ct.o ?_
    refine Zgb ?_
    first|refine Zhg (Zaw rfl) ?_|refine Zhg (Zar rfl) ?_
    first|refine Zhg (Za2 rfl) ?_|refine Zhg (Zas rfl) ?_
    refine Zg3 ?_
    refine Ct.o ?_
    refine rx1 (Zhc rfl (Zg7)) ?_
    exact ⟨_, ⟨a, c, rfl, rfl⟩, qI⟩
end Go.Sl

/- SealKnown: the document's example, reckoned by the kernel. -/
set_option maxHeartbeats 4000000
set_option maxRecDepth 10000
set_option linter.unusedVariables false
set_option linter.unusedSimpArgs false
namespace Go.Sl
open Go Go.Proofs
attribute [local irreducible] cl pt own old pur ex all den denOps denS xOps xC cX CX xthen xblk xcut xloop xgo xng retX resX Calls PV Rd Con
def kK : List Byte := riseB 128#8 32
def nK : List Byte := [7#8, 0#8, 0#8, 0#8, 64#8, 65#8, 66#8, 67#8, 68#8, 69#8, 70#8, 71#8]
def mK : List Byte := [80#8, 81#8, 82#8, 83#8] ++ riseB 192#8 8
def tK : List Byte := [76#8, 97#8, 100#8, 105#8, 101#8, 115#8, 32#8, 97#8, 110#8, 100#8, 32#8, 71#8, 101#8, 110#8, 116#8, 108#8, 101#8, 109#8, 101#8, 110#8, 32#8, 111#8, 102#8, 32#8, 116#8, 104#8, 101#8, 32#8, 99#8, 108#8, 97#8, 115#8, 115#8, 32#8, 111#8, 102#8, 32#8, 39#8, 57#8, 57#8, 58#8, 32#8, 73#8, 102#8, 32#8, 73#8, 32#8, 99#8, 111#8, 117#8, 108#8, 100#8, 32#8, 111#8, 102#8, 102#8, 101#8, 114#8, 32#8, 121#8, 111#8, 117#8, 32#8, 111#8, 110#8, 108#8, 121#8, 32#8, 111#8, 110#8, 101#8, 32#8, 116#8, 105#8, 112#8, 32#8, 102#8, 111#8, 114#8, 32#8, 116#8, 104#8, 101#8, 32#8, 102#8, 117#8, 116#8, 117#8, 114#8, 101#8, 44#8, 32#8, 115#8, 117#8, 110#8, 115#8, 99#8, 114#8, 101#8, 101#8, 110#8, 32#8, 119#8, 111#8, 117#8, 108#8, 100#8, 32#8, 98#8, 101#8, 32#8, 105#8, 116#8, 46#8]
theorem kn_len : tK.length = 114 := by decide +kernel
theorem kn_head : (sealB kK nK mK tK).take 8 = [211#8, 26#8, 141#8, 52#8, 100#8, 142#8, 96#8, 219#8] := by decide +kernel
theorem kn_tag : (sealB kK nK mK tK).drop 114 = [26#8, 225#8, 11#8, 89#8, 79#8, 9#8, 226#8, 106#8, 126#8, 144#8, 46#8, 203#8, 208#8, 96#8, 6#8, 145#8] := by decide +kernel
end Go.Sl

/- trystlaw07: SealOneForm, walked. -/
set_option maxHeartbeats 4000000
set_option maxRecDepth 10000
set_option linter.unusedVariables false
set_option linter.unusedSimpArgs false
namespace Go.Sl
open Go Go.Proofs
attribute [local irreducible] cl pt own old pur ex all den denOps denS xOps xC cX CX xthen xblk xcut xloop xgo xng retX resX Calls PV Rd Con
attribute [local irreducible] code blockB ksB xorB vouchB leB sealB textB rightB ccl
theorem sealR_text (key nonce more box : List Byte) (hr : rightB key nonce more box = true) (h16 : 16 ≤ box.length) (h1 : more.length ≤ 1048576) (h2 : box.length - 16 ≤ 1048576) : sealR key nonce more (textB key nonce box) = (box, 0) := by
  rw [sealR_ok _ _ _ _ h1 (by rw [textB_len]; exact h2), seal_text _ _ _ _ hr]
theorem oneForm_g {L : List Asrt} (key nonce : List Byte) (hk : key.length = 32) (hn : nonce.length = 12) {vm vt : Value} {more text : List Byte} (hma : Bs L vm more) (hta : Bs L vt text) (hml : more.length ≤ 140737488351232) (htl : text.length ≤ 140737488351232) :
    Con Try.prog 7 [.agg (ccl key nonce vm vt).toArray] L (fun r M => r = .bool true ∧ L = M) := by
  refine Con.get (fun w0 w F H => hma.sh _ _ _ H) ?_
  rintro ⟨ma, mc, rfl, hmc1, hmc2⟩
  refine Con.get (fun w0 w F H => hta.sh _ _ _ H) ?_
  rintro ⟨ta, tc, rfl, htc1, htc2⟩
  have hlen := ccl_len (v2 := .slice ma more.length mc) (v3 := .slice ta text.length tc) hk hn
  have c0 := ccl_key (v2 := .slice ma more.length mc) (v3 := .slice ta text.length tc) hk hn
  have c1 := ccl_nonce (v2 := .slice ma more.length mc) (v3 := .slice ta text.length tc) hk hn
  have c2 := ccl_2 (v2 := .slice ma more.length mc) (v3 := .slice ta text.length tc) hk hn
  have c3 := ccl_3 (v2 := .slice ma more.length mc) (v3 := .slice ta text.length tc) hk hn
  refine fn_x Try.func7 rfl rfl rfl Try.mixed (by kernel_rfl) ?_
  intro w0
  refine Ct.o ?_
  refine Zgb ?_
  refine Zh5 rfl ?_; intro b1
  first|refine Zhg (Za0 rfl) ?_|refine Zhg (Zas rfl) ?_
  refine Zg3 ?_
  refine Ct.o ?_
  refine Zgb ?_
  first|refine Zhg (Zl8 rfl) ?_|refine Zhg (Zce rfl) ?_
  refine Zhq (n := 32) rfl qH qZ (c0) ?_
  first|refine Zhg (Zl8 rfl) ?_|refine Zhg (Zce rfl) ?_
  refine Zhq (n := 12) rfl qH qZ (c1) ?_
  first|refine Zhg (Zl8 rfl) ?_|refine Zhg (Zce rfl) ?_
  refine Zhp rfl qH (c2) ?_
  first|refine Zhg (Zl8 rfl) ?_|refine Zhg (Zce rfl) ?_
  refine Zhp rfl qH (c3) ?_
  refine Zh8 rfl (by kernel_rfl) (open_x (L := L) key nonce hk hn hma hta (by omega) (by omega)) rfl qT ?_
  rintro _ _ ⟨oa, oc, rfl, rfl⟩
  refine Zg2 qA ?_
  first|refine Zhg (Zmm rfl) ?_|refine Zhg (Zar rfl) ?_
  refine Zhg (Zco rfl rfl) ?_
  refine Zhg (Zco rfl rfl) ?_
  first|refine Zhg (Za2 rfl) ?_|refine Zhg (Zas rfl) ?_
  first|refine Zhg (Zaz rfl) ?_|refine Zhg (Zas rfl) ?_
  refine Zg3 ?_
  refine Ct.o ?_
  refine Zgb ?_
  first|refine Zhg (Zl8 rfl) ?_|refine Zhg (Zce rfl) ?_
  refine Zhq (n := 32) rfl qH qZ (c0) ?_
  first|refine Zhg (Zl8 rfl) ?_|refine Zhg (Zce rfl) ?_
  refine Zhq (n := 12) rfl qH qZ (c1) ?_
  first|refine Zhg (Zl8 rfl) ?_|refine Zhg (Zce rfl) ?_
  refine Zhp rfl qH (c2) ?_
  first|refine Zhg (Zl8 rfl) ?_|refine Zhg (Zce rfl) ?_
  refine Zhp rfl qH (c3) ?_
  refine Zh8 rfl (by kernel_rfl) (peek_x (L := L) key nonce hk hn hma hta (by omega) (by omega)) rfl qT ?_
  rintro _ _ ⟨pa, pc1, rfl, rfl⟩
  refine Zg2 qA ?_
  first|refine Zhg (Zmm rfl) ?_|refine Zhg (Zar rfl) ?_
  refine Zhg (Zco rfl rfl) ?_
  refine Zhg (Zco rfl rfl) ?_
  refine Zhg (Zco rfl rfl) ?_
  first|refine Zhg (Za2 rfl) ?_|refine Zhg (Zas rfl) ?_
  first|refine Zhg (Zaz rfl) ?_|refine Zhg (Zas rfl) ?_
  first|refine Zhg (Zaz rfl) ?_|refine Zhg (Zas rfl) ?_
  refine Zg3 ?_
  refine Ct.o ?_
  by_cases h16 : text.length < 16
  · have e1 : openR key nonce more text = ([], 4) := if_pos h16
    have e2 : lookR key nonce more text = ([], 0#64, 4) := if_pos h16
    rw [e1, e2]
    refine Ct.o ?_
    refine Zgb ?_
    first|refine Zhg (Zat rfl) ?_|refine Zhg (Zar rfl) ?_
    first|refine Zhg (Zmj (b := 70) rfl rfl) ?_|refine Zhg (Zbr rfl rfl) ?_
    refine Zhn 37 rfl (rfl) ?_
    refine Zg3 ?_
    refine Ct.o ?_
    refine Zgf rfl ?_
    refine Ct.o ?_
    refine Zgb ?_
    first|refine Zhg (Zat rfl) ?_|refine Zhg (Zar rfl) ?_
    first|refine Zhg (Zmk (b := 0) rfl rfl) ?_|refine Zhg (Zbs rfl rfl) ?_
    refine Zhm 73 rfl (rfl) ?_
    refine Zg3 ?_
    refine Ct.o ?_
    refine Zge rfl ?_
    refine Ct.o ?_
    refine Zgb ?_
    first|refine Zhg (Zat rfl) ?_|refine Zhg (Zar rfl) ?_
    first|refine Zhg (Zat rfl) ?_|refine Zhg (Zar rfl) ?_
    first|refine Zhg (Zmj rfl rfl) ?_|refine Zhg (Zbr rfl rfl) ?_
    refine Zhm 76 rfl (rfl) ?_
    first|refine Zhg (Zau rfl) ?_|refine Zhg (Zar rfl) ?_
    first|refine Zhi rfl ?_|refine Zhj rfl ?_|(refine Zhh rfl ?_; (first|refine Zhg (Zat rfl) ?_|refine Zhg (Zar rfl) ?_))
    first|refine Zhi rfl ?_|refine Zhj rfl ?_|(refine Zhh rfl ?_; (refine Zhg (Zln (x := 0#64) (y := 0#64) rfl rfl) ?_))
    refine Zhm 79 rfl (decide_eq_true (rfl)) ?_
    first|refine Zhg (Zdz rfl rfl) ?_|refine Zhg (Zd0 rfl rfl) ?_|refine Zhg (Za8 rfl rfl) ?_|refine Zhg (Za9 rfl rfl) ?_|refine Zhg (Za6 rfl rfl) ?_|refine Zhg (Za7 rfl rfl) ?_
    first|refine Zhg (Zau rfl) ?_|refine Zhg (Zar rfl) ?_
    first|refine Zhi rfl ?_|refine Zhj rfl ?_|(refine Zhh rfl ?_; (first|refine Zhg (Zaw rfl) ?_|refine Zhg (Zar rfl) ?_))
    first|refine Zhi rfl ?_|refine Zhj rfl ?_|(refine Zhh rfl ?_; (first|refine Zhg (Zcr rfl) ?_|refine Zhg (Zct) ?_|refine Zhg (Zcu rfl) ?_))
    first|refine Zhi rfl ?_|refine Zhj rfl ?_|(refine Zhh rfl ?_; (first|refine Zhg (Zmj (b := 0) rfl rfl) ?_|refine Zhg (Zbr rfl rfl) ?_))
    refine Zhm 84 rfl (rfl) ?_
    first|refine Zhg (Zdz rfl rfl) ?_|refine Zhg (Zd0 rfl rfl) ?_|refine Zhg (Za8 rfl rfl) ?_|refine Zhg (Za9 rfl rfl) ?_|refine Zhg (Za6 rfl rfl) ?_|refine Zhg (Za7 rfl rfl) ?_
    first|refine Zhg (Zau rfl) ?_|refine Zhg (Zar rfl) ?_
    first|refine Zhi rfl ?_|refine Zhj rfl ?_|(refine Zhh rfl ?_; (first|refine Zhg (Zaw rfl) ?_|refine Zhg (Zar rfl) ?_))
    first|refine Zhi rfl ?_|refine Zhj rfl ?_|(refine Zhh rfl ?_; (first|refine Zhg (Zcr rfl) ?_|refine Zhg (Zct) ?_|refine Zhg (Zcu rfl) ?_))
    first|refine Zhi rfl ?_|refine Zhj rfl ?_|(refine Zhh rfl ?_; (first|refine Zhg (Zmj (b := 0) rfl rfl) ?_|refine Zhg (Zbr rfl rfl) ?_))
    refine Zhm 89 rfl (rfl) ?_
    first|refine Zhg (Zdz rfl rfl) ?_|refine Zhg (Zd0 rfl rfl) ?_|refine Zhg (Za8 rfl rfl) ?_|refine Zhg (Za9 rfl rfl) ?_|refine Zhg (Za6 rfl rfl) ?_|refine Zhg (Za7 rfl rfl) ?_
    first|refine Zhg (Zau rfl) ?_|refine Zhg (Zar rfl) ?_
    first|refine Zhi rfl ?_|refine Zhj rfl ?_|(refine Zhh rfl ?_; (first|refine Zhg (Zl8 rfl) ?_|refine Zhg (Zce rfl) ?_))
    first|refine Zhi rfl ?_|refine Zhj rfl ?_|(refine Zhh rfl ?_; (refine Zhp rfl qH (c3) ?_))
    first|refine Zhi rfl ?_|refine Zhj rfl ?_|(refine Zhh rfl ?_; (first|refine Zhg (Zcr rfl) ?_|refine Zhg (Zct) ?_|refine Zhg (Zcu rfl) ?_))
    first|refine Zhi rfl ?_|refine Zhj rfl ?_|(refine Zhh rfl ?_; (first|refine Zhg (Zmf (b := 16) rfl rfl) ?_|refine Zhg (Zbn rfl rfl) ?_))
    refine Zhm 95 rfl (decide_eq_true (h16)) ?_
    first|refine Zhi rfl ?_|refine Zhj rfl ?_|(refine Zhh rfl ?_; (first|refine Zhg (Zau rfl) ?_|refine Zhg (Zar rfl) ?_))
    first|refine Zhi rfl ?_|refine Zhj rfl ?_|(refine Zhh rfl ?_; (first|refine Zhg (Zl8 rfl) ?_|refine Zhg (Zce rfl) ?_))
    first|refine Zhi rfl ?_|refine Zhj rfl ?_|(refine Zhh rfl ?_; (refine Zhp rfl qH rfl ?_))
    first|refine Zhi rfl ?_|refine Zhj rfl ?_|(refine Zhh rfl ?_; (first|refine Zhg (Zcr rfl) ?_|refine Zhg (Zct) ?_|refine Zhg (Zcu rfl) ?_))
    first|refine Zhi rfl ?_|refine Zhj rfl ?_|(refine Zhh rfl ?_; (first|refine Zhg (Zmh (b := 1048592) rfl rfl) ?_|refine Zhg (Zbp rfl rfl) ?_))
    first|refine Zhi rfl ?_|refine Zhj rfl ?_|(refine Zhh rfl ?_; (first|refine Zhg (Zdz rfl rfl) ?_|refine Zhg (Zd0 rfl rfl) ?_|refine Zhg (Za8 rfl rfl) ?_|refine Zhg (Za9 rfl rfl) ?_|refine Zhg (Za6 rfl rfl) ?_|refine Zhg (Za7 rfl rfl) ?_))
    first|refine Zhi rfl ?_|refine Zhj rfl ?_|(refine Zhh rfl ?_; (first|refine Zhg (Zau rfl) ?_|refine Zhg (Zar rfl) ?_))
    first|refine Zhi rfl ?_|refine Zhj rfl ?_|(refine Zhh rfl ?_; (first|refine Zhg (Zl8 rfl) ?_|refine Zhg (Zce rfl) ?_))
    first|refine Zhi rfl ?_|refine Zhj rfl ?_|(refine Zhh rfl ?_; (refine Zhp rfl qH rfl ?_))
    first|refine Zhi rfl ?_|refine Zhj rfl ?_|(refine Zhh rfl ?_; (first|refine Zhg (Zcr rfl) ?_|refine Zhg (Zct) ?_|refine Zhg (Zcu rfl) ?_))
    first|refine Zhi rfl ?_|refine Zhj rfl ?_|(refine Zhh rfl ?_; (first|refine Zhg (Zmh (b := 1048576) rfl rfl) ?_|refine Zhg (Zbp rfl rfl) ?_))
    first|refine Zhi rfl ?_|refine Zhj rfl ?_|(refine Zhh rfl ?_; (first|refine Zhg (Zdz rfl rfl) ?_|refine Zhg (Zd0 rfl rfl) ?_|refine Zhg (Za8 rfl rfl) ?_|refine Zhg (Za9 rfl rfl) ?_|refine Zhg (Za6 rfl rfl) ?_|refine Zhg (Za7 rfl rfl) ?_))
    first|refine Zhg (Zdz rfl rfl) ?_|refine Zhg (Zd0 rfl rfl) ?_|refine Zhg (Za8 rfl rfl) ?_|refine Zhg (Za9 rfl rfl) ?_|refine Zhg (Za6 rfl rfl) ?_|refine Zhg (Za7 rfl rfl) ?_
    first|refine Zhg (Zau rfl) ?_|refine Zhg (Zar rfl) ?_
    first|refine Zhi rfl ?_|refine Zhj rfl ?_|(refine Zhh rfl ?_; (refine Zh8 rfl (by kernel_rfl) (works_x) rfl qT ?_); (rintro _ _ ⟨rfl, rfl⟩); (refine Zg2 qA ?_))
    first|refine Zhg (Zdz rfl rfl) ?_|refine Zhg (Zd0 rfl rfl) ?_|refine Zhg (Za8 rfl rfl) ?_|refine Zhg (Za9 rfl rfl) ?_|refine Zhg (Za6 rfl rfl) ?_|refine Zhg (Za7 rfl rfl) ?_
    first|refine Zhg (Za0 rfl) ?_|refine Zhg (Zas rfl) ?_
    refine Zg3 ?_
    refine Ct.o ?_
    refine rx1 (Zha rfl (Zg7)) ?_
    exact ⟨_, ⟨rfl, rfl⟩, qI⟩
  by_cases hlong : 1048576 < more.length ∨ 1048576 < text.length - 16
  · have e1 : openR key nonce more text = ([], 3) := by unfold openR; rw [if_neg h16, if_pos hlong]
    have e2 : lookR key nonce more text = ([], 0#64, 3) := by unfold lookR; rw [if_neg h16, if_pos hlong]
    rw [e1, e2]
    refine Ct.o ?_
    refine Zgb ?_
    first|refine Zhg (Zat rfl) ?_|refine Zhg (Zar rfl) ?_
    first|refine Zhg (Zmj (b := 70) rfl rfl) ?_|refine Zhg (Zbr rfl rfl) ?_
    refine Zhn 37 rfl (rfl) ?_
    refine Zg3 ?_
    refine Ct.o ?_
    refine Zgf rfl ?_
    refine Ct.o ?_
    refine Zgb ?_
    first|refine Zhg (Zat rfl) ?_|refine Zhg (Zar rfl) ?_
    first|refine Zhg (Zmk (b := 0) rfl rfl) ?_|refine Zhg (Zbs rfl rfl) ?_
    refine Zhm 73 rfl (rfl) ?_
    refine Zg3 ?_
    refine Ct.o ?_
    refine Zge rfl ?_
    refine Ct.o ?_
    by_cases h2 : 1048592 < text.length
    · refine Ct.o ?_
      refine Zgb ?_
      first|refine Zhg (Zat rfl) ?_|refine Zhg (Zar rfl) ?_
      first|refine Zhg (Zat rfl) ?_|refine Zhg (Zar rfl) ?_
      first|refine Zhg (Zmj rfl rfl) ?_|refine Zhg (Zbr rfl rfl) ?_
      refine Zhm 76 rfl (rfl) ?_
      first|refine Zhg (Zau rfl) ?_|refine Zhg (Zar rfl) ?_
      first|refine Zhi rfl ?_|refine Zhj rfl ?_|(refine Zhh rfl ?_; (first|refine Zhg (Zat rfl) ?_|refine Zhg (Zar rfl) ?_))
      first|refine Zhi rfl ?_|refine Zhj rfl ?_|(refine Zhh rfl ?_; (refine Zhg (Zln (x := 0#64) (y := 0#64) rfl rfl) ?_))
      refine Zhm 79 rfl (decide_eq_true (rfl)) ?_
      first|refine Zhg (Zdz rfl rfl) ?_|refine Zhg (Zd0 rfl rfl) ?_|refine Zhg (Za8 rfl rfl) ?_|refine Zhg (Za9 rfl rfl) ?_|refine Zhg (Za6 rfl rfl) ?_|refine Zhg (Za7 rfl rfl) ?_
      first|refine Zhg (Zau rfl) ?_|refine Zhg (Zar rfl) ?_
      first|refine Zhi rfl ?_|refine Zhj rfl ?_|(refine Zhh rfl ?_; (first|refine Zhg (Zaw rfl) ?_|refine Zhg (Zar rfl) ?_))
      first|refine Zhi rfl ?_|refine Zhj rfl ?_|(refine Zhh rfl ?_; (first|refine Zhg (Zcr rfl) ?_|refine Zhg (Zct) ?_|refine Zhg (Zcu rfl) ?_))
      first|refine Zhi rfl ?_|refine Zhj rfl ?_|(refine Zhh rfl ?_; (first|refine Zhg (Zmj (b := 0) rfl rfl) ?_|refine Zhg (Zbr rfl rfl) ?_))
      refine Zhm 84 rfl (rfl) ?_
      first|refine Zhg (Zdz rfl rfl) ?_|refine Zhg (Zd0 rfl rfl) ?_|refine Zhg (Za8 rfl rfl) ?_|refine Zhg (Za9 rfl rfl) ?_|refine Zhg (Za6 rfl rfl) ?_|refine Zhg (Za7 rfl rfl) ?_
      first|refine Zhg (Zau rfl) ?_|refine Zhg (Zar rfl) ?_
      first|refine Zhi rfl ?_|refine Zhj rfl ?_|(refine Zhh rfl ?_; (first|refine Zhg (Zaw rfl) ?_|refine Zhg (Zar rfl) ?_))
      first|refine Zhi rfl ?_|refine Zhj rfl ?_|(refine Zhh rfl ?_; (first|refine Zhg (Zcr rfl) ?_|refine Zhg (Zct) ?_|refine Zhg (Zcu rfl) ?_))
      first|refine Zhi rfl ?_|refine Zhj rfl ?_|(refine Zhh rfl ?_; (first|refine Zhg (Zmj (b := 0) rfl rfl) ?_|refine Zhg (Zbr rfl rfl) ?_))
      refine Zhm 89 rfl (rfl) ?_
      first|refine Zhg (Zdz rfl rfl) ?_|refine Zhg (Zd0 rfl rfl) ?_|refine Zhg (Za8 rfl rfl) ?_|refine Zhg (Za9 rfl rfl) ?_|refine Zhg (Za6 rfl rfl) ?_|refine Zhg (Za7 rfl rfl) ?_
      first|refine Zhg (Zau rfl) ?_|refine Zhg (Zar rfl) ?_
      first|refine Zhi rfl ?_|refine Zhj rfl ?_|(refine Zhh rfl ?_; (first|refine Zhg (Zl8 rfl) ?_|refine Zhg (Zce rfl) ?_))
      first|refine Zhi rfl ?_|refine Zhj rfl ?_|(refine Zhh rfl ?_; (refine Zhp rfl qH (c3) ?_))
      first|refine Zhi rfl ?_|refine Zhj rfl ?_|(refine Zhh rfl ?_; (first|refine Zhg (Zcr rfl) ?_|refine Zhg (Zct) ?_|refine Zhg (Zcu rfl) ?_))
      first|refine Zhi rfl ?_|refine Zhj rfl ?_|(refine Zhh rfl ?_; (first|refine Zhg (Zmf (b := 16) rfl rfl) ?_|refine Zhg (Zbn rfl rfl) ?_))
      refine Zhn 95 rfl (decide_eq_false (h16)) ?_
      first|refine Zhi rfl ?_|refine Zhj rfl ?_|(refine Zhh rfl ?_; (first|refine Zhg (Zau rfl) ?_|refine Zhg (Zar rfl) ?_))
      first|refine Zhi rfl ?_|refine Zhj rfl ?_|(refine Zhh rfl ?_; (first|refine Zhg (Zl8 rfl) ?_|refine Zhg (Zce rfl) ?_))
      first|refine Zhi rfl ?_|refine Zhj rfl ?_|(refine Zhh rfl ?_; (refine Zhp rfl qH (c3) ?_))
      first|refine Zhi rfl ?_|refine Zhj rfl ?_|(refine Zhh rfl ?_; (first|refine Zhg (Zcr rfl) ?_|refine Zhg (Zct) ?_|refine Zhg (Zcu rfl) ?_))
      first|refine Zhi rfl ?_|refine Zhj rfl ?_|(refine Zhh rfl ?_; (first|refine Zhg (Zmh (b := 1048592) rfl rfl) ?_|refine Zhg (Zbp rfl rfl) ?_))
      refine Zhm 100 rfl (decide_eq_true (h2)) ?_
      first|refine Zhi rfl ?_|refine Zhj rfl ?_|(refine Zhh rfl ?_; (first|refine Zhg (Zdz rfl rfl) ?_|refine Zhg (Zd0 rfl rfl) ?_|refine Zhg (Za8 rfl rfl) ?_|refine Zhg (Za9 rfl rfl) ?_|refine Zhg (Za6 rfl rfl) ?_|refine Zhg (Za7 rfl rfl) ?_))
      first|refine Zhi rfl ?_|refine Zhj rfl ?_|(refine Zhh rfl ?_; (first|refine Zhg (Zau rfl) ?_|refine Zhg (Zar rfl) ?_))
      first|refine Zhi rfl ?_|refine Zhj rfl ?_|(refine Zhh rfl ?_; (first|refine Zhg (Zl8 rfl) ?_|refine Zhg (Zce rfl) ?_))
      first|refine Zhi rfl ?_|refine Zhj rfl ?_|(refine Zhh rfl ?_; (refine Zhp rfl qH rfl ?_))
      first|refine Zhi rfl ?_|refine Zhj rfl ?_|(refine Zhh rfl ?_; (first|refine Zhg (Zcr rfl) ?_|refine Zhg (Zct) ?_|refine Zhg (Zcu rfl) ?_))
      first|refine Zhi rfl ?_|refine Zhj rfl ?_|(refine Zhh rfl ?_; (first|refine Zhg (Zmh (b := 1048576) rfl rfl) ?_|refine Zhg (Zbp rfl rfl) ?_))
      first|refine Zhi rfl ?_|refine Zhj rfl ?_|(refine Zhh rfl ?_; (first|refine Zhg (Zdz rfl rfl) ?_|refine Zhg (Zd0 rfl rfl) ?_|refine Zhg (Za8 rfl rfl) ?_|refine Zhg (Za9 rfl rfl) ?_|refine Zhg (Za6 rfl rfl) ?_|refine Zhg (Za7 rfl rfl) ?_))
      first|refine Zhg (Zdz rfl rfl) ?_|refine Zhg (Zd0 rfl rfl) ?_|refine Zhg (Za8 rfl rfl) ?_|refine Zhg (Za9 rfl rfl) ?_|refine Zhg (Za6 rfl rfl) ?_|refine Zhg (Za7 rfl rfl) ?_
      first|refine Zhg (Zau rfl) ?_|refine Zhg (Zar rfl) ?_
      first|refine Zhi rfl ?_|refine Zhj rfl ?_|(refine Zhh rfl ?_; (refine Zh8 rfl (by kernel_rfl) (works_x) rfl qT ?_); (rintro _ _ ⟨rfl, rfl⟩); (refine Zg2 qA ?_))
      first|refine Zhg (Zdz rfl rfl) ?_|refine Zhg (Zd0 rfl rfl) ?_|refine Zhg (Za8 rfl rfl) ?_|refine Zhg (Za9 rfl rfl) ?_|refine Zhg (Za6 rfl rfl) ?_|refine Zhg (Za7 rfl rfl) ?_
      first|refine Zhg (Za0 rfl) ?_|refine Zhg (Zas rfl) ?_
      refine Zg3 ?_
      refine Ct.o ?_
      refine rx1 (Zha rfl (Zg7)) ?_
      exact ⟨_, ⟨rfl, rfl⟩, qI⟩
    · refine Ct.o ?_
      refine Zgb ?_
      first|refine Zhg (Zat rfl) ?_|refine Zhg (Zar rfl) ?_
      first|refine Zhg (Zat rfl) ?_|refine Zhg (Zar rfl) ?_
      first|refine Zhg (Zmj rfl rfl) ?_|refine Zhg (Zbr rfl rfl) ?_
      refine Zhm 76 rfl (rfl) ?_
      first|refine Zhg (Zau rfl) ?_|refine Zhg (Zar rfl) ?_
      first|refine Zhi rfl ?_|refine Zhj rfl ?_|(refine Zhh rfl ?_; (first|refine Zhg (Zat rfl) ?_|refine Zhg (Zar rfl) ?_))
      first|refine Zhi rfl ?_|refine Zhj rfl ?_|(refine Zhh rfl ?_; (refine Zhg (Zln (x := 0#64) (y := 0#64) rfl rfl) ?_))
      refine Zhm 79 rfl (decide_eq_true (rfl)) ?_
      first|refine Zhg (Zdz rfl rfl) ?_|refine Zhg (Zd0 rfl rfl) ?_|refine Zhg (Za8 rfl rfl) ?_|refine Zhg (Za9 rfl rfl) ?_|refine Zhg (Za6 rfl rfl) ?_|refine Zhg (Za7 rfl rfl) ?_
      first|refine Zhg (Zau rfl) ?_|refine Zhg (Zar rfl) ?_
      first|refine Zhi rfl ?_|refine Zhj rfl ?_|(refine Zhh rfl ?_; (first|refine Zhg (Zaw rfl) ?_|refine Zhg (Zar rfl) ?_))
      first|refine Zhi rfl ?_|refine Zhj rfl ?_|(refine Zhh rfl ?_; (first|refine Zhg (Zcr rfl) ?_|refine Zhg (Zct) ?_|refine Zhg (Zcu rfl) ?_))
      first|refine Zhi rfl ?_|refine Zhj rfl ?_|(refine Zhh rfl ?_; (first|refine Zhg (Zmj (b := 0) rfl rfl) ?_|refine Zhg (Zbr rfl rfl) ?_))
      refine Zhm 84 rfl (rfl) ?_
      first|refine Zhg (Zdz rfl rfl) ?_|refine Zhg (Zd0 rfl rfl) ?_|refine Zhg (Za8 rfl rfl) ?_|refine Zhg (Za9 rfl rfl) ?_|refine Zhg (Za6 rfl rfl) ?_|refine Zhg (Za7 rfl rfl) ?_
      first|refine Zhg (Zau rfl) ?_|refine Zhg (Zar rfl) ?_
      first|refine Zhi rfl ?_|refine Zhj rfl ?_|(refine Zhh rfl ?_; (first|refine Zhg (Zaw rfl) ?_|refine Zhg (Zar rfl) ?_))
      first|refine Zhi rfl ?_|refine Zhj rfl ?_|(refine Zhh rfl ?_; (first|refine Zhg (Zcr rfl) ?_|refine Zhg (Zct) ?_|refine Zhg (Zcu rfl) ?_))
      first|refine Zhi rfl ?_|refine Zhj rfl ?_|(refine Zhh rfl ?_; (first|refine Zhg (Zmj (b := 0) rfl rfl) ?_|refine Zhg (Zbr rfl rfl) ?_))
      refine Zhm 89 rfl (rfl) ?_
      first|refine Zhg (Zdz rfl rfl) ?_|refine Zhg (Zd0 rfl rfl) ?_|refine Zhg (Za8 rfl rfl) ?_|refine Zhg (Za9 rfl rfl) ?_|refine Zhg (Za6 rfl rfl) ?_|refine Zhg (Za7 rfl rfl) ?_
      first|refine Zhg (Zau rfl) ?_|refine Zhg (Zar rfl) ?_
      first|refine Zhi rfl ?_|refine Zhj rfl ?_|(refine Zhh rfl ?_; (first|refine Zhg (Zl8 rfl) ?_|refine Zhg (Zce rfl) ?_))
      first|refine Zhi rfl ?_|refine Zhj rfl ?_|(refine Zhh rfl ?_; (refine Zhp rfl qH (c3) ?_))
      first|refine Zhi rfl ?_|refine Zhj rfl ?_|(refine Zhh rfl ?_; (first|refine Zhg (Zcr rfl) ?_|refine Zhg (Zct) ?_|refine Zhg (Zcu rfl) ?_))
      first|refine Zhi rfl ?_|refine Zhj rfl ?_|(refine Zhh rfl ?_; (first|refine Zhg (Zmf (b := 16) rfl rfl) ?_|refine Zhg (Zbn rfl rfl) ?_))
      refine Zhn 95 rfl (decide_eq_false (h16)) ?_
      first|refine Zhi rfl ?_|refine Zhj rfl ?_|(refine Zhh rfl ?_; (first|refine Zhg (Zau rfl) ?_|refine Zhg (Zar rfl) ?_))
      first|refine Zhi rfl ?_|refine Zhj rfl ?_|(refine Zhh rfl ?_; (first|refine Zhg (Zl8 rfl) ?_|refine Zhg (Zce rfl) ?_))
      first|refine Zhi rfl ?_|refine Zhj rfl ?_|(refine Zhh rfl ?_; (refine Zhp rfl qH (c3) ?_))
      first|refine Zhi rfl ?_|refine Zhj rfl ?_|(refine Zhh rfl ?_; (first|refine Zhg (Zcr rfl) ?_|refine Zhg (Zct) ?_|refine Zhg (Zcu rfl) ?_))
      first|refine Zhi rfl ?_|refine Zhj rfl ?_|(refine Zhh rfl ?_; (first|refine Zhg (Zmh (b := 1048592) rfl rfl) ?_|refine Zhg (Zbp rfl rfl) ?_))
      refine Zhn 100 rfl (decide_eq_false (h2)) ?_
      first|refine Zhi rfl ?_|refine Zhj rfl ?_|(refine Zhh rfl ?_; (first|refine Zhg (Zdz rfl rfl) ?_|refine Zhg (Zd0 rfl rfl) ?_|refine Zhg (Za8 rfl rfl) ?_|refine Zhg (Za9 rfl rfl) ?_|refine Zhg (Za6 rfl rfl) ?_|refine Zhg (Za7 rfl rfl) ?_))
      first|refine Zhi rfl ?_|refine Zhj rfl ?_|(refine Zhh rfl ?_; (first|refine Zhg (Zau rfl) ?_|refine Zhg (Zar rfl) ?_))
      first|refine Zhi rfl ?_|refine Zhj rfl ?_|(refine Zhh rfl ?_; (first|refine Zhg (Zl8 rfl) ?_|refine Zhg (Zce rfl) ?_))
      first|refine Zhi rfl ?_|refine Zhj rfl ?_|(refine Zhh rfl ?_; (refine Zhp rfl qH (c2) ?_))
      first|refine Zhi rfl ?_|refine Zhj rfl ?_|(refine Zhh rfl ?_; (first|refine Zhg (Zcr rfl) ?_|refine Zhg (Zct) ?_|refine Zhg (Zcu rfl) ?_))
      first|refine Zhi rfl ?_|refine Zhj rfl ?_|(refine Zhh rfl ?_; (first|refine Zhg (Zmh (b := 1048576) rfl rfl) ?_|refine Zhg (Zbp rfl rfl) ?_))
      refine Zhm 106 rfl (decide_eq_true (hlong.resolve_right (by omega))) ?_
      first|refine Zhi rfl ?_|refine Zhj rfl ?_|(refine Zhh rfl ?_; (first|refine Zhg (Zdz rfl rfl) ?_|refine Zhg (Zd0 rfl rfl) ?_|refine Zhg (Za8 rfl rfl) ?_|refine Zhg (Za9 rfl rfl) ?_|refine Zhg (Za6 rfl rfl) ?_|refine Zhg (Za7 rfl rfl) ?_))
      first|refine Zhg (Zdz rfl rfl) ?_|refine Zhg (Zd0 rfl rfl) ?_|refine Zhg (Za8 rfl rfl) ?_|refine Zhg (Za9 rfl rfl) ?_|refine Zhg (Za6 rfl rfl) ?_|refine Zhg (Za7 rfl rfl) ?_
      first|refine Zhg (Zau rfl) ?_|refine Zhg (Zar rfl) ?_
      first|refine Zhi rfl ?_|refine Zhj rfl ?_|(refine Zhh rfl ?_; (refine Zh8 rfl (by kernel_rfl) (works_x) rfl qT ?_); (rintro _ _ ⟨rfl, rfl⟩); (refine Zg2 qA ?_))
      first|refine Zhg (Zdz rfl rfl) ?_|refine Zhg (Zd0 rfl rfl) ?_|refine Zhg (Za8 rfl rfl) ?_|refine Zhg (Za9 rfl rfl) ?_|refine Zhg (Za6 rfl rfl) ?_|refine Zhg (Za7 rfl rfl) ?_
      first|refine Zhg (Za0 rfl) ?_|refine Zhg (Zas rfl) ?_
      refine Zg3 ?_
      refine Ct.o ?_
      refine rx1 (Zha rfl (Zg7)) ?_
      exact ⟨_, ⟨rfl, rfl⟩, qI⟩
  by_cases hr : rightB key nonce more text = true
  · have e1 : openR key nonce more text = (textB key nonce text, 0) := by unfold openR; rw [if_neg h16, if_neg hlong, if_pos hr]
    have e2 : lookR key nonce more text = (textB key nonce text, 18446744073709551615#64, 0) := by unfold lookR; rw [if_neg h16, if_neg hlong, if_pos hr]
    have e3 := sealR_text _ _ _ _ hr (by omega) (by omega) (by omega)
    have hxl := textB_len key nonce text
    rw [e1, e2]
    generalize textB key nonce text = t at e3 hxl
    refine Ct.o ?_
    refine Zgb ?_
    first|refine Zhg (Zat rfl) ?_|refine Zhg (Zar rfl) ?_
    first|refine Zhg (Zmj (b := 70) rfl rfl) ?_|refine Zhg (Zbr rfl rfl) ?_
    refine Zhn 37 rfl (rfl) ?_
    refine Zg3 ?_
    refine Ct.o ?_
    refine Zgf rfl ?_
    refine Ct.o ?_
    refine Zgb ?_
    first|refine Zhg (Zat rfl) ?_|refine Zhg (Zar rfl) ?_
    first|refine Zhg (Zmk (b := 0) rfl rfl) ?_|refine Zhg (Zbs rfl rfl) ?_
    refine Zhn 73 rfl (rfl) ?_
    refine Zg3 ?_
    refine Ct.o ?_
    refine Zgf rfl ?_
    refine Ct.o ?_
    refine Zgb ?_
    first|refine Zhg (Zl8 rfl) ?_|refine Zhg (Zce rfl) ?_
    refine Zhq (n := 32) rfl qH qZ (c0) ?_
    first|refine Zhg (Zl8 rfl) ?_|refine Zhg (Zce rfl) ?_
    refine Zhq (n := 12) rfl qH qZ (c1) ?_
    first|refine Zhg (Zl8 rfl) ?_|refine Zhg (Zce rfl) ?_
    refine Zhp rfl qH (c2) ?_
    first|refine Zhg (Zaw rfl) ?_|refine Zhg (Zar rfl) ?_
    refine Zh8 rfl (by kernel_rfl) (seal_x (L := (own 5 1 (.slice oa t.length oc) t.length (t.map u8b) :: L)) key nonce hk hn (hma.imp Imp.tail) (Bs.own .here) (by omega) (by omega)) rfl qT ?_
    rintro _ _ ⟨sa, sc, rfl, rfl⟩
    refine Zg2 qA ?_
    first|refine Zhg (Zmm rfl) ?_|refine Zhg (Zar rfl) ?_
    refine Zhg (Zco rfl rfl) ?_
    refine Zhg (Zco rfl rfl) ?_
    first|refine Zhg (Za2 rfl) ?_|refine Zhg (Zas rfl) ?_
    first|refine Zhg (Zaz rfl) ?_|refine Zhg (Zas rfl) ?_
    refine Zg3 ?_
    refine Ct.o ?_
    rw [e3]
    refine Ct.o ?_
    refine Zgb ?_
    first|refine Zhg (Zat rfl) ?_|refine Zhg (Zar rfl) ?_
    first|refine Zhg (Zmj (b := 0) rfl rfl) ?_|refine Zhg (Zbr rfl rfl) ?_
    refine Zhm 124 rfl (rfl) ?_
    first|refine Zhg (Zau rfl) ?_|refine Zhg (Zar rfl) ?_
    first|refine Zhi rfl ?_|refine Zhj rfl ?_|(refine Zhh rfl ?_; (first|refine Zhg (Zat rfl) ?_|refine Zhg (Zar rfl) ?_))
    first|refine Zhi rfl ?_|refine Zhj rfl ?_|(refine Zhh rfl ?_; (refine Zhg (Zln (x := 18446744073709551615#64) (y := 18446744073709551615#64) rfl rfl) ?_))
    refine Zhm 127 rfl (decide_eq_true (rfl)) ?_
    first|refine Zhg (Zdz rfl rfl) ?_|refine Zhg (Zd0 rfl rfl) ?_|refine Zhg (Za8 rfl rfl) ?_|refine Zhg (Za9 rfl rfl) ?_|refine Zhg (Za6 rfl rfl) ?_|refine Zhg (Za7 rfl rfl) ?_
    first|refine Zhg (Zau rfl) ?_|refine Zhg (Zar rfl) ?_
    first|refine Zhi rfl ?_|refine Zhj rfl ?_|(refine Zhh rfl ?_; (first|refine Zhg (Zat rfl) ?_|refine Zhg (Zar rfl) ?_))
    first|refine Zhi rfl ?_|refine Zhj rfl ?_|(refine Zhh rfl ?_; (first|refine Zhg (Zmj (b := 0) rfl rfl) ?_|refine Zhg (Zbr rfl rfl) ?_))
    refine Zhm 131 rfl (rfl) ?_
    first|refine Zhg (Zdz rfl rfl) ?_|refine Zhg (Zd0 rfl rfl) ?_|refine Zhg (Za8 rfl rfl) ?_|refine Zhg (Za9 rfl rfl) ?_|refine Zhg (Za6 rfl rfl) ?_|refine Zhg (Za7 rfl rfl) ?_
    first|refine Zhg (Zau rfl) ?_|refine Zhg (Zar rfl) ?_
    first|refine Zhi rfl ?_|refine Zhj rfl ?_|(refine Zhh rfl ?_; (first|refine Zhg (Zaw rfl) ?_|refine Zhg (Zar rfl) ?_))
    first|refine Zhi rfl ?_|refine Zhj rfl ?_|(refine Zhh rfl ?_; (first|refine Zhg (Zaw rfl) ?_|refine Zhg (Zar rfl) ?_))
    first|refine Zhi rfl ?_|refine Zhj rfl ?_|(refine Zhh rfl ?_; (refine Zh8 rfl (by kernel_rfl) (eqBytes_x (L := [own 5 1 (.slice pa t.length pc1) t.length (t.map u8b), own 5 1 (.slice oa t.length oc) t.length (t.map u8b)]) (a := t) (b := t) (Bs.own .here) (Bs.own (.there .here))) rfl qT ?_); (rintro _ _ ⟨rfl, rfl⟩); (refine Zg2 qA ?_))
    refine Zhm 136 rfl (decide_eq_true (rfl)) ?_
    first|refine Zhg (Zdz rfl rfl) ?_|refine Zhg (Zd0 rfl rfl) ?_|refine Zhg (Za8 rfl rfl) ?_|refine Zhg (Za9 rfl rfl) ?_|refine Zhg (Za6 rfl rfl) ?_|refine Zhg (Za7 rfl rfl) ?_
    first|refine Zhg (Zau rfl) ?_|refine Zhg (Zar rfl) ?_
    first|refine Zhi rfl ?_|refine Zhj rfl ?_|(refine Zhh rfl ?_; (first|refine Zhg (Zaw rfl) ?_|refine Zhg (Zar rfl) ?_))
    first|refine Zhi rfl ?_|refine Zhj rfl ?_|(refine Zhh rfl ?_; (first|refine Zhg (Zl8 rfl) ?_|refine Zhg (Zce rfl) ?_))
    first|refine Zhi rfl ?_|refine Zhj rfl ?_|(refine Zhh rfl ?_; (refine Zhp rfl qH (c3) ?_))
    first|refine Zhi rfl ?_|refine Zhj rfl ?_|(refine Zhh rfl ?_; (refine Zh8 rfl (by kernel_rfl) (eqBytes_x (L := (own 5 1 (.slice sa text.length sc) text.length (text.map u8b) :: L)) (a := text) (b := text) (Bs.own .here) (hta.imp Imp.tail)) rfl qT ?_); (rintro _ _ ⟨rfl, rfl⟩); (refine Zg2 qA ?_))
    refine Zhm 142 rfl (decide_eq_true (rfl)) ?_
    first|refine Zhg (Zdz rfl rfl) ?_|refine Zhg (Zd0 rfl rfl) ?_|refine Zhg (Za8 rfl rfl) ?_|refine Zhg (Za9 rfl rfl) ?_|refine Zhg (Za6 rfl rfl) ?_|refine Zhg (Za7 rfl rfl) ?_
    first|refine Zhg (Zau rfl) ?_|refine Zhg (Zar rfl) ?_
    first|refine Zhi rfl ?_|refine Zhj rfl ?_|(refine Zhh rfl ?_; (refine Zh8 rfl (by kernel_rfl) (works_x) rfl qT ?_); (rintro _ _ ⟨rfl, rfl⟩); (refine Zg2 qA ?_))
    first|refine Zhg (Zdz rfl rfl) ?_|refine Zhg (Zd0 rfl rfl) ?_|refine Zhg (Za8 rfl rfl) ?_|refine Zhg (Za9 rfl rfl) ?_|refine Zhg (Za6 rfl rfl) ?_|refine Zhg (Za7 rfl rfl) ?_
    first|refine Zhg (Za0 rfl) ?_|refine Zhg (Zas rfl) ?_
    refine Zg3 ?_
    refine Ct.o ?_
    refine rx1 (Zha rfl (Zg7)) ?_
    exact ⟨_, ⟨rfl, rfl⟩, qI⟩
  · have e1 : openR key nonce more text = ([], 70) := by unfold openR; rw [if_neg h16, if_neg hlong, if_neg hr]
    have e2 : lookR key nonce more text = (List.replicate (text.length - 16) 0#8, 0#64, 0) := by unfold lookR; rw [if_neg h16, if_neg hlong, if_neg hr]
    have hzl : (List.replicate (text.length - 16) 0#8).length = text.length - 16 := by simp
    have hzg : ∀ i (h : i < (List.replicate (text.length - 16) 0#8).length), ((List.replicate (text.length - 16) 0#8).map u8b)[i]? = some (u8b 0#8) := fun i h => by rw [getM h]; simp
    rw [e1, e2]
    generalize List.replicate (text.length - 16) 0#8 = z at hzl hzg
    refine Ct.o ?_
    refine Zgb ?_
    first|refine Zhg (Zat rfl) ?_|refine Zhg (Zar rfl) ?_
    first|refine Zhg (Zmj (b := 70) rfl rfl) ?_|refine Zhg (Zbr rfl rfl) ?_
    refine Zhm 37 rfl (rfl) ?_
    refine Zg3 ?_
    refine Ct.o ?_
    refine Zge rfl ?_
    refine Ct.o ?_
    refine Zgb ?_
    first|refine Zhg (Zaz rfl) ?_|refine Zhg (Zas rfl) ?_
    refine Zg3 ?_
    refine Ct.o ?_
    refine Zgo [(2, 2), (8, 8), (38, 48)] (by kernel_rfl) (fun i : Nat => i ≤ z.length) (fun i => (own 5 1 (.slice pa z.length pc1) z.length (z.map u8b) :: cl b1 (ccl key nonce (.slice ma more.length mc) (.slice ta text.length tc)).toArray 28 :: L)) (fun i => [(8, nvv i)]) (fun i => z.length - i) 0 (by omega) qI ⟨rfl, trivial⟩ ?_
    intro i u hi
    refine Ct.o ?_
    refine Zgb ?_
    first|refine Zhg (Zat rfl) ?_|refine Zhg (Zar rfl) ?_
    first|refine Zhg (Zaw rfl) ?_|refine Zhg (Zar rfl) ?_
    first|refine Zhg (Zcr rfl) ?_|refine Zhg (Zct) ?_|refine Zhg (Zcu rfl) ?_
    first|refine Zhg (Zmf rfl rfl) ?_|refine Zhg (Zbn rfl rfl) ?_
    refine Zg3 ?_
    refine Ct.o ?_
    refine Zgg rfl (fun hB => ?_) (fun hB => ?_)
    · have hB : i < z.length := hB
      refine Zgt (fun F w H => own_some (a := pa) (n := z.length) qH (by omega) H) ?_
      rintro ⟨g, rfl⟩
      refine Ct.o ?_
      refine Zgb ?_
      first|refine Zhg (Zaw rfl) ?_|refine Zhg (Zar rfl) ?_
      first|refine Zhg (Zat rfl) ?_|refine Zhg (Zar rfl) ?_
      first|refine Zhg (Zl4 rfl rfl) ?_|refine Zhg (Zl1 rfl rfl) ?_
      refine Zff rfl (((Rd.own qH).at0 hB (hzg i hB))) ?_
      refine Zhg (Zjl (x := 0#8) (y := 0#8) rfl rfl) ?_
      refine Zhn 48 rfl (decide_eq_false ((fun h => h rfl))) ?_
      refine Zg3 ?_
      refine Ct.o ?_
      refine Zgf rfl ?_
      refine Ct.o ?_
      refine Zgb ?_
      first|refine Zhg (Zat rfl) ?_|refine Zhg (Zar rfl) ?_
      first|refine Zhg (Zma (b := 1) rfl rfl) ?_|refine Zhg (Zbg rfl rfl) ?_
      first|refine Zhg (Zaz rfl) ?_|refine Zhg (Zas rfl) ?_
      refine Zg3 ?_
      refine Ct.o ?_
      exact Zgl (i + 1) qO (by omega) qI ⟨rfl, trivial⟩
    · refine Ct.o ?_
      refine Zgb ?_
      first|refine Zhg (Zat rfl) ?_|refine Zhg (Zar rfl) ?_
      first|refine Zhg (Zmj (b := 0) rfl rfl) ?_|refine Zhg (Zbr rfl rfl) ?_
      refine Zhm 50 rfl (rfl) ?_
      first|refine Zhg (Zau rfl) ?_|refine Zhg (Zar rfl) ?_
      first|refine Zhi rfl ?_|refine Zhj rfl ?_|(refine Zhh rfl ?_; (first|refine Zhg (Zat rfl) ?_|refine Zhg (Zar rfl) ?_))
      first|refine Zhi rfl ?_|refine Zhj rfl ?_|(refine Zhh rfl ?_; (refine Zhg (Zln (x := 0#64) (y := 0#64) rfl rfl) ?_))
      refine Zhm 53 rfl (decide_eq_true (rfl)) ?_
      first|refine Zhg (Zdz rfl rfl) ?_|refine Zhg (Zd0 rfl rfl) ?_|refine Zhg (Za8 rfl rfl) ?_|refine Zhg (Za9 rfl rfl) ?_|refine Zhg (Za6 rfl rfl) ?_|refine Zhg (Za7 rfl rfl) ?_
      first|refine Zhg (Zau rfl) ?_|refine Zhg (Zar rfl) ?_
      first|refine Zhi rfl ?_|refine Zhj rfl ?_|(refine Zhh rfl ?_; (first|refine Zhg (Zaw rfl) ?_|refine Zhg (Zar rfl) ?_))
      first|refine Zhi rfl ?_|refine Zhj rfl ?_|(refine Zhh rfl ?_; (first|refine Zhg (Zcr rfl) ?_|refine Zhg (Zct) ?_|refine Zhg (Zcu rfl) ?_))
      first|refine Zhi rfl ?_|refine Zhj rfl ?_|(refine Zhh rfl ?_; (first|refine Zhg (Zmj (b := 0) rfl rfl) ?_|refine Zhg (Zbr rfl rfl) ?_))
      refine Zhm 58 rfl (rfl) ?_
      first|refine Zhg (Zdz rfl rfl) ?_|refine Zhg (Zd0 rfl rfl) ?_|refine Zhg (Za8 rfl rfl) ?_|refine Zhg (Za9 rfl rfl) ?_|refine Zhg (Za6 rfl rfl) ?_|refine Zhg (Za7 rfl rfl) ?_
      first|refine Zhg (Zau rfl) ?_|refine Zhg (Zar rfl) ?_
      first|refine Zhi rfl ?_|refine Zhj rfl ?_|(refine Zhh rfl ?_; (first|refine Zhg (Zaw rfl) ?_|refine Zhg (Zar rfl) ?_))
      first|refine Zhi rfl ?_|refine Zhj rfl ?_|(refine Zhh rfl ?_; (first|refine Zhg (Zcr rfl) ?_|refine Zhg (Zct) ?_|refine Zhg (Zcu rfl) ?_))
      first|refine Zhi rfl ?_|refine Zhj rfl ?_|(refine Zhh rfl ?_; (first|refine Zhg (Zl8 rfl) ?_|refine Zhg (Zce rfl) ?_))
      first|refine Zhi rfl ?_|refine Zhj rfl ?_|(refine Zhh rfl ?_; (refine Zhp rfl qH (c3) ?_))
      first|refine Zhi rfl ?_|refine Zhj rfl ?_|(refine Zhh rfl ?_; (first|refine Zhg (Zcr rfl) ?_|refine Zhg (Zct) ?_|refine Zhg (Zcu rfl) ?_))
      first|refine Zhi rfl ?_|refine Zhj rfl ?_|(refine Zhh rfl ?_; (first|refine Zhg (Zmb (b := 16) rfl rfl) ?_|refine Zhg (Zbh rfl rfl) ?_))
      first|refine Zhi rfl ?_|refine Zhj rfl ?_|(refine Zhh rfl ?_; (first|refine Zhg (Zmj rfl rfl) ?_|refine Zhg (Zbr rfl rfl) ?_))
      refine Zhm 67 rfl (decide_eq_true (hzl)) ?_
      first|refine Zhg (Zdz rfl rfl) ?_|refine Zhg (Zd0 rfl rfl) ?_|refine Zhg (Za8 rfl rfl) ?_|refine Zhg (Za9 rfl rfl) ?_|refine Zhg (Za6 rfl rfl) ?_|refine Zhg (Za7 rfl rfl) ?_
      first|refine Zhg (Zau rfl) ?_|refine Zhg (Zar rfl) ?_
      first|refine Zhi rfl ?_|refine Zhj rfl ?_|(refine Zhh rfl ?_; (refine Zh8 rfl (by kernel_rfl) (works_x) rfl qT ?_); (rintro _ _ ⟨rfl, rfl⟩); (refine Zg2 qA ?_))
      first|refine Zhg (Zdz rfl rfl) ?_|refine Zhg (Zd0 rfl rfl) ?_|refine Zhg (Za8 rfl rfl) ?_|refine Zhg (Za9 rfl rfl) ?_|refine Zhg (Za6 rfl rfl) ?_|refine Zhg (Za7 rfl rfl) ?_
      first|refine Zhg (Za0 rfl) ?_|refine Zhg (Zas rfl) ?_
      refine Zg3 ?_
      refine Ct.o ?_
      refine rx1 (Zha rfl (Zg7)) ?_
      exact ⟨_, ⟨rfl, rfl⟩, qI⟩
theorem oneForm_x (W : World) (x : CaseV) (ok : CaseVOk W x) : Con Try.prog 7 [.agg x.cells.toArray] [old W] (fun r M => r = .bool true ∧ [old W] = M) := by
  rw [case_ccl]
  exact oneForm_g x.key_ x.nonce_ ok.key_ ok.nonce_ (ok.more_.bs .here) (ok.text_.bs .here) ok.more_.len ok.text_.len
end Go.Sl

/- trystlaw07: SealKnown, walked. -/
set_option maxHeartbeats 4000000
set_option maxRecDepth 10000
set_option linter.unusedVariables false
set_option linter.unusedSimpArgs false
namespace Go.Sl
open Go Go.Proofs
attribute [local irreducible] cl pt own old pur ex all den denOps denS xOps xC cX CX xthen xblk xcut xloop xgo xng retX resX Calls PV Rd Con
theorem case_fill {pl : Nat → Option (Nat × Nat)} (key nonce : List Byte) (a a' : Option Addr) (n n' c c' : Nat) (hk : key.length = 32) (hn : nonce.length = 12) (h0 : pl 0 = some (0, 32)) (h1 : pl 1 = some (32, 12)) (h2 : pl 2 = some (44, 1)) (h3 : pl 3 = some (45, 1)) :
    Instr.fill pl ((z44 ++ [Value.slice none 0 0, Value.slice none 0 0]).toArray) [(0, .agg (key.map u8b).toArray), (1, .agg (nonce.map u8b).toArray), (2, .slice a n c), (3, .slice a' n' c')] = some ((ccl key nonce (.slice a n c) (.slice a' n' c')).toArray) := by
  refine fill_part (z' := (key.map u8b ++ (List.replicate 12 (Value.int .u8 0) ++ [Value.slice none 0 0, Value.slice none 0 0])).toArray) h0 (by simp [Value.cells, hk]) (by simp [z44]) ?_ (fill_part (z' := (key.map u8b ++ (nonce.map u8b ++ [Value.slice none 0 0, Value.slice none 0 0])).toArray) h1 (by simp [Value.cells, hn]) (by simp [hk]) ?_ (fill_part (z' := (key.map u8b ++ (nonce.map u8b ++ [Value.slice a n c, Value.slice none 0 0])).toArray) h2 (by simp [Value.cells]) (by simp [hk, hn]) ?_ (fill_part (z' := (ccl key nonce (.slice a n c) (.slice a' n' c')).toArray) h3 (by simp [Value.cells]) (by simp [hk, hn]) ?_ fill_end)))
  · apply Array.ext'
    rw [wr_toList _ _ _ (by simp [Value.cells, hk, z44])]
    simp [Value.cells, hk, z44]
  · apply Array.ext'
    rw [wr_toList _ _ _ (by simp [Value.cells, hk, hn])]
    simp [Value.cells, hk, hn, List.drop_append]
  · apply Array.ext'
    rw [wr_toList _ _ _ (by simp [Value.cells, hk, hn])]
    simp [Value.cells, List.take_append, List.drop_append, hk, hn, List.take_of_length_le, List.drop_of_length_le]
  · apply Array.ext'
    rw [wr_toList _ _ _ (by simp [Value.cells, hk, hn])]
    simp [ccl, Value.cells, List.take_append, List.drop_append, hk, hn, List.take_of_length_le, List.drop_of_length_le]
attribute [local irreducible] code blockB ksB xorB vouchB leB sealB textB rightB sealR openR lookR ccl
theorem openR_turned (key nonce more text : List Byte) (y : Byte) (h1 : more.length ≤ 1048576) (h2 : text.length = 114) (hy : ∀ h : 129 < (sealB key nonce more text).length, (sealB key nonce more text)[129] ≠ y) : openR key nonce more ((sealB key nonce more text).set 129 y) = ([], 70) := by
  have hl := sealB_len key nonce more text
  have hr := right_seal key nonce more text
  unfold rightB at hr
  have hr := of_decide_eq_true hr
  have hc : coverB ((sealB key nonce more text).set 129 y) = coverB (sealB key nonce more text) := by
    unfold coverB; rw [List.length_set, List.take_set_of_le (by omega)]
  have ht : ¬ vouchB key nonce more (coverB ((sealB key nonce more text).set 129 y)) = tagB ((sealB key nonce more text).set 129 y) := by
    rw [hc, hr]
    unfold tagB
    rw [List.length_set]
    intro h
    have h3 := congrArg (fun l : List Byte => l[15]?) h
    simp only [List.getElem?_drop] at h3
    rw [show (sealB key nonce more text).length - 16 + 15 = 129 by omega, List.getElem?_set_self (by omega), List.getElem?_eq_getElem (by omega)] at h3
    exact hy (by omega) (Option.some.inj h3)
  unfold openR
  rw [List.length_set, hl, if_neg (by omega), if_neg (by omega), if_neg]
  unfold rightB
  exact fun h => ht (of_decide_eq_true h)
theorem nonces_g {L : List Asrt} (kind : BitVec 32) (number : BitVec 64) : Con Try.prog 8 [u32b kind, u64b number] L (fun r M => r = .bool true ∧ L = M) := by
  have hl : (nonceB kind number).length = 12 := by simp [nonceB, leB_len]
  refine fn_x Try.func8 rfl rfl rfl Try.mixed (by kernel_rfl) ?_
  intro w0
  refine Ct.o ?_
  refine Zgb ?_
  first|refine Zhg (Za0 rfl) ?_|refine Zhg (Zas rfl) ?_
  refine Zg3 ?_
  refine Ct.o ?_
  refine Zgb ?_
  first|refine Zhg (Zat rfl) ?_|refine Zhg (Zar rfl) ?_
  first|refine Zhg (Zat rfl) ?_|refine Zhg (Zar rfl) ?_
  refine Zh8 rfl (by kernel_rfl) (nonce_x kind number) rfl qT ?_
  rintro _ _ ⟨rfl, rfl⟩
  refine Zg2 qA ?_
  first|refine Zhg (Zat rfl) ?_|refine Zhg (Zar rfl) ?_
  first|refine Zhg (Zat rfl) ?_|refine Zhg (Zar rfl) ?_
  refine Zh8 rfl (by kernel_rfl) (nonceRef_x kind number) rfl qT ?_
  rintro _ _ ⟨rfl, rfl⟩
  refine Zg2 qA ?_
  refine Zhg (Zm4 (n := 12) hl hl rfl rfl) ?_
  refine Zhm 11 rfl (decide_eq_true (rfl)) ?_
  first|refine Zhg (Zau rfl) ?_|refine Zhg (Zar rfl) ?_
  first|refine Zhi rfl ?_|refine Zhj rfl ?_|(refine Zhh rfl ?_; (refine Zh8 rfl (by kernel_rfl) (works_x) rfl qT ?_); (rintro _ _ ⟨rfl, rfl⟩); (refine Zg2 qA ?_))
  first|refine Zhg (Zdz rfl rfl) ?_|refine Zhg (Zd0 rfl rfl) ?_|refine Zhg (Za8 rfl rfl) ?_|refine Zhg (Za9 rfl rfl) ?_|refine Zhg (Za6 rfl rfl) ?_|refine Zhg (Za7 rfl rfl) ?_
  first|refine Zhg (Za0 rfl) ?_|refine Zhg (Zas rfl) ?_
  refine Zg3 ?_
  refine Ct.o ?_
  refine rx1 (Zha rfl (Zg7)) ?_
  exact ⟨_, ⟨rfl, rfl⟩, qI⟩
theorem kK_len : kK.length = 32 := riseB_len _ _
theorem mK_len : mK.length = 12 := by unfold mK; rw [List.length_append, riseB_len]; rfl
theorem nK_cells : (#[u8b 7#8, u8b 0#8, u8b 0#8, u8b 0#8, u8b 64#8, u8b 65#8, u8b 66#8, u8b 67#8, u8b 68#8, u8b 69#8, u8b 70#8, u8b 71#8] : Array Value) = (nK.map u8b).toArray := rfl
attribute [local irreducible] kK mK tK riseB
theorem known_x : Con Try.prog 9 [] [] (fun r M => r = .bool true ∧ M = []) := by
  have hkK : riseB 128#8 32 = kK := by unfold kK; rfl
  have hmK : [80#8, 81#8, 82#8, 83#8] ++ riseB 192#8 8 = mK := by unfold mK; rfl
  have hkl := kK_len
  have hml := mK_len
  have htl := kn_len
  have hrl := riseB_len 192#8 8
  have hrl2 := riseB_len 128#8 32
  have hs := sealR_ok kK nK mK tK (by omega) (by omega)
  have hBl := sealB_len kK nK mK tK
  have hhd := kn_head
  have htg := kn_tag
  refine fn_x Try.func9 rfl rfl rfl Try.mixed (by kernel_rfl) ?_
  intro w0
  refine Ct.o ?_
  refine Zgb ?_
  first|refine Zhg (Za0 rfl) ?_|refine Zhg (Zas rfl) ?_
  refine Zg3 ?_
  refine Ct.o ?_
  refine Zgb ?_
  refine Zh8 rfl (by kernel_rfl) (rising_x (L := []) 128#8 32 (by omega)) rfl qT ?_
  rintro _ _ ⟨ka, kc, rfl, rfl⟩
  refine Zg2 qA ?_
  refine Zh8 rfl (by kernel_rfl) (keyOf_x (L := [own 5 1 (.slice ka 32 kc) 32 ((riseB 128#8 32).map u8b)]) (bs_own .here (riseB_len _ _)) (riseB_len _ _)) rfl qT ?_
  rintro _ _ ⟨rfl, rfl⟩
  refine Zg2 qA ?_
  refine Zhz (cs := ((List.replicate 32 0#8).map u8b).toArray) rfl ?_; intro b1
  first|refine Zhy rfl rfl qR qZ (by first|rfl|exact oneM_u8 _|exact oneL_u8 _|exact ccl_one _ _ _ _ _ _ _ _|(simp [oneC]; done)) qZ ?_|refine Zhx rfl rfl qR qZ (by first|rfl|exact oneM_u8 _|exact oneL_u8 _|exact ccl_one _ _ _ _ _ _ _ _|(simp [oneC]; done)) qZ rfl ?_
  refine Zg3 ?_
  refine Ct.o ?_
  rw [hkK]
  refine Ct.o ?_
  refine Zgb ?_
  refine Zhg (Zdn (cs := #[u8b 7#8, u8b 0#8, u8b 0#8, u8b 0#8, u8b 64#8, u8b 65#8, u8b 66#8, u8b 67#8, u8b 68#8, u8b 69#8, u8b 70#8, u8b 71#8]) (by kernel_rfl)) ?_
  refine Zhz (cs := ((List.replicate 12 0#8).map u8b).toArray) rfl ?_; intro b2
  first|refine Zhy rfl rfl qR qZ (by first|rfl|exact oneM_u8 _|exact oneL_u8 _|exact ccl_one _ _ _ _ _ _ _ _|(simp [oneC]; done)) qZ ?_|refine Zhx rfl rfl qR qZ (by first|rfl|exact oneM_u8 _|exact oneL_u8 _|exact ccl_one _ _ _ _ _ _ _ _|(simp [oneC]; done)) qZ rfl ?_
  refine Zg3 ?_
  refine Ct.o ?_
  rw [nK_cells]
  refine Ct.o ?_
  refine Zgb ?_
  refine Zh7 (cs := #[u8b 80#8, u8b 81#8, u8b 82#8, u8b 83#8]) (by omega) (by omega) (by kernel_rfl) ?_; intro b28
  refine Zh8 rfl (by kernel_rfl) (rising_x (L := []) 192#8 8 (by omega)) rfl qT ?_
  rintro _ _ ⟨ma, mc, rfl, rfl⟩
  refine Zg2 qA ?_
  refine Zh8 rfl (by kernel_rfl) (two_x (L := [own 5 1 (.slice ma 8 mc) 8 ((riseB 192#8 8).map u8b), cl b28 #[u8b 80#8, u8b 81#8, u8b 82#8, u8b 83#8] 5]) (bs_full (l := [80#8, 81#8, 82#8, 83#8]) (n := 4) (.there .here) rfl (by omega)) (bs_own .here hrl) (by rw [hmK]; omega)) rfl qT ?_
  rintro _ _ ⟨na, nc, rfl, rfl⟩
  refine Zg2 qA ?_
  first|refine Zhg (Za2 rfl) ?_|refine Zhg (Zas rfl) ?_
  refine Zg3 ?_
  refine Ct.o ?_
  rw [hmK]
  refine Ct.o ?_
  refine Zgb ?_
  refine Zh8 rfl (by kernel_rfl) (text_x (L := []) _ tK (by unfold tK; rfl) (by omega)) rfl qT ?_
  rintro _ _ ⟨ta, tc, rfl, rfl⟩
  refine Zg2 qA ?_
  first|refine Zhg (Za2 rfl) ?_|refine Zhg (Zas rfl) ?_
  refine Zg3 ?_
  refine Ct.o ?_
  have hsx := seal_x (L := [own 5 1 (.slice ta tK.length tc) tK.length (tK.map u8b), own 5 1 (.slice na mK.length nc) mK.length (mK.map u8b)]) kK nK hkl rfl (Bs.own (.there .here)) (Bs.own .here) (by omega) (by omega)
  rw [hs] at hsx
  dsimp only at hsx
  rw [htl] at hBl
  have hto := fun y => openR_turned kK nK mK tK y (by omega) htl
  generalize sealB kK nK mK tK = B at hsx hBl hhd htg hto
  refine Ct.o ?_
  refine Zgb ?_
  first|refine Zhr rfl qH qZ ?_|refine Zhq rfl qH qZ rfl ?_
  first|refine Zhr rfl qH qZ ?_|refine Zhq rfl qH qZ rfl ?_
  first|refine Zhg (Zaw rfl) ?_|refine Zhg (Zar rfl) ?_
  first|refine Zhg (Zaw rfl) ?_|refine Zhg (Zar rfl) ?_
  refine Zh8 rfl (by kernel_rfl) (hsx) rfl qT ?_
  rintro _ _ ⟨sa, sc, rfl, rfl⟩
  refine Zg2 qA ?_
  first|refine Zhg (Zmm rfl) ?_|refine Zhg (Zar rfl) ?_
  refine Zhg (Zco rfl rfl) ?_
  refine Zhg (Zco rfl rfl) ?_
  first|refine Zhg (Za2 rfl) ?_|refine Zhg (Zas rfl) ?_
  first|refine Zhg (Zaz rfl) ?_|refine Zhg (Zas rfl) ?_
  refine Zg3 ?_
  refine Ct.o ?_
  rw [hBl]
  rw [htl, hml]
  refine Zgt (fun F w H => (bs_own (E := 5) (n := 130) (v := .slice sa 130 sc) .here hBl).sh _ _ _ H) ?_
  rintro ⟨a', c', hv', hsc, hscm⟩
  simp only [Value.slice.injEq] at hv'
  obtain ⟨_, _, rfl⟩ := hv'
  refine Zgt (fun F w H => own_some (a := sa) qH (by omega) H) ?_
  rintro ⟨g, rfl⟩
  have bB : ∀ {M M' : List Asrt}, Has M (own 5 1 (.slice (some ⟨g, 0, none⟩) 130 sc) 130 (B.map u8b)) M' → Bs M (.slice (some ⟨g, 0, none⟩) B.length sc) B := fun hm => by rw [hBl]; exact bs_own hm hBl
  have bT : ∀ {M M' : List Asrt} (n : Nat), n ≤ 130 → Has M (own 5 1 (.slice (some ⟨g, 0, none⟩) 130 sc) 130 (B.map u8b)) M' → Bs M (.slice (some ⟨g, 0, none⟩) n sc) (B.take n) := fun n hn hm => Bs.take (bB hm) (by omega)
  have bD : ∀ {M M' : List Asrt}, Has M (own 5 1 (.slice (some ⟨g, 0, none⟩) 130 sc) 130 (B.map u8b)) M' → Bs M (.slice (some ⟨g, 114, none⟩) 16 (sc - 114)) (B.drop 114) := fun hm => by
    have := bs_drop (k := 114) (bB hm) (by omega) (by omega)
    rw [hBl] at this
    simpa using this
  refine Ct.o ?_
  refine Zgb ?_
  first|refine Zhg (Zat rfl) ?_|refine Zhg (Zar rfl) ?_
  first|refine Zhg (Zmk (b := 0) rfl rfl) ?_|refine Zhg (Zbs rfl rfl) ?_
  refine Zhn 41 rfl (rfl) ?_
  first|refine Zhg (Zau rfl) ?_|refine Zhg (Zar rfl) ?_
  first|refine Zhi rfl ?_|refine Zhj rfl ?_|(refine Zhh rfl ?_; (first|refine Zhg (Zaw rfl) ?_|refine Zhg (Zar rfl) ?_))
  first|refine Zhi rfl ?_|refine Zhj rfl ?_|(refine Zhh rfl ?_; (first|refine Zhg (Zcr rfl) ?_|refine Zhg (Zct) ?_|refine Zhg (Zcu rfl) ?_))
  first|refine Zhi rfl ?_|refine Zhj rfl ?_|(refine Zhh rfl ?_; (first|refine Zhg (Zmk (b := 130) rfl rfl) ?_|refine Zhg (Zbs rfl rfl) ?_))
  refine Zhn 45 rfl (rfl) ?_
  first|refine Zhg (Zdz rfl rfl) ?_|refine Zhg (Zd0 rfl rfl) ?_|refine Zhg (Za8 rfl rfl) ?_|refine Zhg (Za9 rfl rfl) ?_|refine Zhg (Za6 rfl rfl) ?_|refine Zhg (Za7 rfl rfl) ?_
  first|refine Zhg (Zau rfl) ?_|refine Zhg (Zar rfl) ?_
  first|refine Zhi rfl ?_|refine Zhj rfl ?_|(refine Zhh rfl ?_; (first|refine Zhg (Zaw rfl) ?_|refine Zhg (Zar rfl) ?_))
  first|refine Zhi rfl ?_|refine Zhj rfl ?_|(refine Zhh rfl ?_; (refine Zhg (Zm0 (h := 8) rfl rfl (by omega)) ?_))
  first|refine Zhi rfl ?_|refine Zhj rfl ?_|(refine Zhh rfl ?_; (refine Zh7 (cs := #[u8b 211#8, u8b 26#8, u8b 141#8, u8b 52#8, u8b 100#8, u8b 142#8, u8b 96#8, u8b 219#8]) (by omega) (by omega) (by kernel_rfl) ?_; intro b50))
  first|refine Zhi rfl ?_|refine Zhj rfl ?_|(refine Zhh rfl ?_; (refine Zh8 rfl (by kernel_rfl) (eqBytes_x (L := [cl b50 #[u8b 211#8, u8b 26#8, u8b 141#8, u8b 52#8, u8b 100#8, u8b 142#8, u8b 96#8, u8b 219#8] 5, own 5 1 (.slice (some ⟨g, 0, none⟩) 130 sc) 130 (B.map u8b)]) (a := B.take 8) (b := [211#8, 26#8, 141#8, 52#8, 100#8, 142#8, 96#8, 219#8]) (bT 8 (by omega) (.there .here)) (bs_full (n := 8) .here rfl (by omega))) rfl qT ?_); (rintro _ _ ⟨rfl, rfl⟩); (refine Zg2 qA ?_))
  refine Zhm 51 rfl (decide_eq_true (hhd)) ?_
  first|refine Zhi rfl ?_|refine Zhj rfl ?_|(refine Zhh rfl ?_; (first|refine Zhg (Zb1 rfl) ?_|refine Zhg (Zb0 rfl) ?_))
  refine Zhn 52 rfl (rfl) ?_
  first|refine Zhg (Zdz rfl rfl) ?_|refine Zhg (Zd0 rfl rfl) ?_|refine Zhg (Za8 rfl rfl) ?_|refine Zhg (Za9 rfl rfl) ?_|refine Zhg (Za6 rfl rfl) ?_|refine Zhg (Za7 rfl rfl) ?_
  first|refine Zhg (Zau rfl) ?_|refine Zhg (Zar rfl) ?_
  first|refine Zhi rfl ?_|refine Zhj rfl ?_|(refine Zhh rfl ?_; (first|refine Zhg (Zaw rfl) ?_|refine Zhg (Zar rfl) ?_))
  first|refine Zhi rfl ?_|refine Zhj rfl ?_|(refine Zhh rfl ?_; (first|refine Zhg (Zna (l := 114) (h := 130) rfl qB qB) ?_|refine Zhg (Zmz (l := 114) (h := 130) rfl qB qB) ?_))
  first|refine Zhi rfl ?_|refine Zhj rfl ?_|(refine Zhh rfl ?_; (refine Zh7 (cs := #[u8b 26#8, u8b 225#8, u8b 11#8, u8b 89#8, u8b 79#8, u8b 9#8, u8b 226#8, u8b 106#8, u8b 126#8, u8b 144#8, u8b 46#8, u8b 203#8, u8b 208#8, u8b 96#8, u8b 6#8, u8b 145#8]) (by omega) (by omega) (by kernel_rfl) ?_; intro b57))
  first|refine Zhi rfl ?_|refine Zhj rfl ?_|(refine Zhh rfl ?_; (refine Zh8 rfl (by kernel_rfl) (eqBytes_x (L := [cl b57 #[u8b 26#8, u8b 225#8, u8b 11#8, u8b 89#8, u8b 79#8, u8b 9#8, u8b 226#8, u8b 106#8, u8b 126#8, u8b 144#8, u8b 46#8, u8b 203#8, u8b 208#8, u8b 96#8, u8b 6#8, u8b 145#8] 5, own 5 1 (.slice (some ⟨g, 0, none⟩) 130 sc) 130 (B.map u8b)]) (a := B.drop 114) (b := [26#8, 225#8, 11#8, 89#8, 79#8, 9#8, 226#8, 106#8, 126#8, 144#8, 46#8, 203#8, 208#8, 96#8, 6#8, 145#8]) (bD (.there .here)) (bs_full (n := 16) .here rfl (by omega))) rfl qT ?_); (rintro _ _ ⟨rfl, rfl⟩); (refine Zg2 qA ?_))
  refine Zhm 58 rfl (decide_eq_true (htg)) ?_
  first|refine Zhi rfl ?_|refine Zhj rfl ?_|(refine Zhh rfl ?_; (first|refine Zhg (Zb1 rfl) ?_|refine Zhg (Zb0 rfl) ?_))
  refine Zhn 59 rfl (rfl) ?_
  first|refine Zhg (Zdz rfl rfl) ?_|refine Zhg (Zd0 rfl rfl) ?_|refine Zhg (Za8 rfl rfl) ?_|refine Zhg (Za9 rfl rfl) ?_|refine Zhg (Za6 rfl rfl) ?_|refine Zhg (Za7 rfl rfl) ?_
  refine Zg3 ?_
  refine Ct.o ?_
  refine Zgf rfl ?_
  refine Ct.o ?_
  refine Zgt (fun F w H => own_some (a := na) qH (by omega) H) ?_
  rintro ⟨gm, rfl⟩
  refine Zgt (fun F w H => (bs_own (E := 5) (n := 12) (l := mK) (v := .slice (some ⟨gm, 0, none⟩) 12 nc) qH hml).sh _ _ _ H) ?_
  rintro ⟨a', c', hv', hnc, hncm⟩
  simp only [Value.slice.injEq] at hv'
  obtain ⟨_, _, rfl⟩ := hv'
  have bM : ∀ {M M' : List Asrt} (n : Nat), n ≤ 12 → Has M (own 5 1 (.slice (some ⟨gm, 0, none⟩) 12 nc) 12 (mK.map u8b)) M' → Bs M (.slice (some ⟨gm, 0, none⟩) n nc) (mK.take n) := fun n hn hm => Bs.take (by rw [hml]; exact bs_own hm hml) (by omega)
  refine Ct.o ?_
  refine Zgb ?_
  first|refine Zhg (Zaz rfl) ?_|refine Zhg (Zas rfl) ?_
  refine Zg3 ?_
  refine Ct.o ?_
  refine Zgo [(0, 0), (7, 8), (61, 92)] (by kernel_rfl) (fun i : Nat => i ≤ 34) (fun i => [cl b1 (kK.map u8b).toArray 23, cl b2 (nK.map u8b).toArray 25, own 5 1 (.slice (some ⟨gm, 0, none⟩) 12 nc) 12 (mK.map u8b), own 5 1 (.slice (some ⟨g, 0, none⟩) 130 sc) 130 (B.map u8b)])
    (fun i => [(7, nvv i)]) (fun i => 34 - i) 0 (Nat.zero_le _) qI ⟨rfl, trivial⟩ ?_
  intro i u hi
  refine Ct.o ?_
  refine Zgb ?_
  first|refine Zhg (Zat rfl) ?_|refine Zhg (Zar rfl) ?_
  first|refine Zhg (Zmf (b := 34) rfl rfl) ?_|refine Zhg (Zbn rfl rfl) ?_
  refine Zg3 ?_
  refine Ct.o ?_
  refine Zgg rfl (fun hA => ?_) (fun hA => ?_)
  · have hcl := ccl_len (v2 := .slice (some ⟨gm, 0, none⟩) (i % 13) nc) (v3 := .slice (some ⟨g, 0, none⟩) i sc) hkl (show nK.length = 12 from rfl)
    have hbm := fun {M M' : List Asrt} => bM (M := M) (M' := M') (i % 13) (by omega)
    have hbt := fun {M M' : List Asrt} => bT (M := M) (M' := M') i (by omega)
    have hl1 : (mK.take (i % 13)).length ≤ 140737488351232 := by rw [List.length_take]; omega
    have hl2 : (B.take i).length ≤ 140737488351232 := by rw [List.length_take]; omega
    refine Ct.o ?_
    refine Zij (_) [1, 10] (.q 2 (.q 3 (.q 4 (.q 5 (.q 6 (.q 7 (.q 8 (.r 0 (.r 1 (.q 9 (.a 10 (.e 11 false .nil)))))))))))) (by kernel_rfl) (by kernel_rfl) (Imp.refl _) ?_
    first|refine Zim rfl (Zaw rfl) ?_|refine Zim rfl (Zar rfl) ?_
    first|refine Zim rfl (Zat rfl) ?_|refine Zim rfl (Zar rfl) ?_
    refine Zim rfl (Zme (b := 13) rfl rfl (by omega)) ?_
    refine Zim rfl (Zm0 (h := i % 13) rfl rfl (by omega)) ?_
    first|refine Zim rfl (Zaw rfl) ?_|refine Zim rfl (Zar rfl) ?_
    first|refine Zim rfl (Zat rfl) ?_|refine Zim rfl (Zar rfl) ?_
    refine Zim rfl (Zm0 (h := i) rfl rfl (by omega)) ?_
    first|refine Ziy rfl rfl qH qZ ?_|refine Zix rfl rfl qH qZ rfl ?_
    first|refine Ziy rfl rfl qH qZ ?_|refine Zix rfl rfl qH qZ rfl ?_
    refine Zim rfl (Zdm (cs := (ccl kK nK (.slice (some ⟨gm, 0, none⟩) (i % 13) nc) (.slice (some ⟨g, 0, none⟩) i sc)).toArray) (case_fill kK nK _ _ _ _ _ _ hkl rfl rfl rfl rfl rfl)) ?_
    refine Zir rfl (cs := #[u8b 0#8, u8b 0#8, u8b 0#8, u8b 0#8, u8b 0#8, u8b 0#8, u8b 0#8, u8b 0#8, u8b 0#8, u8b 0#8, u8b 0#8, u8b 0#8, u8b 0#8, u8b 0#8, u8b 0#8, u8b 0#8, u8b 0#8, u8b 0#8, u8b 0#8, u8b 0#8, u8b 0#8, u8b 0#8, u8b 0#8, u8b 0#8, u8b 0#8, u8b 0#8, u8b 0#8, u8b 0#8, u8b 0#8, u8b 0#8, u8b 0#8, u8b 0#8, u8b 0#8, u8b 0#8, u8b 0#8, u8b 0#8, u8b 0#8, u8b 0#8, u8b 0#8, u8b 0#8, u8b 0#8, u8b 0#8, u8b 0#8, u8b 0#8, .slice none 0 0, .slice none 0 0]) rfl ?_; intro b8
    refine Ziq rfl ?_
    first|refine Zhy rfl rfl qR qZ (by first|rfl|exact oneM_u8 _|exact oneL_u8 _|exact ccl_one _ _ _ _ _ _ _ _|(simp [oneC]; done)) qZ ?_|refine Zhx rfl rfl qR qZ (by first|rfl|exact oneM_u8 _|exact oneL_u8 _|exact ccl_one _ _ _ _ _ _ _ _|(simp [oneC]; done)) qZ rfl ?_
    refine Zg3 ⟨(fun hh => Bool.noConfusion hh), ?_⟩
    refine Zik ?_
    refine Ct.o ?_
    refine Zgb ?_
    first|refine Zhr rfl qH qZ ?_|refine Zhq rfl qH qZ rfl ?_
    refine Zh8 rfl (by kernel_rfl) (seals_g (L := [own 5 1 (.slice (some ⟨gm, 0, none⟩) 12 nc) 12 (mK.map u8b), own 5 1 (.slice (some ⟨g, 0, none⟩) 130 sc) 130 (B.map u8b)]) kK nK hkl rfl (hbm .here) (hbt (.there .here)) hl1 hl2) rfl qT ?_
    rintro _ _ ⟨rfl, rfl⟩
    refine Zg2 qA ?_
    first|refine Zhg (Zb1 rfl) ?_|refine Zhg (Zb0 rfl) ?_
    refine Zhn 77 rfl (rfl) ?_
    first|refine Zhg (Zau rfl) ?_|refine Zhg (Zar rfl) ?_
    first|refine Zhi rfl ?_|refine Zhj rfl ?_|(refine Zhh rfl ?_; (first|refine Zhr rfl qH qZ ?_|refine Zhq rfl qH qZ rfl ?_))
    first|refine Zhi rfl ?_|refine Zhj rfl ?_|(refine Zhh rfl ?_; (refine Zh8 rfl (by kernel_rfl) (opens_g (L := [own 5 1 (.slice (some ⟨gm, 0, none⟩) 12 nc) 12 (mK.map u8b), own 5 1 (.slice (some ⟨g, 0, none⟩) 130 sc) 130 (B.map u8b)]) kK nK hkl rfl (hbm .here) (hbt (.there .here)) hl1 hl2) rfl qT ?_); (rintro _ _ ⟨rfl, rfl⟩); (refine Zg2 qA ?_))
    first|refine Zhi rfl ?_|refine Zhj rfl ?_|(refine Zhh rfl ?_; (first|refine Zhg (Zb1 rfl) ?_|refine Zhg (Zb0 rfl) ?_))
    refine Zhn 81 rfl (rfl) ?_
    first|refine Zhg (Zdz rfl rfl) ?_|refine Zhg (Zd0 rfl rfl) ?_|refine Zhg (Za8 rfl rfl) ?_|refine Zhg (Za9 rfl rfl) ?_|refine Zhg (Za6 rfl rfl) ?_|refine Zhg (Za7 rfl rfl) ?_
    first|refine Zhg (Zau rfl) ?_|refine Zhg (Zar rfl) ?_
    first|refine Zhi rfl ?_|refine Zhj rfl ?_|(refine Zhh rfl ?_; (first|refine Zhr rfl qH qZ ?_|refine Zhq rfl qH qZ rfl ?_))
    first|refine Zhi rfl ?_|refine Zhj rfl ?_|(refine Zhh rfl ?_; (refine Zh8 rfl (by kernel_rfl) (oneForm_g (L := [own 5 1 (.slice (some ⟨gm, 0, none⟩) 12 nc) 12 (mK.map u8b), own 5 1 (.slice (some ⟨g, 0, none⟩) 130 sc) 130 (B.map u8b)]) kK nK hkl rfl (hbm .here) (hbt (.there .here)) hl1 hl2) rfl qT ?_); (rintro _ _ ⟨rfl, rfl⟩); (refine Zg2 qA ?_))
    first|refine Zhi rfl ?_|refine Zhj rfl ?_|(refine Zhh rfl ?_; (first|refine Zhg (Zb1 rfl) ?_|refine Zhg (Zb0 rfl) ?_))
    refine Zhn 86 rfl (rfl) ?_
    first|refine Zhg (Zdz rfl rfl) ?_|refine Zhg (Zd0 rfl rfl) ?_|refine Zhg (Za8 rfl rfl) ?_|refine Zhg (Za9 rfl rfl) ?_|refine Zhg (Za6 rfl rfl) ?_|refine Zhg (Za7 rfl rfl) ?_
    first|refine Zhg (Zau rfl) ?_|refine Zhg (Zar rfl) ?_
    first|refine Zhi rfl ?_|refine Zhj rfl ?_|(refine Zhh rfl ?_; (first|refine Zhr rfl qH qZ ?_|refine Zhq rfl qH qZ rfl ?_))
    first|refine Zhi rfl ?_|refine Zhj rfl ?_|(refine Zhh rfl ?_; (refine Zh8 rfl (by kernel_rfl) (back_g (L := [own 5 1 (.slice (some ⟨gm, 0, none⟩) 12 nc) 12 (mK.map u8b), own 5 1 (.slice (some ⟨g, 0, none⟩) 130 sc) 130 (B.map u8b)]) kK nK hkl rfl (hbm .here) (hbt (.there .here)) hl1 hl2) rfl qT ?_); (rintro _ _ ⟨rfl, rfl⟩); (refine Zg2 qA ?_))
    first|refine Zhi rfl ?_|refine Zhj rfl ?_|(refine Zhh rfl ?_; (first|refine Zhg (Zb1 rfl) ?_|refine Zhg (Zb0 rfl) ?_))
    refine Zhn 91 rfl (rfl) ?_
    first|refine Zhg (Zdz rfl rfl) ?_|refine Zhg (Zd0 rfl rfl) ?_|refine Zhg (Za8 rfl rfl) ?_|refine Zhg (Za9 rfl rfl) ?_|refine Zhg (Za6 rfl rfl) ?_|refine Zhg (Za7 rfl rfl) ?_
    refine Zg3 ?_
    refine Ct.o ?_
    refine Zgf rfl ?_
    refine Ct.o ?_
    refine Zgb ?_
    first|refine Zhg (Zat rfl) ?_|refine Zhg (Zar rfl) ?_
    first|refine Zhg (Zma (b := 1) rfl rfl) ?_|refine Zhg (Zbg rfl rfl) ?_
    first|refine Zhg (Zaz rfl) ?_|refine Zhg (Zas rfl) ?_
    refine Zg3 ?_
    refine Ct.o ?_
    exact Zgl (i + 1) qO (by omega) qI ⟨rfl, trivial⟩
  · have hie : i = 34 := by omega
    subst hie
    have hZl : (List.replicate 1048593 0#8).length = 1048593 := List.length_replicate
    refine Ct.o ?_
    refine Zgb ?_
    refine Zm3 (f := u8b) (a := 0#8) (len := 1048593) (cap := 1048593) rfl rfl rfl qS qS qS ?_; intro b93
    first|refine Zhg (Za2 rfl) ?_|refine Zhg (Zas rfl) ?_
    refine Zg3 ?_
    refine Ct.o ?_
    generalize List.replicate 1048593 0#8 = Z at hZl
    refine Ct.o ?_
    refine Zgb ?_
    first|refine Zhg (Zaw rfl) ?_|refine Zhg (Zar rfl) ?_
    refine Zhg (Zm0 (h := 1048576) rfl rfl (by omega)) ?_
    first|refine Zhg (Za2 rfl) ?_|refine Zhg (Zas rfl) ?_
    refine Zg3 ?_
    refine Ct.o ?_
    have bZ : ∀ {M M' : List Asrt} (n : Nat), n ≤ 1048593 → Has M (cl b93 (Z.map u8b).toArray 5) M' → Bs M (.slice (some ⟨b93, 0, none⟩) n 1048593) (Z.take n) := fun n hn hm => Bs.take (by rw [hZl]; exact bs_full hm hZl (by omega)) (by omega)
    have hzt : ∀ n, n ≤ 1048593 → (Z.take n).length = n := fun n h => by rw [List.length_take]; omega
    have z77 := hzt 1048577 (by omega)
    have z15 := hzt 15 (by omega)
    have z16 := hzt 16 (by omega)
    have k16 := seal_x (L := [cl b93 (Z.map u8b).toArray 5]) kK nK hkl rfl Bs.nil (bZ 1048577 (by omega) .here) (by simp) (by omega)
    rw [sealR_long _ _ _ _ (.inr (by omega))] at k16
    have k17 := seal_x (L := [cl b93 (Z.map u8b).toArray 5]) kK nK hkl rfl (bZ 1048577 (by omega) .here) Bs.nil (by omega) (by simp)
    rw [sealR_long _ _ _ _ (.inl (by omega))] at k17
    have k18 := open_x (L := [cl b93 (Z.map u8b).toArray 5]) kK nK hkl rfl Bs.nil (bs_full (n := 1048593) .here hZl (by omega)) (by simp) (by omega)
    rw [show openR kK nK [] Z = ([], 3) by unfold openR; rw [if_neg (by omega), if_pos (.inr (by omega))]] at k18
    have k19 := open_x (L := [cl b93 (Z.map u8b).toArray 5]) kK nK hkl rfl (bs_full (n := 1048593) .here hZl (by omega)) (bZ 15 (by omega) .here) (by omega) (by omega)
    rw [show openR kK nK Z (Z.take 15) = ([], 4) by unfold openR; rw [if_pos (by omega)]] at k19
    have k20 := peek_x (L := [cl b93 (Z.map u8b).toArray 5]) kK nK hkl rfl (bs_full (n := 1048593) .here hZl (by omega)) (bZ 16 (by omega) .here) (by omega) (by omega)
    rw [show lookR kK nK Z (Z.take 16) = ([], 0#64, 3) by unfold lookR; rw [if_neg (by omega), if_pos (.inl (by omega))]] at k20
    dsimp only at k16 k17 k18 k19 k20
    refine Ct.o ?_
    refine Zij (_) [1] (.q 2 (.q 3 (.r 0 (.r 1 (.e 4 false (.q 5 (.q 6 (.q 7 (.q 8 (.q 9 .nil)))))))))) (by kernel_rfl) (by kernel_rfl) (Imp.refl _) ?_
    first|refine Zim rfl (Zaw rfl) ?_|refine Zim rfl (Zar rfl) ?_
    refine Zim rfl (Zm0 (h := 1048577) rfl rfl (by omega)) ?_
    first|refine Ziy rfl rfl qH qZ ?_|refine Zix rfl rfl qH qZ rfl ?_
    first|refine Ziy rfl rfl qH qZ ?_|refine Zix rfl rfl qH qZ rfl ?_
    refine Ziq rfl ?_
    refine Zh8 rfl (by kernel_rfl) (k16) rfl qT ?_
    rintro _ _ ⟨_, _, rfl, rfl⟩
    refine Zg2 qA ?_
    refine Zg3 ⟨(fun hh => Bool.noConfusion hh), ?_⟩
    first|refine Zim rfl (Zmm rfl) ?_|refine Zim rfl (Zar rfl) ?_
    refine Zim rfl (Zco rfl rfl) ?_
    refine Zim rfl (Zco rfl rfl) ?_
    first|refine Zim rfl (Za2 rfl) ?_|refine Zim rfl (Zas rfl) ?_
    first|refine Zim rfl (Zaz rfl) ?_|refine Zim rfl (Zas rfl) ?_
    refine Zik ?_
    refine Ct.o ?_
    refine Zij (_) [1] (.q 2 (.q 3 (.r 0 (.r 1 (.e 4 false (.q 5 (.q 6 (.q 7 (.q 8 (.q 9 .nil)))))))))) (by kernel_rfl) (by kernel_rfl) (Imp.refl _) ?_
    first|refine Zim rfl (Zaw rfl) ?_|refine Zim rfl (Zar rfl) ?_
    refine Zim rfl (Zm0 (h := 1048577) rfl rfl (by omega)) ?_
    first|refine Ziy rfl rfl qH qZ ?_|refine Zix rfl rfl qH qZ rfl ?_
    first|refine Ziy rfl rfl qH qZ ?_|refine Zix rfl rfl qH qZ rfl ?_
    refine Ziq rfl ?_
    refine Zh8 rfl (by kernel_rfl) (k17) rfl qT ?_
    rintro _ _ ⟨_, _, rfl, rfl⟩
    refine Zg2 qA ?_
    refine Zg3 ⟨(fun hh => Bool.noConfusion hh), ?_⟩
    first|refine Zim rfl (Zmm rfl) ?_|refine Zim rfl (Zar rfl) ?_
    refine Zim rfl (Zco rfl rfl) ?_
    refine Zim rfl (Zco rfl rfl) ?_
    first|refine Zim rfl (Za2 rfl) ?_|refine Zim rfl (Zas rfl) ?_
    first|refine Zim rfl (Zaz rfl) ?_|refine Zim rfl (Zas rfl) ?_
    refine Zik ?_
    refine Ct.o ?_
    refine Zgb ?_
    first|refine Zhr rfl qH qZ ?_|refine Zhq rfl qH qZ rfl ?_
    first|refine Zhr rfl qH qZ ?_|refine Zhq rfl qH qZ rfl ?_
    first|refine Zhg (Zaw rfl) ?_|refine Zhg (Zar rfl) ?_
    refine Zh8 rfl (by kernel_rfl) (k18) rfl qT ?_
    rintro _ _ ⟨_, _, rfl, rfl⟩
    refine Zg2 qA ?_
    first|refine Zhg (Zmm rfl) ?_|refine Zhg (Zar rfl) ?_
    refine Zhg (Zco rfl rfl) ?_
    refine Zhg (Zco rfl rfl) ?_
    first|refine Zhg (Za2 rfl) ?_|refine Zhg (Zas rfl) ?_
    first|refine Zhg (Zaz rfl) ?_|refine Zhg (Zas rfl) ?_
    refine Zg3 ?_
    refine Ct.o ?_
    refine Zij (_) [1] (.q 2 (.q 3 (.q 4 (.r 0 (.r 1 (.e 5 false (.q 6 (.q 7 (.q 8 (.q 9 (.q 10 .nil))))))))))) (by kernel_rfl) (by kernel_rfl) (Imp.refl _) ?_
    first|refine Zim rfl (Zaw rfl) ?_|refine Zim rfl (Zar rfl) ?_
    first|refine Zim rfl (Zaw rfl) ?_|refine Zim rfl (Zar rfl) ?_
    refine Zim rfl (Zm0 (h := 15) rfl rfl (by omega)) ?_
    first|refine Ziy rfl rfl qH qZ ?_|refine Zix rfl rfl qH qZ rfl ?_
    first|refine Ziy rfl rfl qH qZ ?_|refine Zix rfl rfl qH qZ rfl ?_
    refine Ziq rfl ?_
    refine Zh8 rfl (by kernel_rfl) (k19) rfl qT ?_
    rintro _ _ ⟨_, _, rfl, rfl⟩
    refine Zg2 qA ?_
    refine Zg3 ⟨(fun hh => Bool.noConfusion hh), ?_⟩
    first|refine Zim rfl (Zmm rfl) ?_|refine Zim rfl (Zar rfl) ?_
    refine Zim rfl (Zco rfl rfl) ?_
    refine Zim rfl (Zco rfl rfl) ?_
    first|refine Zim rfl (Za2 rfl) ?_|refine Zim rfl (Zas rfl) ?_
    first|refine Zim rfl (Zaz rfl) ?_|refine Zim rfl (Zas rfl) ?_
    refine Zik ?_
    refine Ct.o ?_
    refine Zij (_) [1] (.q 2 (.q 3 (.q 4 (.r 0 (.r 1 (.e 5 false (.q 6 (.q 7 (.q 8 (.q 9 (.q 10 (.q 11 (.q 12 .nil))))))))))))) (by kernel_rfl) (by kernel_rfl) (Imp.refl _) ?_
    first|refine Zim rfl (Zaw rfl) ?_|refine Zim rfl (Zar rfl) ?_
    first|refine Zim rfl (Zaw rfl) ?_|refine Zim rfl (Zar rfl) ?_
    refine Zim rfl (Zm0 (h := 16) rfl rfl (by omega)) ?_
    first|refine Ziy rfl rfl qH qZ ?_|refine Zix rfl rfl qH qZ rfl ?_
    first|refine Ziy rfl rfl qH qZ ?_|refine Zix rfl rfl qH qZ rfl ?_
    refine Ziq rfl ?_
    refine Zh8 rfl (by kernel_rfl) (k20) rfl qT ?_
    rintro _ _ ⟨_, _, rfl, rfl⟩
    refine Zg2 qA ?_
    refine Zg3 ⟨(fun hh => Bool.noConfusion hh), ?_⟩
    first|refine Zim rfl (Zmm rfl) ?_|refine Zim rfl (Zar rfl) ?_
    refine Zim rfl (Zco rfl rfl) ?_
    refine Zim rfl (Zco rfl rfl) ?_
    refine Zim rfl (Zco rfl rfl) ?_
    first|refine Zim rfl (Za2 rfl) ?_|refine Zim rfl (Zas rfl) ?_
    first|refine Zim rfl (Zaz rfl) ?_|refine Zim rfl (Zas rfl) ?_
    first|refine Zim rfl (Zaz rfl) ?_|refine Zim rfl (Zas rfl) ?_
    refine Zik ?_
    refine Ct.o ?_
    refine Zgb ?_
    first|refine Zhg (Zat rfl) ?_|refine Zhg (Zar rfl) ?_
    first|refine Zhg (Zmk (b := 3) rfl rfl) ?_|refine Zhg (Zbs rfl rfl) ?_
    refine Zhn 139 rfl (rfl) ?_
    first|refine Zhg (Zau rfl) ?_|refine Zhg (Zar rfl) ?_
    first|refine Zhi rfl ?_|refine Zhj rfl ?_|(refine Zhh rfl ?_; (first|refine Zhg (Zat rfl) ?_|refine Zhg (Zar rfl) ?_))
    first|refine Zhi rfl ?_|refine Zhj rfl ?_|(refine Zhh rfl ?_; (first|refine Zhg (Zmk (b := 3) rfl rfl) ?_|refine Zhg (Zbs rfl rfl) ?_))
    refine Zhn 142 rfl (rfl) ?_
    first|refine Zhg (Zdz rfl rfl) ?_|refine Zhg (Zd0 rfl rfl) ?_|refine Zhg (Za8 rfl rfl) ?_|refine Zhg (Za9 rfl rfl) ?_|refine Zhg (Za6 rfl rfl) ?_|refine Zhg (Za7 rfl rfl) ?_
    first|refine Zhg (Zau rfl) ?_|refine Zhg (Zar rfl) ?_
    first|refine Zhi rfl ?_|refine Zhj rfl ?_|(refine Zhh rfl ?_; (first|refine Zhg (Zat rfl) ?_|refine Zhg (Zar rfl) ?_))
    first|refine Zhi rfl ?_|refine Zhj rfl ?_|(refine Zhh rfl ?_; (first|refine Zhg (Zmk (b := 3) rfl rfl) ?_|refine Zhg (Zbs rfl rfl) ?_))
    refine Zhn 146 rfl (rfl) ?_
    first|refine Zhg (Zdz rfl rfl) ?_|refine Zhg (Zd0 rfl rfl) ?_|refine Zhg (Za8 rfl rfl) ?_|refine Zhg (Za9 rfl rfl) ?_|refine Zhg (Za6 rfl rfl) ?_|refine Zhg (Za7 rfl rfl) ?_
    first|refine Zhg (Zau rfl) ?_|refine Zhg (Zar rfl) ?_
    first|refine Zhi rfl ?_|refine Zhj rfl ?_|(refine Zhh rfl ?_; (first|refine Zhg (Zat rfl) ?_|refine Zhg (Zar rfl) ?_))
    first|refine Zhi rfl ?_|refine Zhj rfl ?_|(refine Zhh rfl ?_; (first|refine Zhg (Zmk (b := 4) rfl rfl) ?_|refine Zhg (Zbs rfl rfl) ?_))
    refine Zhn 150 rfl (rfl) ?_
    first|refine Zhg (Zdz rfl rfl) ?_|refine Zhg (Zd0 rfl rfl) ?_|refine Zhg (Za8 rfl rfl) ?_|refine Zhg (Za9 rfl rfl) ?_|refine Zhg (Za6 rfl rfl) ?_|refine Zhg (Za7 rfl rfl) ?_
    first|refine Zhg (Zau rfl) ?_|refine Zhg (Zar rfl) ?_
    first|refine Zhi rfl ?_|refine Zhj rfl ?_|(refine Zhh rfl ?_; (first|refine Zhg (Zat rfl) ?_|refine Zhg (Zar rfl) ?_))
    first|refine Zhi rfl ?_|refine Zhj rfl ?_|(refine Zhh rfl ?_; (first|refine Zhg (Zmk (b := 3) rfl rfl) ?_|refine Zhg (Zbs rfl rfl) ?_))
    refine Zhn 154 rfl (rfl) ?_
    first|refine Zhg (Zdz rfl rfl) ?_|refine Zhg (Zd0 rfl rfl) ?_|refine Zhg (Za8 rfl rfl) ?_|refine Zhg (Za9 rfl rfl) ?_|refine Zhg (Za6 rfl rfl) ?_|refine Zhg (Za7 rfl rfl) ?_
    refine Zg3 ?_
    refine Ct.o ?_
    refine Zgf rfl ?_
    refine Ct.o ?_
    have hcl := ccl_len (v2 := .slice (some ⟨gm, 0, none⟩) 12 nc) (v3 := .slice (some ⟨g, 0, none⟩) 130 sc) hkl (show nK.length = 12 from rfl)
    refine Ct.o ?_
    refine Zgb ?_
    first|refine Zhr rfl qH qZ ?_|refine Zhq rfl qH qZ rfl ?_
    first|refine Zhr rfl qH qZ ?_|refine Zhq rfl qH qZ rfl ?_
    first|refine Zhg (Zaw rfl) ?_|refine Zhg (Zar rfl) ?_
    first|refine Zhg (Zaw rfl) ?_|refine Zhg (Zar rfl) ?_
    refine Zhg (Zdm (cs := (ccl kK nK (.slice (some ⟨gm, 0, none⟩) 12 nc) (.slice (some ⟨g, 0, none⟩) 130 sc)).toArray) (case_fill kK nK _ _ _ _ _ _ hkl rfl rfl rfl rfl rfl)) ?_
    refine Zhz (cs := #[u8b 0#8, u8b 0#8, u8b 0#8, u8b 0#8, u8b 0#8, u8b 0#8, u8b 0#8, u8b 0#8, u8b 0#8, u8b 0#8, u8b 0#8, u8b 0#8, u8b 0#8, u8b 0#8, u8b 0#8, u8b 0#8, u8b 0#8, u8b 0#8, u8b 0#8, u8b 0#8, u8b 0#8, u8b 0#8, u8b 0#8, u8b 0#8, u8b 0#8, u8b 0#8, u8b 0#8, u8b 0#8, u8b 0#8, u8b 0#8, u8b 0#8, u8b 0#8, u8b 0#8, u8b 0#8, u8b 0#8, u8b 0#8, u8b 0#8, u8b 0#8, u8b 0#8, u8b 0#8, u8b 0#8, u8b 0#8, u8b 0#8, u8b 0#8, .slice none 0 0, .slice none 0 0]) rfl ?_; intro b22
    first|refine Zhy rfl rfl qR qZ (by first|rfl|exact oneM_u8 _|exact oneL_u8 _|exact ccl_one _ _ _ _ _ _ _ _|(simp [oneC]; done)) qZ ?_|refine Zhx rfl rfl qR qZ (by first|rfl|exact oneM_u8 _|exact oneL_u8 _|exact ccl_one _ _ _ _ _ _ _ _|(simp [oneC]; done)) qZ rfl ?_
    refine Zg3 ?_
    refine Ct.o ?_
    refine Zgb ?_
    first|refine Zhr rfl qH qZ ?_|refine Zhq rfl qH qZ rfl ?_
    refine Zh8 rfl (by kernel_rfl) (opens_g (L := [own 5 1 (.slice (some ⟨gm, 0, none⟩) 12 nc) 12 (mK.map u8b), own 5 1 (.slice (some ⟨g, 0, none⟩) 130 sc) 130 (B.map u8b)]) kK nK hkl rfl (bs_own .here hml) (bs_own (.there .here) hBl) (by omega) (by omega)) rfl qT ?_
    rintro _ _ ⟨rfl, rfl⟩
    refine Zg2 qA ?_
    first|refine Zhg (Zb1 rfl) ?_|refine Zhg (Zb0 rfl) ?_
    refine Zhn 163 rfl (rfl) ?_
    refine Zg3 ?_
    refine Ct.o ?_
    refine Zgf rfl ?_
    refine Ct.o ?_
    refine Zgb ?_
    first|refine Zhg (Zaw rfl) ?_|refine Zhg (Zar rfl) ?_
    refine Zh8 rfl (by kernel_rfl) (copyBytes_x (L := [own 5 1 (.slice (some ⟨g, 0, none⟩) 130 sc) 130 (B.map u8b)]) (bs_own .here hBl) (by omega)) rfl qT ?_
    rintro _ _ ⟨ca, cc, rfl, rfl⟩
    refine Zg2 qA ?_
    first|refine Zhg (Zl8 rfl) ?_|refine Zhg (Zce rfl) ?_
    refine Zhw rfl rfl qR qZ (ccl_set hkl (show nK.length = 12 from rfl)) ?_
    refine Zg3 ?_
    refine Ct.o ?_
    rw [hBl]
    refine Zgt (fun F w H => own_some (a := ca) qH (by omega) H) ?_
    rintro ⟨gc, rfl⟩
    have hcl2 := ccl_len (v2 := .slice (some ⟨gm, 0, none⟩) 12 nc) (v3 := .slice (some ⟨gc, 0, none⟩) 130 cc) hkl (show nK.length = 12 from rfl)
    have d3 := ccl_3 (v2 := .slice (some ⟨gm, 0, none⟩) 12 nc) (v3 := .slice (some ⟨gc, 0, none⟩) 130 cc) hkl (show nK.length = 12 from rfl)
    have h129 : 129 < B.length := by omega
    have hto2 := hto (B[129] ^^^ 128#8) (fun _ he => by
      have := congrArg (fun z : Byte => B[129] ^^^ z) he
      simp only [← BitVec.xor_assoc, BitVec.xor_self, BitVec.zero_xor] at this
      exact absurd this (by decide))
    refine Ct.o ?_
    refine Zij (_) [3, 4, 5, 6] (.q 0 (.q 2 (.r 1 (.r 3 (.r 4 (.r 5 (.r 6 (.q 7 (.e 8 false .nil))))))))) (by kernel_rfl) (by kernel_rfl) (Imp.refl _) ?_
    first|refine Zim rfl (Zl8 rfl) ?_|refine Zim rfl (Zce rfl) ?_
    first|refine Zim rfl (Zl8 rfl) ?_|refine Zim rfl (Zce rfl) ?_
    refine Ziv rfl rfl qH (d3) ?_
    refine Ziv rfl rfl qH (d3) ?_
    first|refine Ziz rfl (Zl4 (n := 129) rfl rfl) ?_|refine Ziz rfl (Zl1 (n := 129) rfl rfl) ?_
    refine Zfh rfl rfl (((Rd.own (n := 130) qH).at0 (by omega) (getM h129))) ?_
    refine Ziz rfl (Zje (y := 128#8) rfl rfl) ?_
    first|refine Zim rfl (Zl4 (n := 129) rfl rfl) ?_|refine Zim rfl (Zl1 (n := 129) rfl rfl) ?_
    refine Ziq rfl ?_; refine Zm7 (u := u8b (B[129] ^^^ 128#8)) (i := 129) (xs := B.map u8b) (ys := (B.set 129 (B[129] ^^^ 128#8)).map u8b) rfl rfl rfl qR (by omega) (by rw [List.map_set]) ?_; refine Zg3 ⟨(fun hh => Bool.noConfusion hh), ?_⟩
    refine Zik ?_
    refine Ct.o ?_
    have hTl : (B.set 129 (B[129] ^^^ 128#8)).length = 130 := by rw [List.length_set, hBl]
    generalize B.set 129 (B[129] ^^^ 128#8) = T at hto2 hTl
    have k28 := open_x (L := [own 5 1 (.slice (some ⟨gm, 0, none⟩) 12 nc) 12 (mK.map u8b), own 5 1 (.slice (some ⟨gc, 0, none⟩) 130 cc) 130 (T.map u8b)]) kK nK hkl rfl (bs_own .here hml) (bs_own (.there .here) hTl) (by omega) (by omega)
    rw [hto2] at k28
    dsimp only at k28
    refine Ct.o ?_
    refine Zgb ?_
    first|refine Zhr rfl qH qZ ?_|refine Zhq rfl qH qZ rfl ?_
    first|refine Zhr rfl qH qZ ?_|refine Zhq rfl qH qZ rfl ?_
    first|refine Zhg (Zaw rfl) ?_|refine Zhg (Zar rfl) ?_
    first|refine Zhg (Zl8 rfl) ?_|refine Zhg (Zce rfl) ?_
    refine Zhp rfl qH (d3) ?_
    refine Zh8 rfl (by kernel_rfl) (k28) rfl qT ?_
    rintro _ _ ⟨_, _, rfl, rfl⟩
    refine Zg2 qA ?_
    first|refine Zhg (Zmm rfl) ?_|refine Zhg (Zar rfl) ?_
    refine Zhg (Zco rfl rfl) ?_
    refine Zhg (Zco rfl rfl) ?_
    first|refine Zhg (Za2 rfl) ?_|refine Zhg (Zas rfl) ?_
    first|refine Zhg (Zaz rfl) ?_|refine Zhg (Zas rfl) ?_
    refine Zg3 ?_
    refine Ct.o ?_
    refine Zgb ?_
    first|refine Zhg (Zat rfl) ?_|refine Zhg (Zar rfl) ?_
    first|refine Zhg (Zmj (b := 70) rfl rfl) ?_|refine Zhg (Zbr rfl rfl) ?_
    refine Zhm 185 rfl (rfl) ?_
    first|refine Zhg (Zau rfl) ?_|refine Zhg (Zar rfl) ?_
    first|refine Zhi rfl ?_|refine Zhj rfl ?_|(refine Zhh rfl ?_; (first|refine Zhr rfl qH qZ ?_|refine Zhq rfl qH qZ rfl ?_))
    first|refine Zhi rfl ?_|refine Zhj rfl ?_|(refine Zhh rfl ?_; (refine Zh8 rfl (by kernel_rfl) (opens_g (L := [own 5 1 (.slice (some ⟨gm, 0, none⟩) 12 nc) 12 (mK.map u8b), own 5 1 (.slice (some ⟨gc, 0, none⟩) 130 cc) 130 (T.map u8b)]) kK nK hkl rfl (bs_own .here hml) (bs_own (.there .here) hTl) (by omega) (by omega)) rfl qT ?_); (rintro _ _ ⟨rfl, rfl⟩); (refine Zg2 qA ?_))
    refine Zhm 188 rfl (rfl) ?_
    first|refine Zhg (Zdz rfl rfl) ?_|refine Zhg (Zd0 rfl rfl) ?_|refine Zhg (Za8 rfl rfl) ?_|refine Zhg (Za9 rfl rfl) ?_|refine Zhg (Za6 rfl rfl) ?_|refine Zhg (Za7 rfl rfl) ?_
    first|refine Zhg (Zau rfl) ?_|refine Zhg (Zar rfl) ?_
    first|refine Zhi rfl ?_|refine Zhj rfl ?_|(refine Zhh rfl ?_; (refine Zh8 rfl (by kernel_rfl) (nonces_g (L := []) 1#32 258#64) rfl qT ?_); (rintro _ _ ⟨rfl, rfl⟩); (refine Zg2 qA ?_))
    refine Zhm 191 rfl (rfl) ?_
    first|refine Zhg (Zdz rfl rfl) ?_|refine Zhg (Zd0 rfl rfl) ?_|refine Zhg (Za8 rfl rfl) ?_|refine Zhg (Za9 rfl rfl) ?_|refine Zhg (Za6 rfl rfl) ?_|refine Zhg (Za7 rfl rfl) ?_
    first|refine Zhg (Zau rfl) ?_|refine Zhg (Zar rfl) ?_
    first|refine Zhi rfl ?_|refine Zhj rfl ?_|(refine Zhh rfl ?_; (refine Zh8 rfl (by kernel_rfl) (nonces_g (L := []) 4294967295#32 18446744073709551615#64) rfl qT ?_); (rintro _ _ ⟨rfl, rfl⟩); (refine Zg2 qA ?_))
    first|refine Zhg (Zdz rfl rfl) ?_|refine Zhg (Zd0 rfl rfl) ?_|refine Zhg (Za8 rfl rfl) ?_|refine Zhg (Za9 rfl rfl) ?_|refine Zhg (Za6 rfl rfl) ?_|refine Zhg (Za7 rfl rfl) ?_
    first|refine Zhg (Za0 rfl) ?_|refine Zhg (Zas rfl) ?_
    refine Zg3 ?_
    refine Ct.o ?_
    refine rx1 (Zha rfl (Zg7)) ?_
    exact ⟨_, ⟨rfl, rfl⟩, qI⟩
theorem known_w (W : World) : Con Try.prog 9 [] [old W] (fun r M => r = .bool true ∧ [old W] = M) := by
  refine (known_x.frame (L := [old W])).mono ?_
  rintro v N ⟨M', ⟨rfl, rfl⟩, rfl⟩
  exact ⟨_, Imp.refl _, rfl, rfl⟩
end Go.Sl
