/- Parts of the proof, joined: HcA, HcB, HcC, HcD, HcE, HcF, HcG, HcK, HbMa, HtS, RefA, EngI, RefQ, RhA, RhB, RhC, RhD, RhE, RhF, RhG, RpA, SrtA, SrtL, EngAe, SrtB, EngAd, PgrA. -/
import Derived.Test.YthodgeekgpkieaaGreatLawPagerKnownM0
import Derived.Test.YthodgeekgpkieaaGreatLawPagerKnownM1
import Derived.RangeFuncBox
import Derived.RangeFuncLeaves
import Derived.Shelf.Abstract
import Derived.WalkKit
import Derived.OwnWalkIn
import Derived.TacticsInMore
import Derived.LoopNIn
import Derived.LoopIn
import Derived.Maps.AppendAt
import Derived.Shelf.SlIterI.Sorted
import Derived.Shelf.SortM.Plain
import Derived.Shelf.SortM.SortNone
import Derived.Ground.SlgmProg
import Derived.Test.YthodgeekgpkieaaGreatChecked
import Derived.Below
/- host: its pieces, and what is known of them. -/
set_option maxHeartbeats 4000000
set_option maxRecDepth 10000
set_option linter.unusedVariables false
set_option linter.unusedSimpArgs false
namespace Go.Sl
open Go Go.Proofs
attribute [local irreducible] pt pur ex all den denOps denS xOps xC cX CX xthen xblk xcut xloop xng retX resX Calls PV Rd Con
abbrev hp (p : Nat) : Value := .pointer (some ⟨p, 0, none⟩)
abbrev ownB (a : Option Addr) (c : Nat) (b : List Byte) : Asrt := own 5 1 (.slice a b.length c) b.length (b.map u8b)
def bytesA (v : Value) (b : HostS.Bytes) : Asrt := own 5 1 v b.length (b.map u8b)
def fcells (f : HostS.Fault) : List Value := [.int .i64 f.at_, .int .i64 f.kind, .int .i64 f.page, .int .i64 f.byte, u8b f.by_, .int .i64 f.back]
def faultsA (v : Value) (l : List HostS.Fault) : Asrt := own 70 6 v l.length (l.flatMap fcells)
def tcells (t : HostS.Touch) : List Value := [.int .i64 t.op, .int .i64 t.page, .int .i64 t.len] ++ t.head.map u8b
abbrev ownLog (a : Option Addr) (c : Nat) (l : List HostS.Touch) : Asrt := own 65 15 (.slice a l.length c) l.length (l.flatMap tcells)
abbrev RV := Value × HostS.Bytes
abbrev rowE (e : RV) : Asrt := bytesA e.1 e.2
def rowsA (v : Value) (l : List HostS.Bytes) : Asrt := ex fun vs : List RV => all [pur (vs.map (·.2) = l), own 33 1 v vs.length (vs.map (·.1)), star rowE vs]
def powerOf (s : HostS.HS) : Int := if s.down then 1 else 0
abbrev HC := Nat × Nat × Option Addr × Nat
abbrev hcl (s : HostS.HS) (c : HC) : Array Value := #[.int .i64 s.pages, nvv s.size, .map (some c.1), u64b s.reg, .map (some c.2.1), nvv s.ops, .slice c.2.2.1 s.log.length c.2.2.2, .int .i64 (powerOf s)]
abbrev hostP (p : Nat) (s : HostS.HS) (c : HC) : List Asrt := [cl p (hcl s c) 117, omap c.1 rowsA [] s.lay, omap c.2.1 faultsA [] s.coming, ownLog c.2.2.1 c.2.2.2 s.log]
def hostQ (p : Nat) (s : HostS.HS) (c : HC) : Asrt := all (pur (HostS.Ok s) :: hostP p s c)
/-- A host. -/
def hostA (p : Nat) (s : HostS.HS) : Asrt := ex (hostQ p s)
section
variable {p : Nat} {s : HostS.HS} {L : List Asrt}
theorem hostA_mk {c : HC} (h : HostS.Ok s) : Imp (hostP p s c ++ L) (hostA p s :: L) :=
  ((Imp.purI h).trans (Imp.app (L := pur (HostS.Ok s) :: hostP p s c))).trans (Imp.head fun f h => by unfold hostA Sl.ex; exact Exists.intro (p := fun x => (hostQ p s x).on f) c h)
theorem Con.hostA {F : FuncId} {args : List Value} {Φ : Value → List Asrt → Prop} (h : ∀ c : HC, HostS.Ok s → Con Tryz.prog F args (hostP p s c ++ L) Φ) : Con Tryz.prog F args (Sl.hostA p s :: L) Φ :=
  Con.ex fun c => Con.pre (Con.pur fun hk => h c hk) (Imp.unapp (L := Sl.pur (HostS.Ok s) :: hostP p s c))
theorem x_hostA {w0 : World} {c : Code} {ρ : Env} {Q : XQ} (h : ∀ t : HC, HostS.Ok s → xC Tryz.prog w0 c ρ (hostP p s t ++ L) Q) : xC Tryz.prog w0 c ρ (hostA p s :: L) Q := by
  unfold hostA
  exact Zgr fun t => Zgs (L := pur (HostS.Ok s) :: hostP p s t) (Zgq fun hk => h t hk)
theorem host_ok {M M' : List Asrt} {F : Asrt} {w0 w : World} (hm : Has M (hostA p s) M') (H : St w0 w (F :: M)) : HostS.Ok s := by
  have H := H.pick (.there hm)
  unfold hostA at H
  obtain ⟨t, H⟩ := H.ex_get
  exact St.pur_get (St.all_get H)
end
end Go.Sl
namespace Go.Sl
open Go Go.Proofs
theorem faults_nil : (faultsA (.slice none 0 0) []).on (fun _ => none) := by
  unfold faultsA own
  exact ⟨rfl, .inl ⟨rfl, rfl⟩⟩
theorem rows_nil : (rowsA (.slice none 0 0) []).on (fun _ => none) := by
  refine ⟨([] : List RV), ?_⟩
  refine ⟨fun _ => none, fun _ => none, rfl, ?_, Frag.none_disj _, Frag.none_sub _, Frag.none_sub _⟩
  refine ⟨fun _ => none, fun _ => none, ?_, ?_, Frag.none_disj _, Frag.none_sub _, Frag.none_sub _⟩
  · unfold own
    exact ⟨rfl, .inl ⟨rfl, rfl⟩⟩
  · exact ⟨fun _ => none, fun _ => none, trivial, trivial, Frag.none_disj _, Frag.none_sub _, Frag.none_sub _⟩
theorem rows_mk {v : Value} {vs : List RV} {l : List HostS.Bytes} {L : List Asrt} (h : vs.map (·.2) = l) : Imp (own 33 1 v vs.length (vs.map (·.1)) :: star rowE vs :: L) (rowsA v l :: L) := by
  have h1 : Imp ([pur (vs.map (·.2) = l), own 33 1 v vs.length (vs.map (·.1)), star rowE vs] ++ L) (all [pur (vs.map (·.2) = l), own 33 1 v vs.length (vs.map (·.1)), star rowE vs] :: L) := Imp.app
  have h2 : Imp (all [pur (vs.map (·.2) = l), own 33 1 v vs.length (vs.map (·.1)), star rowE vs] :: L) (rowsA v l :: L) := Imp.head fun f hf => ⟨vs, hf⟩
  exact ((Imp.purI h).trans h1).trans h2
theorem x_rows {v : Value} {l : List HostS.Bytes} {L : List Asrt} {w0 : World} {c : Code} {ρ : Env} {Q : XQ} (h : ∀ vs : List RV, vs.map (·.2) = l → xC Tryz.prog w0 c ρ (own 33 1 v vs.length (vs.map (·.1)) :: star rowE vs :: L) Q) : xC Tryz.prog w0 c ρ (rowsA v l :: L) Q :=
  Zgr fun vs => Zgs (L := [pur (vs.map (·.2) = l), own 33 1 v vs.length (vs.map (·.1)), star rowE vs]) (Zgq fun hk => h vs hk)
theorem row_shape {vs : List RV} {i : Nat} (hi : i < vs.length) {M M' : List Asrt} {F : Asrt} {w0 w : World} (hm : Has M (star rowE vs) M') (H : St w0 w (F :: M)) : ∃ a c, vs[i].1 = .slice a vs[i].2.length c := by
  obtain ⟨R, hR⟩ := star_has (A := rowE) (List.getElem_mem hi) hm
  have H2 : St w0 w (F :: rowE vs[i] :: R) := H.enx hR
  obtain ⟨a, c, h, _⟩ := own_shape (H2.pick (.there .here))
  exact ⟨a, c, h⟩
theorem fcells_len (f : HostS.Fault) : (fcells f).length = 6 := rfl
theorem back_len {s : HostS.HS} (hs : HostS.Ok s) (page writes : Int) : (HostS.back s page writes).length = s.size := by
  simp only [HostS.back]
  split
  · rename_i h
    have h2 : (((s.lay page).length : Int) - 1 - max writes 0).toNat < (s.lay page).length := by omega
    have : (s.lay page).getD (((s.lay page).length : Int) - 1 - max writes 0).toNat [] = (s.lay page)[(((s.lay page).length : Int) - 1 - max writes 0).toNat]'h2 := by simp [h2]
    rw [this]; exact hs.row page _ (List.getElem_mem _)
  · simp
theorem spoil1_len {s : HostS.HS} (hs : HostS.Ok s) (page : Int) (b : HostS.Bytes) (f : HostS.Fault) (hb : b.length = s.size) : (HostS.spoil1 s page b f).length = s.size := by
  unfold HostS.spoil1
  split
  · split <;> simp [hb]
  · split
    · exact back_len hs _ _
    · split
      · split
        · exact back_len hs _ _
        · exact hb
      · exact hb
theorem spoil_len {s : HostS.HS} (hs : HostS.Ok s) (page : Int) (l : List HostS.Fault) : ∀ (b : HostS.Bytes), b.length = s.size → (l.foldl (HostS.spoil1 s page) b).length = s.size := by
  induction l with
  | nil => exact fun b h => h
  | cons f r ih => exact fun b h => ih _ (spoil1_len hs page b f h)
theorem take_fold {s : HostS.HS} (page : Int) (b : HostS.Bytes) (l : List HostS.Fault) (i : Nat) (hi : i < l.length) : (l.take (i + 1)).foldl (HostS.spoil1 s page) b = HostS.spoil1 s page ((l.take i).foldl (HostS.spoil1 s page) b) l[i] := by
  rw [List.take_succ_eq_append_getElem hi, List.foldl_append]; rfl

theorem tcells_len (t : HostS.Touch) (h : t.head.length = 12) : (tcells t).length = 15 := by simp [tcells, h]
theorem headOf_len (b : HostS.Bytes) : (HostS.headOf b).length = 12 := by simp [HostS.headOf]; omega
theorem touchOf_len (s : HostS.HS) (op page : Int) (b : HostS.Bytes) : (HostS.touchOf s op page b).head.length = 12 := by
  unfold HostS.touchOf
  split
  · exact headOf_len b
  · split <;> simp
theorem tcells_one (t : HostS.Touch) : (tcells t).all oneC = true := by simp [tcells, oneC, u8b]
theorem before_take (l : List HostS.Fault) (i : Nat) (hi : i < l.length) : HostS.before (l.take (i + 1)) = (HostS.before (l.take i) || l[i].kind == 3) := by
  rw [List.take_succ_eq_append_getElem hi]; simp only [HostS.before, List.any_append, List.any_cons, List.any_nil, Bool.or_false]
theorem behind_take (l : List HostS.Fault) (i : Nat) (hi : i < l.length) : HostS.behind (l.take (i + 1)) = (HostS.behind (l.take i) || l[i].kind == 4) := by
  rw [List.take_succ_eq_append_getElem hi]; simp only [HostS.behind, List.any_append, List.any_cons, List.any_nil, Bool.or_false]
theorem ok_taken {s : HostS.HS} (hs : HostS.Ok s) : HostS.Ok (HostS.taken s) :=
  ⟨hs.p0, hs.p1, hs.z0, hs.z1, hs.row, fun p => Nat.le_succ_of_le (hs.many p), Nat.le_succ_of_le hs.log,
    fun k f hf => by
      simp only [HostS.taken, HostS.setF] at hf
      split at hf
      · cases hf
      · exact hs.flt k f hf,
    fun k => by
      simp only [HostS.taken, HostS.setF]
      split
      · simp
      · exact hs.fln k⟩
theorem ok_down {s : HostS.HS} (b : Bool) (hs : HostS.Ok s) : HostS.Ok { s with down := b } := ⟨hs.p0, hs.p1, hs.z0, hs.z1, hs.row, hs.many, hs.log, hs.flt, hs.fln⟩

/-- What an act does. -/
theorem ok_wrote {s : HostS.HS} (page op : Int) (b : HostS.Bytes) (hb : b.length = s.size) (h0 : HostS.Ok s) (h : HostS.Ok (HostS.logged s op page b)) : HostS.Ok (HostS.wrote page b (HostS.logged s op page b)) := by
  refine ⟨h.p0, h.p1, h.z0, h.z1, ?_, ?_, h.log, h.flt, h.fln⟩
  · intro q r hr
    by_cases e : q = page
    · simp only [HostS.wrote, HostS.setF, e, if_true, List.mem_append, List.mem_singleton] at hr
      rcases hr with hr|rfl
      · exact h.row _ _ hr
      · exact hb
    · simp only [HostS.wrote, HostS.setF, e, if_false] at hr
      exact h.row _ _ hr
  · intro q
    have := h0.many q
    have e2 : (HostS.wrote page b (HostS.logged s op page b)).ops = s.ops + 1 := rfl
    rw [e2]
    by_cases e : q = page
    · subst e
      have e3 : (HostS.wrote q b (HostS.logged s op q b)).lay q = s.lay q ++ [b] := by simp [HostS.wrote, HostS.setF, HostS.logged, HostS.taken]
      rw [e3]; simp; exact this
    · have e3 : (HostS.wrote page b (HostS.logged s op page b)).lay q = s.lay q := by simp [HostS.wrote, HostS.setF, e, HostS.logged, HostS.taken]
      rw [e3]; omega
theorem does_zero {s : HostS.HS} {op page : Int} {b : HostS.Bytes} {act : HostS.HS → HostS.HS} (h : HostS.done s = false) : (HostS.does s op page b act).2 = 110 := by
  simp only [HostS.done] at h
  simp only [HostS.does]
  cases hd : s.down <;> simp [hd] at h ⊢
  simp [h]
theorem log_one (l : List HostS.Touch) (h : l.length ≤ 3518437208880) : (l.flatMap tcells).all oneC = true := by
  rw [List.all_eq_true]
  intro v hv
  obtain ⟨t, _, hv⟩ := List.mem_flatMap.1 hv
  simp only [tcells, List.mem_append, List.mem_map] at hv
  rcases hv with hv|⟨n, _, rfl⟩
  · simp at hv; rcases hv with rfl|rfl|rfl <;> rfl
  · rfl
theorem comes_take (fl : List HostS.Fault) (i : Nat) (hi : i < fl.length) : upd (HostS.comes (fl.take i)) fl[i].at_ (HostS.comes (fl.take i) fl[i].at_ ++ [fl[i]]) = HostS.comes (fl.take (i + 1)) := by
  funext k
  have h2 : fl.take (i + 1) = fl.take i ++ [fl[i]] := by rw [List.take_succ_eq_append_getElem hi]
  unfold upd HostS.comes
  rw [h2, List.filter_append]
  by_cases e : k = fl[i].at_
  · subst e
    simp
  · have e2 : (fl[i].at_ == k) = false := by simp; omega
    simp [e, e2]
theorem kindly_take (fl : List HostS.Fault) (i : Nat) (hi : i < fl.length) : (fl.take (i + 1)).all HostS.kindly = ((fl.take i).all HostS.kindly && HostS.kindly fl[i]) := by
  rw [List.take_succ_eq_append_getElem hi, List.all_append]; simp
theorem kindly_no {fl : List HostS.Fault} (i : Nat) (hi : i < fl.length) (h : HostS.kindly fl[i] = false) : fl.all HostS.kindly = false := by
  rw [Bool.eq_false_iff, Ne, List.all_eq_true]
  intro hh
  have := hh _ (List.getElem_mem hi)
  rw [h] at this; cases this
theorem ok_fresh (pages : Int) (size : Nat) (fl : List HostS.Fault) (hp : 0 ≤ pages ∧ pages ≤ 65536 ∧ 1 ≤ (size : Int) ∧ (size : Int) ≤ 4124) (hfo : ∀ f ∈ fl, HostS.FOk f) (hfl : fl.length ≤ 2932031007401) : HostS.Ok (HostS.fresh pages size fl) := by
  refine ⟨hp.1, hp.2.1, by simp [HostS.fresh]; omega, by simp [HostS.fresh]; omega, fun p r hr => by simp [HostS.fresh] at hr, fun p => by simp [HostS.fresh], by simp [HostS.fresh], ?_, ?_⟩
  · intro k f hf
    exact hfo f (List.mem_filter.1 hf).1
  · intro k
    exact Nat.le_trans (List.length_filter_le _ _) hfl
end Go.Sl

/- host: the small methods, back, touch, walked. -/
set_option maxHeartbeats 4000000
set_option maxRecDepth 10000
set_option linter.unusedVariables false
set_option linter.unusedSimpArgs false
namespace Go.Sl
open Go Go.Proofs
attribute [local irreducible] pt pur ex all den denOps denS xOps xC cX CX xthen xblk xcut xloop xng retX resX Calls PV Rd Con
attribute [local irreducible] hostA omap ohole oheld rowsA
theorem cpy_full {l : List Byte} {z : Nat} (h : l.length = z) : wr (((List.replicate z 0#8).map u8b).toArray) 0 ((l.map u8b).take (min l.length z * 1)) = (l.map u8b).toArray := by
  subst h
  have := copy_pre l 0
  simpa using this
theorem row_rd {vs : List RV} {i : Nat} (hi : i < vs.length) {M M' : List Asrt} (hm : Has M (star rowE vs) M') : Rd M 1 vs[i].1 vs[i].2.length (vs[i].2.map u8b) := by
  obtain ⟨R, hR⟩ := star_has (A := rowE) (List.getElem_mem hi) hm
  exact (Rd.own (E := 5) .here).imp hR
section
variable {p : Nat} {s : HostS.HS} {L : List Asrt}
/-- The pieces of a host, closed. -/
theorem host_close {bl bc lc : Nat} {la : Option Addr} {v : Value} {vs : List RV} {page : Int} (hs : HostS.Ok s) (h : vs.map (·.2) = s.lay page) : Imp (own 33 1 v vs.length (vs.map (·.1)) :: star rowE vs :: ohole bl rowsA [] s.lay page v :: cl p (hcl s (bl, bc, la, lc)) 117 :: omap bc faultsA [] s.coming :: ownLog la lc s.log :: L) (hostA p s :: L) :=
  ((rows_mk h).trans Imp.omap_close).trans ((Imp.arr (N := hostP p s (bl, bc, la, lc) ++ L) qV).trans (hostA_mk hs))
theorem pages_x : Con Tryz.prog 209 [hp p] [hostA p s] (fun v M => v = .int .i64 s.pages ∧ M = [hostA p s]) := by
  refine Con.hostA fun c hs => ?_
  simp only [List.cons_append, List.nil_append]
  refine fn_x Tryz.func209 rfl rfl rfl Tryz.mixed (by kernel_rfl) ?_
  intro w0
  refine Y6 ?_
  refine Zhn 4 rfl (rfl) ?_
  refine V9 ?_
  refine rx1 (Zg9 rfl (Zg7)) ?_
  exact ⟨_, ⟨rfl, rfl⟩, (Imp.arr (N := hostP p s c ++ []) qV).trans (hostA_mk hs)⟩
theorem size_x : Con Tryz.prog 212 [hp p] [hostA p s] (fun v M => v = nvv s.size ∧ M = [hostA p s]) := by
  refine Con.hostA fun c hs => ?_
  simp only [List.cons_append, List.nil_append]
  refine fn_x Tryz.func212 rfl rfl rfl Tryz.mixed (by kernel_rfl) ?_
  intro w0
  refine Y6 ?_
  refine Zhn 4 rfl (rfl) ?_
  refine V9 ?_
  refine rx1 (Zg9 rfl (Zg7)) ?_
  exact ⟨_, ⟨rfl, rfl⟩, (Imp.arr (N := hostP p s c ++ []) qV).trans (hostA_mk hs)⟩
theorem there_x (page : Int) : Con Tryz.prog 74 [hp p, .int .i64 page] [hostA p s] (fun v M => v = .bool (decide (HostS.there s page)) ∧ M = [hostA p s]) := by
  refine Con.hostA fun c hs => ?_
  simp only [List.cons_append, List.nil_append]
  by_cases h0 : 0 ≤ page
  · by_cases h1 : page < s.pages
    · rw [decide_eq_true (show HostS.there s page from ⟨h0, h1⟩)]
      refine fn_x Tryz.func74 rfl rfl rfl Tryz.mixed (by kernel_rfl) ?_
      intro w0
      refine Y5 ?_
      refine Zhg (Zbq (b := 0) rfl rfl) ?_
      refine Zhm 6 rfl (decide_eq_true (h0)) ?_
      refine Y6 ?_
      first|refine Y0 ?_|(refine Zhh rfl ?_; (refine Zhg (Zbn (b := s.pages) rfl rfl) ?_))
      refine Zhm 13 rfl (decide_eq_true (h1)) ?_
      refine V3 ?_
      refine rx1 (Zha rfl (Zg7)) ?_
      exact ⟨_, ⟨rfl, rfl⟩, (Imp.arr (N := hostP p s c ++ []) qV).trans (hostA_mk hs)⟩
    · rw [decide_eq_false (show ¬ HostS.there s page from fun h => h1 h.2)]
      refine fn_x Tryz.func74 rfl rfl rfl Tryz.mixed (by kernel_rfl) ?_
      intro w0
      refine Y5 ?_
      refine Zhg (Zbq (b := 0) rfl rfl) ?_
      refine Zhm 6 rfl (decide_eq_true (h0)) ?_
      refine Y6 ?_
      first|refine Y0 ?_|(refine Zhh rfl ?_; (refine Zhg (Zbn (b := s.pages) rfl rfl) ?_))
      refine Zhn 13 rfl (decide_eq_false (h1)) ?_
      refine V3 ?_
      refine rx1 (Zha rfl (Zg7)) ?_
      exact ⟨_, ⟨rfl, rfl⟩, (Imp.arr (N := hostP p s c ++ []) qV).trans (hostA_mk hs)⟩
  · rw [decide_eq_false (show ¬ HostS.there s page from fun h => h0 h.1)]
    refine fn_x Tryz.func74 rfl rfl rfl Tryz.mixed (by kernel_rfl) ?_
    intro w0
    refine Y5 ?_
    refine Zhg (Zbq (b := 0) rfl rfl) ?_
    refine Zhn 6 rfl (decide_eq_false (h0)) ?_
    refine V10 ?_
    refine rx1 (Zha rfl (Zg7)) ?_
    exact ⟨_, ⟨rfl, rfl⟩, (Imp.arr (N := hostP p s c ++ []) qV).trans (hostA_mk hs)⟩
theorem back_x (page writes : Int) (hw : -9223372036854775808 ≤ writes ∧ writes ≤ 9223372036854775807) (hops : s.ops ≤ 3518437208880) :
    Con Tryz.prog 75 [hp p, .int .i64 page, .int .i64 writes] [hostA p s] (fun r M => ∃ a c, r = .slice a (HostS.back s page writes).length c ∧ M = [ownB a c (HostS.back s page writes), hostA p s]) := by
  refine Con.hostA fun c hs => ?_
  obtain ⟨bl, bc, la, lc⟩ := c
  simp only [List.cons_append, List.nil_append, List.append_nil]
  have hz1 := hs.z1
  have hmany := hs.many page
  have hbl := back_len hs page writes
  refine fn_x Tryz.func75 rfl rfl rfl Tryz.mixed (by kernel_rfl) ?_
  intro w0
  refine Y8 ?_
  refine Zm3 (f := u8b) (a := 0#8) rfl rfl rfl qS qS qS ?_; intro b14
  refine V2 ?_
  refine Zgp (Imp.arr (N := omap bl rowsA [] s.lay :: cl p (hcl s (bl, bc, la, lc)) 117 :: omap bc faultsA [] s.coming :: ownLog la lc s.log :: [cl b14 ((List.replicate s.size 0#8).map u8b).toArray 5]) qV) ?_
  refine Zom rows_nil page ?_
  intro v
  refine x_rows fun vs hvs => ?_
  have hvl : vs.length = (s.lay page).length := by rw [← hvs, List.length_map]
  refine Zgt (fun F w H => own_shape (H.pick (.there .here))) ?_
  rintro ⟨ra, rc, rfl, hrc, hrcm⟩
  refine Y6 ?_
  refine Zig rfl rfl qH ?_
  refine Y5 ?_
  refine Zhg (Zbh (a := (vs.length : Int)) (b := 1) rfl rfl (by omega)) ?_
  refine Y1 ?_
  refine Zhg (Zcv (a := writes) (b := 0) rfl rfl) ?_
  refine Zhg (Zbh (a := (vs.length : Int) - 1) (b := max writes 0) rfl rfl (by omega)) ?_
  refine V2 ?_
  by_cases h0 : (vs.length : Int) - 1 - max writes 0 ≥ 0
  · obtain ⟨n, hn⟩ : ∃ n : Nat, (vs.length : Int) - 1 - max writes 0 = n := ⟨((vs.length : Int) - 1 - max writes 0).toNat, by omega⟩
    have hnl : n < vs.length := by omega
    have e : HostS.back s page writes = vs[n].2 := by
      unfold HostS.back
      dsimp only
      rw [← hvl, if_pos (by omega), hn, ← hvs]
      simp [hnl]
    rw [e] at hbl ⊢
    refine Zgt (fun F w H => own_someN (a := ra) (n := vs.length) qH (by omega) H) ?_
    rintro ⟨g, rfl⟩
    refine Zgt (fun F w H => row_shape hnl qH H) ?_
    rintro ⟨xa, xc, hsh⟩
    have hrr : ∀ {M M' : List Asrt}, Has M (star rowE vs) M' → Rd M 1 (.slice xa vs[n].2.length xc) vs[n].2.length (vs[n].2.map u8b) := fun hm => by rw [← hsh]; exact row_rd hnl hm
    refine Y2 ?_
    refine Zhg (Zbq (b := 0) rfl rfl) ?_
    refine Zhm 28 rfl (decide_eq_true (h0)) ?_
    refine Y6 ?_
    refine Zhg (Zl4 (n := n) rfl (int_eq hn) hnl) ?_
    refine Zff rfl (((Rd.own (n := vs.length) qH).at0 hnl (by rw [List.getElem?_map, List.getElem?_eq_getElem hnl]; exact congrArg some hsh))) ?_
    refine Zib rfl rfl (hrr qH) qR qZ (by first|rfl|exact oneM_u8 _|exact oneL_u8 _|assumption|(simp [oneC]; done)) (cpy_full hbl) ?_
    refine V5 ?_
    refine rx1 (Zhc rfl (Zg7)) ?_
    refine ⟨_, ⟨some ⟨b14, 0, none⟩, s.size, by rw [hbl], rfl⟩, ?_⟩
    exact (Imp.arr (N := cl b14 (vs[n].2.map u8b).toArray 5 :: own 33 1 (.slice (some ⟨g, 0, none⟩) vs.length rc) vs.length (vs.map (·.1)) :: star rowE vs :: ohole bl rowsA [] s.lay page (.slice (some ⟨g, 0, none⟩) vs.length rc) :: cl p (hcl s (bl, bc, la, lc)) 117 :: omap bc faultsA [] s.coming :: ownLog la lc s.log :: []) qV).trans ((Imp.own_mk (E := 5) (size := 1) (n := vs[n].2.length) (cap := s.size) (xs := vs[n].2.map u8b) (by omega) (by omega) (by simp [hbl]) (by rw [Nat.mul_one, List.take_of_length_le (by simp)])).trans (Imp.cons (host_close hs hvs)))
  · have e : HostS.back s page writes = List.replicate s.size 0#8 := by
      unfold HostS.back
      dsimp only
      rw [← hvl, if_neg (by omega)]
    rw [e]
    refine Y2 ?_
    refine Zhg (Zbq (b := 0) rfl rfl) ?_
    refine Zhn 28 rfl (decide_eq_false (h0)) ?_
    refine V6 ?_
    refine rx1 (Zhc rfl (Zg7)) ?_
    refine ⟨_, ⟨some ⟨b14, 0, none⟩, s.size, by rw [List.length_replicate], rfl⟩, ?_⟩
    exact (Imp.arr (N := cl b14 ((List.replicate s.size 0#8).map u8b).toArray 5 :: own 33 1 (.slice ra vs.length rc) vs.length (vs.map (·.1)) :: star rowE vs :: ohole bl rowsA [] s.lay page (.slice ra vs.length rc) :: cl p (hcl s (bl, bc, la, lc)) 117 :: omap bc faultsA [] s.coming :: ownLog la lc s.log :: []) qV).trans ((Imp.own_mk (E := 5) (size := 1) (n := (List.replicate s.size 0#8).length) (cap := s.size) (xs := (List.replicate s.size 0#8).map u8b) (by simp) (by omega) (by simp) (by simp)).trans (Imp.cons (host_close hs hvs)))
theorem touch_fill (op page len : Int) (b : List Byte) : wr (tcells ⟨op, page, len, List.replicate 12 0#8⟩).toArray 3 ((b.map u8b).take (min b.length 12 * 1)) = (tcells ⟨op, page, len, HostS.headOf b⟩).toArray := by
  apply Array.ext'
  rw [wr_toList _ _ _ (by simp [tcells]; omega)]
  have hd : ∀ (A : List Value) (q : Value) (n : Nat), A.length = 3 → List.drop (3 + n) (A ++ List.replicate 12 q) = List.replicate (12 - n) q := by
    intro A q n hA
    rw [List.drop_append, List.drop_of_length_le (by omega), List.nil_append, hA, List.drop_replicate, Nat.add_sub_cancel_left]
  have ht : ∀ (A B : List Value), A.length = 3 → List.take 3 (A ++ B) = A := fun A B hA => List.take_left' hA
  unfold tcells HostS.headOf
  dsimp only
  rw [List.map_replicate, ht _ _ rfl, hd _ _ _ rfl, List.map_append, List.map_replicate, List.map_take]
  have e1 : (List.map u8b b).take (min b.length 12 * 1) = (List.map u8b b).take 12 := by
    rw [Nat.mul_one]
    by_cases h : b.length ≤ 12
    · rw [Nat.min_eq_left h, List.take_of_length_le (by simp), List.take_of_length_le (by simpa using h)]
    · rw [Nat.min_eq_right (by omega)]
  have e2 : 12 - ((List.map u8b b).take 12).length = 12 - b.length := by simp; omega
  rw [e1, e2, List.append_assoc]
theorem touch_x {bv : Value} {b : List Byte} {c : HC} (op page : Int) (hb : Bs L bv b) (hbl : b.length ≤ 9223372036854775807) :
    Con Tryz.prog 218 [hp p, .int .i64 op, .int .i64 page, bv] (cl p (hcl s c) 117 :: L) (fun r M => r = .agg (tcells (HostS.touchOf s op page b)).toArray ∧ M = cl p (hcl s c) 117 :: L) := by
  refine Con.get (fun w0 w F H => hb.sh _ _ _ (H.enx Imp.tail)) ?_
  rintro ⟨ba, bc, rfl, hbc, hbcm⟩
  have hz : (tcells ⟨op, 0, 8, List.replicate 12 0#8⟩).toArray = #[.int .i64 op, .int .i64 0, .int .i64 8, u8b 0#8, u8b 0#8, u8b 0#8, u8b 0#8, u8b 0#8, u8b 0#8, u8b 0#8, u8b 0#8, u8b 0#8, u8b 0#8, u8b 0#8, u8b 0#8] := rfl
  by_cases h1 : op = 1
  · subst h1
    have e : HostS.touchOf s 1 page b = ⟨1, page, s.size, HostS.headOf b⟩ := rfl
    rw [e]
    have hsz : (tcells ⟨1, 0, 8, HostS.headOf b⟩).toArray.size = 15 := by simp [tcells, HostS.headOf]; omega
    refine fn_x Tryz.func218 rfl rfl rfl Tryz.mixed (by kernel_rfl) ?_
    intro w0
    refine Y1 ?_
    refine Zhz (cs := #[.int .i64 0, .int .i64 0, .int .i64 0, u8b 0#8, u8b 0#8, u8b 0#8, u8b 0#8, u8b 0#8, u8b 0#8, u8b 0#8, u8b 0#8, u8b 0#8, u8b 0#8, u8b 0#8, u8b 0#8]) rfl ?_; intro b8
    refine Y3 ?_
    refine Zhg (Zdm (cs := (tcells ⟨1, 0, 8, List.replicate 12 0#8⟩).toArray) (by kernel_rfl)) ?_
    refine Zhz (cs := #[.int .i64 0, .int .i64 0, .int .i64 0, u8b 0#8, u8b 0#8, u8b 0#8, u8b 0#8, u8b 0#8, u8b 0#8, u8b 0#8, u8b 0#8, u8b 0#8, u8b 0#8, u8b 0#8, u8b 0#8]) rfl ?_; intro b9
    first|refine Zhy rfl rfl qR qZ (by first|rfl|exact oneM_u8 _|exact oneL_u8 _|assumption|(simp [oneC]; done)) qZ ?_|refine Zhx rfl rfl qR qZ (by first|rfl|exact oneM_u8 _|exact oneL_u8 _|assumption|(simp [oneC]; done)) qZ rfl ?_
    refine Y5 ?_
    refine Zhg (Zbr (b := 1) rfl rfl) ?_
    refine Zhm 14 rfl (decide_eq_true (rfl)) ?_
    refine Y5 ?_
    refine Zhg (Zmx (l := 0) (h := 12) rfl qB qB (by omega) (by omega) (by omega)) ?_
    refine Y1 ?_
    refine Zib rfl rfl ((hb.rd.imp qI)) qR qZ (by first|rfl|exact oneM_u8 _|exact oneL_u8 _|assumption|(simp [oneC]; done)) (touch_fill 1 0 8 b) ?_
    refine Y8 ?_
    refine Zht rfl rfl qR qZ ((by rfl)) ?_
    refine Y1 ?_
    refine Zht rfl rfl qR qZ ((by rfl)) ?_
    refine Y3 ?_
    first|refine Zhy rfl rfl qR qZ (by first|rfl|exact oneM_u8 _|exact oneL_u8 _|assumption|(simp [oneC]; done)) qZ ?_|refine Zhx rfl rfl qR qZ (by first|rfl|exact oneM_u8 _|exact oneL_u8 _|assumption|(simp [oneC]; done)) qZ rfl ?_
    refine V1 ?_
    refine rx1 (Zhe rfl qH qZ (Zg7)) ?_
    exact ⟨_, ⟨rfl, rfl⟩, qI⟩
  · by_cases h0 : op = 0
    · subst h0
      have e : HostS.touchOf s 0 page b = ⟨0, page, s.size, List.replicate 12 0#8⟩ := rfl
      rw [e]
      refine fn_x Tryz.func218 rfl rfl rfl Tryz.mixed (by kernel_rfl) ?_
      intro w0
      refine Y1 ?_
      refine Zhz (cs := #[.int .i64 0, .int .i64 0, .int .i64 0, u8b 0#8, u8b 0#8, u8b 0#8, u8b 0#8, u8b 0#8, u8b 0#8, u8b 0#8, u8b 0#8, u8b 0#8, u8b 0#8, u8b 0#8, u8b 0#8]) rfl ?_; intro b8
      refine Y3 ?_
      refine Zhg (Zdm (cs := (tcells ⟨0, 0, 8, List.replicate 12 0#8⟩).toArray) (by kernel_rfl)) ?_
      refine Zhz (cs := #[.int .i64 0, .int .i64 0, .int .i64 0, u8b 0#8, u8b 0#8, u8b 0#8, u8b 0#8, u8b 0#8, u8b 0#8, u8b 0#8, u8b 0#8, u8b 0#8, u8b 0#8, u8b 0#8, u8b 0#8]) rfl ?_; intro b9
      first|refine Zhy rfl rfl qR qZ (by first|rfl|exact oneM_u8 _|exact oneL_u8 _|assumption|(simp [oneC]; done)) qZ ?_|refine Zhx rfl rfl qR qZ (by first|rfl|exact oneM_u8 _|exact oneL_u8 _|assumption|(simp [oneC]; done)) qZ rfl ?_
      refine Y5 ?_
      refine Zhg (Zbr (b := 1) rfl rfl) ?_
      refine Zhn 14 rfl (decide_eq_false (h1)) ?_
      refine Y4 ?_
      refine Zhg (Zbr (b := 0) rfl rfl) ?_
      refine Zhm 16 rfl (decide_eq_true (rfl)) ?_
      refine Y10 ?_
      refine Zht rfl rfl qR qZ ((by rfl)) ?_
      refine Y1 ?_
      refine Zht rfl rfl qR qZ ((by rfl)) ?_
      refine Y3 ?_
      first|refine Zhy rfl rfl qR qZ (by first|rfl|exact oneM_u8 _|exact oneL_u8 _|assumption|(simp [oneC]; done)) qZ ?_|refine Zhx rfl rfl qR qZ (by first|rfl|exact oneM_u8 _|exact oneL_u8 _|assumption|(simp [oneC]; done)) qZ rfl ?_
      refine V1 ?_
      refine rx1 (Zhe rfl qH qZ (Zg7)) ?_
      exact ⟨_, ⟨rfl, rfl⟩, qI⟩
    · have e : HostS.touchOf s op page b = ⟨op, 0, 8, List.replicate 12 0#8⟩ := by unfold HostS.touchOf; rw [if_neg h1, if_neg h0]
      rw [e]
      refine fn_x Tryz.func218 rfl rfl rfl Tryz.mixed (by kernel_rfl) ?_
      intro w0
      refine Y1 ?_
      refine Zhz (cs := #[.int .i64 0, .int .i64 0, .int .i64 0, u8b 0#8, u8b 0#8, u8b 0#8, u8b 0#8, u8b 0#8, u8b 0#8, u8b 0#8, u8b 0#8, u8b 0#8, u8b 0#8, u8b 0#8, u8b 0#8]) rfl ?_; intro b8
      refine Y3 ?_
      refine Zhg (Zdm (cs := (tcells ⟨op, 0, 8, List.replicate 12 0#8⟩).toArray) (by kernel_rfl)) ?_
      refine Zhz (cs := #[.int .i64 0, .int .i64 0, .int .i64 0, u8b 0#8, u8b 0#8, u8b 0#8, u8b 0#8, u8b 0#8, u8b 0#8, u8b 0#8, u8b 0#8, u8b 0#8, u8b 0#8, u8b 0#8, u8b 0#8]) rfl ?_; intro b9
      first|refine Zhy rfl rfl qR qZ (by first|rfl|exact oneM_u8 _|exact oneL_u8 _|assumption|(simp [oneC]; done)) qZ ?_|refine Zhx rfl rfl qR qZ (by first|rfl|exact oneM_u8 _|exact oneL_u8 _|assumption|(simp [oneC]; done)) qZ rfl ?_
      refine Y5 ?_
      refine Zhg (Zbr (b := 1) rfl rfl) ?_
      refine Zhn 14 rfl (decide_eq_false (h1)) ?_
      refine Y4 ?_
      refine Zhg (Zbr (b := 0) rfl rfl) ?_
      refine Zhn 16 rfl (decide_eq_false (h0)) ?_
      refine Y5 ?_
      first|refine Zhy rfl rfl qR qZ (by first|rfl|exact oneM_u8 _|exact oneL_u8 _|assumption|(simp [oneC]; done)) qZ ?_|refine Zhx rfl rfl qR qZ (by first|rfl|exact oneM_u8 _|exact oneL_u8 _|assumption|(simp [oneC]; done)) qZ rfl ?_
      refine V1 ?_
      refine rx1 (Zhe rfl qH qZ (Zg7)) ?_
      exact ⟨_, ⟨rfl, rfl⟩, qI⟩
end
end Go.Sl

/- host: an operation, walked. -/
set_option maxHeartbeats 4000000
set_option maxRecDepth 10000
set_option linter.unusedVariables false
set_option linter.unusedSimpArgs false
namespace Go.Sl
open Go Go.Proofs
attribute [local irreducible] pt pur ex all den denOps denS xOps xC cX CX xthen xblk xcut xloop xng retX resX Calls PV Rd Con
attribute [local irreducible] hostA omap ohole oheld rowsA faultsA HostS.before HostS.behind
theorem fault_rd {fv : Value} {fl : List HostS.Fault} {M M' : List Asrt} (hm : Has M (faultsA fv fl) M') : Rd M 6 fv fl.length (fl.flatMap fcells) := by
  unfold faultsA at hm
  exact Rd.own hm
theorem fault_one (f : HostS.Fault) : ((fcells f).toArray).toList.all oneC = true := rfl
theorem faults_len {fv : Value} {fl : List HostS.Fault} {M M' : List Asrt} {F : Asrt} {w0 w : World} (hm : Has M (faultsA fv fl) M') (H : St w0 w (F :: M)) : ∃ a c, fv = .slice a fl.length c := (fault_rd hm).len H
section
variable {p : Nat} {s : HostS.HS} {L L2 : List Asrt} {F : FuncId} {cs : List Value}
theorem does_no {bv : Value} (op page : Int) (b : List Byte) (act : HostS.HS → HostS.HS) (hd : HostS.done s = false) (hops : s.ops < 3518437208880) :
    Con Tryz.prog 214 [hp p, .int .i64 op, .int .i64 page, bv, .func (.func F) #[] cs.toArray] [hostA p s] (fun r M => r = nvv 110 ∧ M = [hostA p (HostS.does s op page b act).1]) := by
  refine Con.hostA fun c hs => ?_
  obtain ⟨bl, bc, la, lc⟩ := c
  simp only [List.cons_append, List.nil_append, List.append_nil]
  cases hdn : s.down with
  | true =>
    have e : HostS.does s op page b act = (s, 110) := by unfold HostS.does; rw [if_pos hdn]
    rw [e]
    have hpw : powerOf s = 1 := by unfold powerOf; rw [if_pos hdn]
    refine fn_x Tryz.func214 rfl rfl rfl Tryz.mixed (by kernel_rfl) ?_
    intro w0
    refine Y8 ?_
    refine Zhg (Zbr (a := powerOf s) (b := 1) rfl rfl) ?_
    refine Zhm 20 rfl (decide_eq_true (hpw)) ?_
    refine V5 ?_
    refine rx1 (Zg9 rfl (Zg7)) ?_
    exact ⟨_, ⟨rfl, rfl⟩, (Imp.arr (N := hostP p s (bl, bc, la, lc) ++ []) qV).trans (hostA_mk hs)⟩
  | false =>
    have hbf : HostS.before (s.coming s.ops) = true := by
      unfold HostS.done at hd
      rw [hdn] at hd
      simpa using hd
    have e : HostS.does s op page b act = ({ HostS.taken s with down := true }, 110) := by
      unfold HostS.does
      rw [if_neg (by rw [hdn]; simp)]
      dsimp only
      rw [if_pos hbf]
    rw [e]
    have hpw : powerOf s = 0 := by unfold powerOf; rw [if_neg (by rw [hdn]; simp)]
    have hfl := hs.fln s.ops
    generalize hfe : s.coming s.ops = fl at hbf hfl
    refine fn_x Tryz.func214 rfl rfl rfl Tryz.mixed (by kernel_rfl) ?_
    intro w0
    refine Y8 ?_
    refine Zhg (Zbr (a := powerOf s) (b := 1) rfl rfl) ?_
    refine Zhn 20 rfl (decide_eq_false ((by rw [hpw]; omega))) ?_
    refine V2 ?_
    refine Zgp (Imp.arr (N := omap bc faultsA [] s.coming :: cl p (hcl s (bl, bc, la, lc)) 117 :: omap bl rowsA [] s.lay :: [ownLog la lc s.log]) qV) ?_
    refine Zom faults_nil (s.ops : Int) ?_
    intro fv
    rw [hfe]
    refine Zgt (fun F w H => faults_len qH H) ?_
    rintro ⟨fa, fc, rfl⟩
    refine Ct.o ?_
    refine Zij ([cl p (hcl s (bl, bc, la, lc)) 117, ohole bc faultsA [] s.coming s.ops (.slice fa fl.length fc)]) [7] (.q 0 (.q 1 (.q 2 (.q 4 (.q 5 (.q 6 (.r 3 (.r 7 (.r 8 (.q 9 .nil)))))))))) (by kernel_rfl) (by kernel_rfl) (Imp.arr qV) ?_
    refine W8 ?_
    refine Zon rfl rfl rfl qH ?_
    refine W2 ?_
    refine Ct.o ?_
    refine Zij ([cl p (hcl s (bl, bc, la, lc)) 117]) [7] (.q 0 (.q 1 (.q 2 (.q 4 (.q 5 (.q 6 (.r 3 (.r 7 (.e 8 false .nil))))))))) (by kernel_rfl) (by kernel_rfl) (Imp.arr qV) ?_
    refine W8 ?_
    refine Ziq rfl ?_; refine Zii rfl rfl qR ?_; refine Zg3 ⟨(fun hh => Bool.noConfusion hh), ?_⟩
    refine Zik ?_
    refine Y8 ?_
    refine Zht rfl rfl qR qZ (rfl) ?_
    refine V1 ?_
    refine Zgp (Imp.arr (N := cl p (hcl (HostS.taken s) (bl, bc, la, lc)) 117 :: omap bl rowsA [] (HostS.taken s).lay :: omap bc faultsA [] (HostS.taken s).coming :: ownLog la lc (HostS.taken s).log :: [faultsA (.slice fa fl.length fc) fl]) qV) ?_
    have hok1 := ok_taken hs
    refine V5 ?_
    refine Zgo [(10, 10), (13, 13), (47, 57)] (by kernel_rfl) (fun i : Nat => i ≤ fl.length ∧ HostS.before (fl.take i) = false) (fun _ => cl p (hcl (HostS.taken s) (bl, bc, la, lc)) 117 :: omap bl rowsA [] (HostS.taken s).lay :: omap bc faultsA [] (HostS.taken s).coming :: ownLog la lc (HostS.taken s).log :: [faultsA (.slice fa fl.length fc) fl]) (fun i => [(47, nvv i)]) (fun i => fl.length - i) 0 ⟨Nat.zero_le _, by with_unfolding_all rfl⟩ qI ⟨rfl, trivial⟩ ?_
    rintro i u ⟨hi, hno⟩
    have hB : i < fl.length := by
      by_cases hh : i < fl.length
      · exact hh
      · rw [List.take_of_length_le (by omega), hbf] at hno; cases hno
    refine Zgt (fun F w H => (fault_rd (M := _) qH).someAt (by omega) H) ?_
    rintro ⟨f1, f2, rfl⟩
    refine Y2 ?_
    refine Zhm 48 rfl (decide_eq_true (hB)) ?_
    refine Y4 ?_
    refine Zfg rfl (((fault_rd qH).agN fcells_len (by omega) hB)) ?_
    refine Zhz (cs := #[.int .i64 0, .int .i64 0, .int .i64 0, .int .i64 0, u8b 0#8, .int .i64 0]) rfl ?_; intro b13
    first|refine Zhy rfl rfl qR qZ (by first|rfl|exact oneM_u8 _|exact oneL_u8 _|exact tcells_one _|assumption|(simp [oneC]; done)) qZ ?_|refine Zhx rfl rfl qR qZ (by first|rfl|exact oneM_u8 _|exact oneL_u8 _|exact tcells_one _|assumption|(simp [oneC]; done)) qZ rfl ?_
    refine V1 ?_
    by_cases h3 : fl[i].kind = 3
    · refine Y2 ?_
      refine Zhp rfl qH ((by rfl)) ?_
      refine Zhg (Zbr (a := fl[i].kind) (b := 3) rfl rfl) ?_
      refine Zhm 53 rfl (decide_eq_true (h3)) ?_
      refine Y6 ?_
      refine Zht rfl rfl qR qZ (rfl) ?_
      refine V4 ?_
      refine rx1 (Zg9 rfl (Zg7)) ?_
      exact ⟨_, ⟨rfl, rfl⟩, (Imp.arr (N := hostP p { HostS.taken s with down := true } (bl, bc, la, lc) ++ []) qV).trans (hostA_mk (ok_down true hok1))⟩
    · refine Y2 ?_
      refine Zhp rfl qH ((by rfl)) ?_
      refine Zhg (Zbr (a := fl[i].kind) (b := 3) rfl rfl) ?_
      refine Zhn 53 rfl (decide_eq_false (h3)) ?_
      refine V6 ?_
      exact Zgl (i + 1) qO ⟨by omega, by rw [before_take fl i hB, hno]; simp [h3]⟩ qI ⟨rfl, trivial⟩
theorem hok_logged {op page : Int} {b : List Byte} (hs : HostS.Ok s) : HostS.Ok (HostS.logged s op page b) := by
  have h := ok_taken hs
  refine ⟨h.p0, h.p1, h.z0, h.z1, h.row, h.many, ?_, h.flt, h.fln⟩
  show (s.log ++ [HostS.touchOf s op page b]).length ≤ s.ops + 1
  rw [List.length_append, List.length_singleton]
  exact Nat.succ_le_succ hs.log
theorem does_yes {bv : Value} {b : List Byte} (op page : Int) (act : HostS.HS → HostS.HS) (hb : Bs L bv b) (hbl : b.length ≤ 9223372036854775807) (hd : HostS.done s = true) (hops : s.ops < 3518437208880) (hF : callable Tryz.prog F = true)
    (hact2 : HostS.Ok s → HostS.Ok (HostS.logged s op page b) → HostS.Ok (act (HostS.logged s op page b))) (hact3 : (act (HostS.logged s op page b)).down = false)
    (hact : ∀ fv : Value, Con Tryz.prog F (fv :: cs) (hostA p (HostS.logged s op page b) :: faultsA fv (s.coming s.ops) :: L) (fun _ M => M = hostA p (act (HostS.logged s op page b)) :: faultsA fv (s.coming s.ops) :: L2)) :
    Con Tryz.prog 214 [hp p, .int .i64 op, .int .i64 page, bv, .func (.func F) #[] cs.toArray] (hostA p s :: L) (fun r M => r = nvv (HostS.does s op page b act).2 ∧ M = hostA p (HostS.does s op page b act).1 :: L2) := by
  refine Con.get (fun w0 w F H => hb.sh _ _ _ (H.enx Imp.tail)) ?_
  rintro ⟨ba, bcp, rfl, hbc, hbcm⟩
  refine Con.hostA fun c hs => ?_
  obtain ⟨bl, bc, la, lc⟩ := c
  simp only [List.cons_append, List.nil_append, List.append_nil]
  have hdn : s.down = false := by
    unfold HostS.done at hd
    cases h : s.down with
    | false => rfl
    | true => rw [h] at hd; simp at hd
  have hbf : HostS.before (s.coming s.ops) = false := by
    unfold HostS.done at hd
    rw [hdn] at hd
    simpa using hd
  have e : HostS.does s op page b act = if HostS.behind (s.coming s.ops) = true then ({ act (HostS.logged s op page b) with down := true }, 110) else (act (HostS.logged s op page b), 0) := by
    unfold HostS.does
    rw [if_neg (by rw [hdn]; simp)]
    dsimp only
    rw [if_neg (by rw [hbf]; simp)]
  rw [e]
  have hpw : powerOf s = 0 := by unfold powerOf; rw [if_neg (by rw [hdn]; simp)]
  have hfl := hs.fln s.ops
  have hlg := hs.log
  generalize hfe : s.coming s.ops = fl at hbf hfl hact ⊢
  refine fn_x Tryz.func214 rfl rfl rfl Tryz.mixed (by kernel_rfl) ?_
  intro w0
  refine Y8 ?_
  refine Zhg (Zbr (a := powerOf s) (b := 1) rfl rfl) ?_
  refine Zhn 20 rfl (decide_eq_false ((by rw [hpw]; omega))) ?_
  refine V2 ?_
  refine Zgp (Imp.arr (N := omap bc faultsA [] s.coming :: cl p (hcl s (bl, bc, la, lc)) 117 :: omap bl rowsA [] s.lay :: ownLog la lc s.log :: L) qV) ?_
  refine Zom faults_nil (s.ops : Int) ?_
  intro fv
  rw [hfe]
  refine Zgt (fun F w H => faults_len qH H) ?_
  rintro ⟨fa, fc, rfl⟩
  refine Ct.o ?_
  refine Zij ([cl p (hcl s (bl, bc, la, lc)) 117, ohole bc faultsA [] s.coming s.ops (.slice fa fl.length fc)]) [7] (.q 0 (.q 1 (.q 2 (.q 4 (.q 5 (.q 6 (.r 3 (.r 7 (.r 8 (.q 9 .nil)))))))))) (by kernel_rfl) (by kernel_rfl) (Imp.arr qV) ?_
  refine W8 ?_
  refine Zon rfl rfl rfl qH ?_
  refine W2 ?_
  refine Ct.o ?_
  refine Zij ([cl p (hcl s (bl, bc, la, lc)) 117]) [7] (.q 0 (.q 1 (.q 2 (.q 4 (.q 5 (.q 6 (.r 3 (.r 7 (.e 8 false .nil))))))))) (by kernel_rfl) (by kernel_rfl) (Imp.arr qV) ?_
  refine W8 ?_
  refine Ziq rfl ?_; refine Zii rfl rfl qR ?_; refine Zg3 ⟨(fun hh => Bool.noConfusion hh), ?_⟩
  refine Zik ?_
  refine Y8 ?_
  refine Zht rfl rfl qR qZ (rfl) ?_
  refine V1 ?_
  refine Zgp (Imp.arr (N := cl p (hcl (HostS.taken s) (bl, bc, la, lc)) 117 :: omap bl rowsA [] (HostS.taken s).lay :: omap bc faultsA [] (HostS.taken s).coming :: ownLog la lc (HostS.taken s).log :: faultsA (.slice fa fl.length fc) fl :: L) qV) ?_
  have hok1 := ok_taken hs
  refine V5 ?_
  refine Zgo [(10, 10), (13, 13), (47, 57)] (by kernel_rfl) (fun i : Nat => i ≤ fl.length) (fun _ => cl p (hcl (HostS.taken s) (bl, bc, la, lc)) 117 :: omap bl rowsA [] (HostS.taken s).lay :: omap bc faultsA [] (HostS.taken s).coming :: ownLog la lc (HostS.taken s).log :: faultsA (.slice fa fl.length fc) fl :: L) (fun i => [(47, nvv i)]) (fun i => fl.length - i) 0 (Nat.zero_le _) qI ⟨rfl, trivial⟩ ?_
  intro i u hi
  refine V3 ?_
  refine Zgg rfl (fun hB => ?_) (fun hB => ?_)
  · refine Zgt (fun F w H => (fault_rd (M := _) qH).someAt (by omega) H) ?_
    rintro ⟨f1, f2, rfl⟩
    have h3 : ¬ fl[i].kind = 3 := by
      intro hh
      with_unfolding_all unfold HostS.before at hbf
      rw [List.any_eq_false] at hbf
      exact hbf _ (List.getElem_mem hB) (by simp [hh])
    refine Y2 ?_
    refine Zfg rfl (((fault_rd qH).agN fcells_len (by omega) hB)) ?_
    refine Zhz (cs := #[.int .i64 0, .int .i64 0, .int .i64 0, .int .i64 0, u8b 0#8, .int .i64 0]) rfl ?_; intro b13
    first|refine Zhy rfl rfl qR qZ (by first|rfl|exact oneM_u8 _|exact oneL_u8 _|exact tcells_one _|assumption|(simp [oneC]; done)) qZ ?_|refine Zhx rfl rfl qR qZ (by first|rfl|exact oneM_u8 _|exact oneL_u8 _|exact tcells_one _|assumption|(simp [oneC]; done)) qZ rfl ?_
    refine Y3 ?_
    refine Zhp rfl qH ((by rfl)) ?_
    refine Zhg (Zbr (a := fl[i].kind) (b := 3) rfl rfl) ?_
    refine Zhn 53 rfl (decide_eq_false (h3)) ?_
    refine V6 ?_
    exact Zgl (i + 1) qO (by omega) qI ⟨rfl, trivial⟩
  · have htl := tcells_len _ (touchOf_len s op page b)
    have hlg2 : (HostS.taken s).log.length ≤ s.ops := hs.log
    have htc := touch_x (p := p) (s := HostS.taken s) (c := (bl, bc, la, lc)) op page hb hbl
    have htt : HostS.touchOf (HostS.taken s) op page b = HostS.touchOf s op page b := rfl
    rw [htt] at htc
    refine Ct.o ?_
    refine Zij ([cl p (hcl (HostS.taken s) (bl, bc, la, lc)) 117]) [9, 10] (.q 0 (.q 1 (.q 2 (.q 3 (.q 5 (.q 6 (.q 7 (.q 8 (.r 4 (.e 9 true (.e 10 true (.e 11 false (.q 12 (.q 13 (.e 14 false .nil))))))))))))))) (by kernel_rfl) (by kernel_rfl) (Imp.arr qV) ?_
    refine W9 ?_
    refine Ziq rfl ?_
    refine Zh8 rfl (by kernel_rfl) (htc) rfl qT ?_
    rintro _ _ ⟨rfl, rfl⟩
    refine Y1 ?_
    refine Zg3 ⟨fun _ => Imp.arr qV, ?_⟩
    refine Ziq rfl ?_; refine Zh7 (cs := (tcells (HostS.touchOf s op page b)).toArray) (by omega) (by omega) (by exact fill_one (by show (tcells (HostS.touchOf s op page b)).toArray.size = 15; simp [htl]) rfl) ?_; intro b68; refine Zg3 ⟨fun _ => Imp.arr qV, ?_⟩
    refine Ziq rfl ?_
    refine Zia rfl rfl qH (Rd.cl (xs := tcells (HostS.touchOf s op page b)) qH (by rw [htl]) qZ (by simp [htl, List.extract_eq_take_drop, List.take_of_length_le])) (by first|rfl|exact oneM_u8 _|exact oneL_u8 _|exact tcells_one _|assumption|(simp [oneC]; done)) (by omega) qS ?_; intro a3 c3
    refine Zg3 ⟨(fun hh => Bool.noConfusion hh), ?_⟩
    refine W2 ?_
    refine Ziq rfl ?_
    refine Zhw rfl rfl qR qZ (rfl) ?_
    refine Zg3 ⟨(fun hh => Bool.noConfusion hh), ?_⟩
    refine Zik ?_
    refine Ct.o ?_
    have hll : (HostS.logged s op page b).log.length = (HostS.taken s).log.length + 1 := by simp [HostS.logged, HostS.taken]
    have hq : hcl (HostS.logged s op page b) (bl, bc, a3, c3) = (hcl (HostS.taken s) (bl, bc, la, lc)).setIfInBounds 6 (.slice a3 ((HostS.taken s).log.length + 1) c3) := by
      show (#[_, _, _, _, _, _, .slice a3 (HostS.logged s op page b).log.length c3, _] : Array Value) = _
      rw [hll]; rfl
    have hw : ownLog a3 c3 (HostS.logged s op page b).log = own 65 15 (.slice a3 ((HostS.taken s).log.length + 1) c3) ((HostS.taken s).log.length + 1) ((HostS.taken s).log.flatMap tcells ++ tcells (HostS.touchOf s op page b)) := by
      unfold ownLog
      rw [hll]
      congr 1
      show (s.log ++ [HostS.touchOf s op page b]).flatMap tcells = _
      rw [List.flatMap_append]; simp; rfl
    have hmk := hostA_mk (p := p) (c := (bl, bc, a3, c3)) (L := faultsA (.slice fa fl.length fc) fl :: L) (hok_logged (op := op) (page := page) (b := b) hs)
    simp only [List.cons_append, List.nil_append] at hmk
    rw [hq, hw] at hmk
    refine Zgp ((Imp.arr qV).trans hmk) ?_
    refine Y3 ?_
    refine Zh8 rfl hF (hact (.slice fa fl.length fc)) rfl qT ?_; rintro _ _ rfl; refine Zg2 qA ?_
    refine V1 ?_
    have hok2 := hact2 hs (hok_logged hs)
    generalize act (HostS.logged s op page b) = s2 at *
    refine V5 ?_
    refine Zgo [(10, 10), (15, 15), (77, 87)] (by kernel_rfl) (fun i : Nat => i ≤ fl.length ∧ HostS.behind (fl.take i) = false) (fun _ => hostA p s2 :: faultsA (.slice fa fl.length fc) fl :: L2) (fun i => [(77, nvv i)]) (fun i => fl.length - i) 0 ⟨Nat.zero_le _, by with_unfolding_all rfl⟩ qI ⟨rfl, trivial⟩ ?_
    rintro j u2 ⟨hj, hno⟩
    refine V3 ?_
    refine Zgg rfl (fun hC => ?_) (fun hC => ?_)
    · refine Zgt (fun F w H => (fault_rd (M := _) qH).someAt (by omega) H) ?_
      rintro ⟨f1, f2, rfl⟩
      refine Y2 ?_
      refine Zfg rfl (((fault_rd qH).agN fcells_len (by omega) hC)) ?_
      refine Zhz (cs := #[.int .i64 0, .int .i64 0, .int .i64 0, .int .i64 0, u8b 0#8, .int .i64 0]) rfl ?_; intro b15
      first|refine Zhy rfl rfl qR qZ (by first|rfl|exact oneM_u8 _|exact oneL_u8 _|exact tcells_one _|assumption|(simp [oneC]; done)) qZ ?_|refine Zhx rfl rfl qR qZ (by first|rfl|exact oneM_u8 _|exact oneL_u8 _|exact tcells_one _|assumption|(simp [oneC]; done)) qZ rfl ?_
      refine V1 ?_
      by_cases h4 : fl[j].kind = 4
      · have hbh : HostS.behind fl = true := by
          with_unfolding_all unfold HostS.behind
          exact List.any_eq_true.2 ⟨_, List.getElem_mem hC, by simp [h4]⟩
        rw [if_pos hbh]
        refine Y2 ?_
        refine Zhp rfl qH ((by rfl)) ?_
        refine Zhg (Zbr (a := fl[j].kind) (b := 4) rfl rfl) ?_
        refine Zhm 83 rfl (decide_eq_true (h4)) ?_
        refine V2 ?_
        refine Zgp (Imp.arr (N := hostA p s2 :: L2) qV) ?_
        refine x_hostA fun t hs2 => ?_
        obtain ⟨bl', bc', la', lc'⟩ := t
        simp only [List.cons_append, List.nil_append]
        refine Y4 ?_
        refine Zht rfl rfl qR qZ (rfl) ?_
        refine V4 ?_
        refine rx1 (Zg9 rfl (Zg7)) ?_
        exact ⟨_, ⟨rfl, rfl⟩, (Imp.arr (N := hostP p { s2 with down := true } (bl', bc', la', lc') ++ L2) qV).trans (hostA_mk (ok_down true hok2))⟩
      · refine Y2 ?_
        refine Zhp rfl qH ((by rfl)) ?_
        refine Zhg (Zbr (a := fl[j].kind) (b := 4) rfl rfl) ?_
        refine Zhn 83 rfl (decide_eq_false (h4)) ?_
        refine V6 ?_
        exact Zgl (j + 1) qO ⟨by omega, by rw [behind_take fl j hC, hno]; simp [h4]⟩ qI ⟨rfl, trivial⟩
    · have hje : j = fl.length := by omega
      subst hje
      rw [List.take_length] at hno
      rw [if_neg (by rw [hno]; simp)]
      refine V3 ?_
      refine rx1 (Zg9 rfl (Zg7)) ?_
      exact ⟨_, ⟨rfl, rfl⟩, qI⟩
end
end Go.Sl

/- host: spoilt, Read, Write, Log, Lies, Down, walked. -/
set_option maxHeartbeats 4000000
set_option maxRecDepth 10000
set_option linter.unusedVariables false
set_option linter.unusedSimpArgs false
namespace Go.Sl
open Go Go.Proofs
attribute [local irreducible] pt pur ex all den denOps denS xOps xC cX CX xthen xblk xcut xloop xng retX resX Calls PV Rd Con
attribute [local irreducible] hostA omap ohole oheld rowsA faultsA HostS.spoil1 HostS.back
section
variable {p : Nat} {s : HostS.HS} {L : List Asrt}
theorem spoil_tk (page : Int) (fl : List HostS.Fault) (i : Nat) (hi : i < fl.length) : (fl.take (i + 1)).foldl (HostS.spoil1 s page) (HostS.back s page 0) = HostS.spoil1 s page ((fl.take i).foldl (HostS.spoil1 s page) (HostS.back s page 0)) fl[i] := take_fold page _ fl i hi
/-- A byte of a slice, turned. -/
theorem own_put {g c n k : Nat} {b : List Byte} {rest : List Value} {v : Byte} {M : List Asrt} (hn : b.length = n) (hk : k < n) (hnc : n ≤ c) (hcm : c ≤ 9223372036854775807) (hr : rest.length + n * 1 = c * 1) : Imp (cl g ((b.map u8b ++ rest).toArray.setIfInBounds k (u8b v)) 5 :: M) (ownB (some ⟨g, 0, none⟩) c (b.set k v) :: M) := by
  have h := Imp.own_mk (E := 5) (size := 1) (n := (b.set k v).length) (cap := c) (g := g) (cur := (b.map u8b ++ rest).toArray.setIfInBounds k (u8b v)) (xs := (b.set k v).map u8b) (M := M) (by simp; omega) hcm (by simp; omega) (by
    simp [List.set_append, hn, hk, List.take_append, List.take_of_length_le, List.map_set])
  exact h
theorem spoilt_x {fv : Value} {fl : List HostS.Fault} (page : Int) (hf : Rd L 6 fv fl.length (fl.flatMap fcells)) (hfo : ∀ f ∈ fl, HostS.FOk f) (hfl : fl.length ≤ 9223372036854775806) (hops : s.ops ≤ 3518437208880) :
    Con Tryz.prog 216 [hp p, .int .i64 page, fv] (hostA p s :: L) (fun r M => ∃ a c, r = .slice a (HostS.spoilt s page fl).length c ∧ M = ownB a c (HostS.spoilt s page fl) :: hostA p s :: L) := by
  refine Con.get (fun w0 w F H => hf.len (H.enx Imp.tail)) ?_
  rintro ⟨fa, fc, rfl⟩
  refine Con.get (fun w0 w F H => host_ok .here H) ?_
  intro hs
  have hz1 := hs.z1
  have hlen := fun i => spoil_len hs page (fl.take i) (HostS.back s page 0) (back_len hs page 0)
  refine fn_x Tryz.func216 rfl rfl rfl Tryz.mixed (by kernel_rfl) ?_
  intro w0
  refine Y6 ?_
  refine Zh8 rfl (by kernel_rfl) (back_x page 0 (by omega) hops) rfl qT ?_
  rintro _ _ ⟨a0, c0, rfl, rfl⟩
  refine V8 ?_
  refine Zgo [(7, 7), (9, 9), (15, 59)] (by kernel_rfl) (fun z : Nat × Option Addr × Nat => z.1 ≤ fl.length) (fun z => ownB z.2.1 z.2.2 ((fl.take z.1).foldl (HostS.spoil1 s page) (HostS.back s page 0)) :: hostA p s :: L) (fun z => [(15, nvv z.1), (7, .slice z.2.1 ((fl.take z.1).foldl (HostS.spoil1 s page) (HostS.back s page 0)).length z.2.2)]) (fun z => fl.length - z.1) (0, a0, c0) (Nat.zero_le _) qI ⟨rfl, rfl, trivial⟩ ?_
  rintro ⟨i, a, c⟩ u hi
  dsimp only at hi ⊢
  refine V3 ?_
  refine Zgg rfl (fun hB => ?_) (fun hB => ?_)
  · have htk := spoil_tk (s := s) page fl i hB
    have hli := hlen i
    have hfi := hfo _ (List.getElem_mem hB)
    generalize (fl.take i).foldl (HostS.spoil1 s page) (HostS.back s page 0) = b at *
    refine Zgt (fun F w H => (hf.imp (Imp.arr (M := _) qV)).someAt (by omega) H) ?_
    rintro ⟨f1, f2, rfl⟩
    have hone := fault_one fl[i]
    refine Y2 ?_
    refine Zfg rfl ((hf.imp qI).agN fcells_len (by omega) hB) ?_
    refine Zhz (cs := #[.int .i64 0, .int .i64 0, .int .i64 0, .int .i64 0, u8b 0#8, .int .i64 0]) rfl ?_; intro b9
    first|refine Zhy rfl rfl qR qZ (by first|rfl|exact oneM_u8 _|exact oneL_u8 _|exact tcells_one _|assumption|(simp [oneC]; done)) qZ ?_|refine Zhx rfl rfl qR qZ (by first|rfl|exact oneM_u8 _|exact oneL_u8 _|exact tcells_one _|assumption|(simp [oneC]; done)) qZ rfl ?_
    refine V1 ?_
    by_cases k0 : fl[i].kind = 0
    · by_cases hby : 0 ≤ fl[i].byte ∧ fl[i].byte < (b.length : Int)
      · obtain ⟨k, hk⟩ : ∃ k : Nat, fl[i].byte = k := ⟨fl[i].byte.toNat, by omega⟩
        have hkl : k < b.length := by omega
        have e : HostS.spoil1 s page b fl[i] = b.set k (b[k] ^^^ fl[i].by_) := by
          with_unfolding_all unfold HostS.spoil1
          rw [if_pos k0, if_pos hby, hk]
          simp [hkl]
        rw [e] at htk
        refine Y2 ?_
        refine Zhp rfl qH ((by rfl)) ?_
        refine Y2 ?_
        refine Zhg (Zbr (a := fl[i].kind) (b := 0) rfl rfl) ?_
        refine Zhm 22 rfl (decide_eq_true (k0)) ?_
        refine Y5 ?_
        refine Zhp rfl qH ((by rfl)) ?_
        refine Zhg (Zbq (a := fl[i].byte) (b := 0) rfl rfl) ?_
        refine Zhm 25 rfl (decide_eq_true (hby.1)) ?_
        refine Y2 ?_
        first|refine Y0 ?_|(refine Zhh rfl ?_; (refine Zhp rfl qH ((by rfl)) ?_))
        refine Y2 ?_
        first|refine Y0 ?_|(refine Zhh rfl ?_; (refine Zhg (Zbn (a := fl[i].byte) (b := (b.length : Int)) rfl rfl) ?_))
        refine Zhm 31 rfl (decide_eq_true (hby.2)) ?_
        refine V3 ?_
        refine Znz (E := 5) (sz := 1) (n := b.length) (a := a) (cp := c) qH (by omega) ?_
        rintro g rest rfl hnc hcm hr
        have hg : (b.map u8b ++ rest).toArray[k]? = some (u8b b[k]) := by simp [List.getElem?_append, hkl]
        have hsz : (b.map u8b ++ rest).toArray.size = c := by simp; omega
        refine Ct.o ?_
        refine Zij ([cl g (b.map u8b ++ rest).toArray 5, cl b9 (fcells fl[i]).toArray 70]) [6] (.q 0 (.q 1 (.q 5 (.r 2 (.q 3 (.r 4 (.r 6 (.q 7 (.q 8 (.e 9 false .nil)))))))))) (by kernel_rfl) (by kernel_rfl) (Imp.arr qV) ?_
        refine W3 ?_
        refine Ziv rfl rfl qH ((by rfl)) ?_
        refine Zim rfl (Zl4 (n := k) rfl (int_eq hk) hkl) ?_
        refine Ziv rfl rfl qH (hg) ?_
        refine Ziv rfl rfl qH ((by rfl)) ?_
        refine W1 ?_
        refine Zim rfl (Zl4 (n := k) rfl (int_eq hk) hkl) ?_
        refine Ziq rfl ?_
        refine Y1 ?_
        refine Zg3 ⟨(fun hh => Bool.noConfusion hh), ?_⟩
        refine Zik ?_
        refine Ct.o ?_
        have hpt := own_put (g := g) (c := c) (n := b.length) (k := k) (b := b) (rest := rest) (v := b[k] ^^^ fl[i].by_) (M := hostA p s :: L) rfl hkl hnc hcm hr
        refine V4 ?_
        refine Zgl (i + 1, some ⟨g, 0, none⟩, c) qO (by dsimp only; omega) ((Imp.arr (N := cl g ((b.map u8b ++ rest).toArray.setIfInBounds k (u8b (b[k] ^^^ fl[i].by_))) 5 :: hostA p s :: L) qV).trans (by dsimp only; rw [htk]; exact hpt)) ⟨rfl, ?_, trivial⟩
        dsimp only
        rw [htk, List.length_set]; rfl
      · have e : HostS.spoil1 s page b fl[i] = b := by
          with_unfolding_all unfold HostS.spoil1
          rw [if_pos k0, if_neg hby]
        rw [e] at htk
        refine Y2 ?_
        refine Zhp rfl qH ((by rfl)) ?_
        refine Y2 ?_
        refine Zhg (Zbr (a := fl[i].kind) (b := 0) rfl rfl) ?_
        refine Zhm 22 rfl (decide_eq_true (k0)) ?_
        refine V3 ?_
        by_cases hb0 : 0 ≤ fl[i].byte
        · refine Y2 ?_
          refine Zhp rfl qH ((by rfl)) ?_
          refine Zhg (Zbq (a := fl[i].byte) (b := 0) rfl rfl) ?_
          refine Zhm 25 rfl (decide_eq_true (hb0)) ?_
          refine Y2 ?_
          first|refine Y0 ?_|(refine Zhh rfl ?_; (refine Zhp rfl qH ((by rfl)) ?_))
          refine Y2 ?_
          first|refine Y0 ?_|(refine Zhh rfl ?_; (refine Zhg (Zbn (a := fl[i].byte) (b := (b.length : Int)) rfl rfl) ?_))
          refine Zhn 31 rfl (decide_eq_false (fun hh => hby ⟨hb0, hh⟩)) ?_
          refine V7 ?_
          exact Zgl (i + 1, a, c) qO (by dsimp only; omega) (by dsimp only; rw [htk]; exact qI) ⟨rfl, by dsimp only; rw [htk]; rfl, trivial⟩
        · refine Y2 ?_
          refine Zhp rfl qH ((by rfl)) ?_
          refine Zhg (Zbq (a := fl[i].byte) (b := 0) rfl rfl) ?_
          refine Zhn 25 rfl (decide_eq_false (hb0)) ?_
          refine V13 ?_
          exact Zgl (i + 1, a, c) qO (by dsimp only; omega) (by dsimp only; rw [htk]; exact qI) ⟨rfl, by dsimp only; rw [htk]; rfl, trivial⟩
    by_cases k1 : fl[i].kind = 1
    · have e : HostS.spoil1 s page b fl[i] = HostS.back s page fl[i].back := by
        with_unfolding_all unfold HostS.spoil1
        rw [if_neg k0, if_pos k1]
      rw [e] at htk
      refine Y2 ?_
      refine Zhp rfl qH ((by rfl)) ?_
      refine Y2 ?_
      refine Zhg (Zbr (a := fl[i].kind) (b := 0) rfl rfl) ?_
      refine Zhn 22 rfl (decide_eq_false (k0)) ?_
      refine Y4 ?_
      refine Zhg (Zbr (a := fl[i].kind) (b := 1) rfl rfl) ?_
      refine Zhm 43 rfl (decide_eq_true (k1)) ?_
      refine Y7 ?_
      refine Zhp rfl qH ((by rfl)) ?_
      refine Zh8 rfl (by kernel_rfl) (back_x page fl[i].back ⟨hfi.b0, hfi.b1⟩ hops) rfl qT ?_
      rintro _ _ ⟨a2, c2, rfl, rfl⟩
      refine V7 ?_
      exact Zgl (i + 1, a2, c2) qO (by dsimp only; omega) (by dsimp only; rw [htk]; exact qI) ⟨rfl, by dsimp only; rw [htk]; rfl, trivial⟩
    by_cases k2 : fl[i].kind = 2
    · by_cases hth : HostS.there s fl[i].page
      · have e : HostS.spoil1 s page b fl[i] = HostS.back s fl[i].page 0 := by
          with_unfolding_all unfold HostS.spoil1
          rw [if_neg k0, if_neg k1, if_pos k2, if_pos hth]
        rw [e] at htk
        refine Y2 ?_
        refine Zhp rfl qH ((by rfl)) ?_
        refine Y2 ?_
        refine Zhg (Zbr (a := fl[i].kind) (b := 0) rfl rfl) ?_
        refine Zhn 22 rfl (decide_eq_false (k0)) ?_
        refine Y4 ?_
        refine Zhg (Zbr (a := fl[i].kind) (b := 1) rfl rfl) ?_
        refine Zhn 43 rfl (decide_eq_false (k1)) ?_
        refine Y4 ?_
        refine Zhg (Zbr (a := fl[i].kind) (b := 2) rfl rfl) ?_
        refine Zhm 50 rfl (decide_eq_true (k2)) ?_
        refine Y6 ?_
        refine Zhp rfl qH ((by rfl)) ?_
        refine Zh8 rfl (by kernel_rfl) (there_x fl[i].page) rfl qT ?_
        rintro _ _ ⟨rfl, rfl⟩
        refine Y1 ?_
        refine Zhm 54 rfl (decide_eq_true (hth)) ?_
        refine Y5 ?_
        refine Zhp rfl qH ((by rfl)) ?_
        refine Zh8 rfl (by kernel_rfl) (back_x fl[i].page 0 (by omega) hops) rfl qT ?_
        rintro _ _ ⟨a2, c2, rfl, rfl⟩
        refine V7 ?_
        exact Zgl (i + 1, a2, c2) qO (by dsimp only; omega) (by dsimp only; rw [htk]; exact qI) ⟨rfl, by dsimp only; rw [htk]; rfl, trivial⟩
      · have e : HostS.spoil1 s page b fl[i] = b := by
          with_unfolding_all unfold HostS.spoil1
          rw [if_neg k0, if_neg k1, if_pos k2, if_neg hth]
        rw [e] at htk
        refine Y2 ?_
        refine Zhp rfl qH ((by rfl)) ?_
        refine Y2 ?_
        refine Zhg (Zbr (a := fl[i].kind) (b := 0) rfl rfl) ?_
        refine Zhn 22 rfl (decide_eq_false (k0)) ?_
        refine Y4 ?_
        refine Zhg (Zbr (a := fl[i].kind) (b := 1) rfl rfl) ?_
        refine Zhn 43 rfl (decide_eq_false (k1)) ?_
        refine Y4 ?_
        refine Zhg (Zbr (a := fl[i].kind) (b := 2) rfl rfl) ?_
        refine Zhm 50 rfl (decide_eq_true (k2)) ?_
        refine Y6 ?_
        refine Zhp rfl qH ((by rfl)) ?_
        refine Zh8 rfl (by kernel_rfl) (there_x fl[i].page) rfl qT ?_
        rintro _ _ ⟨rfl, rfl⟩
        refine Y1 ?_
        refine Zhn 54 rfl (decide_eq_false (hth)) ?_
        refine V6 ?_
        exact Zgl (i + 1, a, c) qO (by dsimp only; omega) (by dsimp only; rw [htk]; exact qI) ⟨rfl, by dsimp only; rw [htk]; rfl, trivial⟩
    · have e : HostS.spoil1 s page b fl[i] = b := by
        with_unfolding_all unfold HostS.spoil1
        rw [if_neg k0, if_neg k1, if_neg k2]
      rw [e] at htk
      refine Y2 ?_
      refine Zhp rfl qH ((by rfl)) ?_
      refine Y2 ?_
      refine Zhg (Zbr (a := fl[i].kind) (b := 0) rfl rfl) ?_
      refine Zhn 22 rfl (decide_eq_false (k0)) ?_
      refine Y4 ?_
      refine Zhg (Zbr (a := fl[i].kind) (b := 1) rfl rfl) ?_
      refine Zhn 43 rfl (decide_eq_false (k1)) ?_
      refine Y4 ?_
      refine Zhg (Zbr (a := fl[i].kind) (b := 2) rfl rfl) ?_
      refine Zhn 50 rfl (decide_eq_false (k2)) ?_
      refine V7 ?_
      exact Zgl (i + 1, a, c) qO (by dsimp only; omega) (by dsimp only; rw [htk]; exact qI) ⟨rfl, by dsimp only; rw [htk]; rfl, trivial⟩
  · have hie : i = fl.length := by omega
    subst hie
    rw [List.take_length]
    refine V4 ?_
    refine rx1 (Zhc rfl (Zg7)) ?_
    exact ⟨_, ⟨a, c, rfl, rfl⟩, qI⟩
abbrev readX (p : Nat) (page : Int) (n : Nat) (x : List Byte) (b2 b3 b6 : Nat) (t : Option Addr × Nat) : Asrt := all [cl b6 #[.slice t.1 n t.2] 33, own 5 1 (.slice t.1 n t.2) n (x.map u8b)]
theorem readf_x {page : Int} {b2 b3 b6 : Nat} {fv : Value} {fl : List HostS.Fault} {v0 : Value} (hfo : ∀ f ∈ fl, HostS.FOk f) (hfl : fl.length ≤ 9223372036854775806) (hops : s.ops ≤ 3518437208880) :
    Con Tryz.prog 215 [fv, .pointer (some ⟨b2, 0, none⟩), .pointer (some ⟨b3, 0, none⟩), .pointer (some ⟨b6, 0, none⟩)] (hostA p s :: faultsA fv fl :: [cl b2 #[hp p] 28, cl b3 #[.int .i64 page] 3, cl b6 #[v0] 33])
      (fun _ M => M = hostA p s :: faultsA fv fl :: [cl b2 #[hp p] 28, cl b3 #[.int .i64 page] 3, ex (readX p page (HostS.spoilt s page fl).length (HostS.spoilt s page fl) b2 b3 b6)]) := by
  refine Con.get (fun w0 w F H => faults_len (.there .here) H) ?_
  rintro ⟨fa, fc, rfl⟩
  refine fn_x Tryz.func215 rfl rfl rfl Tryz.mixed (by kernel_rfl) ?_
  intro w0
  refine Y4 ?_
  refine Zh8 rfl (by kernel_rfl) (spoilt_x (L := [faultsA (.slice fa fl.length fc) fl]) page (fault_rd .here) hfo hfl hops) rfl qT ?_
  rintro _ _ ⟨a, c, rfl, rfl⟩
  refine V3 ?_
  refine rx0n ?_
  refine ⟨_, rfl, ?_⟩
  have h1 : Imp ([cl b6 #[.slice a (HostS.spoilt s page fl).length c] 33, ownB a c (HostS.spoilt s page fl)] ++ [hostA p s, faultsA (.slice fa fl.length fc) fl, cl b2 #[hp p] 28, cl b3 #[.int .i64 page] 3]) (ex (readX p page (HostS.spoilt s page fl).length (HostS.spoilt s page fl) b2 b3 b6) :: [hostA p s, faultsA (.slice fa fl.length fc) fl, cl b2 #[hp p] 28, cl b3 #[.int .i64 page] 3]) :=
    (Imp.app (L := [cl b6 #[.slice a (HostS.spoilt s page fl).length c] 33, ownB a c (HostS.spoilt s page fl)])).trans (Imp.exI (A := readX p page (HostS.spoilt s page fl).length (HostS.spoilt s page fl) b2 b3 b6) (a, c))
  simp only [List.cons_append, List.nil_append] at h1
  exact ((Imp.arr qV).trans h1).trans qI
theorem spoilt_lg (op page : Int) (b : HostS.Bytes) (q : Int) (fl : List HostS.Fault) : HostS.spoilt (HostS.logged s op page b) q fl = HostS.spoilt s q fl := by with_unfolding_all rfl
theorem read_x (page : Int) (hops : s.ops < 3518437208880) :
    Con Tryz.prog 210 [hp p, .int .i64 page] [hostA p s] (fun v M => ∃ a c, v = .tuple #[.slice a (HostS.readR s page).1.length c, nvv (HostS.readR s page).2.1] ∧ M = [ownB a c (HostS.readR s page).1, hostA p (HostS.readR s page).2.2]) := by
  refine Con.get (fun w0 w F H => host_ok .here H) ?_
  intro hs
  by_cases ht : HostS.there s page
  · by_cases hd : HostS.done s = true
    · have hy := fun b2 b3 b6 : Nat => does_yes (p := p) (s := s) (L := [cl b2 #[hp p] 28, cl b3 #[.int .i64 page] 3, cl b6 #[.slice none 0 0] 33]) (L2 := [cl b2 #[hp p] 28, cl b3 #[.int .i64 page] 3, ex (readX p page (HostS.spoilt s page (s.coming s.ops)).length (HostS.spoilt s page (s.coming s.ops)) b2 b3 b6)]) (F := 215) (cs := [.pointer (some ⟨b2, 0, none⟩), .pointer (some ⟨b3, 0, none⟩), .pointer (some ⟨b6, 0, none⟩)]) (b := []) (bv := .slice none 0 0) 0 page id Bs.nil (by simp) hd hops (by kernel_rfl) (fun _ h => h) (by
        show s.down = false
        unfold HostS.done at hd
        cases h : s.down with
        | false => rfl
        | true => rw [h] at hd; simp at hd) (fun fv => by
        have hh := readf_x (p := p) (s := HostS.logged s 0 page []) (page := page) (b2 := b2) (b3 := b3) (b6 := b6) (fv := fv) (fl := s.coming s.ops) (v0 := .slice none 0 0) (hs.flt _) (by have := hs.fln s.ops; omega) (by show s.ops + 1 ≤ _; omega)
        rw [spoilt_lg] at hh
        exact hh)
      have er : HostS.readR s page = if (HostS.does s 0 page [] id).2 = 0 then (HostS.spoilt s page (s.coming s.ops), 0, (HostS.does s 0 page [] id).1) else ([], (HostS.does s 0 page [] id).2, (HostS.does s 0 page [] id).1) := by
        unfold HostS.readR
        rw [if_pos ht]
      rw [er]
      generalize HostS.does s 0 page [] id = q at *
      refine fn_x Tryz.func210 rfl rfl rfl Tryz.mixed (by kernel_rfl) ?_
      intro w0
      refine Y1 ?_
      refine Zh3 rfl ?_; intro b2
      refine Zh1 rfl ?_; intro b3
      refine Y6 ?_
      refine Zhn 9 rfl (rfl) ?_
      refine Y5 ?_
      refine Zh8 rfl (by kernel_rfl) (there_x page) rfl qT ?_
      rintro _ _ ⟨rfl, rfl⟩
      refine Y1 ?_
      refine Zhg (Zb0 rfl) ?_
      refine Zhn 13 rfl ((by rw [decide_eq_true ht]; rfl)) ?_
      refine Y3 ?_
      refine Zhz (cs := #[.slice none 0 0]) rfl ?_; intro b6
      refine Y5 ?_
      refine Zh8 rfl (by kernel_rfl) (hy b2 b3 b6) rfl qT ?_
      rintro _ _ ⟨rfl, rfl⟩
      refine V3 ?_
      by_cases h0 : q.2 = 0
      · rw [if_pos h0]
        refine Y3 ?_
        refine Zhn 19 rfl (decide_eq_false (fun hh => hh h0)) ?_
        refine V2 ?_
        refine Zgp (Imp.arr (N := ex (readX p page (HostS.spoilt s page (s.coming s.ops)).length (HostS.spoilt s page (s.coming s.ops)) b2 b3 b6) :: [hostA p q.1]) qV) ?_
        refine Zgr fun t => Zgs (L := [cl b6 #[.slice t.1 (HostS.spoilt s page (s.coming s.ops)).length t.2] 33, own 5 1 (.slice t.1 (HostS.spoilt s page (s.coming s.ops)).length t.2) (HostS.spoilt s page (s.coming s.ops)).length ((HostS.spoilt s page (s.coming s.ops)).map u8b)]) ?_
        simp only [List.cons_append, List.nil_append]
        refine V5 ?_
        refine rx2 (Zhc rfl (Zg9 rfl (Zg7))) ?_
        exact ⟨_, ⟨t.1, t.2, rfl, rfl⟩, qI⟩
      · rw [if_neg h0]
        refine Y3 ?_
        refine Zhm 19 rfl (decide_eq_true (h0)) ?_
        refine V7 ?_
        refine rx2 (Zhc rfl (Zg9 rfl (Zg7))) ?_
        exact ⟨_, ⟨none, 0, rfl, rfl⟩, (Imp.arr (N := [hostA p q.1]) qV).trans Imp.own_nil⟩
    · have hd : HostS.done s = false := by simpa using hd
      have hn := fun b2 b3 b6 : Nat => does_no (p := p) (s := s) (F := 215) (cs := [.pointer (some ⟨b2, 0, none⟩), .pointer (some ⟨b3, 0, none⟩), .pointer (some ⟨b6, 0, none⟩)]) (bv := .slice none 0 0) 0 page [] id hd hops
      have hz := does_zero (s := s) (op := 0) (page := page) (b := []) (act := id) hd
      have er : HostS.readR s page = ([], 110, (HostS.does s 0 page [] id).1) := by
        unfold HostS.readR
        rw [if_pos ht]
        dsimp only
        rw [hz]; rfl
      rw [er]
      generalize HostS.does s 0 page [] id = q at *
      refine fn_x Tryz.func210 rfl rfl rfl Tryz.mixed (by kernel_rfl) ?_
      intro w0
      refine Y1 ?_
      refine Zh3 rfl ?_; intro b2
      refine Zh1 rfl ?_; intro b3
      refine Y6 ?_
      refine Zhn 9 rfl (rfl) ?_
      refine Y5 ?_
      refine Zh8 rfl (by kernel_rfl) (there_x page) rfl qT ?_
      rintro _ _ ⟨rfl, rfl⟩
      refine Y1 ?_
      refine Zhg (Zb0 rfl) ?_
      refine Zhn 13 rfl ((by rw [decide_eq_true ht]; rfl)) ?_
      refine Y3 ?_
      refine Zhz (cs := #[.slice none 0 0]) rfl ?_; intro b6
      refine Y5 ?_
      refine Zh8 rfl (by kernel_rfl) (hn b2 b3 b6) rfl qT ?_
      rintro _ _ ⟨rfl, rfl⟩
      refine Y6 ?_
      refine Zhm 19 rfl (decide_eq_true ((show (110 : Nat) ≠ 0 by omega))) ?_
      refine V7 ?_
      refine rx2 (Zhc rfl (Zg9 rfl (Zg7))) ?_
      exact ⟨_, ⟨none, 0, rfl, rfl⟩, (Imp.arr (N := [hostA p q.1]) qV).trans Imp.own_nil⟩
  · have er : HostS.readR s page = ([], 2, s) := by
      unfold HostS.readR
      rw [if_neg ht]
    rw [er]
    refine fn_x Tryz.func210 rfl rfl rfl Tryz.mixed (by kernel_rfl) ?_
    intro w0
    refine Y1 ?_
    refine Zh3 rfl ?_; intro b2
    refine Zh1 rfl ?_; intro b3
    refine Y6 ?_
    refine Zhn 9 rfl (rfl) ?_
    refine Y5 ?_
    refine Zh8 rfl (by kernel_rfl) (there_x page) rfl qT ?_
    rintro _ _ ⟨rfl, rfl⟩
    refine Y1 ?_
    refine Zhg (Zb0 rfl) ?_
    refine Zhm 13 rfl ((by rw [decide_eq_false ht]; rfl)) ?_
    refine V6 ?_
    refine rx2 (Zhc rfl (Zg9 rfl (Zg7))) ?_
    exact ⟨_, ⟨none, 0, rfl, rfl⟩, (Imp.arr (N := [hostA p s]) qV).trans Imp.own_nil⟩
end
end Go.Sl

/- host: Write, Log, Lies, Down, walked. -/
set_option maxHeartbeats 4000000
set_option maxRecDepth 10000
set_option linter.unusedVariables false
set_option linter.unusedSimpArgs false
namespace Go.Sl
open Go Go.Proofs
attribute [local irreducible] pt pur ex all den denOps denS xOps xC cX CX xthen xblk xcut xloop xng retX resX Calls PV Rd Con
attribute [local irreducible] hostA omap ohole oheld rowsA faultsA HostS.spoil1 HostS.back
section
variable {p : Nat} {s : HostS.HS} {L : List Asrt}
theorem writef_x {page : Int} {b3 b4 b5 : Nat} {fv bv : Value} {b : List Byte} {fl : List HostS.Fault} (hb : Bs L bv b) (hbl : b.length ≤ 4124) (hops : s.ops ≤ 3518437208880) (hok : HostS.Ok (HostS.wrote page b s)) :
    Con Tryz.prog 217 [fv, .pointer (some ⟨b3, 0, none⟩), .pointer (some ⟨b4, 0, none⟩), .pointer (some ⟨b5, 0, none⟩)] (hostA p s :: faultsA fv fl :: cl b3 #[hp p] 28 :: cl b4 #[.int .i64 page] 3 :: cl b5 #[bv] 33 :: L)
      (fun _ M => M = hostA p (HostS.wrote page b s) :: faultsA fv fl :: cl b3 #[hp p] 28 :: cl b4 #[.int .i64 page] 3 :: cl b5 #[bv] 33 :: L) := by
  refine Con.get (fun w0 w F H => hb.sh _ _ _ (H.enx (Imp.tail.trans (Imp.tail.trans (Imp.tail.trans (Imp.tail.trans Imp.tail)))))) ?_
  rintro ⟨ba, bcp, rfl, hbc, hbcm⟩
  refine Con.hostA fun c hs => ?_
  obtain ⟨bl, bc, la, lc⟩ := c
  simp only [List.cons_append, List.nil_append, List.append_nil]
  have hmany := hs.many page
  refine fn_x Tryz.func217 rfl rfl rfl Tryz.mixed (by kernel_rfl) ?_
  intro w0
  refine Zgp (Imp.arr (N := omap bl rowsA [] s.lay :: cl p (hcl s (bl, bc, la, lc)) 117 :: omap bc faultsA [] s.coming :: ownLog la lc s.log :: faultsA fv fl :: cl b3 #[hp p] 28 :: cl b4 #[.int .i64 page] 3 :: cl b5 #[.slice ba b.length bcp] 33 :: L) qV) ?_
  refine Zom rows_nil page ?_
  intro v
  refine x_rows fun vs hvs => ?_
  have hvl : vs.length = (s.lay page).length := by rw [← hvs, List.length_map]
  refine Zgt (fun F w H => own_shape (H.pick (.there .here))) ?_
  rintro ⟨ra, rc, rfl, hrc, hrcm⟩
  refine Zgp (Imp.own_nil (E := 5) (size := 1)) ?_
  refine Ct.o ?_
  refine Zij ([cl p (hcl s (bl, bc, la, lc)) 117, cl b3 #[hp p] 28, cl b4 #[.int .i64 page] 3, cl b5 #[.slice ba b.length bcp] 33, ohole bl rowsA [] s.lay page (.slice ra vs.length rc)]) [4, 5, 6, 7, 8, 9, 10, 11, 12, 13, 14] (.r 0 (.q 1 (.q 2 (.r 3 (.r 4 (.r 5 (.r 6 (.r 7 (.r 8 (.r 9 (.r 10 (.r 11 (.e 12 true (.e 13 true (.e 14 true (.e 15 false .nil)))))))))))))))) (by kernel_rfl) (by kernel_rfl) (Imp.arr qV) ?_
  refine W10 ?_
  refine Zon rfl rfl rfl qH ?_
  refine W1 ?_
  refine Ziq rfl ?_
  refine Zia rfl rfl qH (hb.rd.imp qI) (by first|rfl|exact oneM_u8 _|exact oneL_u8 _|exact tcells_one _|assumption|(simp [oneC]; done)) (by omega) qS ?_; intro a2 c2
  refine Zg3 ⟨fun _ => Imp.arr qV, ?_⟩
  refine Ziq rfl ?_
  refine Zh7 (cs := #[.slice _ _ _]) (by omega) (by omega) rfl ?_; intro b18
  refine Zg3 ⟨fun _ => Imp.arr qV, ?_⟩
  refine Ziq rfl ?_
  refine Zia rfl rfl qH (Rd.cl (xs := [.slice a2 (0 + b.length) c2]) qH rfl qZ rfl) (by first|rfl|exact oneM_u8 _|exact oneL_u8 _|exact tcells_one _|assumption|(simp [oneC]; done)) (by omega) qS ?_; intro a3 c3
  refine Zg3 ⟨fun _ => Imp.arr qV, ?_⟩
  refine Ziq rfl ?_; refine Zih rfl rfl rfl qR ?_; refine Zg3 ⟨(fun hh => Bool.noConfusion hh), ?_⟩
  refine Zik ?_
  refine Ct.o ?_
  rw [Nat.zero_add, List.nil_append]
  refine rx0n ?_
  refine ⟨_, rfl, ?_⟩
  have e1 : (vs ++ [((.slice a2 b.length c2 : Value), b)]).length = vs.length + 1 := by simp
  have e2 : (vs ++ [((.slice a2 b.length c2 : Value), b)]).map (·.1) = vs.map (·.1) ++ [.slice a2 b.length c2] := by simp
  have e3 : (vs ++ [((.slice a2 b.length c2 : Value), b)]).map (·.2) = s.lay page ++ [b] := by simp [hvs]
  have h1 : Imp (rowE ((.slice a2 b.length c2 : Value), b) :: star rowE vs :: own 33 1 (.slice a3 (vs.length + 1) c3) (vs.length + 1) (vs.map (·.1) ++ [.slice a2 b.length c2]) :: oheld bl rowsA [] s.lay page (.slice a3 (vs.length + 1) c3) :: cl p (hcl s (bl, bc, la, lc)) 117 :: omap bc faultsA [] s.coming :: ownLog la lc s.log :: faultsA fv fl :: cl b3 #[hp p] 28 :: cl b4 #[.int .i64 page] 3 :: cl b5 #[.slice ba b.length bcp] 33 :: L) (hostA p (HostS.wrote page b s) :: faultsA fv fl :: cl b3 #[hp p] 28 :: cl b4 #[.int .i64 page] 3 :: cl b5 #[.slice ba b.length bcp] 33 :: L) := by
    refine star_snoc.trans ?_
    have h2 := rows_mk (v := .slice a3 (vs.length + 1) c3) (L := oheld bl rowsA [] s.lay page (.slice a3 (vs.length + 1) c3) :: cl p (hcl s (bl, bc, la, lc)) 117 :: omap bc faultsA [] s.coming :: ownLog la lc s.log :: faultsA fv fl :: cl b3 #[hp p] 28 :: cl b4 #[.int .i64 page] 3 :: cl b5 #[.slice ba b.length bcp] 33 :: L) e3
    rw [e1, e2] at h2
    have h3 := hostA_mk (p := p) (c := (bl, bc, la, lc)) (L := faultsA fv fl :: cl b3 #[hp p] 28 :: cl b4 #[.int .i64 page] 3 :: cl b5 #[.slice ba b.length bcp] 33 :: L) hok
    simp only [List.cons_append, List.nil_append] at h3
    exact (Imp.swap.trans h2).trans (Imp.oheld_close.trans ((Imp.arr qV).trans h3))
  exact (Imp.arr qV).trans h1
theorem write_x (page : Int) {bv : Value} {b : List Byte} (hb : Bs L bv b) (hops : s.ops < 3518437208880) (hlen : b.length < 9223372036854775808) :
    Con Tryz.prog 213 [hp p, .int .i64 page, bv] (hostA p s :: L) (fun v M => v = nvv (HostS.writeR s page b).1 ∧ M = hostA p (HostS.writeR s page b).2 :: L) := by
  refine Con.get (fun w0 w F H => host_ok .here H) ?_
  intro hs
  refine Con.get (fun w0 w F H => hb.sh _ _ _ (H.enx Imp.tail)) ?_
  rintro ⟨ba, bcp, rfl, hbc, hbcm⟩
  by_cases ht : HostS.there s page
  · by_cases hl : b.length = s.size
    · have er : HostS.writeR s page b = ((HostS.does s 1 page b (HostS.wrote page b)).2, (HostS.does s 1 page b (HostS.wrote page b)).1) := by
        unfold HostS.writeR
        rw [if_pos ht, if_pos hl]
      rw [er]
      have hz1 := hs.z1
      by_cases hd : HostS.done s = true
      · have hy := fun b3 b4 b5 : Nat => does_yes (p := p) (s := s) (L := cl b3 #[hp p] 28 :: cl b4 #[.int .i64 page] 3 :: cl b5 #[.slice ba b.length bcp] 33 :: L) (L2 := cl b3 #[hp p] 28 :: cl b4 #[.int .i64 page] 3 :: cl b5 #[.slice ba b.length bcp] 33 :: L) (F := 217) (cs := [.pointer (some ⟨b3, 0, none⟩), .pointer (some ⟨b4, 0, none⟩), .pointer (some ⟨b5, 0, none⟩)]) (b := b) (bv := .slice ba b.length bcp) 1 page (HostS.wrote page b) (hb.imp (Imp.tail.trans (Imp.tail.trans Imp.tail))) (by omega) hd hops (by kernel_rfl) (fun h0 h1 => ok_wrote page 1 b hl h0 h1) (by
          show s.down = false
          unfold HostS.done at hd
          cases h : s.down with
          | false => rfl
          | true => rw [h] at hd; simp at hd) (fun fv => writef_x (p := p) (s := HostS.logged s 1 page b) (page := page) (b3 := b3) (b4 := b4) (b5 := b5) (fv := fv) (fl := s.coming s.ops) hb (by omega) (by show s.ops + 1 ≤ _; omega) (ok_wrote page 1 b hl hs (hok_logged hs)))
        generalize HostS.does s 1 page b (HostS.wrote page b) = q at *
        refine fn_x Tryz.func213 rfl rfl rfl Tryz.mixed (by kernel_rfl) ?_
        intro w0
        refine Y1 ?_
        refine Zh3 rfl ?_; intro b3
        refine Zh1 rfl ?_; intro b4
        refine Zh4 rfl ?_; intro b5
        refine Y5 ?_
        refine Zhn 9 rfl (rfl) ?_
        refine Y6 ?_
        refine Zh8 rfl (by kernel_rfl) (there_x page) rfl qT ?_
        rintro _ _ ⟨rfl, rfl⟩
        refine Y1 ?_
        refine Zhg (Zb0 rfl) ?_
        refine Zhn 14 rfl ((by rw [decide_eq_true ht]; rfl)) ?_
        refine V3 ?_
        refine Zgp (Imp.arr (N := hostA p s :: cl b3 #[hp p] 28 :: cl b4 #[.int .i64 page] 3 :: cl b5 #[.slice ba b.length bcp] 33 :: L) qV) ?_
        refine x_hostA (L := cl b3 #[hp p] 28 :: cl b4 #[.int .i64 page] 3 :: cl b5 #[.slice ba b.length bcp] 33 :: L) fun c hs => ?_
        simp only [List.cons_append, List.nil_append]
        refine Ct.o ?_
        refine Zij ([cl p (hcl s c) 117, cl b3 #[hp p] 28, cl b5 #[.slice ba b.length bcp] 33]) [2, 3, 4, 5] (.r 0 (.q 1 (.r 2 (.r 3 (.r 4 (.r 5 (.q 6 (.q 7 .nil)))))))) (by kernel_rfl) (by kernel_rfl) (Imp.arr qV) ?_
        refine W7 ?_
        refine Zi6 22 rfl (decide_eq_false (fun hh => hh hl)) ?_
        refine W2 ?_
        refine V1 ?_
        refine Zgp ((Imp.arr (N := hostP p s c ++ (cl b3 #[hp p] 28 :: cl b4 #[.int .i64 page] 3 :: cl b5 #[.slice ba b.length bcp] 33 :: L)) qV).trans (hostA_mk hs)) ?_
        refine Y5 ?_
        refine Zh8 rfl (by kernel_rfl) (hy b3 b4 b5) rfl qT ?_
        rintro _ _ ⟨rfl, rfl⟩
        refine V3 ?_
        refine rx1 (Zg9 rfl (Zg7)) ?_
        exact ⟨_, ⟨rfl, rfl⟩, qI⟩
      · have hd : HostS.done s = false := by simpa using hd
        have hn := fun b3 b4 b5 : Nat => does_no (p := p) (s := s) (F := 217) (cs := [.pointer (some ⟨b3, 0, none⟩), .pointer (some ⟨b4, 0, none⟩), .pointer (some ⟨b5, 0, none⟩)]) (bv := .slice ba b.length bcp) 1 page b (HostS.wrote page b) hd hops
        have hz := does_zero (s := s) (op := 1) (page := page) (b := b) (act := HostS.wrote page b) hd
        rw [hz]
        generalize HostS.does s 1 page b (HostS.wrote page b) = q at *
        refine fn_x Tryz.func213 rfl rfl rfl Tryz.mixed (by kernel_rfl) ?_
        intro w0
        refine Y1 ?_
        refine Zh3 rfl ?_; intro b3
        refine Zh1 rfl ?_; intro b4
        refine Zh4 rfl ?_; intro b5
        refine Y5 ?_
        refine Zhn 9 rfl (rfl) ?_
        refine Y6 ?_
        refine Zh8 rfl (by kernel_rfl) (there_x page) rfl qT ?_
        rintro _ _ ⟨rfl, rfl⟩
        refine Y1 ?_
        refine Zhg (Zb0 rfl) ?_
        refine Zhn 14 rfl ((by rw [decide_eq_true ht]; rfl)) ?_
        refine V3 ?_
        refine Zgp (Imp.arr (N := hostA p s :: cl b3 #[hp p] 28 :: cl b4 #[.int .i64 page] 3 :: cl b5 #[.slice ba b.length bcp] 33 :: L) qV) ?_
        refine x_hostA (L := cl b3 #[hp p] 28 :: cl b4 #[.int .i64 page] 3 :: cl b5 #[.slice ba b.length bcp] 33 :: L) fun c hs => ?_
        simp only [List.cons_append, List.nil_append]
        refine Ct.o ?_
        refine Zij ([cl p (hcl s c) 117, cl b3 #[hp p] 28, cl b5 #[.slice ba b.length bcp] 33]) [2, 3, 4, 5] (.r 0 (.q 1 (.r 2 (.r 3 (.r 4 (.r 5 (.q 6 (.q 7 .nil)))))))) (by kernel_rfl) (by kernel_rfl) (Imp.arr qV) ?_
        refine W7 ?_
        refine Zi6 22 rfl (decide_eq_false (fun hh => hh hl)) ?_
        refine W2 ?_
        refine V1 ?_
        refine Zgp ((Imp.arr (N := hostP p s c ++ (cl b3 #[hp p] 28 :: cl b4 #[.int .i64 page] 3 :: cl b5 #[.slice ba b.length bcp] 33 :: L)) qV).trans (hostA_mk hs)) ?_
        refine Y5 ?_
        refine Zh8 rfl (by kernel_rfl) (hn b3 b4 b5) rfl qT ?_
        rintro _ _ ⟨rfl, rfl⟩
        refine V3 ?_
        refine rx1 (Zg9 rfl (Zg7)) ?_
        exact ⟨_, ⟨rfl, rfl⟩, qI⟩
    · have er : HostS.writeR s page b = (4, s) := by
        unfold HostS.writeR
        rw [if_pos ht, if_neg hl]
      rw [er]
      refine fn_x Tryz.func213 rfl rfl rfl Tryz.mixed (by kernel_rfl) ?_
      intro w0
      refine Y1 ?_
      refine Zh3 rfl ?_; intro b3
      refine Zh1 rfl ?_; intro b4
      refine Zh4 rfl ?_; intro b5
      refine Y5 ?_
      refine Zhn 9 rfl (rfl) ?_
      refine Y6 ?_
      refine Zh8 rfl (by kernel_rfl) (there_x page) rfl qT ?_
      rintro _ _ ⟨rfl, rfl⟩
      refine Y1 ?_
      refine Zhg (Zb0 rfl) ?_
      refine Zhn 14 rfl ((by rw [decide_eq_true ht]; rfl)) ?_
      refine V3 ?_
      refine Zgp (Imp.arr (N := hostA p s :: cl b3 #[hp p] 28 :: cl b4 #[.int .i64 page] 3 :: cl b5 #[.slice ba b.length bcp] 33 :: L) qV) ?_
      refine x_hostA (L := cl b3 #[hp p] 28 :: cl b4 #[.int .i64 page] 3 :: cl b5 #[.slice ba b.length bcp] 33 :: L) fun c hs => ?_
      simp only [List.cons_append, List.nil_append]
      refine Ct.o ?_
      refine Zij ([cl p (hcl s c) 117, cl b3 #[hp p] 28, cl b5 #[.slice ba b.length bcp] 33]) [2, 3, 4, 5] (.r 0 (.q 1 (.r 2 (.r 3 (.r 4 (.r 5 (.q 6 (.q 7 .nil)))))))) (by kernel_rfl) (by kernel_rfl) (Imp.arr qV) ?_
      refine W7 ?_
      refine Zi5 22 rfl (decide_eq_true (hl)) ?_
      refine W2 ?_
      refine V4 ?_
      refine rx1 (Zg9 rfl (Zg7)) ?_
      exact ⟨_, ⟨rfl, rfl⟩, (Imp.arr (N := hostP p s c ++ L) qV).trans (hostA_mk hs)⟩
  · have er : HostS.writeR s page b = (2, s) := by
      unfold HostS.writeR
      rw [if_neg ht]
    rw [er]
    refine fn_x Tryz.func213 rfl rfl rfl Tryz.mixed (by kernel_rfl) ?_
    intro w0
    refine Y1 ?_
    refine Zh3 rfl ?_; intro b3
    refine Zh1 rfl ?_; intro b4
    refine Zh4 rfl ?_; intro b5
    refine Y5 ?_
    refine Zhn 9 rfl (rfl) ?_
    refine Y6 ?_
    refine Zh8 rfl (by kernel_rfl) (there_x page) rfl qT ?_
    rintro _ _ ⟨rfl, rfl⟩
    refine Y1 ?_
    refine Zhg (Zb0 rfl) ?_
    refine Zhm 14 rfl ((by rw [decide_eq_false ht]; rfl)) ?_
    refine V6 ?_
    refine rx1 (Zg9 rfl (Zg7)) ?_
    exact ⟨_, ⟨rfl, rfl⟩, qI⟩
end
end Go.Sl

/- host: Log, Lies, Down, walked. -/
set_option maxHeartbeats 4000000
set_option maxRecDepth 10000
set_option linter.unusedVariables false
set_option linter.unusedSimpArgs false
namespace Go.Sl
open Go Go.Proofs
attribute [local irreducible] pt pur ex all den denOps denS xOps xC cX CX xthen xblk xcut xloop xng retX resX Calls PV Rd Con
attribute [local irreducible] hostA omap ohole oheld rowsA faultsA HostS.back
section
variable {p : Nat} {s : HostS.HS}
theorem log_x (hops : s.ops ≤ 3518437208880) : Con Tryz.prog 20 [hp p] [hostA p s] (fun v M => ∃ a c, v = .slice a s.log.length c ∧ M = [ownLog a c s.log, hostA p s]) := by
  refine Con.hostA fun c hs => ?_
  obtain ⟨bl, bc, la, lc⟩ := c
  simp only [List.cons_append, List.nil_append]
  have hll := hs.log
  have hlo := log_one s.log (by omega)
  refine fn_x Tryz.func20 rfl rfl rfl Tryz.mixed (by kernel_rfl) ?_
  intro w0
  refine Y6 ?_
  refine Zhn 4 rfl (rfl) ?_
  refine V2 ?_
  refine Zgp (Imp.own_nil (E := 65) (size := 15)) ?_
  refine Y5 ?_
  refine Zia rfl rfl qH ((Rd.own (E := 65) qH)) (by first|rfl|exact oneM_u8 _|exact oneL_u8 _|assumption|(simp [oneC]; done)) (by omega) qS ?_; intro a2 c2
  refine V2 ?_
  refine rx1 (Zhc rfl (Zg7)) ?_
  rw [Nat.zero_add, List.nil_append]
  refine ⟨_, ⟨a2, c2, rfl, rfl⟩, ?_⟩
  exact (Imp.arr (N := ownLog a2 c2 s.log :: (hostP p s (bl, bc, la, lc) ++ [])) qV).trans (Imp.cons (hostA_mk hs))
theorem lies_x (page : Int) (hops : s.ops ≤ 3518437208880) : Con Tryz.prog 49 [hp p, .int .i64 page] [hostA p s] (fun v M => ∃ a c, v = .slice a (HostS.liesR s page).length c ∧ M = [ownB a c (HostS.liesR s page), hostA p s]) := by
  by_cases ht : HostS.there s page
  · have e : HostS.liesR s page = HostS.back s page 0 := by unfold HostS.liesR; rw [if_pos ht]
    rw [e]
    refine fn_x Tryz.func49 rfl rfl rfl Tryz.mixed (by kernel_rfl) ?_
    intro w0
    refine Y6 ?_
    refine Zhn 6 rfl (rfl) ?_
    refine Y3 ?_
    first|refine Y0 ?_|(refine Zhh rfl ?_; (refine Zh8 rfl (by kernel_rfl) (there_x page) rfl qT ?_); (rintro _ _ ⟨rfl, rfl⟩); (refine Zg2 qA ?_))
    first|refine Y0 ?_|(refine Zhh rfl ?_; (refine Zhg (Zb0 rfl) ?_))
    refine Zhn 11 rfl ((by rw [decide_eq_true ht]; rfl)) ?_
    refine Y6 ?_
    refine Zh8 rfl (by kernel_rfl) (back_x page 0 (by omega) hops) rfl qT ?_
    rintro _ _ ⟨a2, c2, rfl, rfl⟩
    refine V3 ?_
    refine rx1 (Zhc rfl (Zg7)) ?_
    exact ⟨_, ⟨a2, c2, rfl, rfl⟩, qI⟩
  · have e : HostS.liesR s page = [] := by unfold HostS.liesR; rw [if_neg ht]
    rw [e]
    refine fn_x Tryz.func49 rfl rfl rfl Tryz.mixed (by kernel_rfl) ?_
    intro w0
    refine Y6 ?_
    refine Zhn 6 rfl (rfl) ?_
    refine Y3 ?_
    first|refine Y0 ?_|(refine Zhh rfl ?_; (refine Zh8 rfl (by kernel_rfl) (there_x page) rfl qT ?_); (rintro _ _ ⟨rfl, rfl⟩); (refine Zg2 qA ?_))
    first|refine Y0 ?_|(refine Zhh rfl ?_; (refine Zhg (Zb0 rfl) ?_))
    refine Zhm 11 rfl ((by rw [decide_eq_false ht]; rfl)) ?_
    refine V6 ?_
    refine rx1 (Zhc rfl (Zg7)) ?_
    exact ⟨_, ⟨none, 0, rfl, rfl⟩, Imp.own_nil (E := 5) (size := 1)⟩
end
end Go.Sl

/- host: New, walked. -/
set_option maxHeartbeats 4000000
set_option maxRecDepth 10000
set_option linter.unusedVariables false
set_option linter.unusedSimpArgs false
namespace Go.Sl
open Go Go.Proofs
attribute [local irreducible] pt pur ex all den denOps denS xOps xC cX CX xthen xblk xcut xloop xng retX resX Calls PV Rd Con
attribute [local irreducible] hostA omap ohole oheld rowsA
section
variable {L : List Asrt}
abbrev ncl (pages : Int) (sz bl bc : Nat) : Array Value := #[.int .i64 pages, nvv sz, .map (some bl), u64b 0#64, .map (some bc), .int .i64 0, .slice none 0 0, .int .i64 0]
theorem coming_len (fl : List HostS.Fault) (i : Nat) (k : Int) : (HostS.comes (fl.take i) k).length ≤ fl.length := by
  have := List.length_filter_le (fun g : HostS.Fault => g.at_ == k) (fl.take i)
  have h2 := List.length_take_le' i fl
  simp only [HostS.comes]; omega
theorem hold_one {bc : Nat} {cm : Int → List HostS.Fault} {f : HostS.Fault} {a : Option Addr} {c : Nat} {M : List Asrt} : Imp (own 70 6 (.slice a ((cm f.at_).length + 1) c) ((cm f.at_).length + 1) ((cm f.at_).flatMap fcells ++ fcells f) :: oheld bc faultsA [] cm f.at_ (.slice a ((cm f.at_).length + 1) c) :: M) (omap bc faultsA [] (upd cm f.at_ (cm f.at_ ++ [f])) :: M) := by
  have h := Imp.oheld_close (A := faultsA) (d := []) (f := cm) (k := f.at_) (x := cm f.at_ ++ [f]) (v := .slice a ((cm f.at_).length + 1) c) (b := bc) (M := M)
  unfold faultsA at h ⊢
  rw [show (cm f.at_ ++ [f]).length = (cm f.at_).length + 1 by simp, show (cm f.at_ ++ [f]).flatMap fcells = (cm f.at_).flatMap fcells ++ fcells f by simp] at h
  exact h
theorem hnew_c (pages size : Int) {fv : Value} {fl : List HostS.Fault} (hfl : fl.length ≤ 2932031007401) (hfo : ∀ f ∈ fl, HostS.FOk f) (hf : Rd L 6 fv fl.length (fl.flatMap fcells)) :
    Con Tryz.prog 36 [.int .i64 pages, .int .i64 size, fv] L (fun v M => (HostS.mayBe pages size fl ∧ ∃ p, v = .tuple #[hp p, nvv 0] ∧ M = hostA p (HostS.fresh pages size.toNat fl) :: L) ∨ (¬ HostS.mayBe pages size fl ∧ v = .tuple #[.pointer none, nvv 2] ∧ M = L)) := by
  refine Con.get (fun w0 w F H => hf.len H) ?_
  rintro ⟨fa, fc, rfl⟩
  by_cases h0 : pages < 0
  · have hno : ¬ HostS.mayBe pages size fl := fun h => by have := h.1; omega
    refine fn_x Tryz.func36 rfl rfl rfl Tryz.mixed (by kernel_rfl) ?_
    intro w0
    refine Y6 ?_
    refine Zhg (Zbn (a := pages) (b := 0) rfl rfl) ?_
    refine Zhm 12 rfl (decide_eq_true (h0)) ?_
    refine V18 ?_
    refine rx2 (Zhb rfl (Zg9 rfl (Zg7))) ?_
    exact ⟨_, .inr ⟨hno, rfl, rfl⟩, qI⟩
  by_cases h1 : pages > 65536
  · have hno : ¬ HostS.mayBe pages size fl := fun h => by have := h.1; omega
    refine fn_x Tryz.func36 rfl rfl rfl Tryz.mixed (by kernel_rfl) ?_
    intro w0
    refine Y6 ?_
    refine Zhg (Zbn (a := pages) (b := 0) rfl rfl) ?_
    refine Zhn 12 rfl (decide_eq_false (h0)) ?_
    refine Y2 ?_
    first|refine Y0 ?_|(refine Zhh rfl ?_; (refine Zhg (Zbp (a := pages) (b := 65536) rfl rfl) ?_))
    refine Zhm 15 rfl (decide_eq_true (h1)) ?_
    refine V15 ?_
    refine rx2 (Zhb rfl (Zg9 rfl (Zg7))) ?_
    exact ⟨_, .inr ⟨hno, rfl, rfl⟩, qI⟩
  by_cases h2 : size < 1
  · have hno : ¬ HostS.mayBe pages size fl := fun h => by have := h.1; omega
    refine fn_x Tryz.func36 rfl rfl rfl Tryz.mixed (by kernel_rfl) ?_
    intro w0
    refine Y6 ?_
    refine Zhg (Zbn (a := pages) (b := 0) rfl rfl) ?_
    refine Zhn 12 rfl (decide_eq_false (h0)) ?_
    refine Y2 ?_
    first|refine Y0 ?_|(refine Zhh rfl ?_; (refine Zhg (Zbp (a := pages) (b := 65536) rfl rfl) ?_))
    refine Zhn 15 rfl (decide_eq_false (h1)) ?_
    refine Y3 ?_
    first|refine Y0 ?_|(refine Zhh rfl ?_; (refine Zhg (Zbn (a := size) (b := 1) rfl rfl) ?_))
    refine Zhm 19 rfl (decide_eq_true (h2)) ?_
    refine V11 ?_
    refine rx2 (Zhb rfl (Zg9 rfl (Zg7))) ?_
    exact ⟨_, .inr ⟨hno, rfl, rfl⟩, qI⟩
  by_cases h3 : size > 4124
  · have hno : ¬ HostS.mayBe pages size fl := fun h => by have := h.1; omega
    refine fn_x Tryz.func36 rfl rfl rfl Tryz.mixed (by kernel_rfl) ?_
    intro w0
    refine Y6 ?_
    refine Zhg (Zbn (a := pages) (b := 0) rfl rfl) ?_
    refine Zhn 12 rfl (decide_eq_false (h0)) ?_
    refine Y2 ?_
    first|refine Y0 ?_|(refine Zhh rfl ?_; (refine Zhg (Zbp (a := pages) (b := 65536) rfl rfl) ?_))
    refine Zhn 15 rfl (decide_eq_false (h1)) ?_
    refine Y3 ?_
    first|refine Y0 ?_|(refine Zhh rfl ?_; (refine Zhg (Zbn (a := size) (b := 1) rfl rfl) ?_))
    refine Zhn 19 rfl (decide_eq_false (h2)) ?_
    refine Y3 ?_
    first|refine Y0 ?_|(refine Zhh rfl ?_; (refine Zhg (Zbp (a := size) (b := 4124) rfl rfl) ?_))
    refine Zhm 23 rfl (decide_eq_true (h3)) ?_
    refine V7 ?_
    refine rx2 (Zhb rfl (Zg9 rfl (Zg7))) ?_
    exact ⟨_, .inr ⟨hno, rfl, rfl⟩, qI⟩
  have hfit : 0 ≤ pages ∧ pages ≤ 65536 ∧ 1 ≤ size ∧ size ≤ 4124 := by omega
  obtain ⟨sz, rfl⟩ : ∃ sz : Nat, size = (sz : Int) := ⟨size.toNat, by omega⟩
  refine fn_x Tryz.func36 rfl rfl rfl Tryz.mixed (by kernel_rfl) ?_
  intro w0
  refine Y6 ?_
  refine Zhg (Zbn (a := pages) (b := 0) rfl rfl) ?_
  refine Zhn 12 rfl (decide_eq_false (h0)) ?_
  refine Y2 ?_
  first|refine Y0 ?_|(refine Zhh rfl ?_; (refine Zhg (Zbp (a := pages) (b := 65536) rfl rfl) ?_))
  refine Zhn 15 rfl (decide_eq_false (h1)) ?_
  refine Y3 ?_
  first|refine Y0 ?_|(refine Zhh rfl ?_; (refine Zhg (Zbn (a := (sz : Int)) (b := 1) rfl rfl) ?_))
  refine Zhn 19 rfl (decide_eq_false (h2)) ?_
  refine Y3 ?_
  first|refine Y0 ?_|(refine Zhh rfl ?_; (refine Zhg (Zbp (a := (sz : Int)) (b := 4124) rfl rfl) ?_))
  refine Zhn 23 rfl (decide_eq_false (h3)) ?_
  refine Y6 ?_
  refine Zif rowsA [] ?_; intro bl
  refine Zif faultsA [] ?_; intro bc
  refine Zhg (Zdm (cs := ncl pages sz bl bc) (by kernel_rfl)) ?_
  refine Zh5 rfl ?_; intro p
  refine V7 ?_
  refine Zgo [(6, 7), (10, 10), (33, 61)] (by kernel_rfl) (fun i : Nat => i ≤ fl.length ∧ (fl.take i).all HostS.kindly = true) (fun i => omap bc faultsA [] (HostS.comes (fl.take i)) :: cl p (ncl pages sz bl bc) 117 :: omap bl rowsA [] (fun _ => []) :: L) (fun i => [(33, nvv i)]) (fun i => fl.length - i) 0 ⟨Nat.zero_le _, rfl⟩ qI ⟨rfl, trivial⟩ ?_
  rintro i u ⟨hi, hk⟩
  refine V3 ?_
  refine Zgg rfl (fun hB => ?_) (fun hB => ?_)
  · have hnext := comes_take fl i hB
    have hkn := kindly_take fl i hB
    have hno := kindly_no i hB
    have hcl := coming_len fl i fl[i].at_
    refine Zgt (fun F w H => (hf.imp (Imp.arr (M := _) qV)).someAt (by omega) H) ?_
    rintro ⟨f1, f2, rfl⟩
    refine Y2 ?_
    refine Zfg rfl ((hf.imp qI).agN fcells_len (by omega) hB) ?_
    refine Zhz (cs := #[.int .i64 0, .int .i64 0, .int .i64 0, .int .i64 0, u8b 0#8, .int .i64 0]) rfl ?_; intro b10
    first|refine Zhy rfl rfl qR qZ (by first|rfl|exact oneM_u8 _|exact oneL_u8 _|assumption|(simp [oneC]; done)) qZ ?_|refine Zhx rfl rfl qR qZ (by first|rfl|exact oneM_u8 _|exact oneL_u8 _|assumption|(simp [oneC]; done)) qZ rfl ?_
    refine V1 ?_
    by_cases k0 : fl[i].kind < 0
    · have hno2 : ¬ HostS.mayBe pages (sz : Int) fl := fun h => by have := h.2; rw [hno (by simp [HostS.kindly]; omega)] at this; cases this
      refine Y2 ?_
      refine Zhp rfl qH ((by rfl)) ?_
      refine Zhg (Zbn (a := fl[i].kind) (b := 0) rfl rfl) ?_
      refine Zhm 39 rfl (decide_eq_true (k0)) ?_
      refine V11 ?_
      refine rx2 (Zhb rfl (Zg9 rfl (Zg7))) ?_
      exact ⟨_, .inr ⟨hno2, rfl, rfl⟩, qI⟩
    by_cases k4 : fl[i].kind > 4
    · have hno2 : ¬ HostS.mayBe pages (sz : Int) fl := fun h => by have := h.2; rw [hno (by simp [HostS.kindly]; omega)] at this; cases this
      refine Y2 ?_
      refine Zhp rfl qH ((by rfl)) ?_
      refine Zhg (Zbn (a := fl[i].kind) (b := 0) rfl rfl) ?_
      refine Zhn 39 rfl (decide_eq_false (k0)) ?_
      refine Y2 ?_
      first|refine Y0 ?_|(refine Zhh rfl ?_; (refine Zhp rfl qH ((by rfl)) ?_))
      first|refine Y0 ?_|(refine Zhh rfl ?_; (refine Zhg (Zbp (a := fl[i].kind) (b := 4) rfl rfl) ?_))
      refine Zhm 43 rfl (decide_eq_true (k4)) ?_
      refine V7 ?_
      refine rx2 (Zhb rfl (Zg9 rfl (Zg7))) ?_
      exact ⟨_, .inr ⟨hno2, rfl, rfl⟩, qI⟩
    have hkf : HostS.kindly fl[i] = true := by simp [HostS.kindly]; omega
    refine Y2 ?_
    refine Zhp rfl qH ((by rfl)) ?_
    refine Zhg (Zbn (a := fl[i].kind) (b := 0) rfl rfl) ?_
    refine Zhn 39 rfl (decide_eq_false (k0)) ?_
    refine Y2 ?_
    first|refine Y0 ?_|(refine Zhh rfl ?_; (refine Zhp rfl qH ((by rfl)) ?_))
    first|refine Y0 ?_|(refine Zhh rfl ?_; (refine Zhg (Zbp (a := fl[i].kind) (b := 4) rfl rfl) ?_))
    refine Zhn 43 rfl (decide_eq_false (k4)) ?_
    refine V3 ?_
    generalize HostS.comes (fl.take i) = cm at *
    refine Zgp (Imp.arr (N := omap bc faultsA [] cm :: cl b10 (fcells fl[i]).toArray 70 :: cl p (ncl pages sz bl bc) 117 :: omap bl rowsA [] (fun _ => []) :: L) qV) ?_
    refine Zom faults_nil fl[i].at_ ?_
    intro v
    refine Zgt (fun F w H => own_shape (E := 70) (size := 6) (n := (cm fl[i].at_).length) (xs := (cm fl[i].at_).flatMap fcells) (H.pick (.there .here))) ?_
    rintro ⟨ca, ck, rfl, hck, hckm⟩
    show xC Tryz.prog _ _ _ (own 70 6 (.slice ca (cm fl[i].at_).length ck) (cm fl[i].at_).length ((cm fl[i].at_).flatMap fcells) :: _) _
    refine Ct.o ?_
    refine Zij ([cl p (ncl pages sz bl bc) 117, cl b10 (fcells fl[i]).toArray 70, ohole bc faultsA [] cm fl[i].at_ (.slice ca (cm fl[i].at_).length ck)]) [5, 9, 11, 12, 13, 14, 15] (.q 0 (.q 1 (.q 2 (.q 4 (.q 6 (.q 7 (.q 8 (.q 10 (.r 3 (.r 5 (.r 9 (.r 11 (.r 12 (.r 13 (.e 14 true (.e 15 true (.e 16 false .nil))))))))))))))))) (by kernel_rfl) (by kernel_rfl) (Imp.arr qV) ?_
    refine W9 ?_
    refine Ziv rfl rfl qH ((by rfl)) ?_
    refine W1 ?_
    refine Ziv rfl rfl qH ((by rfl)) ?_
    refine Zon rfl rfl rfl qH ?_
    refine W1 ?_
    refine Ziq rfl ?_; refine Zh7 (cs := (fcells fl[i]).toArray) (by omega) (by omega) (by exact fill_one (by rfl) rfl) ?_; intro b14; refine Zg3 ⟨fun _ => Imp.arr qV, ?_⟩
    refine Ziq rfl ?_
    refine Zia rfl rfl qH (Rd.cl (xs := fcells fl[i]) qH (fcells_len _) qZ rfl) (by first|rfl|exact oneM_u8 _|exact oneL_u8 _|assumption|(simp [oneC]; done)) (by omega) qS ?_; intro a3 c3
    refine Zg3 ⟨fun _ => Imp.arr qV, ?_⟩
    refine Ziq rfl ?_; refine Zih rfl rfl rfl qR ?_; refine Zg3 ⟨(fun hh => Bool.noConfusion hh), ?_⟩
    refine Zik ?_
    refine V4 ?_
    refine Zgl (i + 1) qO ⟨by omega, by rw [hkn, hk, hkf]; rfl⟩ ?_ ⟨rfl, trivial⟩
    rw [← hnext]
    exact (Imp.arr (N := own 70 6 (.slice a3 ((cm fl[i].at_).length + 1) c3) ((cm fl[i].at_).length + 1) ((cm fl[i].at_).flatMap fcells ++ fcells fl[i]) :: oheld bc faultsA [] cm fl[i].at_ (.slice a3 ((cm fl[i].at_).length + 1) c3) :: cl p (ncl pages sz bl bc) 117 :: omap bl rowsA [] (fun _ => []) :: L) qV).trans hold_one
  · refine Ct.o ?_
    rw [List.take_of_length_le (by omega)] at hk ⊢
    refine V5 ?_
    refine rx2 (Zhb rfl (Zg9 rfl (Zg7))) ?_
    have hok : HostS.Ok (HostS.fresh pages (Int.toNat sz) fl) := ok_fresh pages sz fl hfit hfo hfl
    refine ⟨_, .inl ⟨⟨hfit, hk⟩, p, rfl, rfl⟩, ?_⟩
    refine (Imp.own_nil (E := 65) (size := 15)).trans ?_
    exact (Imp.arr (N := hostP p (HostS.fresh pages (Int.toNat sz) fl) (bl, bc, none, 0) ++ L) qV).trans (hostA_mk hok)
theorem new_ok (pages size : Int) {fv : Value} {fl : List HostS.Fault} (hfl : fl.length ≤ 2932031007401) (hfo : ∀ f ∈ fl, HostS.FOk f) (hf : Rd L 6 fv fl.length (fl.flatMap fcells)) (h : HostS.mayBe pages size fl) :
    Con Tryz.prog 36 [.int .i64 pages, .int .i64 size, fv] L (fun v M => ∃ p, v = .tuple #[hp p, nvv 0] ∧ M = hostA p (HostS.fresh pages size.toNat fl) :: L) :=
  (hnew_c pages size hfl hfo hf).mono fun v M hh => ⟨M, Imp.refl _, hh.elim (·.2) fun hn => absurd h hn.1⟩
theorem new_no (pages size : Int) {fv : Value} {fl : List HostS.Fault} (hfl : fl.length ≤ 2932031007401) (hfo : ∀ f ∈ fl, HostS.FOk f) (hf : Rd L 6 fv fl.length (fl.flatMap fcells)) (h : ¬ HostS.mayBe pages size fl) :
    Con Tryz.prog 36 [.int .i64 pages, .int .i64 size, fv] L (fun v M => v = .tuple #[.pointer none, nvv 2] ∧ M = L) :=
  (hnew_c pages size hfl hfo hf).mono fun v M hh => ⟨M, Imp.refl _, hh.elim (fun hy => absurd hy.1 h) (·.2)⟩
end
end Go.Sl

/- host: its contracts, brought together. -/

/- host: touches compared; what is known of faults that come in. -/
set_option maxHeartbeats 4000000
set_option maxRecDepth 10000
set_option linter.unusedVariables false
set_option linter.unusedSimpArgs false
namespace Go.Sl
open Go Go.Proofs
attribute [local irreducible] pt pur ex all den denOps denS xOps xC cX CX xthen xblk xcut xloop xng retX resX Calls PV Rd Con
attribute [local irreducible] hostA
/-- A touch as the log tells it. -/
structure TOk (t : HostS.Touch) : Prop where
  op : -9223372036854775808 ≤ t.op ∧ t.op ≤ 9223372036854775807
  page : -9223372036854775808 ≤ t.page ∧ t.page ≤ 9223372036854775807
  len : -9223372036854775808 ≤ t.len ∧ t.len ≤ 9223372036854775807
  h12 : t.head.length = 12
def tlits (t : HostS.Touch) : List Lit := .int .i64 t.op :: .int .i64 t.page :: .int .i64 t.len :: t.head.map fun b => Lit.int .u8 (b.toNat : Int)
theorem wf_i64 {n : Int} (h : -9223372036854775808 ≤ n ∧ n ≤ 9223372036854775807) : (Lit.int .i64 n).wf = true := by
  simp only [Lit.wf, Bool.and_eq_true, decide_eq_true_eq]
  have e1 : IntKind.i64.min = -9223372036854775808 := by decide
  have e2 : IntKind.i64.max = 9223372036854775807 := by decide
  omega
theorem tlits_is (t : HostS.Touch) (h : TOk t) : Tryz.prog.keyLits 4 65 (tcells t) = some (tlits t) := by
  obtain ⟨op, page, len, head⟩ := t
  have c3 : Tryz.prog.cellsOf 3 = 1 := by kernel_rfl
  have c5 : Tryz.prog.cellsOf 5 = 1 := by kernel_rfl
  have c61 : Tryz.prog.cellsOf 63 = 12 := by kernel_rfl
  have c63 : Tryz.prog.cellsOf 65 = 15 := by kernel_rfl
  have h12 : head.length = 12 := h.h12
  have e1 := lits_arr (d := 1) (k := .u8) Tryz.underlying63 Tryz.underlying5 c5 c61 (head.map fun b => (b.toNat : Int)) (by simpa using h12) (by
    intro x hx
    obtain ⟨b, _, rfl⟩ := List.mem_map.1 hx
    exact byte_wf b)
  rw [List.map_map, List.map_map] at e1
  have i1 := lits_int (d := 2) Tryz.underlying3 (wf_i64 h.op)
  have i2 := lits_int (d := 2) Tryz.underlying3 (wf_i64 h.page)
  have i3 := lits_int (d := 2) Tryz.underlying3 (wf_i64 h.len)
  unfold Program.keyLits
  rw [Tryz.underlying65]
  have hl : (tcells ⟨op, page, len, head⟩).length = 15 := by simp [tcells, h12]
  simp only [hl, c63, true_and]
  rw [if_pos (by simp)]
  have hh : List.take 12 (List.map u8b head) = List.map (Value.int IntKind.u8 ∘ fun b : Byte => (b.toNat : Int)) head := List.take_of_length_le (by simp [h12])
  simp only [List.mapM_cons, List.mapM_nil, tcells, c3, c61, List.drop_zero, List.cons_append, List.nil_append, List.drop_succ_cons, List.take_succ_cons, List.take_zero, hh]
  simp only [i1, i2, i3, e1]
  simp [tlits, Function.comp_def]
abbrev OTouch := { t : HostS.Touch // TOk t }
def ocells (t : OTouch) : List Value := tcells t.1
theorem ocells_len (t : OTouch) : (ocells t).length = 15 := by simp [ocells, tcells, t.2.h12]
theorem sub_of {l : List HostS.Touch} (h : ∀ t ∈ l, TOk t) : ∃ l' : List OTouch, l = l'.map (·.1) := by
  induction l with
  | nil => exact ⟨[], rfl⟩
  | cons t r ih =>
    obtain ⟨l', h'⟩ := ih (fun x hx => h x (.tail _ hx))
    exact ⟨⟨t, h t (.head _)⟩ :: l', congrArg (t :: ·) h'⟩
theorem tform (t : OTouch) : (Value.agg (ocells t).toArray).formed Tryz.prog 65 = true := by
  have c63 : Tryz.prog.cellsOf 65 = 15 := by kernel_rfl
  simp [Value.formed, Tryz.underlying65, c63, ocells_len]
theorem tlits_inj (a b : HostS.Touch) : a = b ↔ tlits a = tlits b := by
  constructor
  · rintro rfl; rfl
  · intro h
    obtain ⟨a1, a2, a3, a4⟩ := a
    obtain ⟨b1, b2, b3, b4⟩ := b
    simp only [tlits, List.cons.injEq, Lit.int.injEq, true_and] at h
    obtain ⟨rfl, rfl, rfl, h⟩ := h
    rw [ba_inj.2 h]
theorem pv_neq_touch {ρ : Env} {x y : Operand} {T' : Nat} (a b : OTouch) (hx : ev ρ x = .agg (ocells a).toArray) (hy : ev ρ y = .agg (ocells b).toArray) : PV Tryz.prog (.binOp .neq 65 x y T') ρ (.bool (decide (¬ a.1 = b.1))) :=
  Zf7 (m := 4) hx hy (by kernel_rfl) (by omega) (by kernel_rfl) (tform a) (tform b) (tlits_is a.1 a.2) (tlits_is b.1 b.2) (tlits_inj a.1 b.1)
def spoilsF (f : HostS.Fault) : Bool := decide (f.kind = 0 ∨ f.kind = 1 ∨ f.kind = 2)
theorem fc_one (f : HostS.Fault) : (fcells f).all oneC = true := rfl
theorem fc_ones (l : List HostS.Fault) : (l.flatMap fcells).all oneC = true := by
  rw [List.all_eq_true]
  intro v hv
  obtain ⟨f, _, hv⟩ := List.mem_flatMap.1 hv
  exact List.all_eq_true.1 (fc_one f) v hv
structure FaultsIn (L : List Asrt) (fv : Value) (fl : List HostS.Fault) : Prop where
  rd : Rd L 6 fv fl.length (fl.flatMap fcells)
  ok : ∀ f ∈ fl, HostS.FOk f
  len : fl.length * 48 ≤ 140737488351232
end Go.Sl

/- host: a life with faults, and without those that spoil. No program in sight. -/
set_option linter.unusedVariables false
set_option linter.unusedSimpArgs false
namespace Go.Sl
open Go HostS
theorem any_filter (l : List Fault) (q : Fault → Bool) (h : ∀ f, q f = true → spoilsF f = false) : (l.filter fun f => !spoilsF f).any q = l.any q := by
  induction l with
  | nil => rfl
  | cons f r ih =>
    rw [List.filter_cons]
    cases hs : spoilsF f with
    | false => simp [ih]
    | true =>
      have : q f = false := by cases hq : q f with|false => rfl|true => rw [h f hq] at hs; cases hs
      simp [this, ih]
/-- What is to come is what was to come. -/
def Later (fl : List Fault) (s : HS) : Prop := ∀ k : Int, (s.ops : Int) ≤ k → s.coming k = comes fl k
theorem later_does {fl : List Fault} {s : HS} (h : Later fl s) (op page : Int) (b : Bytes) (act : HS → HS) (ha : ∀ s, (act s).coming = s.coming ∧ (act s).ops = s.ops) : Later fl (does s op page b act).1 := by
  have ht : ∀ k : Int, ((s.ops + 1 : Nat) : Int) ≤ k → setF s.coming s.ops [] k = comes fl k := fun k hk => by
    unfold setF; rw [if_neg (by omega)]; exact h k (by omega)
  unfold does
  split
  · exact h
  · dsimp only
    split
    · exact ht
    · have h2 : Later fl (act (logged s op page b)) := fun k hk => by
        rw [(ha _).2] at hk; rw [(ha _).1]; exact ht k hk
      split
      · exact h2
      · exact h2
end Go.Sl

/- the statements' small helpers: lists of bytes compared, copied, joined. -/
set_option maxHeartbeats 4000000
set_option maxRecDepth 10000
set_option linter.unusedVariables false
set_option linter.unusedSimpArgs false
namespace Go.Sl
open Go Go.Proofs
attribute [local irreducible] pt pur ex all den denOps denS xOps xC cX CX xthen xblk xcut xloop xng retX resX Calls PV Rd Con
theorem app_take_succ {α β : Type} {f : α → β} (a : List α) {l : List α} {k : Nat} (h : k < l.length) : (a ++ l.take (k + 1)).map f = (a ++ l.take k).map f ++ [f l[k]] := by
  rw [List.take_succ_eq_append_getElem h, ← List.append_assoc, List.map_append]; rfl
theorem eqBytes_x {L : List Asrt} {va vb : Value} {a b : List Byte} (ha : Bs L va a) (hb : Bs L vb b) : Con Tryz.prog 29 [va, vb] L (fun v M => v = .bool (decide (a = b)) ∧ L = M) := by
  refine Con.get (fun w0 w F H => ha.sh _ _ _ H) ?_
  rintro ⟨aa, ac, rfl, hac, hacm⟩
  refine Con.get (fun w0 w F H => hb.sh _ _ _ H) ?_
  rintro ⟨ba, bc, rfl, hbc, hbcm⟩
  refine fn_x Tryz.func29 rfl rfl rfl Tryz.mixed (by kernel_rfl) ?_
  intro w0
  refine V10 ?_
  refine Zgg rfl (fun hB => ?_) (fun hB => ?_)
  · refine V3 ?_
    refine rx1 (Zha rfl (Zg7)) ?_
    exact ⟨_, ⟨by rw [decide_eq_false (fun h => hB (by rw [h]))], rfl⟩, by exact Imp.arr (by repeat (first|exact Arr.nil|exact Arr.stop|refine Arr.cons (by repeat constructor) ?_|refine Arr.skip ?_))⟩
  have hlen : a.length = b.length := by omega
  refine V3 ?_
  refine Zgo [(4, 5), (11, 25)] (by kernel_rfl) (fun i : Nat => i ≤ a.length ∧ a.take i = b.take i) (fun _ => L) (fun i => [(5, .int .i64 (i : Int))]) (fun i => a.length - i) 0 ⟨by omega, rfl⟩ (Imp.refl _) ⟨rfl, trivial⟩ ?_
  rintro i u ⟨hi, he⟩
  refine V6 ?_
  refine Zgg rfl (fun hB => ?_) (fun hB => ?_)
  · have hib : i < b.length := by omega
    refine Zgt (fun F w H => ha.some (by omega) H) ?_
    rintro ⟨a1, a2, rfl⟩
    refine Zgt (fun F w H => hb.some (by omega) H) ?_
    rintro ⟨b1, b2, rfl⟩
    refine Ct.o ?_
    refine Zij (_) [7] (.q 0 (.q 1 (.q 2 (.q 4 (.q 5 (.q 6 (.r 3 (.r 7 (.q 8 .nil))))))))) (by kernel_rfl) (by kernel_rfl) (Imp.refl _) ?_
    refine W6 ?_
    refine Zi8 (j := i) rfl rfl ha.rd hB (getM (f := u8b) hB) ?_
    refine Zi8 (j := i) rfl rfl hb.rd hib (getM (f := u8b) hib) ?_
    refine Zim rfl (Zjl rfl rfl) ?_
    refine Zik ?_
    refine Ct.o ?_
    refine Zgg rfl (fun hB2 => ?_) (fun hB2 => ?_)
    · refine V3 ?_
      refine rx1 (Zha rfl (Zg7)) ?_
      refine ⟨_, ⟨?_, rfl⟩, by exact Imp.arr (by repeat (first|exact Arr.nil|exact Arr.stop|refine Arr.cons (by repeat constructor) ?_|refine Arr.skip ?_))⟩
      rw [decide_eq_false]
      rintro rfl
      exact hB2 rfl
    · refine V5 ?_
      have hB2 : a[i] = b[i] := by simpa using hB2
      exact Zgl (i + 1) qO ⟨by omega, by rw [List.take_succ_eq_append_getElem hB, List.take_succ_eq_append_getElem hib, he, hB2]⟩ qI ⟨rfl, trivial⟩
  · have hie : i = a.length := by omega
    subst hie
    rw [List.take_length, hlen, List.take_length] at he
    refine V3 ?_
    refine rx1 (Zha rfl (Zg7)) ?_
    exact ⟨_, ⟨by rw [decide_eq_true he], rfl⟩, by exact Imp.arr (by repeat (first|exact Arr.nil|exact Arr.stop|refine Arr.cons (by repeat constructor) ?_|refine Arr.skip ?_))⟩
theorem copyBytes_x {L : List Asrt} {v : Value} {l : List Byte} (h : Bs L v l) (hl : l.length ≤ 140737488355328) : Con Tryz.prog 41 [v] L (fun r M => ∃ a c, r = .slice a l.length c ∧ M = own 5 1 r l.length (l.map u8b) :: L) := by
  refine Con.get (fun w0 w F H => h.sh _ _ _ H) ?_
  rintro ⟨aa, ac, rfl, hac, hacm⟩
  refine fn_x Tryz.func41 rfl rfl rfl Tryz.mixed (by kernel_rfl) ?_
  intro w0
  refine Y6 ?_
  refine Zm3 (f := u8b) (a := 0#8) (len := 0) rfl rfl rfl qS qS qS ?_; intro b7
  refine V5 ?_
  refine Zgo [(3, 4), (8, 20)] (by kernel_rfl) (fun s : Nat × Option Addr × Nat × Nat => s.1 ≤ l.length ∧ s.2.2.2 = s.1) (fun s => own 5 1 (.slice s.2.1 s.1 s.2.2.1) s.1 ((l.take s.1).map u8b) :: L)
    (fun s => [(4, .int .i64 (s.1 : Int)), (3, .slice s.2.1 s.2.2.2 s.2.2.1)]) (fun s => l.length - s.1) (0, some ⟨b7, 0, none⟩, l.length, 0) ⟨Nat.zero_le _, rfl⟩ (Imp.own_mk (Nat.zero_le _) (by dsimp only; omega) (by simp) (by simp)) ⟨rfl, rfl, trivial⟩ ?_
  rintro ⟨i, a, c, n⟩ u ⟨hi, hn⟩
  dsimp only at hi hn ⊢
  subst hn
  refine V6 ?_
  refine Zgg rfl (fun hB => ?_) (fun hB => ?_)
  · refine Zgt (fun F w H => (h.imp qI).some (by omega) H) ?_
    rintro ⟨a1, a2, rfl⟩
    refine Y5 ?_
    refine Zic (j := n) rfl (h.rd.imp qI) hB (getM (f := u8b) hB) ?_
    refine Zh7 (cs := #[.int .u8 _]) (by omega) (by omega) rfl ?_; intro b19
    refine Zia rfl rfl qH (Rd.cl (xs := [u8b l[n]]) qH rfl qZ rfl) qN (by omega) qS ?_; intro a2 c2
    refine V7 ?_
    refine Zgl (n + 1, a2, c2, n + 1) qO ⟨by dsimp only; omega, rfl⟩ ?_ ⟨rfl, rfl, trivial⟩
    dsimp only
    rw [List.take_succ_eq_append_getElem hB, List.map_append]
    exact Imp.arr (by repeat (first|exact Arr.nil|exact Arr.stop|refine Arr.cons (by repeat constructor) ?_|refine Arr.skip ?_))
  · have hie : n = l.length := by omega
    subst hie
    rw [List.take_length]
    refine V4 ?_
    refine rx1 (Zhc rfl (Zg7)) ?_
    exact ⟨_, ⟨a, c, rfl, rfl⟩, by exact Imp.arr (by repeat (first|exact Arr.nil|exact Arr.stop|refine Arr.cons (by repeat constructor) ?_|refine Arr.skip ?_))⟩
end Go.Sl

/- append that keeps what stood there: in place, or beside it. -/
set_option linter.unusedVariables false
set_option linter.unusedSimpArgs false
namespace Go.Sl
open Go
theorem run_append2 {P : Program} {w w0 : World} {L : List Asrt} {ty T E : TypeId} {size by' n m T' cap : Nat} {a : Option Addr} {z xv : Value} {xs news : List Value} {E2 : Nat} [hs : TySlice P T E] [hi : TyI P E size by' z]
    (hd : P.underlying T' = some (.slice E2)) (hz : z.cells.size = size)
    (hn : (Builtin.lenOf xv).run P w = .ok m w) (hr : ∀ d, (Builtin.firstCells size m xv).run P { w with drawn := d } = .ok news.toArray { w with drawn := d })
    (hl : news.length = m * size) (h1 : news.all oneC = true) (hby : by' ≠ 0) (hb : (n + m) * by' ≤ 140737488355328) (hm0 : 0 < m)
    (H : St w0 w (own E size (.slice a n cap) n xs :: L)) :
    ∃ a' cap' w', (Builtin.append_ #[T, T'] ty #[.slice a n cap, xv]).run P w = .ok (.slice a' (n + m) cap') w' ∧
      ((a' = a ∧ cap' = cap ∧ St w0 w' (own E size (.slice a (n + m) cap) (n + m) (xs ++ news) :: L)) ∨ St w0 w' (own E size (.slice a' (n + m) cap') (n + m) (xs ++ news) :: own E size (.slice a n cap) n xs :: L)) := by
  have key : ∀ (hxl : xs.length = n * size) (ho : ∀ d, (Builtin.firstCells size n (.slice a n cap)).run P { w with drawn := d } = .ok xs.toArray { w with drawn := d }) (hgrow : cap < n + m),
      ∃ a' cap' w', (Builtin.append_ #[T, T'] ty #[.slice a n cap, xv]).run P w = .ok (.slice a' (n + m) cap') w' ∧ St w0 w' (own E size (.slice a' (n + m) cap') (n + m) (xs ++ news) :: own E size (.slice a n cap) n xs :: L) := by
    intro hxl ho hgrow
    obtain ⟨c', dr, hc1, hc2, hrun⟩ := run_append_grow (ty := ty) (T := T) (E := E) (z := z) hd hn hr ho hby hgrow hb
    refine ⟨_, _, _, hrun, ?_⟩
    have Hn := H.alloc (.cells (xs.toArray ++ news.toArray ++ Builtin.zeroCells z.cells (c' - (n + m))) E (0, 0))
    refine St.own_mk (cur := xs.toArray ++ news.toArray ++ Builtin.zeroCells z.cells (c' - (n + m))) ⟨Hn.os, Hn.tape, Hn.output, Hn.size, Hn.sat⟩ hc1 hc2 ?_ ?_
    · simp only [Array.size_append, size_zeroC, hz, List.size_toArray, hxl, hl]
      rw [← Nat.add_mul, ← Nat.add_mul]; congr 1; omega
    · simp only [Array.toList_append]
      rw [List.take_append_of_le_length (by simp [hxl, hl, Nat.add_mul]), List.take_of_length_le (by simp [hxl, hl, Nat.add_mul])]
  rcases H.own_get with ⟨hv, rfl, rfl, Hl⟩|⟨g, cap', cur, hv, h2, h3, h4, h5, h6, Hl⟩
  · simp only [Value.slice.injEq] at hv
    obtain ⟨rfl, _, rfl⟩ := hv
    obtain ⟨a', c', w', h, h'⟩ := key (by simp) (fun d => rfl) (by omega)
    exact ⟨a', c', w', h, .inr h'⟩
  · simp only [Value.slice.injEq] at hv
    obtain ⟨rfl, _, rfl⟩ := hv
    by_cases hroom : n + m ≤ cap
    · refine ⟨_, _, _, run_append_room (ty := ty) hd hn (hr w.drawn) hl h1 hroom Hl.cl_get h4, .inl ⟨rfl, rfl, ?_⟩⟩
      have Hn := Hl.set (.cells (wr cur (n * size) news) E (0, 0))
      have hfit : n * size + news.length ≤ cur.size := by rw [hl, h4, ← Nat.add_mul]; exact Nat.mul_le_mul_right _ hroom
      refine St.own_mk (cur := wr cur (n * size) news) Hn hroom h3 (by rw [wr_size, h4]) ?_
      rw [wr_toList _ _ _ hfit, h5, List.take_append_of_le_length (by simp [h6, hl, Nat.add_mul]), List.take_of_length_le (by simp [h6, hl, Nat.add_mul])]
    · obtain ⟨a', c', w', h, h'⟩ := key h6 (fun d => by
        have hg : ({ w with drawn := d } : World).heap[g]? = some (.cells cur E (0, 0)) := Hl.cl_get
        show (loadCells ⟨g, 0, none⟩ (n * size)).run P _ = _
        rw [run_loadCells hg 0 (n * size) (by rw [h4]; have := Nat.mul_le_mul_right size h2; omega)]
        congr 1
        apply Array.ext'
        rw [Array.toList_extract]
        simp [List.extract, h5]) (by omega)
      exact ⟨a', c', w', h, .inr h'⟩
theorem Znp {P : Program} {w0 : World} {ops : Array Oper} {dst : Option Nat} {ty T E : TypeId} {pos : String} {after : Array Edge} {rest : List Oper} {ρ : Env} {K : XK} {M M' : List Asrt} {x y : Operand} {size by' n m T' E' cap : Nat} {a : Option Addr} {z sv : Value} {xs news : List Value} [hs : TySlice P T E] [hi : TyI P E size by' z] [ht : TySlice P T' E']
    (hx : ev ρ x = .slice a n cap) (hy : ev ρ y = sv) (hm : Has M (own E size (.slice a n cap) n xs) M') (hsl : Rd M size sv m news)
    (h1 : news.all oneC = true) (hby : by' ≠ 0) (hb : (n + m) * by' ≤ 140737488355328) (hm0 : 0 < m)
    (k1 : xOps P w0 ops rest (put ρ dst (.slice a (n + m) cap)) (own E size (.slice a (n + m) cap) (n + m) (xs ++ news) :: M') K)
    (k2 : ∀ a' c', xOps P w0 ops rest (put ρ dst (.slice a' (n + m) c')) (own E size (.slice a' (n + m) c') (n + m) (xs ++ news) :: own E size (.slice a n cap) n xs :: M') K) :
    xOps P w0 ops (⟨dst, .call { callee := .builtin .append, args := #[x, y], argTypes := #[T, T'] }, ty, pos, after, none⟩ :: rest) ρ M K := by
  intro F w H
  have hsl := hsl _ _ _ H
  refine Zcy ?_
  obtain ⟨a', c', w', hr, H'⟩ := run_append2 (P := P) (T := T) (E := E) (ty := ty) (xv := sv) (m := m) (news := news) ht.h hi.zs hsl.lenOf (fun d => by
    have := (hsl.drawn d).first (P := P) m (Nat.le_refl _)
    rwa [← hsl.1, List.take_length] at this) hsl.1 h1 hby hb hm0 (H.pick (.there hm))
  have : (execOp (ev ρ) ⟨dst, .call { callee := .builtin .append, args := #[x, y], argTypes := #[T, T'] }, ty, pos, after, none⟩).run P w = .ok (.value (.slice a' (n + m) c')) w' := by
    refine op_run_value ?_
    simp only [List.map_toArray, List.map_cons, List.map_nil, hx, hy]
    exact hr
  rw [this]
  rcases H' with ⟨rfl, rfl, H'⟩|H'
  · exact k1 F w' H'.swap
  · refine k2 a' c' F w' ?_
    exact H'.pick (.there (.there .here))
theorem Znq {P : Program} {w0 : World} {ops : Array Oper} {dst : Option Nat} {ty T E : TypeId} {pos : String} {after : Array Edge} {rest : List Oper} {ρ : Env} {K : XK} {M M' : List Asrt} {x y : Operand} {size by' n m T' E' cap : Nat} {a : Option Addr} {z sv : Value} {xs news : List Value} [hs : TySlice P T E] [hi : TyI P E size by' z] [ht : TySlice P T' E']
    (hx : ev ρ x = .slice a n cap) (hy : ev ρ y = sv) (hm : Has M (own E size (.slice a n cap) n xs) M') (hsl : Rd M size sv m news)
    (h1 : news.all oneC = true) (hby : by' ≠ 0) (hb : (n + m) * by' ≤ 140737488355328) (hm0 : 0 < m)
    (k : ∀ (s : Bool) a' c', (s = true → a' = a ∧ c' = cap) → xOps P w0 ops rest (put ρ dst (.slice a' (n + m) c')) (own E size (.slice a' (n + m) c') (n + m) (xs ++ news) :: all (if s then [] else [own E size (.slice a n cap) n xs]) :: M') K) :
    xOps P w0 ops (⟨dst, .call { callee := .builtin .append, args := #[x, y], argTypes := #[T, T'] }, ty, pos, after, none⟩ :: rest) ρ M K := by
  refine Znp hx hy hm hsl h1 hby hb hm0 ?_ ?_
  · intro F w H
    exact k true a cap (fun _ => ⟨rfl, rfl⟩) F w (H.enx (Imp.cons (Imp.app (L := []))))
  · intro a' c' F w H
    exact k false a' c' (fun h => Bool.noConfusion h) F w (H.enx (Imp.cons (Imp.app (L := [own E size (.slice a n cap) n xs]))))
theorem own_take {E n m c : Nat} {a : Option Addr} {xs : List Value} {M : List Asrt} (h : m ≤ n) : Imp (own E 1 (.slice a n c) n xs :: M) (own E 1 (.slice a m c) m (xs.take m) :: M) :=
  Imp.head fun h' hg => by
    obtain ⟨hl, hg⟩ := hg
    refine ⟨by simp; omega, ?_⟩
    rcases hg with ⟨hv, rfl⟩|⟨g, cap, cur, hv, hg, h1, h2, h3, h4⟩
    · simp only [Value.slice.injEq] at hv
      obtain ⟨rfl, _, rfl⟩ := hv
      obtain rfl : m = 0 := by omega
      exact .inl ⟨rfl, rfl⟩
    · simp only [Value.slice.injEq] at hv
      obtain ⟨rfl, _, rfl⟩ := hv
      exact .inr ⟨g, c, cur, rfl, hg, by omega, h2, h3, by rw [← h4, Nat.mul_one, Nat.mul_one, List.take_take, Nat.min_eq_left h]⟩
end Go.Sl

/- the statements' small helpers: slices that do not share (Apart). -/
set_option maxHeartbeats 4000000
set_option maxRecDepth 10000
set_option linter.unusedVariables false
set_option linter.unusedSimpArgs false
namespace Go.Sl
open Go Go.Proofs
attribute [local irreducible] pt pur ex all den denOps denS xOps xC cX CX xthen xblk xcut xloop xng retX resX Calls PV Rd Con
abbrev ni (n : Nat) : Value := .int .i64 (n : Int)
def mkB (i j : Nat) : Byte := BitVec.ofInt 8 ((i * 31 + j * 7 + 1 : Nat) : Int)
theorem mark_x (i j : Nat) (hi : i ≤ 1048576) (hj : j ≤ 281474976710656) : Con Tryz.prog 73 [ni i, ni j] [] (fun r M => r = u8b (mkB i j) ∧ M = []) := by
  refine fn_x Tryz.func73 rfl rfl rfl Tryz.mixed (by kernel_rfl) ?_
  intro w0
  refine Y10 ?_
  refine Zhg (Zjs rfl) ?_
  refine V2 ?_
  refine rx1 (Zg9 rfl (Zg7)) ?_
  exact ⟨_, ⟨rfl, rfl⟩, by exact Imp.arr (by repeat (first|exact Arr.nil|exact Arr.stop|refine Arr.cons (by repeat constructor) ?_|refine Arr.skip ?_))⟩
abbrev Part := Option Addr × Nat × List Byte
def vP (p : Part) : Value := .slice p.1 p.2.2.length p.2.1
def ownP (p : Part) : Asrt := own 5 1 (vP p) p.2.2.length (p.2.2.map u8b)
def MkUp (i : Nat) (l : List Byte) (n : Nat) : Prop := ∀ j, j < n → l[j]? = some (mkB i j)
theorem MkUp.set {i j : Nat} {l : List Byte} (h : MkUp i l j) (hj : j < l.length) : MkUp i (l.set j (mkB i j)) (j + 1) := by
  intro k hk
  by_cases e : j = k
  · subst e; rw [List.getElem?_set_self hj]
  · rw [List.getElem?_set_ne e]; exact h k (by omega)
theorem MkUp.snoc {i : Nat} {l : List Byte} (h : MkUp i l l.length) : MkUp i (l ++ [mkB i l.length]) (l.length + 1) := by
  intro k hk
  by_cases e : k = l.length
  · subst e; rw [List.getElem?_append_right (Nat.le_refl _), Nat.sub_self]; rfl
  · rw [List.getElem?_append_left (by omega)]; exact h k (by omega)
theorem MkUp.at {i j n : Nat} {l : List Byte} (h : MkUp i l n) (hj : j < n) (hl : j < l.length) : l[j] = mkB i j := by
  have := h j hj
  rw [List.getElem?_eq_getElem hl] at this
  exact Option.some.inj this
def remP (s : Bool) (p : Part) : Asrt := all (if s then [] else [ownP p])
abbrev Trip := Part × Part × Bool
def A2 (t : Trip) : Asrt := all [ownP t.2.1, remP t.2.2 t.1]
/-- What a part and its longer heir are to each other. -/
def Heir (i k : Nat) (p q : Part) (s : Bool) : Prop := MkUp i p.2.2 p.2.2.length ∧ MkUp i q.2.2 q.2.2.length ∧ q.2.2.length = p.2.2.length + k ∧ (s = true → q.1 = p.1 ∧ q.2.1 = p.2.1 ∧ q.2.2.take p.2.2.length = p.2.2)
theorem ownP_bs {M M' : List Asrt} {p : Part} (hm : Has M (ownP p) M') : Bs M (vP p) p.2.2 := Bs.own (E := 5) hm
theorem A2_q {t : Trip} {M : List Asrt} : Bs (A2 t :: M) (vP t.2.1) t.2.1.2.2 :=
  (ownP_bs (p := t.2.1) (M := ownP t.2.1 :: remP t.2.2 t.1 :: M) .here).imp (Imp.unapp (L := [ownP t.2.1, remP t.2.2 t.1]))
theorem A2_p {i k : Nat} {t : Trip} {M : List Asrt} (h : Heir i k t.1 t.2.1 t.2.2) : Bs (A2 t :: M) (vP t.1) t.1.2.2 := by
  obtain ⟨p, q, s⟩ := t
  have h0 : Imp (A2 (p, q, s) :: M) (ownP q :: remP s p :: M) := Imp.unapp (L := [ownP q, remP s p])
  cases s with
  | false =>
    have h1 : Imp (A2 (p, q, false) :: M) (ownP q :: ownP p :: M) := h0.trans (Imp.cons (Imp.unapp (L := [ownP p])))
    exact (ownP_bs (.there .here)).imp h1
  | true =>
    obtain ⟨_, _, hl, h3⟩ := h
    obtain ⟨ha, hc, ht⟩ := h3 rfl
    dsimp only at ha hc ht hl
    have h1 : Imp (A2 (p, q, true) :: M) (ownP p :: remP true p :: M) := by
      refine h0.trans ?_
      have := own_take (E := 5) (n := q.2.2.length) (m := p.2.2.length) (c := q.2.1) (a := q.1) (xs := q.2.2.map u8b) (M := remP true p :: M) (by omega)
      rw [← List.map_take, ht, ha, hc] at this
      have e : ownP q = own 5 1 (.slice p.1 q.2.2.length p.2.1) q.2.2.length (q.2.2.map u8b) := by unfold ownP vP; rw [ha, hc]
      rw [e]
      exact this
    exact (ownP_bs .here).imp h1
theorem star_bs {α : Type} {A : α → Asrt} {l : List α} {x : α} {v : Value} {b : List Byte} (hx : x ∈ l) (h : ∀ R, Bs (A x :: R) v b) {M M' : List Asrt} (hm : Has M (star A l) M') : Bs M v b := by
  obtain ⟨R, hR⟩ := star_has (A := A) hx hm
  exact (h R).imp hR
end Go.Sl

/- the document's host (trystref11): There, befalls, begin, end, Lay, walked. -/
set_option maxHeartbeats 4000000
set_option maxRecDepth 10000
set_option linter.unusedVariables false
set_option linter.unusedSimpArgs false
namespace Go.Sl
open Go Go.Proofs
attribute [local irreducible] pt pur ex all den denOps denS xOps xC cX CX xthen xblk xcut xloop xng retX resX Calls PV Rd Con
attribute [local irreducible] hostA
abbrev rcl (pages : Int) (size : Nat) (fa : Option Addr) (nf fc : Nat) (wa : Option Addr) (nw wc : Nat) (reg : BitVec 64) (ops : Nat) (la : Option Addr) (nl lc : Nat) (down : Bool) : Array Value :=
  #[.int .i64 pages, nvv size, .slice fa nf fc, .slice wa nw wc, u64b reg, nvv ops, .slice la nl lc, .bool down]
abbrev WrE := Int × Part
def wcell (e : WrE) : List Value := [.int .i64 e.1, vP e.2]
theorem wcell_len (e : WrE) : (wcell e).length = 2 := rfl
/-- What was written to a page, the first first. -/
def rowsW (wl : List WrE) (page : Int) : List (List Byte) := (wl.filter fun e => e.1 == page).map (·.2.2.2)
theorem rowsW_app (a b : List WrE) (page : Int) : rowsW (a ++ b) page = rowsW a page ++ rowsW b page := by unfold rowsW; rw [List.filter_append, List.map_append]
theorem rowsW_at (wl : List WrE) (i : Nat) (hi : i < wl.length) (page : Int) : rowsW wl page = rowsW (wl.take i) page ++ ((if wl[i].1 = page then [wl[i].2.2.2] else []) ++ rowsW (wl.drop (i + 1)) page) := by
  have e : wl = wl.take i ++ ([wl[i]] ++ wl.drop (i + 1)) := by
    rw [List.singleton_append, ← List.drop_eq_getElem_cons hi, List.take_append_drop]
  conv => lhs; rw [e]
  rw [rowsW_app, rowsW_app]
  congr 2
  unfold rowsW
  by_cases h : wl[i].1 = page <;> simp [h]
theorem rowsW_drop (wl : List WrE) (i : Nat) (hi : i < wl.length) (page : Int) : rowsW (wl.drop i) page = (if wl[i].1 = page then [wl[i].2.2.2] else []) ++ rowsW (wl.drop (i + 1)) page := by
  rw [List.drop_eq_getElem_cons hi]
  show rowsW ([wl[i]] ++ wl.drop (i + 1)) page = _
  rw [rowsW_app]
  congr 1
  unfold rowsW
  by_cases h : wl[i].1 = page <;> simp [h]
section
variable {q pc : Nat} {pages : Int} {size fc wc ops lc : Nat} {fa wa la : Option Addr} {reg : BitVec 64} {down : Bool} {fl : List HostS.Fault} {wl : List WrE} {log : List HostS.Touch} {nf nw nl : Nat}
theorem rThere_x (page : Int) : Con Tryz.prog 76 [hp q, .int .i64 page] [cl q (rcl pages size fa nf fc wa nw wc reg ops la nl lc down) 92] (fun r M => r = .bool (decide (0 ≤ page ∧ page < pages)) ∧ M = [cl q (rcl pages size fa nf fc wa nw wc reg ops la nl lc down) 92]) := by
  by_cases h0 : 0 ≤ page
  · by_cases h1 : page < pages
    · rw [decide_eq_true ⟨h0, h1⟩]
      refine fn_x Tryz.func76 rfl rfl rfl Tryz.mixed (by kernel_rfl) ?_
      intro w0
      refine Y5 ?_
      refine Zhg (Zbq (b := 0) rfl rfl) ?_
      refine Zhm 6 rfl (decide_eq_true (h0)) ?_
      refine Y6 ?_
      first|refine Y0 ?_|(refine Zhh rfl ?_; (refine Zhg (Zbn rfl rfl) ?_))
      refine Zhm 13 rfl (decide_eq_true (h1)) ?_
      refine V3 ?_
      refine rx1 (Zha rfl (Zg7)) ?_
      exact ⟨_, ⟨rfl, rfl⟩, qI⟩
    · rw [decide_eq_false (fun h => h1 h.2)]
      refine fn_x Tryz.func76 rfl rfl rfl Tryz.mixed (by kernel_rfl) ?_
      intro w0
      refine Y5 ?_
      refine Zhg (Zbq (b := 0) rfl rfl) ?_
      refine Zhm 6 rfl (decide_eq_true (h0)) ?_
      refine Y6 ?_
      first|refine Y0 ?_|(refine Zhh rfl ?_; (refine Zhg (Zbn rfl rfl) ?_))
      refine Zhn 13 rfl (decide_eq_false (h1)) ?_
      refine V3 ?_
      refine rx1 (Zha rfl (Zg7)) ?_
      exact ⟨_, ⟨rfl, rfl⟩, qI⟩
  · rw [decide_eq_false (fun h => h0 h.1)]
    refine fn_x Tryz.func76 rfl rfl rfl Tryz.mixed (by kernel_rfl) ?_
    intro w0
    refine Y5 ?_
    refine Zhg (Zbq (b := 0) rfl rfl) ?_
    refine Zhn 6 rfl (decide_eq_false (h0)) ?_
    refine V10 ?_
    refine rx1 (Zha rfl (Zg7)) ?_
    exact ⟨_, ⟨rfl, rfl⟩, qI⟩
def befF (ops : Nat) (kind : Int) (f : HostS.Fault) : Bool := decide (f.at_ = ops) && decide (f.kind = kind)
theorem rBefalls_x (kind : Int) (hfl : fl.length ≤ 9223372036854775807) : Con Tryz.prog 111 [hp q, .int .i64 kind] [cl q (rcl pages size fa fl.length fc wa wl.length wc reg ops la log.length lc down) 92, own 70 6 (.slice fa fl.length fc) fl.length (fl.flatMap fcells)] (fun r M => r = .bool (fl.any (befF ops kind)) ∧ M = [cl q (rcl pages size fa fl.length fc wa wl.length wc reg ops la log.length lc down) 92, own 70 6 (.slice fa fl.length fc) fl.length (fl.flatMap fcells)]) := by
  refine fn_x Tryz.func111 rfl rfl rfl Tryz.mixed (by kernel_rfl) ?_
  intro w0
  refine V6 ?_
  refine Zgo [(4, 39)] (by kernel_rfl) (fun i : Nat => i ≤ fl.length ∧ (fl.take i).any (befF ops kind) = false) (fun _ => [cl q (rcl pages size fa fl.length fc wa wl.length wc reg ops la log.length lc down) 92, own 70 6 (.slice fa fl.length fc) fl.length (fl.flatMap fcells)]) (fun i => [(5, nvv i)]) (fun i => fl.length - i) 0 ⟨Nat.zero_le _, rfl⟩ qI ⟨rfl, trivial⟩ ?_
  rintro i u ⟨hi, he⟩
  refine V9 ?_
  refine Zgg rfl (fun hB => ?_) (fun hB => ?_)
  · refine Zgt (fun F w H => own_someN (n := fl.length) (a := fa) qH (by omega) H) ?_
    rintro ⟨g, rfl⟩
    have e1 : (fl.take (i + 1)).any (befF ops kind) = ((fl.take i).any (befF ops kind) || befF ops kind fl[i]) := by rw [List.take_succ_eq_append_getElem hB, List.any_append]; simp
    have hrd : ∀ {M M' : List Asrt}, Has M (own 70 6 (.slice (some ⟨g, 0, none⟩) fl.length fc) fl.length (fl.flatMap fcells)) M' → Rd M 6 (.slice (some ⟨g, 0, none⟩) fl.length fc) fl.length (fl.flatMap fcells) := fun h => Rd.own h
    by_cases hop : fl[i].at_ = ops
    · by_cases hk : fl[i].kind = kind
      · refine Ct.o ?_
        refine Zij ([cl q (rcl pages size (some ⟨g, 0, none⟩) fl.length fc wa wl.length wc reg ops la log.length lc down) 92, own 70 6 (.slice (some ⟨g, 0, none⟩) fl.length fc) fl.length (fl.flatMap fcells)]) [11] (.q 0 (.q 1 (.q 2 (.q 4 (.q 8 (.q 9 (.q 10 (.r 3 (.q 5 (.q 6 (.r 7 (.r 11 (.q 12 (.q 13 (.q 14 (.q 15 (.q 16 (.q 18 (.q 22 (.r 17 (.q 19 (.q 20 (.r 21 (.q 23 (.q 24 .nil))))))))))))))))))))))))) (by kernel_rfl) (by kernel_rfl) (Imp.arr qV) ?_
        refine W10 ?_
        refine Zfh rfl rfl (((hrd qH).atN0 (j := 0) fcells_len hB (by omega) rfl)) ?_
        refine W1 ?_
        refine Zim rfl (Zbr (b := (ops : Int)) rfl rfl) ?_
        refine Zi5 27 rfl (decide_eq_true (hop)) ?_
        refine W9 ?_
        first|refine Zi1 rfl rfl ?_|refine Zi2 rfl rfl ?_|refine Zfi rfl rfl rfl (((hrd qH).atN0 (j := 1) fcells_len hB (by omega) rfl)) ?_
        first|refine Zio rfl rfl ?_|refine Zip rfl rfl ?_|refine Zin rfl rfl (Zbr (b := kind) rfl rfl) ?_
        refine Zi5 38 rfl (decide_eq_true (hk)) ?_
        refine W2 ?_
        refine V4 ?_
        refine rx1 (Zha rfl (Zg7)) ?_
        exact ⟨_, ⟨by rw [List.any_eq_true.2 ⟨_, List.getElem_mem hB, by unfold befF; rw [decide_eq_true hop, decide_eq_true hk]; rfl⟩], rfl⟩, qI⟩
      · refine Ct.o ?_
        refine Zij ([cl q (rcl pages size (some ⟨g, 0, none⟩) fl.length fc wa wl.length wc reg ops la log.length lc down) 92, own 70 6 (.slice (some ⟨g, 0, none⟩) fl.length fc) fl.length (fl.flatMap fcells)]) [11] (.q 0 (.q 1 (.q 2 (.q 4 (.q 8 (.q 9 (.q 10 (.r 3 (.q 5 (.q 6 (.r 7 (.r 11 (.q 12 (.q 13 (.q 14 (.q 15 (.q 16 (.q 18 (.q 22 (.r 17 (.q 19 (.q 20 (.r 21 (.q 23 (.q 24 .nil))))))))))))))))))))))))) (by kernel_rfl) (by kernel_rfl) (Imp.arr qV) ?_
        refine W10 ?_
        refine Zfh rfl rfl (((hrd qH).atN0 (j := 0) fcells_len hB (by omega) rfl)) ?_
        refine W1 ?_
        refine Zim rfl (Zbr (b := (ops : Int)) rfl rfl) ?_
        refine Zi5 27 rfl (decide_eq_true (hop)) ?_
        refine W9 ?_
        first|refine Zi1 rfl rfl ?_|refine Zi2 rfl rfl ?_|refine Zfi rfl rfl rfl (((hrd qH).atN0 (j := 1) fcells_len hB (by omega) rfl)) ?_
        first|refine Zio rfl rfl ?_|refine Zip rfl rfl ?_|refine Zin rfl rfl (Zbr (b := kind) rfl rfl) ?_
        refine Zi6 38 rfl (decide_eq_false (hk)) ?_
        refine W2 ?_
        refine V6 ?_
        exact Zgl (i + 1) qO ⟨by omega, by rw [e1, he]; unfold befF; rw [decide_eq_false hk]; simp⟩ qI ⟨rfl, trivial⟩
    · refine Ct.o ?_
      refine Zij ([cl q (rcl pages size (some ⟨g, 0, none⟩) fl.length fc wa wl.length wc reg ops la log.length lc down) 92, own 70 6 (.slice (some ⟨g, 0, none⟩) fl.length fc) fl.length (fl.flatMap fcells)]) [11] (.q 0 (.q 1 (.q 2 (.q 4 (.q 8 (.q 9 (.q 10 (.r 3 (.q 5 (.q 6 (.r 7 (.r 11 (.q 12 (.q 13 (.q 14 (.q 15 (.q 16 (.q 18 (.q 22 (.r 17 (.q 19 (.q 20 (.r 21 (.q 23 (.q 24 .nil))))))))))))))))))))))))) (by kernel_rfl) (by kernel_rfl) (Imp.arr qV) ?_
      refine W10 ?_
      refine Zfh rfl rfl (((hrd qH).atN0 (j := 0) fcells_len hB (by omega) rfl)) ?_
      refine W1 ?_
      refine Zim rfl (Zbr (b := (ops : Int)) rfl rfl) ?_
      refine Zi6 27 rfl (decide_eq_false (hop)) ?_
      refine W13 ?_
      refine V6 ?_
      exact Zgl (i + 1) qO ⟨by omega, by rw [e1, he]; unfold befF; rw [decide_eq_false hop]; simp⟩ qI ⟨rfl, trivial⟩
  · have hie : i = fl.length := by omega
    subst hie
    rw [List.take_length] at he
    refine V3 ?_
    refine rx1 (Zha rfl (Zg7)) ?_
    exact ⟨_, ⟨by rw [he], rfl⟩, qI⟩
end
end Go.Sl

/- the document's host (trystref11): begin, end, Lay, walked. -/
set_option maxHeartbeats 4000000
set_option maxRecDepth 10000
set_option linter.unusedVariables false
set_option linter.unusedSimpArgs false
namespace Go.Sl
open Go Go.Proofs
attribute [local irreducible] pt pur ex all den denOps denS xOps xC cX CX xthen xblk xcut xloop xng retX resX Calls PV Rd Con
attribute [local irreducible] hostA
section
variable {q pc : Nat} {pages : Int} {size fc wc ops lc : Nat} {fa wa la : Option Addr} {reg : BitVec 64} {down : Bool} {fl : List HostS.Fault} {wl : List WrE} {log : List HostS.Touch} {nf nw nl : Nat}
theorem rBegin_down (t : HostS.Touch) : Con Tryz.prog 90 [hp q, .agg (tcells t).toArray] [cl q (rcl pages size fa nf fc wa nw wc reg ops la nl lc true) 92] (fun r M => r = .bool false ∧ M = [cl q (rcl pages size fa nf fc wa nw wc reg ops la nl lc true) 92]) := by
  refine fn_x Tryz.func90 rfl rfl rfl Tryz.mixed (by kernel_rfl) ?_
  intro w0
  refine Y1 ?_
  refine Zh5 rfl ?_; intro b3
  refine V12 ?_
  refine rx1 (Zha rfl (Zg7)) ?_
  exact ⟨_, ⟨rfl, rfl⟩, qI⟩
theorem rBegin_before (t : HostS.Touch) (hfl : fl.length ≤ 9223372036854775807) (hops : ops ≤ 3518437208880) (h : fl.any (befF ops 3) = true) : Con Tryz.prog 90 [hp q, .agg (tcells t).toArray] [cl q (rcl pages size fa fl.length fc wa wl.length wc reg ops la log.length lc false) 92, own 70 6 (.slice fa fl.length fc) fl.length (fl.flatMap fcells)] (fun r M => r = .bool false ∧ M = [cl q (rcl pages size fa fl.length fc wa wl.length wc reg (ops + 1) la log.length lc true) 92, own 70 6 (.slice fa fl.length fc) fl.length (fl.flatMap fcells)]) := by
  refine fn_x Tryz.func90 rfl rfl rfl Tryz.mixed (by kernel_rfl) ?_
  intro w0
  refine Y1 ?_
  refine Zh5 rfl ?_; intro b3
  refine Y11 ?_
  refine Zh8 rfl (by kernel_rfl) (rBefalls_x 3 hfl) rfl qT ?_
  rintro _ _ ⟨rfl, rfl⟩
  refine Y1 ?_
  refine Zhm 10 rfl (h) ?_
  refine V22 ?_
  refine rx1 (Zha rfl (Zg7)) ?_
  exact ⟨_, ⟨rfl, rfl⟩, qI⟩
theorem rBegin_ok (t : HostS.Touch) (ht : t.head.length = 12) (hfl : fl.length ≤ 9223372036854775807) (hll : log.length ≤ 3518437208880) (h : fl.any (befF ops 3) = false) :
    Con Tryz.prog 90 [hp q, .agg (tcells t).toArray] [cl q (rcl pages size fa fl.length fc wa wl.length wc reg ops la log.length lc false) 92, own 70 6 (.slice fa fl.length fc) fl.length (fl.flatMap fcells), own 65 15 (.slice la log.length lc) log.length (log.flatMap tcells)] (fun r M => r = .bool true ∧ ∃ la' lc', M = [cl q (rcl pages size fa fl.length fc wa wl.length wc reg ops la' (log ++ [t]).length lc' false) 92, own 70 6 (.slice fa fl.length fc) fl.length (fl.flatMap fcells), own 65 15 (.slice la' (log ++ [t]).length lc') (log ++ [t]).length ((log ++ [t]).flatMap tcells)]) := by
  have htl := tcells_len t ht
  refine fn_x Tryz.func90 rfl rfl rfl Tryz.mixed (by kernel_rfl) ?_
  intro w0
  refine Y1 ?_
  refine Zh5 rfl ?_; intro b3
  refine Y11 ?_
  refine Zh8 rfl (by kernel_rfl) (rBefalls_x 3 hfl) rfl qT ?_
  rintro _ _ ⟨rfl, rfl⟩
  refine Y1 ?_
  refine Zhn 10 rfl (h) ?_
  refine V2 ?_
  refine Zij ([cl q (rcl pages size fa fl.length fc wa wl.length wc reg ops la log.length lc false) 92, cl b3 (tcells t).toArray 65, own 65 15 (.slice la log.length lc) log.length (log.flatMap tcells)]) [5, 6] (.q 0 (.q 1 (.q 2 (.q 3 (.r 4 (.r 5 (.e 6 true (.e 7 false (.q 8 (.q 9 (.e 10 false .nil))))))))))) (by kernel_rfl) (by kernel_rfl) (Imp.arr qV) ?_
  refine W6 ?_
  refine Ziq rfl ?_; refine Zh7 (cs := (tcells t).toArray) (by omega) (by omega) (by exact fill_one (by show (tcells t).toArray.size = 15; simp [htl]) rfl) ?_; intro b28; refine Zg3 ⟨fun _ => Imp.arr qV, ?_⟩
  refine Ziq rfl ?_
  refine Zia rfl rfl qH (Rd.cl (xs := tcells t) qH htl (by show 0 + 1 * 15 ≤ (tcells t).toArray.size; simp [htl]) (by simp; exact List.take_of_length_le (by omega))) (by first|rfl|exact oneM_u8 _|exact oneL_u8 _|exact fc_one _|exact fc_ones _|exact tcells_one _|(simp [oneC]; done)) (by omega) qS ?_; intro a3 c3
  refine Zg3 ⟨(fun hh => Bool.noConfusion hh), ?_⟩
  refine W2 ?_
  refine Ziq rfl ?_
  refine Y1 ?_
  refine Zg3 ⟨(fun hh => Bool.noConfusion hh), ?_⟩
  refine Zik ?_
  refine V3 ?_
  have e1 : log.flatMap tcells ++ tcells t = (log ++ [t]).flatMap tcells := by simp
  have e2 : log.length + 1 = (log ++ [t]).length := by simp
  rw [e1, e2]
  refine rx1 (Zha rfl (Zg7)) ?_
  exact ⟨_, ⟨rfl, a3, c3, rfl⟩, qI⟩
theorem rEnd_x (hfl : fl.length ≤ 9223372036854775807) (hops : ops ≤ 3518437208880) : Con Tryz.prog 92 [hp q] [cl q (rcl pages size fa fl.length fc wa wl.length wc reg ops la log.length lc down) 92, own 70 6 (.slice fa fl.length fc) fl.length (fl.flatMap fcells)] (fun r M => r = .bool (!fl.any (befF ops 4)) ∧ M = [cl q (rcl pages size fa fl.length fc wa wl.length wc reg (ops + 1) la log.length lc (fl.any (befF ops 4))) 92, own 70 6 (.slice fa fl.length fc) fl.length (fl.flatMap fcells)]) := by
  refine fn_x Tryz.func92 rfl rfl rfl Tryz.mixed (by kernel_rfl) ?_
  intro w0
  refine Y6 ?_
  refine Zh8 rfl (by kernel_rfl) (rBefalls_x 4 hfl) rfl qT ?_
  rintro _ _ ⟨rfl, rfl⟩
  refine Y21 ?_
  refine Zhg (Zb0 rfl) ?_
  refine V2 ?_
  refine rx1 (Zha rfl (Zg7)) ?_
  exact ⟨_, ⟨rfl, rfl⟩, qI⟩
/-- What lay on a page so many writes ago, off the row of all writes. -/
def layW (wl : List WrE) (size : Nat) (page w : Int) : List Byte :=
  let l := rowsW wl page
  let at_ : Int := (l.length : Int) - 1 - max w 0
  if 0 ≤ at_ then l.getD at_.toNat [] else List.replicate size 0#8
theorem layW_hit (wl : List WrE) (size : Nat) (page w : Int) (i : Nat) (hi : i < wl.length) (hp : wl[i].1 = page) (hc : ((rowsW (wl.drop (i + 1)) page).length : Int) = max w 0) : layW wl size page w = wl[i].2.2.2 := by
  unfold layW
  dsimp only
  rw [rowsW_at wl i hi page, if_pos hp, List.length_append, List.length_append, List.length_singleton]
  have e : (((rowsW (wl.take i) page).length + (1 + (rowsW (wl.drop (i + 1)) page).length) : Nat) : Int) - 1 - max w 0 = ((rowsW (wl.take i) page).length : Nat) := by omega
  rw [e, if_pos (by omega), Int.toNat_natCast, List.getD_eq_getElem?_getD, List.getElem?_append_right (by omega), Nat.sub_self]
  rfl
theorem layW_miss (wl : List WrE) (size : Nat) (page w : Int) (h : ((rowsW wl page).length : Int) ≤ max w 0) : layW wl size page w = List.replicate size 0#8 := by
  unfold layW
  dsimp only
  rw [if_neg (by omega)]
theorem rLay_x (page w : Int) (hw : -9223372036854775808 ≤ w ∧ w ≤ 9223372036854775807) (hwl : wl.length ≤ 3518437208880) (hsz : size ≤ 4124) (hb : ∀ e ∈ wl, e.2.2.2.length = size) :
    Con Tryz.prog 77 [hp q, .int .i64 page, .int .i64 w] [cl q (rcl pages size fa fl.length fc wa wl.length wc reg ops la log.length lc down) 92, own 155 2 (.slice wa wl.length wc) wl.length (wl.flatMap wcell), star ownP (wl.map (·.2))] (fun r M => ∃ a c, r = .slice a size c ∧ M = [own 5 1 (.slice a size c) size ((layW wl size page w).map u8b), cl q (rcl pages size fa fl.length fc wa wl.length wc reg ops la log.length lc down) 92, own 155 2 (.slice wa wl.length wc) wl.length (wl.flatMap wcell), star ownP (wl.map (·.2))]) := by
  refine fn_x Tryz.func77 rfl rfl rfl Tryz.mixed (by kernel_rfl) ?_
  intro w0
  refine Y9 ?_
  refine Zhg (Zbh (b := 1) rfl rfl (by omega)) ?_
  refine V2 ?_
  refine Zgo [(2, 2), (6, 8), (15, 42)] (by kernel_rfl) (fun s : Nat × Int => s.1 ≤ wl.length ∧ s.2 = w - (rowsW (wl.drop s.1) page).length ∧ ((rowsW (wl.drop s.1) page).length = 0 ∨ 0 ≤ s.2)) (fun _ => [cl q (rcl pages size fa fl.length fc wa wl.length wc reg ops la log.length lc down) 92, own 155 2 (.slice wa wl.length wc) wl.length (wl.flatMap wcell), star ownP (wl.map (·.2))]) (fun s => [(7, .int .i64 ((s.1 : Int) - 1)), (2, .int .i64 s.2)]) (fun s => s.1) (wl.length, w) ⟨Nat.le_refl _, by rw [List.drop_length]; show w = w - 0; omega, .inl (by rw [List.drop_length]; rfl)⟩ qI ⟨rfl, rfl, trivial⟩ ?_
  rintro ⟨i, b⟩ u ⟨hi, hbe, hbz⟩
  dsimp only at hi hbe hbz ⊢
  refine Y2 ?_
  refine Zhg (Zbq (b := 0) rfl rfl) ?_
  refine V1 ?_
  refine Zgg rfl (fun hB => ?_) (fun hB => ?_)
  · obtain ⟨j, rfl⟩ : ∃ j, i = j + 1 := ⟨i - 1, by omega⟩
    have hj : j < wl.length := by omega
    refine Zgt (fun F w H => own_someN (n := wl.length) (a := wa) qH (by omega) H) ?_
    rintro ⟨g, rfl⟩
    have hrd : ∀ {M M' : List Asrt}, Has M (own 155 2 (.slice (some ⟨g, 0, none⟩) wl.length wc) wl.length (wl.flatMap wcell)) M' → Rd M 2 (.slice (some ⟨g, 0, none⟩) wl.length wc) wl.length (wl.flatMap wcell) := fun h => Rd.own h
    have hdr := rowsW_drop wl j hj page
    by_cases hp : wl[j].1 = page
    · by_cases hb0 : b ≤ 0
      · have hhit : layW wl size page w = wl[j].2.2.2 := layW_hit wl size page w j hj hp (by omega)
        have hlen := hb wl[j] (List.getElem_mem hj)
        obtain ⟨part, hpart⟩ : ∃ part, part = wl[j].2 := ⟨_, rfl⟩
        have hmem : part ∈ wl.map (·.2) := by rw [hpart]; exact List.mem_map_of_mem (List.getElem_mem hj)
        have hbs : ∀ {M M' : List Asrt}, Has M (star ownP (wl.map (·.2))) M' → Bs M (vP part) part.2.2 := fun hm => star_bs hmem (fun R => ownP_bs .here) hm
        have hval : RdAt [own 155 2 (.slice (some ⟨g, 0, none⟩) wl.length wc) wl.length (wl.flatMap wcell)] g (j * 2 + 1) (vP part) := (hrd .here).atN0 (j := 1) wcell_len hj (by omega) (by rw [hpart]; rfl)
        rw [hhit, ← hpart]
        rw [← hpart] at hlen
        obtain ⟨pa, pk, pl⟩ := part
        refine Y6 ?_
        first|refine Zhg (Zl6 (n := j) rfl (int_eq (by push_cast; omega))) ?_|refine Zhg (Zcg (n := j) rfl (int_eq (by push_cast; omega))) ?_
        refine Y1 ?_
        refine Zff rfl (((hrd qH).atN0 (j := 0) wcell_len hj (by omega) rfl)) ?_
        refine Y1 ?_
        refine Zhg (Zbs (b := page) rfl rfl) ?_
        refine Zhn 28 rfl (decide_eq_false ((fun h => h hp))) ?_
        refine Y4 ?_
        refine Zhg (Zbo (b := 0) rfl rfl) ?_
        refine Zhm 30 rfl (decide_eq_true (hb0)) ?_
        refine V5 ?_
        refine Zgp (Imp.own_nil (E := 5) (size := 1)) ?_
        refine Y7 ?_
        first|refine Zhg (Zl6 (n := j) rfl (int_eq (by push_cast; omega))) ?_|refine Zhg (Zcg (n := j) rfl (int_eq (by push_cast; omega))) ?_
        refine Y1 ?_
        refine Zff rfl ((hval.imp qI)) ?_
        refine Zia rfl rfl qH ((hbs qH).rd) (by first|rfl|exact oneM_u8 _|exact oneL_u8 _|exact fc_one _|exact fc_ones _|exact tcells_one _|(simp [oneC]; done)) (by omega) qS ?_; intro a3 c3
        refine V2 ?_
        dsimp only at hlen
        rw [Nat.zero_add, List.nil_append, hlen]
        refine rx1 (Zhc rfl (Zg7)) ?_
        exact ⟨_, ⟨a3, c3, rfl, rfl⟩, qI⟩
      · refine Y6 ?_
        first|refine Zhg (Zl6 (n := j) rfl (int_eq (by push_cast; omega))) ?_|refine Zhg (Zcg (n := j) rfl (int_eq (by push_cast; omega))) ?_
        refine Y1 ?_
        refine Zff rfl (((hrd qH).atN0 (j := 0) wcell_len hj (by omega) rfl)) ?_
        refine Y1 ?_
        refine Zhg (Zbs (b := page) rfl rfl) ?_
        refine Zhn 28 rfl (decide_eq_false ((fun h => h hp))) ?_
        refine Y4 ?_
        refine Zhg (Zbo (b := 0) rfl rfl) ?_
        refine Zhn 30 rfl (decide_eq_false (hb0)) ?_
        refine Y4 ?_
        refine Zhg (Zbh (b := 1) rfl rfl (by omega)) ?_
        refine Y4 ?_
        refine Zhg (Zbh (b := 1) rfl rfl (by omega)) ?_
        refine V2 ?_
        rw [if_pos hp] at hdr
        have hdl : (rowsW (wl.drop j) page).length = (rowsW (wl.drop (j + 1)) page).length + 1 := by rw [hdr]; simp
        exact Zgl (j, b - 1) qO ⟨by dsimp only; omega, by dsimp only; omega, .inr (by dsimp only; omega)⟩ qI ⟨int_eq (by push_cast; omega), rfl, trivial⟩
    · refine Y6 ?_
      first|refine Zhg (Zl6 (n := j) rfl (int_eq (by push_cast; omega))) ?_|refine Zhg (Zcg (n := j) rfl (int_eq (by push_cast; omega))) ?_
      refine Y1 ?_
      refine Zff rfl (((hrd qH).atN0 (j := 0) wcell_len hj (by omega) rfl)) ?_
      refine Y1 ?_
      refine Zhg (Zbs (b := page) rfl rfl) ?_
      refine Zhm 28 rfl (decide_eq_true (hp)) ?_
      refine Y4 ?_
      refine Zhg (Zbh (b := 1) rfl rfl (by omega)) ?_
      refine V2 ?_
      rw [if_neg hp, List.nil_append] at hdr
      exact Zgl (j, b) qO ⟨by dsimp only; omega, by dsimp only; rw [hdr]; exact hbe, by dsimp only; rw [hdr]; exact hbz⟩ qI ⟨int_eq (by push_cast; omega), rfl, trivial⟩
  · have hie : i = 0 := by omega
    subst hie
    rw [List.drop_zero] at hbe hbz
    rw [layW_miss wl size page w (by omega)]
    refine Y5 ?_
    refine Zm3 (f := u8b) (a := 0#8) rfl rfl rfl qS qS qS ?_; intro b47
    refine V2 ?_
    refine rx1 (Zhc rfl (Zg7)) ?_
    refine ⟨_, ⟨some ⟨b47, 0, none⟩, size, rfl, rfl⟩, ?_⟩
    exact (Imp.arr (N := cl b47 ((List.replicate size 0#8).map u8b).toArray 5 :: [cl q (rcl pages size fa fl.length fc wa wl.length wc reg ops la log.length lc down) 92, own 155 2 (.slice wa wl.length wc) wl.length (wl.flatMap wcell), star ownP (wl.map (·.2))]) qV).trans (Imp.own_mk (Nat.le_refl _) (by omega) (by simp) (by simp))
end
end Go.Sl

/- the document's host (trystref11): spoilt, walked. -/
set_option maxHeartbeats 4000000
set_option maxRecDepth 10000
set_option linter.unusedVariables false
set_option linter.unusedSimpArgs false
namespace Go.Sl
open Go Go.Proofs
attribute [local irreducible] pt pur ex all den denOps denS xOps xC cX CX xthen xblk xcut xloop xng retX resX Calls PV Rd Con
attribute [local irreducible] hostA
theorem layW_back {s : HostS.HS} {wl : List WrE} (h : ∀ p, s.lay p = rowsW wl p) (page w : Int) : layW wl s.size page w = HostS.back s page w := by unfold layW HostS.back; rw [h]
theorem comes_next (fl : List HostS.Fault) (k : Int) (i : Nat) (hi : i < fl.length) : HostS.comes (fl.take (i + 1)) k = HostS.comes (fl.take i) k ++ (if fl[i].at_ = k then [fl[i]] else []) := by
  unfold HostS.comes
  rw [List.take_succ_eq_append_getElem hi, List.filter_append]
  congr 1
  by_cases h : fl[i].at_ = k <;> simp [h]
section
variable {q pc : Nat} {pages : Int} {size fc wc ops lc : Nat} {fa wa la : Option Addr} {reg : BitVec 64} {down : Bool} {fl : List HostS.Fault} {wl : List WrE} {log : List HostS.Touch} {nf nw nl : Nat}
theorem rSpoilt_x (s : HostS.HS) (hok : HostS.Ok s) (hpg : s.pages = pages) (hsz : s.size = size) (hlay : ∀ p, s.lay p = rowsW wl p) (page : Int) (hfl : fl.length ≤ 9223372036854775807) (hfo : ∀ f ∈ fl, HostS.FOk f) (hwl : wl.length ≤ 3518437208880) (hb : ∀ e ∈ wl, e.2.2.2.length = size) :
    Con Tryz.prog 91 [hp q, .int .i64 page] [cl q (rcl pages size fa fl.length fc wa wl.length wc reg ops la log.length lc down) 92, own 70 6 (.slice fa fl.length fc) fl.length (fl.flatMap fcells), own 155 2 (.slice wa wl.length wc) wl.length (wl.flatMap wcell), star ownP (wl.map (·.2))] (fun r M => ∃ a c, r = .slice a size c ∧ M = [own 5 1 (.slice a size c) size ((HostS.spoilt s page (HostS.comes fl ops)).map u8b), cl q (rcl pages size fa fl.length fc wa wl.length wc reg ops la log.length lc down) 92, own 70 6 (.slice fa fl.length fc) fl.length (fl.flatMap fcells), own 155 2 (.slice wa wl.length wc) wl.length (wl.flatMap wcell), star ownP (wl.map (·.2))]) := by
  have hz1 := hok.z1
  have hLay := fun (page w : Int) (hw : -9223372036854775808 ≤ w ∧ w ≤ 9223372036854775807) => rLay_x (q := q) (pages := pages) (size := size) (fc := fc) (wc := wc) (ops := ops) (lc := lc) (fa := fa) (wa := wa) (la := la) (reg := reg) (down := down) (fl := fl) (wl := wl) (log := log) page w hw hwl (by omega) hb
  have hbk : ∀ page w, layW wl size page w = HostS.back s page w := fun page w => by rw [← hsz]; exact layW_back hlay page w
  simp only [hbk] at hLay
  have hLay0 := fun page => hLay page 0 (by omega)
  refine fn_x Tryz.func91 rfl rfl rfl Tryz.mixed (by kernel_rfl) ?_
  intro w0
  refine Y6 ?_
  refine Zh8 rfl (by kernel_rfl) (hLay0 page) rfl qT ?_
  rintro _ _ ⟨a0, k0, rfl, rfl⟩
  refine V6 ?_
  refine Zgo [(5, 7), (11, 81)] (by kernel_rfl) (fun t : Nat × Option Addr × Nat => t.1 ≤ fl.length) (fun t => own 5 1 (.slice t.2.1 size t.2.2) size (((HostS.comes (fl.take t.1) ops).foldl (HostS.spoil1 s page) (HostS.back s page 0)).map u8b) :: [cl q (rcl pages size fa fl.length fc wa wl.length wc reg ops la log.length lc down) 92, own 70 6 (.slice fa fl.length fc) fl.length (fl.flatMap fcells), own 155 2 (.slice wa wl.length wc) wl.length (wl.flatMap wcell), star ownP (wl.map (·.2))]) (fun t => [(6, nvv t.1), (5, .slice t.2.1 size t.2.2)]) (fun t => fl.length - t.1) (0, a0, k0) (Nat.zero_le _) (by rw [List.take_zero]; exact qI) ⟨rfl, rfl, trivial⟩ ?_
  rintro ⟨i, a, c⟩ u hi
  dsimp only at hi ⊢
  refine V9 ?_
  refine Zgg rfl (fun hB => ?_) (fun hB => ?_)
  · refine Zgt (fun F w H => own_someN (n := fl.length) (a := fa) qH (by omega) H) ?_
    rintro ⟨g, rfl⟩
    have hrd : ∀ {M M' : List Asrt}, Has M (own 70 6 (.slice (some ⟨g, 0, none⟩) fl.length fc) fl.length (fl.flatMap fcells)) M' → Rd M 6 (.slice (some ⟨g, 0, none⟩) fl.length fc) fl.length (fl.flatMap fcells) := fun h => Rd.own h
    have hcn := comes_next fl ops i hB
    have hfi : HostS.FOk fl[i] := hfo _ (List.getElem_mem hB)
    have hbl : ((HostS.comes (fl.take i) ops).foldl (HostS.spoil1 s page) (HostS.back s page 0)).length = s.size := spoil_len hok page _ _ (back_len hok page 0)
    have hag : RdAg [own 70 6 (.slice (some ⟨g, 0, none⟩) fl.length fc) fl.length (fl.flatMap fcells)] g (i * 6) 6 (fcells fl[i]).toArray := (hrd .here).agN0 fcells_len (by omega) hB
    generalize fl[i] = f at hcn hfi hag
    refine Y7 ?_
    refine Zfg rfl ((hag.imp qI)) ?_
    refine Zhz (cs := #[.int .i64 0, .int .i64 0, .int .i64 0, .int .i64 0, u8b 0#8, .int .i64 0]) rfl ?_; intro b7
    first|refine Zhy rfl rfl qR qZ (by first|rfl|exact oneM_u8 _|exact oneL_u8 _|exact fc_one _|exact fc_ones _|exact tcells_one _|(simp [oneC]; done)) qZ ?_|refine Zhx rfl rfl qR qZ (by first|rfl|exact oneM_u8 _|exact oneL_u8 _|exact fc_one _|exact fc_ones _|exact tcells_one _|(simp [oneC]; done)) qZ rfl ?_
    refine V1 ?_
    by_cases hat : f.at_ = ops
    · rw [if_pos hat] at hcn
      have hcf : (HostS.comes (fl.take (i + 1)) ops).foldl (HostS.spoil1 s page) (HostS.back s page 0) = HostS.spoil1 s page ((HostS.comes (fl.take i) ops).foldl (HostS.spoil1 s page) (HostS.back s page 0)) f := by rw [hcn, List.foldl_append]; rfl
      generalize (HostS.comes (fl.take i) ops).foldl (HostS.spoil1 s page) (HostS.back s page 0) = B at hbl hcf ⊢
      refine Ct.o ?_
      refine Zij ([cl b7 (fcells f).toArray 70, cl q (rcl pages size (some ⟨g, 0, none⟩) fl.length fc wa wl.length wc reg ops la log.length lc down) 92]) [5] (.q 0 (.q 2 (.q 3 (.q 4 (.r 1 (.r 5 (.q 6 .nil))))))) (by kernel_rfl) (by kernel_rfl) (Imp.arr qV) ?_
      refine W6 ?_
      refine Zim rfl (Zbs (b := (ops : Int)) rfl rfl) ?_
      refine Zi6 33 rfl (decide_eq_false ((fun h => h hat))) ?_
      refine Zik ?_
      refine V1 ?_
      by_cases k0 : f.kind = 0
      · by_cases kb : 0 ≤ f.byte
        · by_cases kl : f.byte < size
          · have hib : f.byte.toNat < size := by omega
            replace hcf := hcf.trans (show HostS.spoil1 s page B f = (B.set f.byte.toNat (B[f.byte.toNat]'(by omega) ^^^ f.by_)) from by
              unfold HostS.spoil1
              rw [if_pos k0, if_pos ⟨kb, by omega⟩, List.getD_eq_getElem?_getD, List.getElem?_eq_getElem (by omega)]; rfl)
            refine Zgt (fun F w H => own_some (n := size) (a := a) qH (by omega) H) ?_
            rintro ⟨gb, rfl⟩
            have hg2 : (B.map u8b)[f.byte.toNat]? = some (u8b (B[f.byte.toNat]'(by omega))) := by rw [List.getElem?_map, List.getElem?_eq_getElem (by omega)]; rfl
            refine Y3 ?_
            refine Zhg (Zbr (b := 0) rfl rfl) ?_
            refine Zhm 36 rfl (decide_eq_true (k0)) ?_
            refine Y3 ?_
            first|refine Y0 ?_|(refine Zhh rfl ?_; (refine Zhg (Zbq (b := 0) rfl rfl) ?_))
            refine Zhm 40 rfl (decide_eq_true (kb)) ?_
            refine Y6 ?_
            first|refine Y0 ?_|(refine Zhh rfl ?_; (refine Zhg (Zbn rfl rfl) ?_))
            refine Zhm 47 rfl (decide_eq_true (kl)) ?_
            refine V3 ?_
            refine Zij ([cl b7 (fcells f).toArray 70, own 5 1 (.slice (some ⟨gb, 0, none⟩) size c) size (B.map u8b)]) [5, 6, 7, 9, 10] (.q 0 (.q 1 (.q 3 (.q 4 (.q 8 (.r 2 (.r 5 (.r 6 (.r 7 (.r 9 (.r 10 (.q 11 (.e 12 false .nil))))))))))))) (by kernel_rfl) (by kernel_rfl) (Imp.arr qV) ?_
            refine W7 ?_
            first|refine Ziz rfl (Zl4 (n := f.byte.toNat) rfl (int_eq (by push_cast; omega))) ?_|refine Ziz rfl (Zl1 (n := f.byte.toNat) rfl (int_eq (by push_cast; omega))) ?_
            refine Zfh rfl rfl (((Rd.own (n := size) qH).at0 hib hg2)) ?_
            refine W2 ?_
            first|refine Zim rfl (Zl4 (n := f.byte.toNat) rfl (int_eq (by push_cast; omega))) ?_|refine Zim rfl (Zl1 (n := f.byte.toNat) rfl (int_eq (by push_cast; omega))) ?_
            refine Ziq rfl ?_; refine Zm7 (u := u8b (B[f.byte.toNat]'(by omega) ^^^ f.by_)) (i := f.byte.toNat) (xs := B.map u8b) (ys := (B.set f.byte.toNat (B[f.byte.toNat]'(by omega) ^^^ f.by_)).map u8b) rfl rfl rfl qR hib (by rw [List.map_set]) ?_; refine Zg3 ⟨(fun hh => Bool.noConfusion hh), ?_⟩
            refine Zik ?_
            refine Y3 ?_
            refine Zhg (Zbr (b := 1) rfl rfl) ?_
            refine Zhn 63 rfl (decide_eq_false (by omega)) ?_
            refine Y5 ?_
            refine Zhg (Zbr (b := 2) rfl rfl) ?_
            refine Zhn 71 rfl (decide_eq_false (by omega)) ?_
            refine V13 ?_
            exact Zgl (i + 1, _, c) qO (by dsimp only; omega) (by dsimp only; rw [hcf]; exact qI) ⟨rfl, rfl, trivial⟩
          · replace hcf := hcf.trans (show HostS.spoil1 s page B f = (B) from by unfold HostS.spoil1; rw [if_pos k0, if_neg (by omega)])
            refine Y3 ?_
            refine Zhg (Zbr (b := 0) rfl rfl) ?_
            refine Zhm 36 rfl (decide_eq_true (k0)) ?_
            refine Y3 ?_
            first|refine Y0 ?_|(refine Zhh rfl ?_; (refine Zhg (Zbq (b := 0) rfl rfl) ?_))
            refine Zhm 40 rfl (decide_eq_true (kb)) ?_
            refine Y6 ?_
            first|refine Y0 ?_|(refine Zhh rfl ?_; (refine Zhg (Zbn rfl rfl) ?_))
            refine Zhn 47 rfl (decide_eq_false (kl)) ?_
            refine Y6 ?_
            refine Zhg (Zbr (b := 1) rfl rfl) ?_
            refine Zhn 63 rfl (decide_eq_false (by omega)) ?_
            refine Y5 ?_
            refine Zhg (Zbr (b := 2) rfl rfl) ?_
            refine Zhn 71 rfl (decide_eq_false (by omega)) ?_
            refine V13 ?_
            exact Zgl (i + 1, a, c) qO (by dsimp only; omega) (by dsimp only; rw [hcf]; exact qI) ⟨rfl, rfl, trivial⟩
        · replace hcf := hcf.trans (show HostS.spoil1 s page B f = (B) from by unfold HostS.spoil1; rw [if_pos k0, if_neg (by omega)])
          refine Y3 ?_
          refine Zhg (Zbr (b := 0) rfl rfl) ?_
          refine Zhm 36 rfl (decide_eq_true (k0)) ?_
          refine Y3 ?_
          first|refine Y0 ?_|(refine Zhh rfl ?_; (refine Zhg (Zbq (b := 0) rfl rfl) ?_))
          refine Zhn 40 rfl (decide_eq_false (kb)) ?_
          refine Y13 ?_
          refine Zhg (Zbr (b := 1) rfl rfl) ?_
          refine Zhn 63 rfl (decide_eq_false (by omega)) ?_
          refine Y5 ?_
          refine Zhg (Zbr (b := 2) rfl rfl) ?_
          refine Zhn 71 rfl (decide_eq_false (by omega)) ?_
          refine V13 ?_
          exact Zgl (i + 1, a, c) qO (by dsimp only; omega) (by dsimp only; rw [hcf]; exact qI) ⟨rfl, rfl, trivial⟩
      · refine Y3 ?_
        refine Zhg (Zbr (b := 0) rfl rfl) ?_
        refine Zhn 36 rfl (decide_eq_false (k0)) ?_
        refine V14 ?_
        by_cases k1 : f.kind = 1
        · replace hcf := hcf.trans (show HostS.spoil1 s page B f = (HostS.back s page f.back) from by unfold HostS.spoil1; rw [if_neg k0, if_pos k1])
          have hl2 := hLay page f.back ⟨hfi.b0, hfi.b1⟩
          refine Y3 ?_
          refine Zhg (Zbr (b := 1) rfl rfl) ?_
          refine Zhm 63 rfl (decide_eq_true (k1)) ?_
          refine Y7 ?_
          refine Zh8 rfl (by kernel_rfl) (hl2) rfl qT ?_
          rintro _ _ ⟨a2, k2, rfl, rfl⟩
          refine Y6 ?_
          refine Zhg (Zbr (b := 2) rfl rfl) ?_
          refine Zhn 71 rfl (decide_eq_false (by omega)) ?_
          refine V13 ?_
          exact Zgl (i + 1, a2, k2) qO (by dsimp only; omega) (by dsimp only; rw [hcf]; exact qI) ⟨rfl, rfl, trivial⟩
        · refine Y3 ?_
          refine Zhg (Zbr (b := 1) rfl rfl) ?_
          refine Zhn 63 rfl (decide_eq_false (k1)) ?_
          refine V2 ?_
          by_cases k2 : f.kind = 2
          · by_cases kt : 0 ≤ f.page ∧ f.page < pages
            · have kt2 : HostS.there s f.page := by unfold HostS.there; rw [hpg]; exact kt
              replace hcf := hcf.trans (show HostS.spoil1 s page B f = (HostS.back s f.page 0) from by unfold HostS.spoil1; rw [if_neg k0, if_neg k1, if_pos k2, if_pos kt2])
              have hl2 := hLay0 f.page
              refine Y3 ?_
              refine Zhg (Zbr (b := 2) rfl rfl) ?_
              refine Zhm 71 rfl (decide_eq_true (k2)) ?_
              refine Y4 ?_
              first|refine Y0 ?_|(refine Zhh rfl ?_; (refine Zh8 rfl (by kernel_rfl) (rThere_x f.page) rfl qT ?_); (rintro _ _ ⟨rfl, rfl⟩); (refine Zg2 qA ?_))
              refine Zhm 76 rfl (decide_eq_true (kt)) ?_
              refine Y7 ?_
              refine Zh8 rfl (by kernel_rfl) (hl2) rfl qT ?_
              rintro _ _ ⟨a2, k3, rfl, rfl⟩
              refine V8 ?_
              exact Zgl (i + 1, a2, k3) qO (by dsimp only; omega) (by dsimp only; rw [hcf]; exact qI) ⟨rfl, rfl, trivial⟩
            · have kt2 : ¬ HostS.there s f.page := by unfold HostS.there; rw [hpg]; exact kt
              replace hcf := hcf.trans (show HostS.spoil1 s page B f = (B) from by unfold HostS.spoil1; rw [if_neg k0, if_neg k1, if_pos k2, if_neg kt2])
              refine Y3 ?_
              refine Zhg (Zbr (b := 2) rfl rfl) ?_
              refine Zhm 71 rfl (decide_eq_true (k2)) ?_
              refine Y4 ?_
              first|refine Y0 ?_|(refine Zhh rfl ?_; (refine Zh8 rfl (by kernel_rfl) (rThere_x f.page) rfl qT ?_); (rintro _ _ ⟨rfl, rfl⟩); (refine Zg2 qA ?_))
              refine Zhn 76 rfl (decide_eq_false (kt)) ?_
              refine V8 ?_
              exact Zgl (i + 1, a, c) qO (by dsimp only; omega) (by dsimp only; rw [hcf]; exact qI) ⟨rfl, rfl, trivial⟩
          · replace hcf := hcf.trans (show HostS.spoil1 s page B f = (B) from by unfold HostS.spoil1; rw [if_neg k0, if_neg k1, if_neg k2])
            refine Y3 ?_
            refine Zhg (Zbr (b := 2) rfl rfl) ?_
            refine Zhn 71 rfl (decide_eq_false (k2)) ?_
            refine V13 ?_
            exact Zgl (i + 1, a, c) qO (by dsimp only; omega) (by dsimp only; rw [hcf]; exact qI) ⟨rfl, rfl, trivial⟩
    · rw [if_neg hat, List.append_nil] at hcn
      refine Ct.o ?_
      refine Zij ([cl b7 (fcells f).toArray 70, cl q (rcl pages size (some ⟨g, 0, none⟩) fl.length fc wa wl.length wc reg ops la log.length lc down) 92]) [5] (.q 0 (.q 2 (.q 3 (.q 4 (.r 1 (.r 5 (.q 6 .nil))))))) (by kernel_rfl) (by kernel_rfl) (Imp.arr qV) ?_
      refine W6 ?_
      refine Zim rfl (Zbs (b := (ops : Int)) rfl rfl) ?_
      refine Zi5 33 rfl (decide_eq_true (hat)) ?_
      refine Zik ?_
      refine V6 ?_
      exact Zgl (i + 1, a, c) qO (by dsimp only; omega) (by dsimp only; rw [hcn]; exact qI) ⟨rfl, rfl, trivial⟩
  · have hie : i = fl.length := by omega
    subst hie
    rw [List.take_length]
    refine V4 ?_
    refine rx1 (Zhc rfl (Zg7)) ?_
    exact ⟨_, ⟨a, c, rfl, rfl⟩, qI⟩
end
end Go.Sl

/- the document's host (trystref11): Lies, Read, Ask, Raise, walked. -/
set_option maxHeartbeats 4000000
set_option maxRecDepth 10000
set_option linter.unusedVariables false
set_option linter.unusedSimpArgs false
namespace Go.Sl
open Go Go.Proofs
attribute [local irreducible] pt pur ex all den denOps denS xOps xC cX CX xthen xblk xcut xloop xng retX resX Calls PV Rd Con
attribute [local irreducible] hostA HostS.spoilt HostS.back
abbrev refL (q : Nat) (s : HostS.HS) (fl : List HostS.Fault) (wl : List WrE) (fa : Option Addr) (fc : Nat) (wa : Option Addr) (wc : Nat) (la : Option Addr) (lc : Nat) : List Asrt :=
  [cl q (rcl s.pages s.size fa fl.length fc wa wl.length wc s.reg s.ops la s.log.length lc s.down) 92, own 70 6 (.slice fa fl.length fc) fl.length (fl.flatMap fcells), own 155 2 (.slice wa wl.length wc) wl.length (wl.flatMap wcell), star ownP (wl.map (·.2)), own 65 15 (.slice la s.log.length lc) s.log.length (s.log.flatMap tcells)]
/-- What is known of the document's host beside what it holds. -/
structure RefOk (s : HostS.HS) (fl : List HostS.Fault) (wl : List WrE) : Prop where
  ok : HostS.Ok s
  later : Later fl s
  lay : ∀ p, s.lay p = rowsW wl p
  len : ∀ e ∈ wl, e.2.2.2.length = s.size
  many : wl.length ≤ s.ops
  flen : fl.length * 48 ≤ 140737488351232
  fok : ∀ f ∈ fl, HostS.FOk f
theorem bef_is {s : HostS.HS} {fl : List HostS.Fault} (h : Later fl s) (k : Int) : fl.any (befF s.ops k) = (s.coming s.ops).any fun f => f.kind == k := by
  rw [h s.ops (by omega)]
  unfold HostS.comes
  rw [List.any_filter]
  congr 1
theorem bef3 {s : HostS.HS} {fl : List HostS.Fault} (h : Later fl s) : fl.any (befF s.ops 3) = HostS.before (s.coming s.ops) := bef_is h 3
theorem bef4 {s : HostS.HS} {fl : List HostS.Fault} (h : Later fl s) : fl.any (befF s.ops 4) = HostS.behind (s.coming s.ops) := bef_is h 4
theorem does_down {s : HostS.HS} {op page : Int} {b : HostS.Bytes} {act : HostS.HS → HostS.HS} (h : s.down = true) : HostS.does s op page b act = (s, 110) := by unfold HostS.does; rw [if_pos h]
theorem does_before {s : HostS.HS} {op page : Int} {b : HostS.Bytes} {act : HostS.HS → HostS.HS} (h : s.down = false) (h3 : HostS.before (s.coming s.ops) = true) : HostS.does s op page b act = ({ HostS.taken s with down := true }, 110) := by unfold HostS.does; rw [if_neg (by rw [h]; simp)]; dsimp only; rw [if_pos h3]
theorem does_behind {s : HostS.HS} {op page : Int} {b : HostS.Bytes} {act : HostS.HS → HostS.HS} (h : s.down = false) (h3 : HostS.before (s.coming s.ops) = false) (h4 : HostS.behind (s.coming s.ops) = true) : HostS.does s op page b act = ({ act (HostS.logged s op page b) with down := true }, 110) := by unfold HostS.does; rw [if_neg (by rw [h]; simp)]; dsimp only; rw [if_neg (by rw [h3]; simp), if_pos h4]
theorem does_fine {s : HostS.HS} {op page : Int} {b : HostS.Bytes} {act : HostS.HS → HostS.HS} (h : s.down = false) (h3 : HostS.before (s.coming s.ops) = false) (h4 : HostS.behind (s.coming s.ops) = false) : HostS.does s op page b act = (act (HostS.logged s op page b), 0) := by unfold HostS.does; rw [if_neg (by rw [h]; simp)]; dsimp only; rw [if_neg (by rw [h3]; simp), if_neg (by rw [h4]; simp)]
section
variable {q : Nat} {s : HostS.HS} {fl : List HostS.Fault} {wl : List WrE} {fc wc lc : Nat} {fa wa la : Option Addr}
theorem rLies_x (page : Int) (h : RefOk s fl wl) (hops : s.ops ≤ 3518437208880) : Con Tryz.prog 50 [hp q, .int .i64 page] (refL q s fl wl fa fc wa wc la lc) (fun r M => ∃ a c, r = .slice a (HostS.liesR s page).length c ∧ M = ownB a c (HostS.liesR s page) :: refL q s fl wl fa fc wa wc la lc) := by
  have hm := h.many
  by_cases ht : 0 ≤ page ∧ page < s.pages
  · have e : HostS.liesR s page = HostS.back s page 0 := if_pos ht
    have hl := back_len h.ok page 0
    have hx := rLay_x (q := q) (pages := s.pages) (size := s.size) (fc := fc) (wc := wc) (ops := s.ops) (lc := lc) (fa := fa) (wa := wa) (la := la) (reg := s.reg) (down := s.down) (fl := fl) (wl := wl) (log := s.log) page 0 (by omega) (by omega) h.ok.z1 h.len
    rw [layW_back h.lay] at hx
    rw [e]
    refine fn_x Tryz.func50 rfl rfl rfl Tryz.mixed (by kernel_rfl) ?_
    intro w0
    refine Y6 ?_
    refine Zh8 rfl (by kernel_rfl) (rThere_x page) rfl qT ?_
    rintro _ _ ⟨rfl, rfl⟩
    refine Y1 ?_
    refine Zhm 7 rfl (decide_eq_true (ht)) ?_
    refine Zhg (Zb0 rfl) ?_
    refine Zhn 8 rfl (rfl) ?_
    refine Y5 ?_
    refine Zh8 rfl (by kernel_rfl) (hx) rfl qT ?_
    rintro _ _ ⟨a, c, rfl, rfl⟩
    refine V3 ?_
    refine rx1 (Zhc rfl (Zg7)) ?_
    exact ⟨_, ⟨a, c, by rw [hl], rfl⟩, by unfold ownB; rw [hl]; exact qI⟩
  · have e : HostS.liesR s page = [] := if_neg ht
    rw [e]
    refine fn_x Tryz.func50 rfl rfl rfl Tryz.mixed (by kernel_rfl) ?_
    intro w0
    refine Y6 ?_
    refine Zh8 rfl (by kernel_rfl) (rThere_x page) rfl qT ?_
    rintro _ _ ⟨rfl, rfl⟩
    refine Y1 ?_
    refine Zhn 7 rfl (decide_eq_false (ht)) ?_
    refine Zhg (Zb0 rfl) ?_
    refine Zhm 8 rfl (rfl) ?_
    refine V5 ?_
    refine rx1 (Zhc rfl (Zg7)) ?_
    exact ⟨_, ⟨none, 0, rfl, rfl⟩, (Imp.arr (N := refL q s fl wl fa fc wa wc la lc) qV).trans Imp.own_nil⟩
theorem rRead_x (page : Int) (h : RefOk s fl wl) (hops : s.ops < 3518437208880) : Con Tryz.prog 68 [hp q, .int .i64 page] (refL q s fl wl fa fc wa wc la lc) (fun r M => ∃ a c la' lc', r = .tuple #[.slice a (HostS.readR s page).1.length c, nvv (HostS.readR s page).2.1] ∧ M = ownB a c (HostS.readR s page).1 :: refL q (HostS.readR s page).2.2 fl wl fa fc wa wc la' lc') := by
  have hm := h.many
  have hfl := h.flen
  have hll := h.ok.log
  by_cases ht : 0 ≤ page ∧ page < s.pages
  · have e : HostS.readR s page = if (HostS.does s 0 page [] id).2 = 0 then (HostS.spoilt s page (s.coming s.ops), 0, (HostS.does s 0 page [] id).1) else ([], (HostS.does s 0 page [] id).2, (HostS.does s 0 page [] id).1) := if_pos ht
    have htt : HostS.touchOf s 0 page [] = ⟨0, page, s.size, List.replicate 12 0#8⟩ := rfl
    cases hdn : s.down with
    | true =>
      rw [e, does_down hdn, if_neg (by simp)]
      dsimp only
      refine fn_x Tryz.func68 rfl rfl rfl Tryz.mixed (by kernel_rfl) ?_
      intro w0
      refine Y7 ?_
      refine Zh8 rfl (by kernel_rfl) (rThere_x page) rfl qT ?_
      rintro _ _ ⟨rfl, rfl⟩
      refine Y1 ?_
      refine Zhm 9 rfl (decide_eq_true (ht)) ?_
      refine Zhg (Zb0 rfl) ?_
      refine Zhn 10 rfl (rfl) ?_
      refine V2 ?_
      rw [hdn]
      refine Y7 ?_
      refine Zhg (Zdm (cs := (tcells ⟨0, page, s.size, List.replicate 12 0#8⟩).toArray) rfl) ?_
      refine Zh8 rfl (by kernel_rfl) (rBegin_down ⟨0, page, s.size, List.replicate 12 0#8⟩) rfl qT ?_
      rintro _ _ ⟨rfl, rfl⟩
      refine Y1 ?_
      refine Zhg (Zb0 rfl) ?_
      refine Zhm 19 rfl (rfl) ?_
      refine V6 ?_
      refine rx2 (Zhc rfl (Zg9 rfl (Zg7))) ?_
      exact ⟨_, ⟨none, 0, la, lc, rfl, rfl⟩, (Imp.arr (N := refL q s fl wl fa fc wa wc la lc) (by unfold refL; rw [hdn]; repeat (first|exact Arr.nil|exact Arr.stop|refine Arr.cons (by repeat constructor) ?_|refine Arr.skip ?_))).trans Imp.own_nil⟩
    | false =>
      cases h3 : HostS.before (s.coming s.ops) with
      | true =>
        rw [e, does_before hdn h3, if_neg (by simp)]
        dsimp only
        have hbg := rBegin_before (q := q) (pages := s.pages) (size := s.size) (fc := fc) (wc := wc) (ops := s.ops) (lc := lc) (fa := fa) (wa := wa) (la := la) (reg := s.reg) (fl := fl) (wl := wl) (log := s.log) ⟨0, page, s.size, List.replicate 12 0#8⟩ (by omega) (by omega) (by rw [bef3 h.later, h3])
        refine fn_x Tryz.func68 rfl rfl rfl Tryz.mixed (by kernel_rfl) ?_
        intro w0
        refine Y7 ?_
        refine Zh8 rfl (by kernel_rfl) (rThere_x page) rfl qT ?_
        rintro _ _ ⟨rfl, rfl⟩
        refine Y1 ?_
        refine Zhm 9 rfl (decide_eq_true (ht)) ?_
        refine Zhg (Zb0 rfl) ?_
        refine Zhn 10 rfl (rfl) ?_
        refine V2 ?_
        rw [hdn]
        refine Y7 ?_
        refine Zhg (Zdm (cs := (tcells ⟨0, page, s.size, List.replicate 12 0#8⟩).toArray) rfl) ?_
        refine Zh8 rfl (by kernel_rfl) (hbg) rfl qT ?_
        rintro _ _ ⟨rfl, rfl⟩
        refine Y1 ?_
        refine Zhg (Zb0 rfl) ?_
        refine Zhm 19 rfl (rfl) ?_
        refine V6 ?_
        refine rx2 (Zhc rfl (Zg9 rfl (Zg7))) ?_
        exact ⟨_, ⟨none, 0, la, lc, rfl, rfl⟩, (Imp.arr (N := refL q { HostS.taken s with down := true } fl wl fa fc wa wc la lc) qV).trans Imp.own_nil⟩
      | false =>
        have hbg := rBegin_ok (q := q) (pages := s.pages) (size := s.size) (fc := fc) (wc := wc) (ops := s.ops) (lc := lc) (fa := fa) (wa := wa) (la := la) (reg := s.reg) (fl := fl) (wl := wl) (log := s.log) ⟨0, page, s.size, List.replicate 12 0#8⟩ (by simp) (by omega) (by omega) (by rw [bef3 h.later, h3])
        have hsp := fun la lc => rSpoilt_x (q := q) (pages := s.pages) (size := s.size) (fc := fc) (wc := wc) (ops := s.ops) (lc := lc) (fa := fa) (wa := wa) (la := la) (reg := s.reg) (down := false) (fl := fl) (wl := wl) (log := s.log ++ [⟨0, page, s.size, List.replicate 12 0#8⟩]) s h.ok rfl rfl h.lay page (by omega) h.fok (by omega) h.len
        rw [← h.later s.ops (by omega)] at hsp
        have hsl : (HostS.spoilt s page (s.coming s.ops)).length = s.size := by unfold HostS.spoilt; exact spoil_len h.ok page _ _ (back_len h.ok page 0)
        have hen := fun la lc => rEnd_x (q := q) (pages := s.pages) (size := s.size) (fc := fc) (wc := wc) (ops := s.ops) (lc := lc) (fa := fa) (wa := wa) (la := la) (reg := s.reg) (down := false) (fl := fl) (wl := wl) (log := s.log ++ [⟨0, page, s.size, List.replicate 12 0#8⟩]) (by omega) (by omega)
        rw [bef4 h.later] at hen
        cases h4 : HostS.behind (s.coming s.ops) with
        | true =>
          rw [e, does_behind hdn h3 h4, if_neg (by simp)]
          dsimp only [id]
          rw [h4] at hen
          refine fn_x Tryz.func68 rfl rfl rfl Tryz.mixed (by kernel_rfl) ?_
          intro w0
          refine Y7 ?_
          refine Zh8 rfl (by kernel_rfl) (rThere_x page) rfl qT ?_
          rintro _ _ ⟨rfl, rfl⟩
          refine Y1 ?_
          refine Zhm 9 rfl (decide_eq_true (ht)) ?_
          refine Zhg (Zb0 rfl) ?_
          refine Zhn 10 rfl (rfl) ?_
          refine V2 ?_
          rw [hdn]
          refine Y7 ?_
          refine Zhg (Zdm (cs := (tcells ⟨0, page, s.size, List.replicate 12 0#8⟩).toArray) rfl) ?_
          refine Zh8 rfl (by kernel_rfl) (hbg) rfl qT ?_
          rintro _ _ ⟨rfl, l1, m1, rfl⟩
          refine Y1 ?_
          refine Zhg (Zb0 rfl) ?_
          refine Zhn 19 rfl (rfl) ?_
          refine Y5 ?_
          refine Zh8 rfl (by kernel_rfl) (hsp l1 m1) rfl qT ?_
          rintro _ _ ⟨a1, k1, rfl, rfl⟩
          refine Y5 ?_
          refine Zh8 rfl (by kernel_rfl) (hen l1 m1) rfl qT ?_
          rintro _ _ ⟨rfl, rfl⟩
          refine Y1 ?_
          refine Zhg (Zb0 rfl) ?_
          refine Zhm 25 rfl (rfl) ?_
          refine V6 ?_
          refine rx2 (Zhc rfl (Zg9 rfl (Zg7))) ?_
          exact ⟨_, ⟨none, 0, l1, m1, rfl, rfl⟩, (Imp.arr (N := refL q { HostS.logged s 0 page [] with down := true } fl wl fa fc wa wc l1 m1) qV).trans Imp.own_nil⟩
        | false =>
          rw [e, does_fine hdn h3 h4, if_pos rfl]
          dsimp only [id]
          rw [h4] at hen
          refine fn_x Tryz.func68 rfl rfl rfl Tryz.mixed (by kernel_rfl) ?_
          intro w0
          refine Y7 ?_
          refine Zh8 rfl (by kernel_rfl) (rThere_x page) rfl qT ?_
          rintro _ _ ⟨rfl, rfl⟩
          refine Y1 ?_
          refine Zhm 9 rfl (decide_eq_true (ht)) ?_
          refine Zhg (Zb0 rfl) ?_
          refine Zhn 10 rfl (rfl) ?_
          refine V2 ?_
          rw [hdn]
          refine Y7 ?_
          refine Zhg (Zdm (cs := (tcells ⟨0, page, s.size, List.replicate 12 0#8⟩).toArray) rfl) ?_
          refine Zh8 rfl (by kernel_rfl) (hbg) rfl qT ?_
          rintro _ _ ⟨rfl, l1, m1, rfl⟩
          refine Y1 ?_
          refine Zhg (Zb0 rfl) ?_
          refine Zhn 19 rfl (rfl) ?_
          refine Y5 ?_
          refine Zh8 rfl (by kernel_rfl) (hsp l1 m1) rfl qT ?_
          rintro _ _ ⟨a1, k1, rfl, rfl⟩
          refine Y5 ?_
          refine Zh8 rfl (by kernel_rfl) (hen l1 m1) rfl qT ?_
          rintro _ _ ⟨rfl, rfl⟩
          refine Y1 ?_
          refine Zhg (Zb0 rfl) ?_
          refine Zhn 25 rfl (rfl) ?_
          refine V7 ?_
          refine rx2 (Zhc rfl (Zg9 rfl (Zg7))) ?_
          refine ⟨_, ⟨a1, k1, l1, m1, by rw [hsl]; rfl, rfl⟩, ?_⟩
          unfold ownB refL
          rw [hsl, show (HostS.logged s 0 page []).down = false from hdn]
          exact qI
  · have e : HostS.readR s page = ([], 2, s) := if_neg ht
    rw [e]
    refine fn_x Tryz.func68 rfl rfl rfl Tryz.mixed (by kernel_rfl) ?_
    intro w0
    refine Y7 ?_
    refine Zh8 rfl (by kernel_rfl) (rThere_x page) rfl qT ?_
    rintro _ _ ⟨rfl, rfl⟩
    refine Y1 ?_
    refine Zhn 9 rfl (decide_eq_false (ht)) ?_
    refine Zhg (Zb0 rfl) ?_
    refine Zhm 10 rfl (rfl) ?_
    refine V6 ?_
    refine rx2 (Zhc rfl (Zg9 rfl (Zg7))) ?_
    exact ⟨_, ⟨none, 0, la, lc, rfl, rfl⟩, (Imp.arr (N := refL q s fl wl fa fc wa wc la lc) qV).trans Imp.own_nil⟩
end
end Go.Sl

/- the document's host (trystref11): Ask, Raise, walked. -/
set_option maxHeartbeats 4000000
set_option maxRecDepth 10000
set_option linter.unusedVariables false
set_option linter.unusedSimpArgs false
namespace Go.Sl
open Go Go.Proofs
attribute [local irreducible] pt pur ex all den denOps denS xOps xC cX CX xthen xblk xcut xloop xng retX resX Calls PV Rd Con
attribute [local irreducible] hostA HostS.spoilt HostS.back
section
variable {q : Nat} {s : HostS.HS} {fl : List HostS.Fault} {wl : List WrE} {fc wc lc : Nat} {fa wa la : Option Addr}
end
end Go.Sl

/- the document's host (trystref11): Write, walked; what is known of it stays known. -/
set_option maxHeartbeats 4000000
set_option maxRecDepth 10000
set_option linter.unusedVariables false
set_option linter.unusedSimpArgs false
namespace Go.Sl
open Go Go.Proofs
attribute [local irreducible] pt pur ex all den denOps denS xOps xC cX CX xthen xblk xcut xloop xng retX resX Calls PV Rd Con
attribute [local irreducible] hostA HostS.spoilt HostS.back
theorem ok_logged {s : HostS.HS} (op page : Int) (b : HostS.Bytes) (h : HostS.Ok s) : HostS.Ok (HostS.logged s op page b) := by
  have h1 := ok_taken h
  exact ⟨h1.p0, h1.p1, h1.z0, h1.z1, h1.row, h1.many, by show (s.log ++ [_]).length ≤ s.ops + 1; rw [List.length_append]; have := h.log; simpa using this, h1.flt, h1.fln⟩
theorem ok_does {s : HostS.HS} (op page : Int) (b : HostS.Bytes) (act : HostS.HS → HostS.HS) (h : HostS.Ok s) (ha : HostS.Ok (HostS.logged s op page b) → HostS.Ok (act (HostS.logged s op page b))) : HostS.Ok (HostS.does s op page b act).1 := by
  unfold HostS.does
  split
  · exact h
  · dsimp only
    split
    · exact ok_down true (ok_taken h)
    · have h2 := ha (ok_logged op page b h)
      split
      · exact ok_down true h2
      · exact h2
theorem lay_does {s : HostS.HS} (op page : Int) (b : HostS.Bytes) (act : HostS.HS → HostS.HS) (ha : ∀ s, (act s).lay = s.lay ∧ (act s).size = s.size) : (HostS.does s op page b act).1.lay = s.lay ∧ (HostS.does s op page b act).1.size = s.size := by
  have h2 := ha (HostS.logged s op page b)
  unfold HostS.does
  split
  · exact ⟨rfl, rfl⟩
  · dsimp only
    split
    · exact ⟨rfl, rfl⟩
    · split
      · exact h2
      · exact h2
theorem ops_ge (s : HostS.HS) (op page : Int) (b : HostS.Bytes) (act : HostS.HS → HostS.HS) (ha : ∀ s, (act s).ops = s.ops) : s.ops ≤ (HostS.does s op page b act).1.ops := by
  unfold HostS.does
  split
  · exact Nat.le_refl _
  · dsimp only
    split
    · exact Nat.le_succ _
    · have : (act (HostS.logged s op page b)).ops = s.ops + 1 := by rw [ha]; rfl
      split
      · show s.ops ≤ (act (HostS.logged s op page b)).ops; omega
      · show s.ops ≤ (act (HostS.logged s op page b)).ops; omega
theorem refok_does {s : HostS.HS} {fl : List HostS.Fault} {wl : List WrE} (h : RefOk s fl wl) (op page : Int) (b : HostS.Bytes) (act : HostS.HS → HostS.HS) (ha : ∀ s, (act s).lay = s.lay ∧ (act s).size = s.size ∧ (act s).coming = s.coming ∧ (act s).ops = s.ops) (hk : HostS.Ok (HostS.logged s op page b) → HostS.Ok (act (HostS.logged s op page b))) : RefOk (HostS.does s op page b act).1 fl wl := by
  obtain ⟨l1, l2⟩ := lay_does (s := s) op page b act (fun s => ⟨(ha s).1, (ha s).2.1⟩)
  refine ⟨ok_does op page b act h.ok hk, later_does h.later op page b act (fun s => ⟨(ha s).2.2.1, (ha s).2.2.2⟩), fun p => by rw [l1]; exact h.lay p, fun e he => by rw [l2]; exact h.len e he, Nat.le_trans h.many (ops_ge s op page b act (fun s => (ha s).2.2.2)), h.flen, h.fok⟩
theorem refok_read {s : HostS.HS} {fl : List HostS.Fault} {wl : List WrE} (h : RefOk s fl wl) (page : Int) : RefOk (HostS.readR s page).2.2 fl wl := by
  have d := refok_does h 0 page [] id (fun _ => ⟨rfl, rfl, rfl, rfl⟩) (fun h => h)
  unfold HostS.readR
  split
  · dsimp only
    split
    · exact d
    · exact d
  · exact h
/-- Behind a write that was done. -/
theorem refok_wrote {s s' : HostS.HS} {fl : List HostS.Fault} {wl : List WrE} (h : RefOk s fl wl) (page : Int) (b : HostS.Bytes) (p : Part) (hp : p.2.2 = b) (hb : b.length = s.size) (h1 : HostS.Ok s') (h2 : s'.lay = HostS.setF s.lay page (s.lay page ++ [b])) (h3 : s'.size = s.size) (h4 : s'.ops = s.ops + 1) (h5 : s'.coming = HostS.setF s.coming s.ops []) : RefOk s' fl (wl ++ [(page, p)]) := by
  refine ⟨h1, ?_, ?_, ?_, by rw [List.length_append, h4]; have := h.many; simpa using this, h.flen, h.fok⟩
  · intro k hk
    rw [h4] at hk
    rw [h5]
    unfold HostS.setF
    rw [if_neg (by omega)]
    exact h.later k (by omega)
  · intro k
    rw [h2, rowsW_app, ← h.lay k]
    unfold HostS.setF rowsW
    by_cases e : k = page
    · subst e; simp [hp]
    · have e2 : ¬ page = k := fun hh => e hh.symm
      simp [e, e2]
  · intro e he
    rw [h3]
    rw [List.mem_append, List.mem_singleton] at he
    rcases he with he|rfl
    · exact h.len e he
    · rw [hp]; exact hb
def headAt (b : List Byte) (k : Nat) : List Byte := b.take k ++ List.replicate (12 - k) 0#8
theorem headAt_set (b : List Byte) (k : Nat) (hk : k < 12) (hb : k < b.length) : (headAt b k).set k b[k] = headAt b (k + 1) := by
  unfold headAt
  rw [List.set_append_right _ _ (by simp; omega), List.length_take, Nat.min_eq_left (by omega), Nat.sub_self, show 12 - k = (12 - (k + 1)) + 1 by omega, List.replicate_succ, List.set_cons_zero, List.take_succ_eq_append_getElem hb, List.append_assoc]; rfl
theorem headAt_end (b : List Byte) (k : Nat) (hk : k ≤ 12) (hb : k ≤ b.length) (h : ¬ (k < 12 ∧ k < b.length)) : headAt b k = HostS.headOf b := by
  unfold headAt HostS.headOf
  by_cases h12 : k = 12
  · subst h12
    rw [show 12 - b.length = 0 by omega]
  · have : k = b.length := by omega
    subst this
    rw [List.take_length, List.take_of_length_le (by omega)]
theorem headAt_len (b : List Byte) (k : Nat) (hk : k ≤ 12) (hb : k ≤ b.length) : (headAt b k).length = 12 := by simp [headAt]; omega
theorem tcells_set (op page len : Int) (x : Byte) (h : List Byte) (k : Nat) : (tcells ⟨op, page, len, h⟩).toArray.setIfInBounds (3 + k) (u8b x) = (tcells ⟨op, page, len, h.set k x⟩).toArray := by
  apply Array.ext'
  rw [Array.toList_setIfInBounds]
  show ([Value.int .i64 op, .int .i64 page, .int .i64 len] ++ h.map u8b).set (3 + k) (u8b x) = [Value.int .i64 op, .int .i64 page, .int .i64 len] ++ (h.set k x).map u8b
  rw [List.set_append_right _ _ (by simp)]
  simp
section
variable {q : Nat} {s : HostS.HS} {fl : List HostS.Fault} {wl : List WrE} {fc wc lc : Nat} {fa wa la : Option Addr}
theorem rWrite_x {L : List Asrt} (page : Int) {vb : Value} {b : List Byte} (hb : Bs L vb b) (hbl : b.length ≤ 140737488351232) (h : RefOk s fl wl) (hops : s.ops < 3518437208880) :
    Con Tryz.prog 98 [hp q, .int .i64 page, vb] (refL q s fl wl fa fc wa wc la lc ++ L) (fun r M => r = nvv (HostS.writeR s page b).1 ∧ ∃ wl' wa' wc' la' lc', RefOk (HostS.writeR s page b).2 fl wl' ∧ M = refL q (HostS.writeR s page b).2 fl wl' fa fc wa' wc' la' lc' ++ L) := by
  have hm := h.many
  have hfl := h.flen
  have hll := h.ok.log
  have hz1 := h.ok.z1
  refine Con.get (fun w0 w F H => (hb.imp (Imp.arr (M := refL q s fl wl fa fc wa wc la lc ++ L) qV)).sh _ _ _ H) ?_
  rintro ⟨ba, bc, rfl, _, _⟩
  unfold HostS.writeR
  unfold refL
  simp only [List.cons_append, List.nil_append]
  by_cases ht : 0 ≤ page ∧ page < s.pages
  · rw [if_pos (show HostS.there s page from ht)]
    by_cases hsz : b.length = s.size
    · rw [if_pos hsz]
      dsimp only
      have hwr := fun hh => ok_wrote page 1 b hsz h.ok hh
      have hbg1 := rBegin_before (q := q) (pages := s.pages) (size := s.size) (fc := fc) (wc := wc) (ops := s.ops) (lc := lc) (fa := fa) (wa := wa) (la := la) (reg := s.reg) (fl := fl) (wl := wl) (log := s.log) (⟨1, page, s.size, HostS.headOf b⟩ : HostS.Touch) (by omega) (by omega)
      have hbg2 := rBegin_ok (q := q) (pages := s.pages) (size := s.size) (fc := fc) (wc := wc) (ops := s.ops) (lc := lc) (fa := fa) (wa := wa) (la := la) (reg := s.reg) (fl := fl) (wl := wl) (log := s.log) (⟨1, page, s.size, HostS.headOf b⟩ : HostS.Touch) (headOf_len b) (by omega) (by omega)
      rw [bef3 h.later] at hbg1 hbg2
      refine fn_x Tryz.func98 rfl rfl rfl Tryz.mixed (by kernel_rfl) ?_
      intro w0
      refine Y6 ?_
      refine Zh8 rfl (by kernel_rfl) (rThere_x page) rfl qT ?_
      rintro _ _ ⟨rfl, rfl⟩
      refine Y1 ?_
      refine Zhm 12 rfl (decide_eq_true (ht)) ?_
      refine Zhg (Zb0 rfl) ?_
      refine Zhn 13 rfl (rfl) ?_
      refine Y10 ?_
      refine Zhn 20 rfl (decide_eq_false ((fun hh => hh hsz))) ?_
      refine Y8 ?_
      refine Zhg (Zdm (cs := (tcells ⟨1, page, s.size, headAt b 0⟩).toArray) rfl) ?_
      refine Zhz (cs := #[.int .i64 0, .int .i64 0, .int .i64 0, u8b 0#8, u8b 0#8, u8b 0#8, u8b 0#8, u8b 0#8, u8b 0#8, u8b 0#8, u8b 0#8, u8b 0#8, u8b 0#8, u8b 0#8, u8b 0#8]) rfl ?_; intro b7
      first|refine Zhy rfl rfl qR qZ (by first|rfl|exact oneM_u8 _|exact oneL_u8 _|exact fc_one _|exact fc_ones _|exact tcells_one _|(simp [oneC]; done)) qZ ?_|refine Zhx rfl rfl qR qZ (by first|rfl|exact oneM_u8 _|exact oneL_u8 _|exact fc_one _|exact fc_ones _|exact tcells_one _|(simp [oneC]; done)) qZ rfl ?_
      refine Y4 ?_
      repeat (first|refine zA ?_|refine zB ?_|refine zD ?_|refine zE ?_|refine zF ?_|refine zG ?_|refine zH ?_|refine zI ?_|refine zJ ?_|refine zK ?_|refine zL ?_|refine zM rfl ?_|refine zN ?_|refine zO ?_|refine zP ?_|refine zQ ?_)
      refine Zgn [(8, 8), (27, 43)] (by kernel_rfl) (fun _ : Unit => True) (fun _ => cl b7 (tcells (⟨1, page, s.size, HostS.headOf b⟩ : HostS.Touch)).toArray 65 :: cl q (rcl s.pages s.size fa fl.length fc wa wl.length wc s.reg s.ops la s.log.length lc s.down) 92 :: own 70 6 (.slice fa fl.length fc) fl.length (fl.flatMap fcells) :: own 155 2 (.slice wa wl.length wc) wl.length (wl.flatMap wcell) :: star ownP (wl.map (·.2)) :: own 65 15 (.slice la s.log.length lc) s.log.length (s.log.flatMap tcells) :: L) (fun _ => []) ?_ ?_
      · refine Ct.o ?_
        refine Zgo [(8, 8), (27, 43)] (by kernel_rfl) (fun k : Nat => k ≤ 12 ∧ k ≤ b.length) (fun k => cl b7 (tcells ⟨1, page, s.size, headAt b k⟩).toArray 65 :: cl q (rcl s.pages s.size fa fl.length fc wa wl.length wc s.reg s.ops la s.log.length lc s.down) 92 :: own 70 6 (.slice fa fl.length fc) fl.length (fl.flatMap fcells) :: own 155 2 (.slice wa wl.length wc) wl.length (wl.flatMap wcell) :: star ownP (wl.map (·.2)) :: own 65 15 (.slice la s.log.length lc) s.log.length (s.log.flatMap tcells) :: L) (fun k => [(8, nvv k)]) (fun k => 12 - k) 0 ⟨by omega, Nat.zero_le _⟩ qI ⟨rfl, trivial⟩ ?_
        rintro k u ⟨hk12, hkb⟩
        have hsz15 : (tcells ⟨1, page, s.size, headAt b k⟩).toArray.size = 15 := by simp [tcells, headAt_len b k hk12 hkb]
        by_cases hk : k < 12
        · by_cases hkl : k < b.length
          · refine Y3 ?_
            refine Zhm 28 rfl (decide_eq_true (hk)) ?_
            refine Y5 ?_
            refine Zhm 33 rfl (decide_eq_true (hkl)) ?_
            refine V3 ?_
            refine Zgt (fun F w H => (hb.imp (Imp.arr (M := _) qV)).some (by omega) H) ?_
            rintro ⟨b1, b2, rfl⟩
            refine Y4 ?_
            first|refine Zhg (Zl4 (n := k) rfl (int_eq (by push_cast; omega))) ?_|refine Zhg (Zl1 (n := k) rfl (int_eq (by push_cast; omega))) ?_
            refine Zff rfl (((hb.rd.imp qI).at hkl (getM hkl))) ?_
            refine Y1 ?_
            first|refine Zhg (Zl5 (n := k) rfl (int_eq (by push_cast; omega))) ?_|refine Zhg (Zl3 (n := k) rfl (int_eq (by push_cast; omega))) ?_
            refine Zht rfl rfl qR qZ (tcells_set 1 page s.size b[k] (headAt b k) k) ?_
            refine V1 ?_
            rw [headAt_set b k hk hkl]
            refine V5 ?_
            exact Zgl (k + 1) qO ⟨by omega, by omega⟩ qI ⟨rfl, trivial⟩
          · refine Y3 ?_
            refine Zhm 28 rfl (decide_eq_true (hk)) ?_
            refine Y5 ?_
            refine Zhn 33 rfl (decide_eq_false (hkl)) ?_
            refine V3 ?_
            rw [headAt_end b k hk12 hkb (fun hh => hkl hh.2)]
            exact Zgk () trivial qI trivial
        · refine Y3 ?_
          refine Zhn 28 rfl (decide_eq_false (hk)) ?_
          refine V8 ?_
          rw [headAt_end b k hk12 hkb (fun hh => hk hh.1)]
          exact Zgk () trivial qI trivial
      intro _ u _
      try dsimp only
      refine Ct.o ?_
      have hsz15 : (tcells (⟨1, page, s.size, HostS.headOf b⟩ : HostS.Touch)).toArray.size = 15 := by simp [tcells, headOf_len]
      cases hdn : s.down with
      | true =>
        rw [does_down hdn]
        dsimp only
        refine Y3 ?_
        refine Zh8 rfl (by kernel_rfl) (rBegin_down (⟨1, page, s.size, HostS.headOf b⟩ : HostS.Touch)) rfl qT ?_
        rintro _ _ ⟨rfl, rfl⟩
        refine Y1 ?_
        refine Zhg (Zb0 rfl) ?_
        refine Zhm 47 rfl (rfl) ?_
        refine V5 ?_
        refine rx1 (Zg9 rfl (Zg7)) ?_
        exact ⟨_, ⟨rfl, wl, wa, wc, la, lc, h, rfl⟩, by rw [hdn]; exact qI⟩
      | false =>
        cases h3 : HostS.before (s.coming s.ops) with
        | true =>
          rw [does_before hdn h3]
          dsimp only
          have hd : RefOk (HostS.does s 1 page b id).1 fl wl := refok_does h 1 page b id (fun _ => ⟨rfl, rfl, rfl, rfl⟩) (fun h => h)
          rw [does_before hdn h3] at hd
          refine Y3 ?_
          refine Zh8 rfl (by kernel_rfl) (hbg1 h3) rfl qT ?_
          rintro _ _ ⟨rfl, rfl⟩
          refine Y1 ?_
          refine Zhg (Zb0 rfl) ?_
          refine Zhm 47 rfl (rfl) ?_
          refine V5 ?_
          refine rx1 (Zg9 rfl (Zg7)) ?_
          exact ⟨_, ⟨rfl, wl, wa, wc, la, lc, hd, rfl⟩, qI⟩
        | false =>
          refine Y3 ?_
          refine Zh8 rfl (by kernel_rfl) (hbg2 h3) rfl qT ?_
          rintro _ _ ⟨rfl, l1, m1, rfl⟩
          refine Y1 ?_
          refine Zhg (Zb0 rfl) ?_
          refine Zhn 47 rfl (rfl) ?_
          refine V5 ?_
          refine Zgp (Imp.own_nil (E := 5) (size := 1)) ?_
          refine Y3 ?_
          refine Zia rfl rfl qH (hb.rd.imp (Imp.arr qV)) (by first|rfl|exact oneM_u8 _|exact oneL_u8 _|exact fc_one _|exact fc_ones _|exact tcells_one _|(simp [oneC]; done)) (by omega) qS ?_; intro pa pk
          refine V2 ?_
          rw [show 0 + b.length = b.length from Nat.zero_add _, List.nil_append]
          refine Y8 ?_
          refine Zhg (Zdm (cs := (wcell (page, (pa, pk, b))).toArray) rfl) ?_
          refine Zh7 (cs := (wcell (page, (pa, pk, b))).toArray) (by omega) (by omega) qF ?_; intro b59
          refine Zia rfl rfl qH (Rd.cl (xs := wcell (page, (pa, pk, b))) qH rfl qZ rfl) (by first|rfl|exact oneM_u8 _|exact oneL_u8 _|exact fc_one _|exact fc_ones _|exact tcells_one _|(simp [oneC]; done)) (by omega) qS ?_; intro a3 c3
          refine V4 ?_
          have ew : wl.flatMap wcell ++ wcell (page, (pa, pk, b)) = (wl ++ [(page, (pa, pk, b))]).flatMap wcell := by simp
          have el : wl.length + 1 = (wl ++ [(page, (pa, pk, b))]).length := by simp
          rw [ew, el]
          refine Zgp (Imp.arr (N := ownP (pa, pk, b) :: star ownP (wl.map (·.2)) :: cl q (rcl s.pages s.size fa fl.length fc a3 (wl ++ [(page, (pa, pk, b))]).length c3 s.reg s.ops l1 (s.log ++ [(⟨1, page, s.size, HostS.headOf b⟩ : HostS.Touch)]).length m1 false) 92 :: own 70 6 (.slice fa fl.length fc) fl.length (fl.flatMap fcells) :: own 155 2 (.slice a3 (wl ++ [(page, (pa, pk, b))]).length c3) (wl ++ [(page, (pa, pk, b))]).length ((wl ++ [(page, (pa, pk, b))]).flatMap wcell) :: own 65 15 (.slice l1 (s.log ++ [(⟨1, page, s.size, HostS.headOf b⟩ : HostS.Touch)]).length m1) (s.log ++ [(⟨1, page, s.size, HostS.headOf b⟩ : HostS.Touch)]).length ((s.log ++ [(⟨1, page, s.size, HostS.headOf b⟩ : HostS.Touch)]).flatMap tcells) :: L) (by unfold ownP vP; repeat (first|exact Arr.nil|exact Arr.stop|refine Arr.cons (by repeat constructor) ?_|refine Arr.skip ?_))) ?_
          refine Zgp (star_snoc (A := ownP) (x := (pa, pk, b))) ?_
          have ez : wl.map (·.2) ++ [(pa, pk, b)] = (wl ++ [(page, (pa, pk, b))]).map (·.2) := by simp
          rw [ez]
          have hen := rEnd_x (q := q) (pages := s.pages) (size := s.size) (fc := fc) (wc := c3) (ops := s.ops) (lc := m1) (fa := fa) (wa := a3) (la := l1) (reg := s.reg) (down := false) (fl := fl) (wl := wl ++ [(page, (pa, pk, b))]) (log := s.log ++ [(⟨1, page, s.size, HostS.headOf b⟩ : HostS.Touch)]) (by omega) (by omega)
          rw [bef4 h.later] at hen
          cases h4 : HostS.behind (s.coming s.ops) with
          | true =>
            rw [does_behind hdn h3 h4]
            dsimp only
            rw [h4] at hen
            have hk2 : HostS.Ok { HostS.wrote page b (HostS.logged s 1 page b) with down := true } := ok_down true (hwr (ok_logged 1 page b h.ok))
            refine Y2 ?_
            refine Zh8 rfl (by kernel_rfl) (hen) rfl qT ?_
            rintro _ _ ⟨rfl, rfl⟩
            refine Y1 ?_
            refine Zhg (Zb0 rfl) ?_
            refine Zhm 65 rfl (rfl) ?_
            refine V5 ?_
            refine rx1 (Zg9 rfl (Zg7)) ?_
            exact ⟨_, ⟨rfl, wl ++ [(page, (pa, pk, b))], a3, c3, l1, m1, refok_wrote h page b (pa, pk, b) rfl hsz hk2 rfl rfl rfl rfl, rfl⟩, qI⟩
          | false =>
            rw [does_fine hdn h3 h4]
            dsimp only
            rw [h4] at hen
            have hk2 : HostS.Ok (HostS.wrote page b (HostS.logged s 1 page b)) := hwr (ok_logged 1 page b h.ok)
            refine Y2 ?_
            refine Zh8 rfl (by kernel_rfl) (hen) rfl qT ?_
            rintro _ _ ⟨rfl, rfl⟩
            refine Y1 ?_
            refine Zhg (Zb0 rfl) ?_
            refine Zhn 65 rfl (rfl) ?_
            refine V5 ?_
            refine rx1 (Zg9 rfl (Zg7)) ?_
            exact ⟨_, ⟨rfl, wl ++ [(page, (pa, pk, b))], a3, c3, l1, m1, refok_wrote h page b (pa, pk, b) rfl hsz hk2 rfl rfl rfl rfl, rfl⟩, by rw [show (HostS.wrote page b (HostS.logged s 1 page b)).down = false from hdn]; exact qI⟩
    · rw [if_neg hsz]
      refine fn_x Tryz.func98 rfl rfl rfl Tryz.mixed (by kernel_rfl) ?_
      intro w0
      refine Y6 ?_
      refine Zh8 rfl (by kernel_rfl) (rThere_x page) rfl qT ?_
      rintro _ _ ⟨rfl, rfl⟩
      refine Y1 ?_
      refine Zhm 12 rfl (decide_eq_true (ht)) ?_
      refine Zhg (Zb0 rfl) ?_
      refine Zhn 13 rfl (rfl) ?_
      refine Y10 ?_
      refine Zhm 20 rfl (decide_eq_true (hsz)) ?_
      refine V5 ?_
      refine rx1 (Zg9 rfl (Zg7)) ?_
      exact ⟨_, ⟨rfl, wl, wa, wc, la, lc, h, rfl⟩, qI⟩
  · rw [if_neg (show ¬ HostS.there s page from ht)]
    refine fn_x Tryz.func98 rfl rfl rfl Tryz.mixed (by kernel_rfl) ?_
    intro w0
    refine Y6 ?_
    refine Zh8 rfl (by kernel_rfl) (rThere_x page) rfl qT ?_
    rintro _ _ ⟨rfl, rfl⟩
    refine Y1 ?_
    refine Zhn 12 rfl (decide_eq_false (ht)) ?_
    refine Zhg (Zb0 rfl) ?_
    refine Zhm 13 rfl (rfl) ?_
    refine V5 ?_
    refine rx1 (Zg9 rfl (Zg7)) ?_
    exact ⟨_, ⟨rfl, wl, wa, wc, la, lc, h, rfl⟩, qI⟩
end
end Go.Sl

/- the document's host (trystref11): its contracts over one piece; New, walked. -/
set_option maxHeartbeats 4000000
set_option maxRecDepth 10000
set_option linter.unusedVariables false
set_option linter.unusedSimpArgs false
namespace Go.Sl
open Go Go.Proofs
attribute [local irreducible] pt pur ex all den denOps denS xOps xC cX CX xthen xblk xcut xloop xng retX resX Calls PV Rd Con
attribute [local irreducible] hostA HostS.spoilt HostS.back
abbrev RT := (Option Addr × Nat) × (Option Addr × Nat) × (Option Addr × Nat) × List WrE
def refB (q : Nat) (s : HostS.HS) (fl : List HostS.Fault) (t : RT) : Asrt := all (pur (RefOk s fl t.2.2.2) :: refL q s fl t.2.2.2 t.1.1 t.1.2 t.2.1.1 t.2.1.2 t.2.2.1.1 t.2.2.1.2)
/-- The document's host. -/
def refA (q : Nat) (s : HostS.HS) (fl : List HostS.Fault) : Asrt := ex (refB q s fl)
section
variable {q : Nat} {s : HostS.HS} {fl : List HostS.Fault}
theorem refA_mk {L : List Asrt} {wl : List WrE} {fa wa la : Option Addr} {fc wc lc : Nat} (h : RefOk s fl wl) : Imp (refL q s fl wl fa fc wa wc la lc ++ L) (refA q s fl :: L) :=
  ((Imp.pur_mk h).trans (Imp.app (L := pur (RefOk s fl wl) :: refL q s fl wl fa fc wa wc la lc))).trans (Imp.head fun f h => by unfold refA Sl.ex; exact Exists.intro (p := fun x => (refB q s fl x).on f) ((fa, fc), (wa, wc), (la, lc), wl) h)
theorem Con.refA {F : FuncId} {args : List Value} {L : List Asrt} {Φ : Value → List Asrt → Prop} (h : ∀ (wl : List WrE) (fa : Option Addr) (fc : Nat) (wa : Option Addr) (wc : Nat) (la : Option Addr) (lc : Nat), RefOk s fl wl → Con Tryz.prog F args (refL q s fl wl fa fc wa wc la lc ++ L) Φ) : Con Tryz.prog F args (Sl.refA q s fl :: L) Φ :=
  Con.ex fun t => Con.pre (Con.pur fun hk => h t.2.2.2 t.1.1 t.1.2 t.2.1.1 t.2.1.2 t.2.2.1.1 t.2.2.1.2 hk) (Imp.unapp (L := Sl.pur (RefOk s fl t.2.2.2) :: refL q s fl t.2.2.2 t.1.1 t.1.2 t.2.1.1 t.2.1.2 t.2.2.1.1 t.2.2.1.2))
theorem ra_lies (page : Int) (hops : s.ops ≤ 3518437208880) : Con Tryz.prog 50 [hp q, .int .i64 page] [refA q s fl] (fun r M => ∃ a c, r = .slice a (HostS.liesR s page).length c ∧ M = [ownB a c (HostS.liesR s page), refA q s fl]) :=
  Con.refA fun wl fa fc wa wc la lc hk => (rLies_x page hk hops).mono fun r M ⟨a, c, hr, hM⟩ => by
    subst hM; exact ⟨_, Imp.cons (by simpa using refA_mk (L := []) hk), a, c, hr, rfl⟩
theorem ra_read (page : Int) (hops : s.ops < 3518437208880) : Con Tryz.prog 68 [hp q, .int .i64 page] [refA q s fl] (fun r M => ∃ a c, r = .tuple #[.slice a (HostS.readR s page).1.length c, nvv (HostS.readR s page).2.1] ∧ M = [ownB a c (HostS.readR s page).1, refA q (HostS.readR s page).2.2 fl]) :=
  Con.refA fun wl fa fc wa wc la lc hk => (rRead_x page hk hops).mono fun r M ⟨a, c, la', lc', hr, hM⟩ => by
    subst hM; exact ⟨_, Imp.cons (by simpa using refA_mk (L := []) (refok_read hk page)), a, c, hr, rfl⟩
theorem ra_write {L : List Asrt} (page : Int) {vb : Value} {b : List Byte} (hb : Bs L vb b) (hbl : b.length ≤ 140737488351232) (hops : s.ops < 3518437208880) : Con Tryz.prog 98 [hp q, .int .i64 page, vb] (refA q s fl :: L) (fun r M => r = nvv (HostS.writeR s page b).1 ∧ M = refA q (HostS.writeR s page b).2 fl :: L) :=
  Con.refA fun wl fa fc wa wc la lc hk => (rWrite_x page hb hbl hk hops).mono fun r M ⟨hr, wl', wa', wc', la', lc', hk', hM⟩ => by
    subst hM; exact ⟨_, refA_mk hk', hr, rfl⟩
end
theorem refok_fresh (pages : Int) (size : Nat) (fl : List HostS.Fault) (hp : 0 ≤ pages ∧ pages ≤ 65536 ∧ 1 ≤ (size : Int) ∧ (size : Int) ≤ 4124) (hfo : ∀ f ∈ fl, HostS.FOk f) (hfl : fl.length * 48 ≤ 140737488351232) : RefOk (HostS.fresh pages size fl) fl [] :=
  ⟨ok_fresh pages size fl hp hfo (by omega), fun _ _ => rfl, fun _ => rfl, (fun e he => by cases he), Nat.le_refl _, hfl, hfo⟩
theorem kind_next (fl : List HostS.Fault) (i : Nat) (hi : i < fl.length) (h : (fl.take i).all HostS.kindly = true) (h0 : 0 ≤ fl[i].kind) (h4 : fl[i].kind ≤ 4) : (fl.take (i + 1)).all HostS.kindly = true := by
  rw [List.take_succ_eq_append_getElem hi, List.all_append, h]
  simp [HostS.kindly, h0, h4]
theorem kind_bad (fl : List HostS.Fault) (i : Nat) (hi : i < fl.length) (hx : ¬ (0 ≤ fl[i].kind ∧ fl[i].kind ≤ 4)) : ¬ fl.all HostS.kindly = true := by
  intro h
  have := List.all_eq_true.1 h fl[i] (List.getElem_mem hi)
  unfold HostS.kindly at this
  simp only [Bool.and_eq_true, decide_eq_true_eq] at this
  exact hx this
theorem rNew_x {L : List Asrt} (pages size : Int) {fv : Value} {fl : List HostS.Fault} (hf : FaultsIn L fv fl) : Con Tryz.prog 37 [.int .i64 pages, .int .i64 size, fv] L (fun r M => (HostS.mayBe pages size fl → ∃ q, r = .tuple #[hp q, nvv 0] ∧ M = refA q (HostS.fresh pages size.toNat fl) fl :: L) ∧ (¬ HostS.mayBe pages size fl → r = .tuple #[.pointer none, nvv 2] ∧ M = L)) := by
  refine Con.get (fun w0 w F H => hf.rd.len H) ?_
  rintro ⟨fa, fc, rfl⟩
  have hfl := hf.len
  by_cases h1 : pages < 0
  · refine fn_x Tryz.func37 rfl rfl rfl Tryz.mixed (by kernel_rfl) ?_
    intro w0
    refine Y7 ?_
    refine Zhm 11 rfl (decide_eq_true (h1)) ?_
    refine V18 ?_
    refine rx2 (Zhb rfl (Zg9 rfl (Zg7))) ?_
    exact ⟨_, ⟨fun hm => absurd hm.1 (fun hh => by omega), fun _ => ⟨rfl, rfl⟩⟩, qI⟩
  by_cases h2 : 65536 < pages
  · refine fn_x Tryz.func37 rfl rfl rfl Tryz.mixed (by kernel_rfl) ?_
    intro w0
    refine Y7 ?_
    refine Zhn 11 rfl (decide_eq_false (h1)) ?_
    refine Y3 ?_
    refine Zhm 14 rfl (decide_eq_true (h2)) ?_
    refine V15 ?_
    refine rx2 (Zhb rfl (Zg9 rfl (Zg7))) ?_
    exact ⟨_, ⟨fun hm => absurd hm.1 (fun hh => by omega), fun _ => ⟨rfl, rfl⟩⟩, qI⟩
  by_cases h3 : size < 1
  · refine fn_x Tryz.func37 rfl rfl rfl Tryz.mixed (by kernel_rfl) ?_
    intro w0
    refine Y7 ?_
    refine Zhn 11 rfl (decide_eq_false (h1)) ?_
    refine Y3 ?_
    refine Zhn 14 rfl (decide_eq_false (h2)) ?_
    refine Y4 ?_
    refine Zhm 18 rfl (decide_eq_true (h3)) ?_
    refine V11 ?_
    refine rx2 (Zhb rfl (Zg9 rfl (Zg7))) ?_
    exact ⟨_, ⟨fun hm => absurd hm.1 (fun hh => by omega), fun _ => ⟨rfl, rfl⟩⟩, qI⟩
  by_cases h4 : 4124 < size
  · refine fn_x Tryz.func37 rfl rfl rfl Tryz.mixed (by kernel_rfl) ?_
    intro w0
    refine Y7 ?_
    refine Zhn 11 rfl (decide_eq_false (h1)) ?_
    refine Y3 ?_
    refine Zhn 14 rfl (decide_eq_false (h2)) ?_
    refine Y4 ?_
    refine Zhn 18 rfl (decide_eq_false (h3)) ?_
    refine Y4 ?_
    refine Zhm 22 rfl (decide_eq_true (h4)) ?_
    refine V7 ?_
    refine rx2 (Zhb rfl (Zg9 rfl (Zg7))) ?_
    exact ⟨_, ⟨fun hm => absurd hm.1 (fun hh => by omega), fun _ => ⟨rfl, rfl⟩⟩, qI⟩
  obtain ⟨n, rfl⟩ : ∃ n : Nat, size = (n : Int) := ⟨size.toNat, by omega⟩
  refine fn_x Tryz.func37 rfl rfl rfl Tryz.mixed (by kernel_rfl) ?_
  intro w0
  refine Y7 ?_
  refine Zhn 11 rfl (decide_eq_false (h1)) ?_
  refine Y3 ?_
  refine Zhn 14 rfl (decide_eq_false (h2)) ?_
  refine Y4 ?_
  refine Zhn 18 rfl (decide_eq_false ((by omega))) ?_
  refine Y4 ?_
  refine Zhn 22 rfl (decide_eq_false ((by omega))) ?_
  refine Y6 ?_
  refine Zhg (Zdm (cs := rcl pages n none 0 0 none 0 0 0#64 0 none 0 0 false) rfl) ?_
  refine Zh5 rfl ?_; intro b27
  refine V5 ?_
  refine Zgp (Imp.own_nil (E := 70) (size := 6)) ?_
  refine Zgo [(6, 7), (9, 9), (28, 60)] (by kernel_rfl) (fun s : Nat × Option Addr × Nat => s.1 ≤ fl.length ∧ (fl.take s.1).all HostS.kindly = true) (fun s => cl b27 (rcl pages n s.2.1 s.1 s.2.2 none 0 0 0#64 0 none 0 0 false) 92 :: own 70 6 (.slice s.2.1 s.1 s.2.2) s.1 ((fl.take s.1).flatMap fcells) :: L) (fun s => [(9, nvv s.1)]) (fun s => fl.length - s.1) (0, none, 0) ⟨Nat.zero_le _, rfl⟩ qI ⟨rfl, trivial⟩ ?_
  rintro ⟨i, a, c⟩ u ⟨hi, hkd⟩
  dsimp only at hi hkd ⊢
  refine V6 ?_
  refine Zgg rfl (fun hB => ?_) (fun hB => ?_)
  · refine Zgt (fun F w H => (hf.rd.imp (Imp.arr (M := _) qV)).someAt (by omega) H) ?_
    rintro ⟨s1, s2, rfl⟩
    by_cases hk0 : fl[i].kind < 0
    · refine Y5 ?_
      refine Zff rfl (((hf.rd.imp qI).atN fcells_len hB (by omega) rfl)) ?_
      refine Y1 ?_
      refine Zhm 39 rfl (decide_eq_true (hk0)) ?_
      refine V14 ?_
      refine rx2 (Zhb rfl (Zg9 rfl (Zg7))) ?_
      exact ⟨_, ⟨fun hm => absurd hm.2 (kind_bad fl i hB (fun hh => by omega)), fun _ => ⟨rfl, rfl⟩⟩, qI⟩
    by_cases hk4 : 4 < fl[i].kind
    · refine Y5 ?_
      refine Zff rfl (((hf.rd.imp qI).atN fcells_len hB (by omega) rfl)) ?_
      refine Y1 ?_
      refine Zhn 39 rfl (decide_eq_false (hk0)) ?_
      refine Y5 ?_
      first|refine Y0 ?_|(refine Zhh rfl ?_; (refine Zff rfl (((hf.rd.imp qI).atN fcells_len hB (by omega) rfl)) ?_))
      refine Y1 ?_
      refine Zhm 46 rfl (decide_eq_true (hk4)) ?_
      refine V7 ?_
      refine rx2 (Zhb rfl (Zg9 rfl (Zg7))) ?_
      exact ⟨_, ⟨fun hm => absurd hm.2 (kind_bad fl i hB (fun hh => by omega)), fun _ => ⟨rfl, rfl⟩⟩, qI⟩
    refine Y5 ?_
    refine Zff rfl (((hf.rd.imp qI).atN fcells_len hB (by omega) rfl)) ?_
    refine Y1 ?_
    refine Zhn 39 rfl (decide_eq_false (hk0)) ?_
    refine Y5 ?_
    first|refine Y0 ?_|(refine Zhh rfl ?_; (refine Zff rfl (((hf.rd.imp qI).atN fcells_len hB (by omega) rfl)) ?_))
    refine Y1 ?_
    refine Zhn 46 rfl (decide_eq_false (hk4)) ?_
    refine V3 ?_
    have hci := fcells_len fl[i]
    refine Ct.o ?_
    refine Zij ((cl b27 (rcl pages n a i c none 0 0 0#64 0 none 0 0 false) 92 :: own 70 6 (.slice a i c) i ((fl.take i).flatMap fcells) :: L)) [8, 9] (.q 0 (.q 1 (.q 2 (.q 3 (.q 5 (.q 6 (.q 7 (.r 4 (.r 8 (.e 9 true (.e 10 false (.q 11 (.q 12 (.e 13 false .nil)))))))))))))) (by kernel_rfl) (by kernel_rfl) (Imp.arr qV) ?_
    refine W8 ?_
    refine Zfj rfl rfl (((hf.rd.imp qI).agN fcells_len (by omega) hB)) ?_
    refine Ziq rfl ?_; refine Zh7 (cs := (fcells fl[i]).toArray) (by omega) (by omega) (by exact fill_one (by show (fcells fl[i]).toArray.size = 6; rfl) rfl) ?_; intro b28; refine Zg3 ⟨fun _ => Imp.arr qV, ?_⟩
    refine Ziq rfl ?_
    refine Zia rfl rfl qH (Rd.cl (xs := fcells fl[i]) qH rfl qZ rfl) (by first|rfl|exact oneM_u8 _|exact oneL_u8 _|exact fc_one _|exact fc_ones _|exact tcells_one _|(simp [oneC]; done)) (by omega) qS ?_; intro a3 c3
    refine Zg3 ⟨(fun hh => Bool.noConfusion hh), ?_⟩
    refine W2 ?_
    refine Ziq rfl ?_
    refine Y1 ?_
    refine Zg3 ⟨(fun hh => Bool.noConfusion hh), ?_⟩
    refine Zik ?_
    refine V5 ?_
    have e : (fl.take i).flatMap fcells ++ fcells fl[i] = (fl.take (i + 1)).flatMap fcells := by rw [List.take_succ_eq_append_getElem hB, List.flatMap_append]; simp
    rw [e]
    exact Zgl (i + 1, a3, c3) qO ⟨by dsimp only; omega, kind_next fl i hB hkd (by omega) (by omega)⟩ qI ⟨rfl, trivial⟩
  · have hie : i = fl.length := by omega
    subst hie
    rw [List.take_length] at hkd ⊢
    refine V5 ?_
    refine rx2 (Zhb rfl (Zg9 rfl (Zg7))) ?_
    have hm : HostS.mayBe pages n fl := ⟨⟨by omega, by omega, by omega, by omega⟩, hkd⟩
    refine ⟨refA b27 (HostS.fresh pages (n : Int).toNat fl) fl :: L, ⟨fun _ => ⟨b27, rfl, rfl⟩, fun hh => absurd hm hh⟩, ?_⟩
    rw [Int.toNat_natCast]
    have hr := refA_mk (q := b27) (L := L) (fa := a) (fc := c) (wa := none) (wc := 0) (la := none) (lc := 0) (refok_fresh pages n fl ⟨by omega, by omega, by omega, by omega⟩ hf.ok hfl)
    have h0 : Imp (cl b27 (rcl pages n a fl.length c none 0 0 0#64 0 none 0 0 false) 92 :: own 70 6 (.slice a fl.length c) fl.length (fl.flatMap fcells) :: L) (star ownP ([] : List Part) :: own 155 2 (.slice none 0 0) 0 [] :: own 65 15 (.slice none 0 0) 0 [] :: cl b27 (rcl pages n a fl.length c none 0 0 0#64 0 none 0 0 false) 92 :: own 70 6 (.slice a fl.length c) fl.length (fl.flatMap fcells) :: L) :=
      (Imp.own_nil.trans Imp.own_nil).trans (Imp.app (L := []))
    exact (h0.trans (Imp.arr (by unfold refL; repeat (first|exact Arr.nil|exact Arr.stop|refine Arr.cons (by repeat constructor) ?_|refine Arr.skip ?_)))).trans hr
end Go.Sl

/- the document's pager (trystref13): what it holds, as pieces; find, place, without, Numbers, walked. -/
set_option maxHeartbeats 4000000
set_option maxRecDepth 10000
set_option linter.unusedVariables false
set_option linter.unusedSimpArgs false
namespace Go.Sl
open Go Go.Proofs
attribute [local irreducible] pt pur ex all den denOps denS xOps xC cX CX xthen xblk xcut xloop xng retX resX Calls PV Rd Con
attribute [local irreducible] hostA refA
open PagerS (PS)
structure RC where
  q : Nat
  ha : Option Addr
  hn : Nat
  hc : Nat
  la : Option Addr
  ln : Nat
  lc : Nat
  took : Bool
abbrev rphead (s : PS) (c : RC) : List Value := hp c.q :: s.key.map u8b
abbrev rptail (s : PS) (c : RC) : List Value := [u64b s.round, nvv s.window, .int .i64 s.pages, nvv s.text, .slice c.ha c.hn c.hc, .slice c.la c.ln c.lc, nvv s.most, nvv s.writes, nvv s.err, .bool c.took]
def rpcl (s : PS) (c : RC) : Array Value := (rphead s c ++ rptail s c).toArray
section
variable {s s' : PS} {c c' : RC} {k : Nat} {v : Value}
theorem rp_f (hk : s.key.length = 32) (h : (rptail s c)[k]? = some v) : (rpcl s c)[33 + k]? = some v := by
  unfold rpcl
  rw [List.getElem?_toArray, List.getElem?_append_right (by simp [hk]), show 33 + k - (rphead s c).length = k by simp [hk]]
  exact h
theorem rp_s (hk : s.key.length = 32) (h : (rptail s c).set k v = rptail s' c') (h2 : s'.key = s.key) (h3 : c'.q = c.q) : (rpcl s c).setIfInBounds (33 + k) v = rpcl s' c' := by
  unfold rpcl
  apply Array.ext'
  rw [Array.toList_setIfInBounds]
  show (rphead s c ++ rptail s c).set (33 + k) v = rphead s' c' ++ rptail s' c'
  rw [List.set_append_right _ _ (by simp [hk]), show 33 + k - (rphead s c).length = k by simp [hk], h, show rphead s' c' = rphead s c from by unfold rphead; rw [h2, h3]]
theorem rp_size (hk : s.key.length = 32) : (rpcl s c).size = 43 := by unfold rpcl; simp [hk]
theorem rp_st : (rpcl s c)[0]? = some (hp c.q) := by unfold rpcl; simp
theorem rp_key (hk : s.key.length = 32) : (rpcl s c).extract 1 (1 + 32) = (s.key.map u8b).toArray := by
  unfold rpcl
  apply Array.ext'
  rw [Array.toList_extract, List.extract_eq_take_drop]
  show ((rphead s c ++ rptail s c).drop 1).take (1 + 32 - 1) = _
  rw [List.cons_append, List.drop_one, List.tail_cons, List.take_append_of_le_length (by simp [hk]), List.take_of_length_le (by simp [hk])]
end
/-- A held page: its text's memory, and what it is. -/
abbrev HE := (Option Addr × Nat) × PagerS.Fr
abbrev rhe (e : HE) : List Value := [.int .i64 e.2.page, .slice e.1.1 e.2.text.length e.1.2, .bool (e.2.is == 2)]
theorem rhe_len (e : HE) : (rhe e).length = 3 := rfl
theorem rhe_one (e : HE) : (rhe e).all oneC = true := rfl
abbrev rtA (e : HE) : Asrt := ownB e.1.1 e.1.2 e.2.text
abbrev wpc (q : Plc) : List Value := [u64b q.round, u32b q.counter, u32b q.page, u32b q.version]
theorem wpc_len (q : Plc) : (wpc q).length = 4 := rfl
theorem wpc_one (q : Plc) : (wpc q).all oneC = true := rfl
abbrev ownH (a : Option Addr) (c : Nat) (l : List HE) : Asrt := own 129 3 (.slice a l.length c) l.length (l.flatMap rhe)
abbrev ownW (a : Option Addr) (c : Nat) (l : List Plc) : Asrt := own 150 4 (.slice a l.length c) l.length (l.flatMap wpc)
def isPg (n : Int) (q : Plc) : Bool := (q.page.toNat : Int) == n
section
variable {p : Nat} {s : PS} {c : RC}
theorem rfind_x (hk : s.key.length = 32) {hl : List HE} (hz : hl.length ≤ 9223372036854775806) (hn : c.hn = hl.length) (n : Int) : Con Tryz.prog 64 [hp p, .int .i64 n] [cl p (rpcl s c) 126, ownH c.ha c.hc hl] (fun r M => ((∃ i, ∃ hi : i < hl.length, hl[i].2.page = n ∧ r = nvv i) ∨ ((∀ e ∈ hl, e.2.page ≠ n) ∧ r = .int .i64 (-1))) ∧ M = [cl p (rpcl s c) 126, ownH c.ha c.hc hl]) := by
  obtain ⟨q, ha, hn', hc, la, ln, lc, took⟩ := c
  dsimp only at hn ⊢
  subst hn
  refine fn_x Tryz.func64 rfl rfl rfl Tryz.mixed (by kernel_rfl) ?_
  intro w0
  refine V6 ?_
  refine Zgo [(4, 25)] (by kernel_rfl) (fun i : Nat => i ≤ hl.length ∧ ∀ j, ∀ hj : j < hl.length, j < i → hl[j].2.page ≠ n) (fun _ => [cl p (rpcl s ⟨q, ha, hl.length, hc, la, ln, lc, took⟩) 126, ownH ha hc hl]) (fun i => [(5, nvv i)]) (fun i => hl.length - i) 0 ⟨Nat.zero_le _, fun j _ hj => absurd hj (by omega)⟩ qI ⟨rfl, trivial⟩ ?_
  rintro i u ⟨hi, he⟩
  refine Y5 ?_
  refine Zhp rfl qH (rp_f hk (k := 4) rfl) ?_
  refine V3 ?_
  refine Zgg rfl (fun hB => ?_) (fun hB => ?_)
  · replace hB : i < hl.length := hB
    refine Zgt (fun F w H => own_someN (n := hl.length) (a := ha) qH (by omega) H) ?_
    rintro ⟨g, rfl⟩
    refine Ct.o ?_
    by_cases hpg : hl[i].2.page = n
    · refine Y4 ?_
      refine Zhp rfl qH (rp_f hk (k := 4) rfl) ?_
      refine Y3 ?_
      refine Zff rfl (((Rd.own (n := hl.length) qH).atN0 (j := 0) rhe_len hB (by omega) rfl)) ?_
      refine Y1 ?_
      refine Zhg (Zbr (a := hl[i].2.page) (b := n) rfl rfl) ?_
      refine Zhm 24 rfl (decide_eq_true (hpg)) ?_
      refine V6 ?_
      refine rx1 (Zg9 rfl (Zg7)) ?_
      exact ⟨_, ⟨.inl ⟨i, hB, hpg, rfl⟩, rfl⟩, qI⟩
    · refine Y4 ?_
      refine Zhp rfl qH (rp_f hk (k := 4) rfl) ?_
      refine Y3 ?_
      refine Zff rfl (((Rd.own (n := hl.length) qH).atN0 (j := 0) rhe_len hB (by omega) rfl)) ?_
      refine Y1 ?_
      refine Zhg (Zbr (a := hl[i].2.page) (b := n) rfl rfl) ?_
      refine Zhn 24 rfl (decide_eq_false (hpg)) ?_
      refine V7 ?_
      refine Zgl (i + 1) qO ⟨by omega, fun j hj hlt => ?_⟩ qI ⟨rfl, trivial⟩
      by_cases e : j = i
      · subst e; exact hpg
      · exact he j hj (by omega)
  · replace hB : ¬ i < hl.length := hB
    refine V3 ?_
    refine rx1 (Zg9 rfl (Zg7)) ?_
    refine ⟨_, ⟨.inr ⟨fun e hm => ?_, rfl⟩, rfl⟩, qI⟩
    obtain ⟨j, hj, rfl⟩ := List.getElem_of_mem hm
    exact he j hj (by omega)
theorem rwithout_x (hk : s.key.length = 32) {hl : List HE} (hz : hl.length ≤ 1000) (hn : c.hn = hl.length) (at_ : Nat) : Con Tryz.prog 89 [hp p, nvv at_] [cl p (rpcl s c) 126, ownH c.ha c.hc hl] (fun r M => ∃ a c', r = .slice a (hl.eraseIdx at_).length c' ∧ M = [ownH a c' (hl.eraseIdx at_), cl p (rpcl s c) 126, ownH c.ha c.hc hl]) := by
  obtain ⟨q, ha, hn', hc, la, ln, lc, took⟩ := c
  dsimp only at hn ⊢
  subst hn
  refine fn_x Tryz.func89 rfl rfl rfl Tryz.mixed (by kernel_rfl) ?_
  intro w0
  refine V9 ?_
  refine Zgo [(5, 28)] (by kernel_rfl) (fun t : Nat × Option Addr × Nat => t.1 ≤ hl.length) (fun t => [ownH t.2.1 t.2.2 ((hl.take t.1).eraseIdx at_), cl p (rpcl s ⟨q, ha, hl.length, hc, la, ln, lc, took⟩) 126, ownH ha hc hl]) (fun t => [(5, .slice t.2.1 ((hl.take t.1).eraseIdx at_).length t.2.2), (6, nvv t.1)]) (fun t => hl.length - t.1) (0, none, 0) (Nat.zero_le _) (by simp only [List.take_zero, List.eraseIdx_nil]; exact Imp.own_nil (E := 129) (size := 3)) ⟨by simp only [List.take_zero, List.eraseIdx_nil]; rfl, rfl, trivial⟩ ?_
  rintro ⟨i, a5, c5⟩ u hi
  dsimp only at hi ⊢
  refine Y5 ?_
  refine Zhp rfl qH (rp_f hk (k := 4) rfl) ?_
  refine V3 ?_
  refine Zgg rfl (fun hB => ?_) (fun hB => ?_)
  · replace hB : i < hl.length := hB
    refine Zgt (fun F w H => own_someN (n := hl.length) (a := ha) (.there (.there .here)) (by omega) H) ?_
    rintro ⟨g, rfl⟩
    have hle : ((hl.take i).eraseIdx at_).length ≤ i := Nat.le_trans (List.eraseIdx_sublist _ _).length_le (List.length_take_le i hl)
    refine Ct.o ?_
    by_cases hx : i = at_
    · subst hx
      have e1 : (hl.take (i + 1)).eraseIdx i = (hl.take i).eraseIdx i := by
        rw [List.take_succ_eq_append_getElem hB, List.eraseIdx_append_of_length_le (by simp; omega), List.eraseIdx_of_length_le (show (hl.take i).length ≤ i by simp; omega)]
        simp [Nat.min_eq_left (Nat.le_of_lt hB)]
      refine Y3 ?_
      refine Zhg (Zbs (a := (i : Int)) (b := (i : Int)) rfl rfl) ?_
      refine Zhn 18 rfl (decide_eq_false ((fun h => h rfl))) ?_
      refine V7 ?_
      exact Zgl (i + 1, a5, c5) qO (by dsimp only; omega) (by dsimp only; rw [e1]; exact qI) ⟨by dsimp only; rw [e1]; rfl, rfl, trivial⟩
    · have e1 : (hl.take (i + 1)).eraseIdx at_ = (hl.take i).eraseIdx at_ ++ [hl[i]] := by
        rw [List.take_succ_eq_append_getElem hB]
        by_cases hlt : at_ < i
        · rw [List.eraseIdx_append_of_lt_length (by simp; omega)]
        · rw [List.eraseIdx_of_length_le (show (hl.take i).length ≤ at_ by simp; omega), List.eraseIdx_of_length_le (by simp; omega)]
      refine Y3 ?_
      refine Zhg (Zbs (a := (i : Int)) (b := (at_ : Int)) rfl rfl) ?_
      refine Zhm 18 rfl (decide_eq_true ((by omega))) ?_
      refine V2 ?_
      generalize hE : (hl.take i).eraseIdx at_ = E at *
      refine Y5 ?_
      refine Zhp rfl qH (rp_f hk (k := 4) rfl) ?_
      refine Y2 ?_
      refine Zfg rfl ((Rd.own (n := hl.length) (.there (.there .here))).agN0 rhe_len (by omega) hB) ?_
      refine Zh7 (cs := (rhe hl[i]).toArray) (by omega) (by omega) (by exact fill_one rfl rfl) ?_; intro b27
      refine Zia rfl rfl qH (Rd.cl (xs := rhe hl[i]) qH rfl qZ rfl) (by first|rfl|exact oneM_u8 _|exact oneL_u8 _|assumption|(simp [oneC]; done)) (by omega) qS ?_; intro a6 c6
      refine V2 ?_
      have e2 : (E ++ [hl[i]]).length = E.length + 1 := by simp
      have e3 : (E ++ [hl[i]]).flatMap rhe = E.flatMap rhe ++ rhe hl[i] := by simp
      refine V5 ?_
      exact Zgl (i + 1, a6, c6) qO (by dsimp only; omega) (by dsimp only; rw [e1]; unfold ownH; rw [e2, e3]; exact qI) ⟨by dsimp only; rw [e1, e2]; rfl, rfl, trivial⟩
  · replace hB : ¬ i < hl.length := hB
    have hie : i = hl.length := by omega
    subst hie
    rw [List.take_length]
    refine V4 ?_
    refine rx1 (Zhc rfl (Zg7)) ?_
    exact ⟨_, ⟨a5, c5, rfl, rfl⟩, qI⟩
end
end Go.Sl

/- slices.Values and slices.AppendSeq over it, at ints: a new slice that holds what the old one holds. -/
set_option linter.unusedVariables false
set_option linter.unusedSimpArgs false
namespace Go.Sl
open Go Go.Proofs Go.RowKit Go.Shelf
attribute [local go_sem] Oper.semAt_some
/-- What has come when k rounds are over. -/
def comeV {α : Type} (f : Nat → α) (k : Nat) : List α := (List.range k).map f
theorem comeV_succ {α : Type} (f : Nat → α) (k : Nat) : comeV f (k + 1) = comeV f k ++ [f k] := by simp [comeV, List.range_succ]
theorem comeV_length {α : Type} (f : Nat → α) (k : Nat) : (comeV f k).length = k := by simp [comeV]
theorem comeV_all (zs : List Int) : comeV (fun j => zs[j]?.getD 0) zs.length = zs := by
  apply List.ext_getElem
  · simp [comeV]
  · intro i h1 h2
    simp [comeV, h2]
set_option maxRecDepth 100000 in
set_option maxHeartbeats 2000000 in
theorem values1_in (F : Fence) (n : Nat) (h7 : F.fn 87) (hro : F.round = none) (hn : 1 ≤ n) (l Bs n₀ b off len cap : Nat) (zs : List Int) (hreach : len * 8 ≤ 140737488351232) (hb : b < n₀) (J Jx : List Int → World → Prop)
    (hY : ∀ pre x W, J pre W → pre.length < len → YieldAt F (n - 1) Tryz.prog l #[.int .i64 x] W fun e W' =>
      (e = .returned (.bool true) ∧ J (pre ++ [x]) W' ∧ Below n₀ W W') ∨ (e = .returned (.bool false) ∧ Jx (pre ++ [x]) W'))
    (W : World) (hBs : W.cell? ⟨Bs, 0, none⟩ = some (.slice (some ⟨b, off, none⟩) len cap)) (hc : ∀ j, j < len → W.cell? ⟨b, off + j, none⟩ = some (.int .i64 (zs[j]?.getD 0))) (h0 : J [] W) :
    CallsIn F n Tryz.prog 87 #[.func (.yield l) #[] #[], .pointer (some ⟨Bs, 0, none⟩)] W fun e W' => (∃ v, e = .returned v) ∧
      ((∃ ys, ys = comeV (fun j => zs[j]?.getD 0) len ∧ J ys W') ∨ (∃ pre, (∃ k, k ≤ len ∧ pre = comeV (fun j => zs[j]?.getD 0) k) ∧ Jx pre W')) := by
  refine callsIn_of_wp Tryz.func87 rfl h7 ?_ hro
  simp only [Tryz.ntmps87, List.size_toArray, List.length_cons, List.length_nil, Nat.reduceAdd, Nat.reduceSub, Array.replicate_succ, Array.replicate_zero, List.push_toArray, List.append_toArray, List.nil_append, List.cons_append]
  gi_wp2
  gi_loopw [7] (fun i wr => ∃ k : Nat, k ≤ len ∧ i = .int .i64 k ∧ J (comeV (fun j => zs[j]?.getD 0) k) wr ∧ Below n₀ W wr)
    (fun i _ => len - (match i with|Value.int _ q => q.toNat|_ => 0))
  case atStart => exact ⟨0, Nat.zero_le _, rfl, h0, Below.refl _ _⟩
  case round =>
    obtain ⟨k, hk, rfl, hJs, hnx⟩ := hrel
    have hcx : k < len → wr.cell? ⟨b, off + k, none⟩ = some (.int .i64 (zs[k]?.getD 0)) := fun h => (hnx.cell (p := ⟨b, off + k, none⟩) hb).trans (hc k h)
    by_cases hlt : k < len
    · obtain ⟨fn, tmps, assign, body, hy, hR⟩ := hY _ (zs[k]?.getD 0) wr hJs (by rw [comeV_length]; exact hlt)
      have hcx' := hcx hlt
      gi_wp2
      refine hR.mono ?_
      rintro e W3 (⟨rfl, hJ3, hk3⟩|⟨rfl, hJx3⟩)
      · gi_wp2
        go_roundw
        case rel => exact ⟨k + 1, by omega, by simp, by rw [comeV_succ]; exact hJ3, hnx.trans hk3⟩
        case measure => simp; omega
      · gi_wp2
        refine bodyPost_ret (results_none rfl _ _ _) rfl ?_
        exact ⟨⟨_, rfl⟩, .inr ⟨_, ⟨k + 1, by omega, (comeV_succ _ _).symm⟩, hJx3⟩⟩
    · obtain rfl : k = len := by omega
      gi_wp2
      go_end0
      exact ⟨⟨_, rfl⟩, .inl ⟨_, rfl, hJs⟩⟩
theorem comeV_take (zs : List Int) {k : Nat} (hk : k ≤ zs.length) : comeV (fun j => zs[j]?.getD 0) k = zs.take k := by
  apply List.ext_getElem
  · simp [comeV, hk]
  · intro i h1 h2
    have : i < zs.length := by simp [comeV] at h1; omega
    simp [comeV, this]
/-- The slice value sv holds the ints zs, in a block below n₀; or it is nil and there are none. -/
def Ints (n₀ : Nat) (W : World) (sv : Value) (zs : List Int) : Prop :=
  (sv = .slice none 0 0 ∧ zs = []) ∨ ∃ b off cap, sv = .slice (some ⟨b, off, none⟩) zs.length cap ∧ b < n₀ ∧ ∀ j, j < zs.length → W.cell? ⟨b, off + j, none⟩ = some (.int .i64 (zs[j]?.getD 0))
theorem Ints.below {n₀ : Nat} {A B : World} (h : Below n₀ A B) {sv : Value} {zs : List Int} : Ints n₀ A sv zs → Ints n₀ B sv zs
  | .inl e => .inl e
  | .inr ⟨b, off, cap, e, hb, hc⟩ => .inr ⟨b, off, cap, e, hb, fun j hj => (h.cell (p := ⟨b, off + j, none⟩) hb).trans (hc j hj)⟩
set_option maxRecDepth 100000 in
set_option maxHeartbeats 1000000 in
theorem values1_nil_in (F : Fence) (n : Nat) (h7 : F.fn 87) (hro : F.round = none) (l Bs : Nat) (J : List Int → World → Prop) (W : World) (hBs : W.cell? ⟨Bs, 0, none⟩ = some (.slice none 0 0)) (h0 : J [] W) :
    CallsIn F n Tryz.prog 87 #[.func (.yield l) #[] #[], .pointer (some ⟨Bs, 0, none⟩)] W fun e W' => (∃ v, e = .returned v) ∧ J [] W' := by
  refine callsIn_of_wp Tryz.func87 rfl h7 ?_ hro
  simp only [Tryz.ntmps87, List.size_toArray, List.length_cons, List.length_nil, Nat.reduceAdd, Nat.reduceSub, Array.replicate_succ, Array.replicate_zero, List.push_toArray, List.append_toArray, List.nil_append, List.cons_append]
  gi_wp2
  gi_loopw [7] (fun i wr => i = .int .i64 0 ∧ J [] wr) (fun _ _ => 0)
  case atStart => exact ⟨rfl, h0⟩
  case round =>
    obtain ⟨rfl, hJs⟩ := hrel
    gi_wp2
    go_end0
    exact ⟨⟨_, rfl⟩, hJs⟩
theorem values_stops (F : Fence) (n : Nat) (h7 : F.fn 87) (hro : F.round = none) (hn : 1 ≤ n) (Bs n₀ : Nat) (sv : Value) (zs : List Int) (hreach : zs.length * 8 ≤ 140737488351232) (w : World) (hBs : Bs < w.heap.size) (hn₀ : n₀ ≤ w.heap.size)
    (hc : w.cell? ⟨Bs, 0, none⟩ = some sv) (hI : Ints n₀ w sv zs) :
    SeqStopsK F n Tryz.prog 87 #[.pointer (some ⟨Bs, 0, none⟩)] (fun x : Int => #[Value.int .i64 x]) (Below n₀) (fun ys => ys = zs) (fun pre => pre <+: zs) zs.length w := fun l J Jx W hW _ _ hY h0 => by
  have hc' := (hW.cell (p := ⟨Bs, 0, none⟩) hBs).trans hc
  rcases hI.below (hW.mono hn₀) with ⟨rfl, rfl⟩|⟨b, off, cap, rfl, hb, hcs⟩
  · exact (values1_nil_in F n h7 hro l Bs J W hc' h0).mono fun e W' ⟨he, hj⟩ => ⟨he, .inl ⟨_, rfl, hj⟩⟩
  · refine (values1_in F n h7 hro hn l Bs n₀ b off zs.length cap zs hreach hb J Jx hY W hc' hcs h0).mono ?_
    rintro e W' ⟨he, ⟨ys, rfl, hj⟩|⟨pre, ⟨k, hk, rfl⟩, hj⟩⟩
    · exact ⟨he, .inl ⟨_, comeV_all zs, hj⟩⟩
    · exact ⟨he, .inr ⟨_, by rw [comeV_take zs hk]; exact List.take_prefix _ _, hj⟩⟩
theorem info_int : (Tryz.prog.info? 3).map (fun i => (i.zero, i.size, i.bytes)) = some (some (.int .i64 0), 1, 8) := by kernel_rfl
set_option maxRecDepth 100000 in
set_option maxHeartbeats 2000000 in
/-- slices.AppendSeq(nil, slices.Values(s)). -/
theorem appendSeq_in (F : Fence) (n : Nat) (h3 : F.fn 107) (h5 : F.fn 87) (hro : F.round = none) (hn : 3 ≤ n) (Bx : Nat) (sv : Value) (xs : List Int) (hreach : xs.length * 8 ≤ 140737488351232) (w : World) (hBx : Bx < w.heap.size)
    (hc : w.cell? ⟨Bx, 0, none⟩ = some sv) (hI : Ints w.heap.size w sv xs) :
    CallsIn F n Tryz.prog 107 #[.slice none 0 0, .func (.func 87) #[] #[.pointer (some ⟨Bx, 0, none⟩)]] w fun e W' => ∃ v, e = .returned v ∧ W'.ownsRow w.heap.size 3 1 v xs.length (xs.map (Value.int .i64)) ∧ Below w.heap.size w W' := by
  have h1 : 1 ≤ n := by omega
  obtain ⟨i0, hi, hz0, hz1, hz2⟩ := info_parts info_int
  refine callsIn_of_wp_marks Tryz.func107 rfl h3 ?_ hro
  simp only [Tryz.ntmps107, List.size_toArray, List.length_cons, List.length_nil, Nat.reduceAdd, Nat.reduceSub, Array.replicate_succ, Array.replicate_zero, List.push_toArray, List.append_toArray, List.nil_append, List.cons_append]
  gi_wp2
  have bO := Boxed.new w 43 (.slice none 0 0)
  have hB0 : Below w.heap.size w (w.alloc (.cells #[.slice none 0 0] 43)) := (Below.refl _ w).alloc (Nat.le_refl _) _
  refine wpIn_rangeFunc_ownG hro h1 (gf := 87) (lb := #[.pointer (some ⟨Bx, 0, none⟩)]) rfl h5 (enters_of Tryz.func87 (by kernel_rfl) rfl)
    (values_stops F (n - 1) h5 hro (by omega) Bx w.heap.size sv xs hreach (w.alloc (.cells #[.slice none 0 0] 43)) (by simp; omega) (by simp) ((hB0.cell (p := ⟨Bx, 0, none⟩) hBx).trans hc) (hI.below hB0)) belowK_t (belowK_b (by simp)) (Below.refl _ _) (fun _ => rfl)
    (fun (pre : List Int) W => (∃ v, Boxed W w.heap.size 43 v ∧ W.ownsRow w.heap.size 3 1 v pre.length (pre.map (Value.int .i64)) ∧ True) ∧ Below w.heap.size w W)
    (fun _ _ _ => False)
    (OwnFrom.and (Own.from (holdsRow_own w.heap.size w.heap.size 43 3 1 (fun pre : List Int => pre.length) (fun pre : List Int => pre.map (Value.int .i64)) (fun _ _ => True)) _) (ownFrom_below (Nat.le_refl _) (by simp)))
    (fun _ _ _ _ _ hs _ _ => hs)
    ⟨⟨_, bO, World.ownsRow_nil _ _ _ _, trivial⟩, hB0⟩
    (fun x => { tmps := #[.slice none 0 0, .func (.func 87) #[] #[.pointer (some ⟨Bx, 0, none⟩)], .pointer (some ⟨w.heap.size, 0, none⟩), undef, .slice none 0 0, .int .i64 x, .func (.func 87) #[] #[.pointer (some ⟨Bx, 0, none⟩)], .int .i64 x, undef, undef, undef, undef, undef], defers := [] }) ?assign ?body ?done ?stop
  case assign =>
    intro l x W K hK
    gi_wp2
    exact hK
  case body =>
    rintro l pre x W ⟨⟨v, hv, hrow, hnil⟩, hB⟩ hlt
    have hc := hv.cell
    gi_wp2_with (gi_at_builtin; refine wpListIn_append_own _ rfl _ _ 43 rfl w.heap.size 3 i0 (.int .i64 0) 1 8 Tryz.underlying43 hi hz0 hz1 hz2 rfl (by decide) _ _ _ rfl (hrow.alloc _) ⟨W.heap.size, 0, none⟩ 1 1 [.int .i64 x] rfl rfl (cell_one_new _ _ _) (by simp [Value.oneCell']) (by unfold maxLen; omega) (by omega) (by have := hB.size; simp; omega) ?_; intro v' w1 hown' hgrow _; obtain ⟨g', cap', rfl⟩ := ownsRow_succ hown'; obtain ⟨hv1, hv2, hr2, hk2, hb2⟩ := hv.appended (by decide) hrow hB.size (Nat.le_refl _) hown' hgrow; have hc1 := hv1.cell; have hf1 := hv1.frozen)
    exact ⟨hk2.from _, hb2, ⟨_, hv2, by simpa using hr2, trivial⟩, hB.trans hb2⟩
  case done =>
    rintro D ys W hD rfl ⟨⟨v, hv, hrow, hnil⟩, hB⟩ hK
    have hc := hv.cell
    gi_wp2
    refine ⟨by simp, .inl ⟨_, _, rfl, run_takeDeferred hK, ?_⟩⟩
    exact ⟨_, results_tmp rfl _ _ _, v, rfl, ownsRow_putObj hrow _ hK rfl, hB.trans (belowK_b (w := w) (Nat.le_refl _) W D _ _ (by simp at hD; omega) hK rfl rfl)⟩
  case stop =>
    rintro D c pre W _ _ h _
    exact h.elim
end Go.Sl

/- slices.Sort's contract at this dump, laid in plain words by the kit's program. -/
namespace Go.Proofs
open Go.Shelf
def Tryz.sortA_ren : Go.Shelf.Ren := ⟨fun | 5 => 86 | 8 => 109 | 7 => 108 | 19 => 134 | 20 => 135 | 10 => 125 | 11 => 126 | 12 => 127 | 13 => 128 | 14 => 129 | 15 => 130 | 16 => 131 | 17 => 132 | 18 => 133 | 30 => 147 | 31 => 148 | 32 => 149 | 33 => 150 | 34 => 151 | 35 => 152 | 40 => 165 | n => n, fun | 23 => 43 | 25 => 3 | 3 => 3 | 32 => 169 | 22 => 43 | 0 => 0 | 44 => 50 | 46 => 24 | 4 => 4 | 36 => 188 | 35 => 187 | 41 => 193 | 5 => 5 | 9 => 9 | 53 => 220 | 57 => 223 | 63 => 243 | 64 => 244 | n => n, fun | n => n⟩
theorem Tryz.sortA : Go.Proofs.SlLaysM.n5 Tryz.prog Tryz.sortA_ren := {
  mixed := by kernel_rfl
  f5 := ⟨Tryz.f86.name, by decide, Tryz.func86.trans (congrArg some (by kernel_rfl))⟩
  f7 := ⟨Tryz.f108.name, by decide, Tryz.func108.trans (congrArg some (by kernel_rfl))⟩
  f8 := Tryz.func109.trans (congrArg some (by kernel_rfl))
  f10 := ⟨Tryz.f125.name, by decide, Tryz.func125.trans (congrArg some (by kernel_rfl))⟩
  f11 := ⟨Tryz.f126.name, by decide, Tryz.func126.trans (congrArg some (by kernel_rfl))⟩
  f12 := ⟨Tryz.f127.name, by decide, Tryz.func127.trans (congrArg some (by kernel_rfl))⟩
  f13 := ⟨Tryz.f128.name, by decide, Tryz.func128.trans (congrArg some (by kernel_rfl))⟩
  f14 := ⟨Tryz.f129.name, by decide, Tryz.func129.trans (congrArg some (by kernel_rfl))⟩
  f15 := ⟨Tryz.f130.name, by decide, Tryz.func130.trans (congrArg some (by kernel_rfl))⟩
  f16 := ⟨Tryz.f131.name, by decide, Tryz.func131.trans (congrArg some (by kernel_rfl))⟩
  f17 := ⟨Tryz.f132.name, by decide, Tryz.func132.trans (congrArg some (by kernel_rfl))⟩
  f18 := ⟨Tryz.f133.name, by decide, Tryz.func133.trans (congrArg some (by kernel_rfl))⟩
  f19 := Tryz.func134.trans (congrArg some (by kernel_rfl))
  f20 := Tryz.func135.trans (congrArg some (by kernel_rfl))
  f30 := ⟨Tryz.f147.name, by decide, Tryz.func147.trans (congrArg some (by kernel_rfl))⟩
  f31 := Tryz.func148.trans (congrArg some (by kernel_rfl))
  f32 := Tryz.func149.trans (congrArg some (by kernel_rfl))
  f33 := ⟨Tryz.f150.name, by decide, Tryz.func150.trans (congrArg some (by kernel_rfl))⟩
  f34 := ⟨Tryz.f151.name, by decide, Tryz.func151.trans (congrArg some (by kernel_rfl))⟩
  f35 := ⟨Tryz.f152.name, by decide, Tryz.func152.trans (congrArg some (by kernel_rfl))⟩
  f40 := ⟨Tryz.f165.name, by decide, Tryz.func165.trans (congrArg some (by kernel_rfl))⟩
  t0 := Tryz.underlying0
  a0 := Tryz.isAgg0
  z0 := Tryz.sizeOf0
  v0 := Tryz.zeroValue0
  t3 := Tryz.underlying3
  a3 := Tryz.isAgg3
  z3 := Tryz.sizeOf3
  v3 := Tryz.zeroValue3
  t4 := Tryz.underlying4
  a4 := Tryz.isAgg4
  z4 := Tryz.sizeOf4
  v4 := Tryz.zeroValue4
  t5 := Tryz.underlying5
  a5 := Tryz.isAgg5
  z5 := Tryz.sizeOf5
  v5 := Tryz.zeroValue5
  t9 := Tryz.underlying9
  a9 := Tryz.isAgg9
  z9 := Tryz.sizeOf9
  v9 := Tryz.zeroValue9
  t22 := Tryz.underlying43
  a22 := Tryz.isAgg43
  z22 := Tryz.sizeOf43
  v22 := Tryz.zeroValue43
  t23 := Tryz.underlying43
  a23 := Tryz.isAgg43
  z23 := Tryz.sizeOf43
  v23 := Tryz.zeroValue43
  t25 := Tryz.underlying3
  a25 := Tryz.isAgg3
  z25 := Tryz.sizeOf3
  v25 := Tryz.zeroValue3
  t32 := Tryz.underlying169
  a32 := Tryz.isAgg169
  z32 := Tryz.sizeOf169
  v32 := Tryz.zeroValue169
  t35 := Tryz.underlying187
  a35 := Tryz.isAgg187
  z35 := Tryz.sizeOf187
  v35 := Tryz.zeroValue187
  t36 := Tryz.underlying188
  a36 := Tryz.isAgg188
  z36 := Tryz.sizeOf188
  v36 := Tryz.zeroValue188
  t41 := Tryz.underlying193
  a41 := Tryz.isAgg193
  z41 := Tryz.sizeOf193
  v41 := Tryz.zeroValue193
  t44 := Tryz.underlying50
  a44 := Tryz.isAgg50
  z44 := Tryz.sizeOf50
  v44 := Tryz.zeroValue50
  t46 := Tryz.underlying24
  a46 := Tryz.isAgg24
  z46 := Tryz.sizeOf24
  v46 := Tryz.zeroValue24
  t53 := Tryz.underlying220
  a53 := Tryz.isAgg220
  z53 := Tryz.sizeOf220
  v53 := Tryz.zeroValue220
  t57 := Tryz.underlying223
  a57 := Tryz.isAgg223
  z57 := Tryz.sizeOf223
  v57 := Tryz.zeroValue223
  t63 := Tryz.underlying243
  a63 := Tryz.isAgg243
  z63 := Tryz.sizeOf243
  v63 := Tryz.zeroValue243
  t64 := Tryz.underlying244
  a64 := Tryz.isAgg244
  z64 := Tryz.sizeOf244
  v64 := Tryz.zeroValue244 }
end Go.Proofs

/- The engine over pieces alone: worlds that the kit's contracts hand back. -/
set_option linter.unusedVariables false
set_option linter.unusedSimpArgs false
namespace Go.Sl
open Go Go.RowKit
/-- A new block beside what stands. -/
theorem St.newer {w0 w w' : World} {L : List Asrt} (H : St w0 w L) (hb : Below w.heap.size w w') : St w0 w' L := by
  refine ⟨hb.os.trans H.os, hb.tape.trans H.tape, hb.output.trans H.output, Nat.le_trans H.size hb.size, H.sat.mono ⟨fun b o e => ?_⟩⟩
  have e : w.heap[b]? = some o := e
  exact (hb.block b (Array.getElem?_eq_some_iff.1 e).1).trans e
theorem St.newest {w0 w w' : World} {L : List Asrt} {g : Nat} {o : Obj} (H : St w0 w L) (hb : Below w.heap.size w w') (hg : w.heap.size ≤ g) (ho : w'.heap[g]? = some o) : St w0 w' (pt g o :: L) := by
  have H' := H.newer hb
  refine ⟨H'.os, H'.tape, H'.output, H'.size, fun b => if b = g then some o else none, frag w, by simp [pt], H.sat, ⟨fun b => ?_⟩, ⟨fun b u e => ?_⟩, ⟨fun b u e => ?_⟩⟩
  · by_cases hbg : b = g
    · subst hbg; right
      show w.heap[b]? = none
      exact Array.getElem?_eq_none hg
    · left; simp [hbg]
  · by_cases hbg : b = g
    · subst hbg; simp only [if_true, Option.some.injEq] at e; subst e; exact ho
    · simp [hbg] at e
  · have e : w.heap[b]? = some u := e
    exact (hb.block b (Array.getElem?_eq_some_iff.1 e).1).trans e
/-- One block turns, and new ones come. -/
theorem St.turned {w0 w w' : World} {L : List Asrt} {g : Nat} {o o' : Obj} (H : St w0 w (pt g o :: L)) (hb : w.grownBy w' (some g)) (ho : w'.heap[g]? = some o') : St w0 w' (pt g o' :: L) := by
  obtain ⟨h1, h2, a, s, d, e1, e2⟩ := H.sat
  refine ⟨hb.os.trans H.os, hb.tape.trans H.tape, hb.output.trans H.output, Nat.le_trans H.size hb.size, fun b => if b = g then some o' else none, h2, by simp [pt], s, ⟨fun b => ?_⟩, ⟨fun b u e => ?_⟩, ⟨fun b u e => ?_⟩⟩
  · by_cases hbg : b = g
    · subst hbg; right
      rcases d.g b with h|h
      · have a : h1 b = some o := a
        rw [a] at h; cases h
      · exact h
    · left; simp [hbg]
  · by_cases hbg : b = g
    · subst hbg; simp only [if_true, Option.some.injEq] at e; subst e; exact ho
    · simp [hbg] at e
  · have hw : w.heap[b]? = some u := e2.g b u e
    have hne : some b ≠ some g := fun hh => by
      have hh : b = g := Option.some.inj hh
      subst hh
      rcases d.g b with h|h
      · have a : h1 b = some o := a
        rw [a] at h; cases h
      · rw [h] at e; cases e
    exact (hb.block b (Array.getElem?_eq_some_iff.1 hw).1 hne).trans hw
theorem St.turnedC {w0 w w' : World} {L : List Asrt} {g E : Nat} {cur cur' : Array Value} (H : St w0 w (cl g cur E :: L)) (hb : w.grownBy w' (some g)) (ho : w'.heap[g]? = some (.cells cur' E (0, 0))) : St w0 w' (cl g cur' E :: L) := St.turned H hb ho
theorem own_of_row {w0 w w' : World} {L : List Asrt} {E n : Nat} {v : Value} {xs : List Value} (H : St w0 w L) (hb : Below w.heap.size w w') (hr : w'.ownsRow w.heap.size E 1 v n xs) : ∃ a c, v = .slice a n c ∧ St w0 w' (own E 1 (.slice a n c) n xs :: L) := by
  obtain ⟨hl, h⟩ := hr
  rcases h with ⟨rfl, rfl⟩|⟨g, cap, cur, rfl, hbase, hg, h1, h2, h3, h4⟩
  · obtain rfl : xs = [] := by simpa using hl
    exact ⟨none, 0, rfl, (H.newer hb).own_nil E 1⟩
  · exact ⟨some ⟨g, 0, none⟩, cap, rfl, St.own_mk (g := g) (H.newest hb hbase hg) h1 h2 h3 h4⟩
end Go.Sl

/- slices.Sorted(slices.Values(s)) at ints, as a contract. -/
set_option maxHeartbeats 4000000
set_option maxRecDepth 10000
set_option linter.unusedVariables false
set_option linter.unusedSimpArgs false
namespace Go.Sl
open Go Go.Proofs
attribute [local irreducible] pt pur ex all den denOps denS xOps xC cX CX xthen xblk xcut xloop xng retX resX Calls PV Rd Con
open Go.RowKit Go.Maps Go.Sort Go.Shelf
abbrev ownI (a : Option Addr) (c : Nat) (zs : List Int) : Asrt := own 3 1 (.slice a zs.length c) zs.length (zs.map (Value.int .i64))
abbrev valsF (b : Nat) : Value := .func (.func 87) #[] #[.pointer (some ⟨b, 0, none⟩)]
def sortZ (zs : List Int) : List Int := zs.mergeSort fun x y => decide (x ≤ y)
theorem sortZ_len (zs : List Int) : (sortZ zs).length = zs.length := by simp [sortZ]
theorem values_x {L : List Asrt} {a : Option Addr} {n c : Nat} : Con Tryz.prog 62 [.slice a n c] L (fun v M => ∃ b, v = valsF b ∧ M = cl b #[.slice a n c] 43 :: L) := by
  refine fn_x Tryz.func62 rfl rfl rfl Tryz.mixed (by kernel_rfl) ?_
  intro w0
  refine Y1 ?_
  refine Zh4 rfl ?_; intro b1
  refine V6 ?_
  refine rx1 (Zg8 rfl (Zg7)) ?_
  exact ⟨_, ⟨b1, rfl, rfl⟩, qI⟩
theorem appendSeq_x {a : Option Addr} {c b : Nat} {zs : List Int} (hz : zs.length * 8 ≤ 140737488351232) : Con Tryz.prog 107 [.slice none 0 0, valsF b] [cl b #[.slice a zs.length c] 43, ownI a c zs] (fun v M => ∃ a' c', v = .slice a' zs.length c' ∧ M = [ownI a' c' zs, cl b #[.slice a zs.length c] 43, ownI a c zs]) :=
  Con.of fun w0 w L H => by
    have hb0 := H.cl_get
    have hlt : b < w.heap.size := (Array.getElem?_eq_some_iff.1 hb0).1
    have hI : Ints w.heap.size w (.slice a zs.length c) zs := by
      have H2 : St w0 w (ownI a c zs :: cl b #[.slice a zs.length c] 43 :: L) := H.swap
      rcases H2.own_get with ⟨hv, hn, _, _⟩|⟨g, cap, cur, hv, _, _, _, h4, h5, H3⟩
      · exact .inl ⟨hv, List.eq_nil_of_length_eq_zero hn⟩
      · refine .inr ⟨g, 0, cap, hv, (Array.getElem?_eq_some_iff.1 H3.cl_get).1, fun j hj => ?_⟩
        have hc : (cur.toList.take (zs.length * 1))[j]? = (zs.map (Value.int .i64))[j]? := by rw [h4]
        rw [Nat.mul_one, List.getElem?_take_of_lt hj, List.getElem?_map] at hc
        rw [Nat.zero_add]
        simp only [World.cell?, H3.cl_get]
        rw [List.getElem?_eq_getElem hj] at hc ⊢
        simpa using hc
    have hcell : w.cell? ⟨b, 0, none⟩ = some (.slice a zs.length c) := by simp [World.cell?, hb0]
    refine ((callsIn_wide (n := 5)).1 (appendSeq_in Fence.wide 5 trivial trivial rfl (by omega) b (.slice a zs.length c) zs hz w hlt hcell hI)).mono ?_
    rintro e w' ⟨v, rfl, hr, hb⟩
    obtain ⟨a', c', rfl, H'⟩ := own_of_row H hb hr
    exact ⟨_, rfl, _, H', a', c', rfl, rfl⟩
theorem collect_x {a : Option Addr} {c b : Nat} {zs : List Int} (hz : zs.length * 8 ≤ 140737488351232) : Con Tryz.prog 85 [valsF b] [cl b #[.slice a zs.length c] 43, ownI a c zs] (fun v M => ∃ a' c', v = .slice a' zs.length c' ∧ M = [ownI a' c' zs, cl b #[.slice a zs.length c] 43, ownI a c zs]) := by
  refine fn_x Tryz.func85 rfl rfl rfl Tryz.mixed (by kernel_rfl) ?_
  intro w0
  refine Y5 ?_
  refine Zh8 rfl (by kernel_rfl) (appendSeq_x hz) rfl qT ?_
  rintro _ _ ⟨a', c', rfl, rfl⟩
  refine V3 ?_
  refine rx1 (Zhc rfl (Zg7)) ?_
  exact ⟨_, ⟨a', c', rfl, rfl⟩, qI⟩
theorem sort_x {a : Option Addr} {c : Nat} {zs : List Int} (hz : zs.length * 8 ≤ 140737488351232) : Con Tryz.prog 86 [.slice a zs.length c] [ownI a c zs] (fun v M => v = .tuple #[] ∧ M = [own 3 1 (.slice a zs.length c) zs.length ((sortZ zs).map (Value.int .i64))]) :=
  Con.of fun w0 w L H => by
    rcases St.own_get (L := L) H with ⟨hv, hn, hx, H3⟩|⟨g, cap, cur, hv, h1, h2, h3, h4, h5, H3⟩
    · have hz0 : zs = [] := List.eq_nil_of_length_eq_zero hn
      subst hz0
      refine (AnyM.slices_Sort_int_none Tryz.sortA a c w).mono ?_
      rintro e w' ⟨rfl, rfl⟩
      exact ⟨_, rfl, _, H, rfl, by rw [show sortZ [] = [] from by simp [sortZ]]⟩
    · simp only [Value.slice.injEq] at hv
      obtain ⟨rfl, _, rfl⟩ := hv
      have hg := H3.cl_get
      have hlt : g < w.heap.size := (Array.getElem?_eq_some_iff.1 hg).1
      have hH : Holds (Value.int .i64) w g 0 zs.toArray := holds_of_block_i hg (by rw [← h4, Nat.mul_one])
      refine (AnyM.slices_Sort_int Tryz.sortA g 0 c zs w hH hlt (by omega)).mono ?_
      rintro e w' ⟨rfl, k, os, rfl⟩
      have hr := ownsRow_sorted_i (w := w) (base := 0) (g := g) (cap := c) (n := k) (os := os) (ss := zs) (ts := sortZ zs) (sortZ_len zs) (Nat.zero_le _) hg h1 h2 h3
      rcases hr.2 with ⟨hbad, _⟩|⟨g', cap', cur', hv', _, hg', r1, r2, r3, r4⟩
      · cases hbad
      · simp only [Value.slice.injEq, Option.some.injEq, Addr.mk.injEq] at hv'
        obtain ⟨⟨rfl, _⟩, _, rfl⟩ := hv'
        exact ⟨_, rfl, [own 3 1 (.slice (some ⟨g, 0, none⟩) zs.length c) zs.length ((sortZ zs).map (Value.int .i64))], St.own_mk (g := g) (St.turnedC H3 (grownBy_sorted_i _) hg') r1 r2 r3 r4, rfl, rfl⟩
theorem sorted_x {a : Option Addr} {c b : Nat} {zs : List Int} (hz : zs.length * 8 ≤ 140737488351232) : Con Tryz.prog 61 [valsF b] [cl b #[.slice a zs.length c] 43, ownI a c zs] (fun v M => ∃ a' c', v = .slice a' zs.length c' ∧ M = [own 3 1 (.slice a' zs.length c') zs.length ((sortZ zs).map (Value.int .i64)), cl b #[.slice a zs.length c] 43, ownI a c zs]) := by
  refine fn_x Tryz.func61 rfl rfl rfl Tryz.mixed (by kernel_rfl) ?_
  intro w0
  refine Y5 ?_
  refine Zh8 rfl (by kernel_rfl) (collect_x hz) rfl qT ?_
  rintro _ _ ⟨a', c', rfl, rfl⟩
  refine Y5 ?_
  refine Zh8 rfl (by kernel_rfl) (sort_x hz) rfl qT ?_
  rintro _ _ ⟨rfl, rfl⟩
  refine V6 ?_
  refine rx1 (Zhc rfl (Zg7)) ?_
  exact ⟨_, ⟨a', c', rfl, rfl⟩, qI⟩
end Go.Sl

/- The engine over pieces alone: maps told by what they hold; a slice cut, and cleared, in its place. -/
set_option linter.unusedVariables false
set_option linter.unusedSimpArgs false
namespace Go.Sl
open Go
def Keys1 (es : List Ent) : Prop := (es.map (·.1)).Nodup
theorem esGet_none {es : List Ent} {k : Int} : esGet es k = none ↔ k ∉ es.map (·.1) := by
  induction es with
  | nil => simp [esGet]
  | cons e r ih =>
    unfold esGet
    by_cases h : e.1 = k
    · simp [h]
    · rw [if_neg h, ih]; simp only [List.map_cons, List.mem_cons, not_or]
      exact ⟨fun hh => ⟨fun hk => h hk.symm, hh⟩, fun hh => hh.2⟩
theorem esSet_get {es : List Ent} {k : Int} {v : Value} {c : Nat} (k' : Int) : esGet (esSet es k v c) k' = if k' = k then some v else esGet es k' := by
  induction es with
  | nil =>
    simp only [esSet, esGet]
    by_cases h : k' = k
    · rw [if_pos h, if_pos h.symm]
    · rw [if_neg h, if_neg (fun hh => h hh.symm)]
  | cons e r ih =>
    unfold esSet
    by_cases h : e.1 = k
    · rw [if_pos h]
      simp only [esGet]
      by_cases h2 : k' = k
      · rw [if_pos h2.symm, if_pos h2]
      · rw [if_neg (fun hh => h2 hh.symm), if_neg h2, if_neg (fun hh => h2 (by rw [← hh, h]))]
    · rw [if_neg h]
      simp only [esGet]
      by_cases h2 : e.1 = k'
      · rw [if_pos h2, if_neg (fun hh => h (h2.trans hh)), if_pos h2]
      · rw [if_neg h2, ih, if_neg h2]
theorem esSet_keys {es : List Ent} {k : Int} {v : Value} {c : Nat} : (esSet es k v c).map (·.1) = if k ∈ es.map (·.1) then es.map (·.1) else es.map (·.1) ++ [k] := by
  induction es with
  | nil => simp [esSet]
  | cons e r ih =>
    unfold esSet
    by_cases h : e.1 = k
    · rw [if_pos h]; simp [h]
    · rw [if_neg h]
      simp only [List.map_cons, List.mem_cons, ih]
      by_cases h2 : k ∈ r.map (·.1)
      · rw [if_pos h2, if_pos (.inr h2)]
      · rw [if_neg h2, if_neg (fun hh => hh.elim (fun hk => h hk.symm) h2)]; rfl
theorem esSet_nodup {es : List Ent} {k : Int} {v : Value} {c : Nat} (h : Keys1 es) : Keys1 (esSet es k v c) := by
  unfold Keys1
  rw [esSet_keys]
  by_cases h2 : k ∈ es.map (·.1)
  · rw [if_pos h2]; exact h
  · rw [if_neg h2, List.nodup_append]
    refine ⟨h, by simp, ?_⟩
    intro a ha b hb
    simp only [List.mem_singleton] at hb
    subst hb
    exact fun e => h2 (e ▸ ha)
theorem esDel_get {es : List Ent} {k : Int} (h : Keys1 es) (k' : Int) : esGet (esDel es k) k' = if k' = k then none else esGet es k' := by
  induction es with
  | nil => simp [esDel, esGet]
  | cons e r ih =>
    have hn : Keys1 r := (List.nodup_cons.1 h).2
    have hk : e.1 ∉ r.map (·.1) := (List.nodup_cons.1 h).1
    unfold esDel
    by_cases h1 : e.1 = k
    · rw [if_pos h1]
      by_cases h2 : k' = k
      · rw [if_pos h2, h2, esGet_none, ← h1]; exact hk
      · rw [if_neg h2]; simp only [esGet]; rw [if_neg (fun hh => h2 (by rw [← hh, h1]))]
    · rw [if_neg h1]
      simp only [esGet]
      by_cases h2 : e.1 = k'
      · rw [if_pos h2, if_pos h2, if_neg (fun hh => h1 (h2.trans hh))]
      · rw [if_neg h2, if_neg h2, ih hn]
theorem esDel_sub {es : List Ent} {k : Int} : (esDel es k).map (·.1) = (es.map (·.1)).erase k := by
  induction es with
  | nil => rfl
  | cons e r ih =>
    unfold esDel
    by_cases h : e.1 = k
    · rw [if_pos h]; simp [h]
    · rw [if_neg h, List.map_cons, List.map_cons, List.erase_cons_tail (by simpa using h), ih]
theorem esDel_nodup {es : List Ent} {k : Int} (h : Keys1 es) : Keys1 (esDel es k) := by
  unfold Keys1; rw [esDel_sub]; exact h.erase k
/-- A map's block: what it holds at a key. -/
def fmA (b : Nat) (f : Int → Option Value) : Asrt := ex fun es : List Ent => ex fun c : Nat => all [pur (Keys1 es ∧ ∀ k, esGet es k = f k), pt b (.map (mapE es) c)]
def fput (f : Int → Option Value) (k : Int) (o : Option Value) : Int → Option Value := fun k' => if k' = k then o else f k'
section
variable {w0 w : World} {L M M' M2 : List Asrt} {b : Nat} {f : Int → Option Value} {k : Int}
theorem St.fm_get (H : St w0 w (fmA b f :: L)) : ∃ es c, Keys1 es ∧ (∀ k, esGet es k = f k) ∧ St w0 w (pt b (.map (mapE es) c) :: L) := by
  unfold fmA at H
  obtain ⟨es, H⟩ := H.ex_get; obtain ⟨c, H⟩ := H.ex_get
  have H := H.all_get
  have hp := H.pur_get
  exact ⟨es, c, hp.1, hp.2, H.drop⟩
theorem St.fm_mk {es : List Ent} {c : Nat} (h1 : Keys1 es) (h2 : ∀ k, esGet es k = f k) (H : St w0 w (pt b (.map (mapE es) c) :: L)) : St w0 w (fmA b f :: L) := by
  unfold fmA
  exact St.ex_mk es (St.ex_mk c (St.all_mk [pur (Keys1 es ∧ ∀ k, esGet es k = f k), pt b (.map (mapE es) c)] (H.pur_mk ⟨h1, h2⟩)))
end
section
variable {P : Program} {w0 : World} {ops : Array Oper} {dst : Option Nat} {ty : TypeId} {pos : String} {after : Array Edge} {rest : List Oper} {ρ : Env} {K : XK} {M M' M2 SM : List Asrt}
variable {x y z' : Operand} {T Kt E b : Nat} {f : Int → Option Value} {k : Int} {v : Value}
theorem run_fm {n by' : Nat} {z : Value} {w : World} {F : Asrt} [hm : TyMap P T Kt E] [hk : TyInt P Kt .i64] [hz : TyI P E n by' z] (hh : Has M (fmA b f) M') (hv : (f k).getD z = v) (H : St w0 w (F :: M)) :
    (Instr.lookup T (.map (some b)) (.int .i64 k) false).run P w = .ok v w := by
  obtain ⟨es, c, _, h2, H1⟩ := (H.pick (.there hh)).fm_get
  rw [run_lookup (Kt := Kt) (E := E) (z := z) H1.pt_get, h2, hv]
theorem Zoc {n by' : Nat} {z : Value} [hm : TyMap P T Kt E] [hk : TyInt P Kt .i64] [hz : TyI P E n by' z] (hx : ev ρ x = .map (some b)) (hy : ev ρ y = .int .i64 k) (hh : Has M (fmA b f) M') (hv : (f k).getD z = v)
    (kk : xOps P w0 ops rest (put ρ dst v) M K) : xOps P w0 ops (⟨dst, .lookup T x y false, ty, pos, after, none⟩ :: rest) ρ M K := by
  intro F w H
  refine Zcy ?_
  have : (execOp (ev ρ) ⟨dst, .lookup T x y false, ty, pos, after, none⟩).run P w = .ok (.value v) w := op_run_value (by rw [hx, hy]; exact run_fm (Kt := Kt) (E := E) hh hv H)
  rw [this]; exact kk F w H
theorem Zod {r : Ord} {i n by' : Nat} {z : Value} [hm : TyMap P T Kt E] [hk : TyInt P Kt .i64] [hz : TyI P E n by' z] (ho : ops[i]? = some ⟨dst, .lookup T x y false, ty, pos, after, none⟩) (hx : ev ρ x = .map (some b)) (hy : ev ρ y = .int .i64 k) (hh : Has SM (fmA b f) M') (hv : (f k).getD z = v)
    (kk : cX P w0 ops SM r (put ρ dst v) M K) : cX P w0 ops SM (.r i r) ρ M K :=
  Zit ho (fun F w H => op_run_value (by rw [hx, hy]; exact run_fm (Kt := Kt) (E := E) hh hv H)) kk
theorem Zoe {n by' : Nat} {z : Value} {t : Bool} [hm : TyMap P T Kt E] [hk : TyInt P Kt .i64] [hz : TyI P E n by' z] (hx : ev ρ x = .map (some b)) (hy : ev ρ y = .int .i64 k) (hh : Has M (fmA b f) M') (hv : (f k).getD z = v) (ht : (f k).isSome = t)
    (kk : xOps P w0 ops rest (put ρ dst (.tuple #[v, .bool t])) M K) : xOps P w0 ops (⟨dst, .lookup T x y true, ty, pos, after, none⟩ :: rest) ρ M K := by
  intro F w H
  refine Zcy ?_
  obtain ⟨es, c, _, h2, H1⟩ := (H.pick (.there hh)).fm_get
  have : (execOp (ev ρ) ⟨dst, .lookup T x y true, ty, pos, after, none⟩).run P w = .ok (.value (.tuple #[v, .bool t])) w := op_run_value (by rw [hx, hy, run_lookup2 (Kt := Kt) (E := E) (z := z) H1.pt_get, h2, hv, ht])
  rw [this]; exact kk F w H
theorem Zof [hm : TyMap P T Kt E] [hk : TyInt P Kt .i64] (hx : ev ρ x = .map (some b)) (hy : ev ρ y = .int .i64 k) (hz : ev ρ z' = v) (hh : Repl M (fmA b f) (fmA b (fput f k (some v))) M2) (kk : xOps P w0 ops rest (put ρ dst undef) M2 K) :
    xOps P w0 ops (⟨dst, .mapUpdate T x y z', ty, pos, after, none⟩ :: rest) ρ M K := by
  intro F w H
  refine Zcy ?_
  obtain ⟨R, h1, h2⟩ := hh.has
  obtain ⟨es, c, g1, g2, H1⟩ := (H.pick (.there h1)).fm_get
  have : (execOp (ev ρ) ⟨dst, .mapUpdate T x y z', ty, pos, after, none⟩).run P w = .ok .skip _ := op_run_unit (by rw [hx, hy, hz]; exact run_mapUpdate (Kt := Kt) (E := E) H1.pt_get)
  rw [this]
  refine kk F _ (St.unpick (St.fm_mk (es := esSet es k v c) (c := esClock es k c) (esSet_nodup g1) (fun k' => ?_) (H1.set _)) (.there h2))
  rw [esSet_get, g2]; rfl
theorem Zog {K2 : Nat} [hm : TyMap P T Kt E] [hk : TyInt P Kt .i64] (hx : ev ρ x = .map (some b)) (hy : ev ρ y = .int .i64 k) (hh : Repl M (fmA b f) (fmA b (fput f k none)) M2) (kk : xOps P w0 ops rest (put ρ dst (.tuple #[])) M2 K) :
    xOps P w0 ops (⟨dst, .call { callee := .builtin .delete, args := #[x, y], argTypes := #[T, K2] }, ty, pos, after, none⟩ :: rest) ρ M K := by
  intro F w H
  refine Zcy ?_
  obtain ⟨R, h1, h2⟩ := hh.has
  obtain ⟨es, c, g1, g2, H1⟩ := (H.pick (.there h1)).fm_get
  have : (execOp (ev ρ) ⟨dst, .call { callee := .builtin .delete, args := #[x, y], argTypes := #[T, K2] }, ty, pos, after, none⟩).run P w = .ok (.value (.tuple #[])) { w with heap := w.heap.setIfInBounds b (.map (mapE (esDel es k)) c) } := by
    refine op_run_value ?_
    simp only [List.map_toArray, List.map_cons, List.map_nil, hx, hy]
    exact run_delete (Kt := Kt) (E := E) H1.pt_get
  rw [this]
  refine kk F _ (St.unpick (St.fm_mk (es := esDel es k) (c := c) (esDel_nodup g1) (fun k' => ?_) (H1.set _)) (.there h2))
  rw [esDel_get g1, g2]; rfl
theorem Zoh (kk : ∀ b, xOps P w0 ops rest (put ρ dst (.map (some b))) (fmA b (fun _ => none) :: M) K) :
    xOps P w0 ops (⟨dst, .makeMap T none, ty, pos, after, none⟩ :: rest) ρ M K := by
  intro F w H
  refine Zcy ?_
  have : (execOp (ev ρ) ⟨dst, .makeMap T none, ty, pos, after, none⟩).run P w = .ok (.value (.map (some w.heap.size))) { w with heap := w.heap.push (.map #[] 0) } := rfl
  rw [this]
  exact kk w.heap.size F _ (St.swap (St.fm_mk (es := []) (c := 0) (by simp [Keys1]) (fun _ => rfl) (H.alloc (.map #[] 0))))
/-- A cut with all three bounds. -/
theorem run_bounds3i {len cap : Nat} {lo y m : Operand} {k1 k2 k3 : IntKind} {l h mx : Nat} {w : World} (hl : ev ρ lo = .int k1 (l : Int)) (hh : ev ρ y = .int k2 (h : Int)) (hm : ev ρ m = .int k3 (mx : Int)) (h1 : l ≤ h) (h2 : h ≤ mx) (hc : mx ≤ cap) :
    (Instr.sliceBounds true len cap (some (ev ρ lo)) (some (ev ρ y)) (some (ev ρ m))).run P w = .ok (l, h, mx) w := by
  unfold Instr.sliceBounds
  simp only []
  rw [run_bind P _ _ w w _ (run_bound hm ⟨by omega, by omega⟩), Int.toNat_natCast, run_bind P _ _ w w _ (run_bound hh ⟨by omega, by omega⟩), Int.toNat_natCast, run_bind P _ _ w w _ (run_bound hl ⟨by omega, by omega⟩), Int.toNat_natCast]
  rfl
theorem Zok {lo m : Operand} {S sz by' bb o len cap : Nat} {z : Value} {k1 k2 k3 : IntKind} {l h mx : Nat} [hs : TySlice P S E] [hi' : TyI P E sz by' z] (hx : ev ρ x = .slice (some ⟨bb, o, none⟩) len cap)
    (hl : ev ρ lo = .int k1 (l : Int)) (hh : ev ρ y = .int k2 (h : Int)) (hm : ev ρ m = .int k3 (mx : Int)) (h1 : l ≤ h) (h2 : h ≤ mx) (hc : mx ≤ cap) :
    PV P (.slice S x (some lo) (some y) (some m)) ρ (.slice (some ⟨bb, cutOff o l mx sz, none⟩) (h - l) (mx - l)) := by
  intro oo w ho; unfold execOp; rw [ho]; refine op_run_value ?_; rw [hx]
  unfold Instr.sliceAt
  rw [run_bind P _ _ w w _ (run_under hs.h)]
  simp only []
  unfold Instr.slice
  rw [run_bind P _ _ w w _ (run_under hs.h)]
  simp only [Option.map_some]
  rw [run_bind P _ _ w w _ (run_bounds3i hl hh hm h1 h2 hc), run_bind P _ _ w w _ (run_size hi')]
  show (Result.ok (Value.slice _ _ _) w : Result Value) = _
  unfold cutOff
  split
  · rfl
  · simp only [Option.map_some, addr_add]
/-- append into the room of an array whose cells are known. -/
theorem Zoi {size by' n m T' E' g cap : Nat} {z sv : Value} {cur cur' : Array Value} {news : List Value} [hs : TySlice P T E] [hi : TyI P E size by' z] [ht : TySlice P T' E']
    (hx : ev ρ x = .slice (some ⟨g, 0, none⟩) n cap) (hy : ev ρ y = sv) (hsl : Rd M size sv m news) (hm : Repl M (cl g cur E) (cl g cur' E) M2) (h1 : news.all oneC = true) (hroom : n + m ≤ cap) (hsz : cur.size = cap * size) (hc : wr cur (n * size) news = cur')
    (k : xOps P w0 ops rest (put ρ dst (.slice (some ⟨g, 0, none⟩) (n + m) cap)) M2 K) :
    xOps P w0 ops (⟨dst, .call { callee := .builtin .append, args := #[x, y], argTypes := #[T, T'] }, ty, pos, after, none⟩ :: rest) ρ M K := by
  intro F w H
  have hsl := hsl _ _ _ H
  refine Zcy ?_
  obtain ⟨R, hh1, hh2⟩ := hm.has
  have H1 := H.pick (.there hh1)
  have hr : (Builtin.append_ #[T, T'] ty #[.slice (some ⟨g, 0, none⟩) n cap, sv]).run P w = .ok (.slice (some ⟨g, 0, none⟩) (n + m) cap) { w with heap := w.heap.setIfInBounds g (.cells (wr cur (n * size) news) E (0, 0)) } :=
    run_append_room ht.h hsl.lenOf (by
      have := hsl.first (P := P) m (Nat.le_refl _)
      rwa [← hsl.1, List.take_length] at this) hsl.1 h1 hroom H1.cl_get hsz
  have : (execOp (ev ρ) ⟨dst, .call { callee := .builtin .append, args := #[x, y], argTypes := #[T, T'] }, ty, pos, after, none⟩).run P w = .ok (.value (.slice (some ⟨g, 0, none⟩) (n + m) cap)) { w with heap := w.heap.setIfInBounds g (.cells (wr cur (n * size) news) E (0, 0)) } := by
    refine op_run_value ?_
    simp only [List.map_toArray, List.map_cons, List.map_nil, hx, hy]
    exact hr
  rw [this]
  subst hc
  exact k F _ (St.unpick (H1.set (.cells (wr cur (n * size) news) E (0, 0))) (.there hh2))
theorem Zoj {by' n g o cap : Nat} {z : Value} {cur cur' : Array Value} [hs : TySlice P T E] [hi : TyI P E 1 by' z] (hz : z.cells = #[z]) (h1 : oneC z = true)
    (hx : ev ρ x = .slice (some ⟨g, o, none⟩) (n + 1) cap) (hm : Repl M (cl g cur E) (cl g cur' E) M2) (hle : o + (n + 1) ≤ cur.size) (hc : wr cur o (List.replicate (n + 1) z) = cur')
    (k : xOps P w0 ops rest (put ρ dst (.tuple #[])) M2 K) :
    xOps P w0 ops (⟨dst, .call { callee := .builtin .clear, args := #[x], argTypes := #[T] }, ty, pos, after, none⟩ :: rest) ρ M K := by
  intro F w H
  refine Zcy ?_
  obtain ⟨R, hh1, hh2⟩ := hm.has
  have H1 := H.pick (.there hh1)
  have hzc : (Builtin.zeroCells z.cells (n + 1)).toList = List.replicate (n + 1) z := by
    rw [hz]; simp [Builtin.zeroCells, Nat.mod_one, List.map_const']
  have hr : (Builtin.clear_ #[T] ty #[.slice (some ⟨g, o, none⟩) (n + 1) cap]).run P w = .ok (.tuple #[]) { w with heap := w.heap.setIfInBounds g (.cells (wr cur o (List.replicate (n + 1) z)) E (0, 0)) } := by
    simp only [Builtin.clear_, List.getElem?_toArray, List.getElem?_cons_zero]
    rw [run_bind P _ _ w w _ (run_under hs.h)]
    simp only []
    rw [run_bind P _ _ w w _ (run_zero hi), hzc]
    have := run_storeCells (P := P) (List.replicate (n + 1) z) H1.cl_get o 0 (by simpa using hle) (by simp [h1])
    rw [run_bind P _ _ w _ () this]
    rfl
  have : (execOp (ev ρ) ⟨dst, .call { callee := .builtin .clear, args := #[x], argTypes := #[T] }, ty, pos, after, none⟩).run P w = .ok (.value (.tuple #[])) { w with heap := w.heap.setIfInBounds g (.cells (wr cur o (List.replicate (n + 1) z)) E (0, 0)) } := by
    refine op_run_value ?_
    simp only [List.map_toArray, List.map_cons, List.map_nil, hx]
    exact hr
  rw [this]
  subst hc
  exact k F _ (St.unpick (H1.set (.cells (wr cur o (List.replicate (n + 1) z)) E (0, 0))) (.there hh2))
end
end Go.Sl

/- slices.Index, Delete, Clone at ints and bytes, walked. -/
set_option maxHeartbeats 4000000
set_option maxRecDepth 10000
set_option linter.unusedVariables false
set_option linter.unusedSimpArgs false
namespace Go.Sl
open Go Go.Proofs
attribute [local irreducible] pt pur ex all den denOps denS xOps xC cX CX xthen xblk xcut xloop xng retX resX Calls PV Rd Con
abbrev zv (zs : List Int) : List Value := zs.map (Value.int .i64)
theorem zv_one (zs : List Int) : (zv zs).all oneC = true := by simp [oneC]
theorem index_yes {L : List Asrt} {a : Option Addr} {c : Nat} {zs : List Int} {n : Int} (h : Rd L 1 (.slice a zs.length c) zs.length (zv zs)) (hl : zs.length ≤ 9223372036854775807) (hn : n ∈ zs) : Con Tryz.prog 79 [.slice a zs.length c, .int .i64 n] L (fun v M => (∃ i, ∃ hi : i < zs.length, zs[i] = n ∧ v = nvv i) ∧ L = M) := by
  refine fn_x Tryz.func79 rfl rfl rfl Tryz.mixed (by kernel_rfl) ?_
  intro w0
  refine V8 ?_
  refine Zgo [(4, 5), (8, 18)] (by kernel_rfl) (fun i : Nat => i < zs.length ∧ n ∉ zs.take i) (fun _ => L) (fun i => [(8, nvv i)]) (fun i => zs.length - i) 0 ⟨List.length_pos_of_mem hn, by simp⟩ qI ⟨rfl, trivial⟩ ?_
  rintro i u ⟨hi, he⟩
  refine Zgt (fun F w H => h.someAt (by omega) H) ?_
  rintro ⟨s1, s2, rfl⟩
  refine Y2 ?_
  refine Zhm 9 rfl (decide_eq_true (hi)) ?_
  refine V6 ?_
  by_cases hz : n = zs[i]
  · refine Y5 ?_
    refine Zff rfl ((h.at hi (by rw [List.getElem?_map, List.getElem?_eq_getElem hi]; rfl))) ?_
    refine Zhg (Zbr (b := zs[i]) rfl rfl) ?_
    refine Zhm 16 rfl (decide_eq_true (hz)) ?_
    refine V6 ?_
    refine rx1 (Zg9 rfl (Zg7)) ?_
    exact ⟨_, ⟨⟨i, hi, hz.symm, rfl⟩, rfl⟩, qI⟩
  · refine Y5 ?_
    refine Zff rfl ((h.at hi (by rw [List.getElem?_map, List.getElem?_eq_getElem hi]; rfl))) ?_
    refine Zhg (Zbr (b := zs[i]) rfl rfl) ?_
    refine Zhn 16 rfl (decide_eq_false (hz)) ?_
    refine V6 ?_
    have he2 : n ∉ zs.take (i + 1) := by
      rw [List.take_succ_eq_append_getElem hi, List.mem_append, List.mem_singleton]
      exact fun hh => hh.elim he hz
    have hi2 : i + 1 < zs.length := by
      by_cases hh : i + 1 < zs.length
      · exact hh
      · exact absurd (by rw [List.take_of_length_le (by omega)]; exact hn) he2
    exact Zgl (i + 1) qO ⟨hi2, he2⟩ qI ⟨rfl, trivial⟩
theorem index_no {L : List Asrt} {a : Option Addr} {c : Nat} {zs : List Int} {n : Int} (h : Rd L 1 (.slice a zs.length c) zs.length (zv zs)) (hl : zs.length ≤ 9223372036854775807) (hn : n ∉ zs) : Con Tryz.prog 79 [.slice a zs.length c, .int .i64 n] L (fun v M => v = .int .i64 (-1) ∧ L = M) := by
  refine fn_x Tryz.func79 rfl rfl rfl Tryz.mixed (by kernel_rfl) ?_
  intro w0
  refine V8 ?_
  refine Zgo [(4, 5), (8, 18)] (by kernel_rfl) (fun i : Nat => i ≤ zs.length) (fun _ => L) (fun i => [(8, nvv i)]) (fun i => zs.length - i) 0 (Nat.zero_le _) qI ⟨rfl, trivial⟩ ?_
  intro i u hi
  refine V3 ?_
  refine Zgg rfl (fun hB => ?_) (fun hB => ?_)
  · refine Zgt (fun F w H => h.someAt (by omega) H) ?_
    rintro ⟨s1, s2, rfl⟩
    refine Y9 ?_
    refine Zff rfl ((h.at hB (by rw [List.getElem?_map, List.getElem?_eq_getElem hB]; rfl))) ?_
    refine Zhg (Zbr (b := zs[i]) rfl rfl) ?_
    refine Zhn 16 rfl (decide_eq_false ((fun hh => hn (hh ▸ List.getElem_mem hB)))) ?_
    refine V6 ?_
    exact Zgl (i + 1) qO (by omega) qI ⟨rfl, trivial⟩
  · refine V3 ?_
    refine rx1 (Zg9 rfl (Zg7)) ?_
    exact ⟨_, ⟨rfl, rfl⟩, qI⟩
theorem del_take (xs rest news : List Value) (z : Value) (i n : Nat) (hx : xs.length = n) (hi : i < n) (hl : news.length = n - (i + 1)) : ((wr (wr (xs ++ rest).toArray i news) (n - 1) [z]).toList).take (n - 1) = xs.take i ++ news := by
  have e1 : ((xs ++ rest).take i ++ news ++ (xs ++ rest).drop (i + news.length)).take (n - 1) = xs.take i ++ news := by
    rw [List.take_append_of_le_length (by simp; omega), List.take_append_of_le_length (show i ≤ xs.length by omega), List.take_of_length_le (by simp; omega)]
  have h2 : n - 1 ≤ (((xs ++ rest).take i ++ news ++ (xs ++ rest).drop (i + news.length)).take (n - 1)).length := by rw [e1]; simp; omega
  rw [wr_toList _ _ _ (by rw [wr_size]; simp; omega), wr_toList _ _ _ (by simp; omega), List.append_assoc, List.take_append_of_le_length h2, List.take_take, Nat.min_self, e1]
theorem rd_cut {M M' : List Asrt} {g c i n E : Nat} {xs rest : List Value} (hm : Has M (cl g (xs ++ rest).toArray E) M') (hx : xs.length = n) (hi : i < n) (hnc : n ≤ c) : Rd M 1 (.slice (some ⟨g, cutOff 0 (i + 1) c 1, none⟩) (n - (i + 1)) (c - (i + 1))) (n - (i + 1)) (xs.drop (i + 1)) := by
  by_cases h0 : n = i + 1
  · rw [show n - (i + 1) = 0 by omega, List.drop_of_length_le (by omega)]; exact Rd.nil
  · unfold cutOff
    rw [if_neg (show ¬ c = i + 1 by omega)]
    refine Rd.cl (o := 0 + (i + 1) * 1) hm (by simp; omega) (by simp; omega) ?_
    simp only [Array.toList_extract, List.extract_eq_take_drop]
    rw [show 0 + (i + 1) * 1 = i + 1 by omega, show i + 1 + (n - (i + 1)) * 1 - (i + 1) = n - (i + 1) by omega, List.drop_append_of_le_length (by omega), List.take_append_of_le_length (by simp; omega), List.take_of_length_le (by simp; omega)]
theorem delete_x {g c i : Nat} {zs : List Int} (hi : i < zs.length) (hzl : zs.length ≤ 1000000) : Con Tryz.prog 78 [.slice (some ⟨g, 0, none⟩) zs.length c, nvv i, nvv (i + 1)] [ownI (some ⟨g, 0, none⟩) c zs] (fun v M => v = .slice (some ⟨g, 0, none⟩) (zs.length - 1) c ∧ M = [own 3 1 (.slice (some ⟨g, 0, none⟩) (zs.length - 1) c) (zs.length - 1) (zv (zs.take i ++ zs.drop (i + 1)))]) := by
  refine Con.get (fun w0 w F H => own_cap (n := zs.length) (c := c) .here H) ?_
  rintro ⟨hc, hcm⟩
  refine fn_x Tryz.func78 rfl rfl rfl Tryz.mixed (by kernel_rfl) ?_
  intro w0
  refine Y9 ?_
  refine Zhg (Zok (l := i) (h := i + 1) (mx := zs.length) rfl rfl rfl rfl (by omega) (by omega) (by omega)) ?_
  refine Y4 ?_
  refine Zhg (Zmj (a := i) (b := i + 1) rfl rfl) ?_
  refine Zhn 16 rfl (decide_eq_false ((by omega))) ?_
  refine V7 ?_
  refine Znz (n := zs.length) (cp := c) .here (by omega) ?_
  intro g' rest hg _ _ hr
  obtain rfl : g = g' := by simpa using hg
  have hlen : (zv zs).length = zs.length := by simp
  have hdl : (zv (zs.drop (i + 1))).length = zs.length - (i + 1) := by simp
  refine Ct.o ?_
  refine Zij ([]) [] (.q 0 (.q 1 (.q 2 (.q 3 (.q 4 (.q 5 (.e 6 false (.q 7 .nil)))))))) (by kernel_rfl) (by kernel_rfl) (Imp.arr Arr.stop) ?_
  refine W2 ?_
  refine Zim rfl (Zm0 (h := i) rfl rfl (by omega)) ?_
  refine W2 ?_
  refine Zim rfl (Zci (l := ((i + 1 : Nat) : Int)) (h := (zs.length : Int)) rfl rfl rfl (by omega) (by omega)) ?_
  refine Ziq rfl ?_; refine Zoi (n := i) (m := zs.length - (i + 1)) (news := zv (zs.drop (i + 1))) (cap := c) (size := 1) rfl rfl (by rw [zv, List.map_drop]; exact rd_cut qH hlen hi (by omega)) qR (zv_one _) (by omega) (by simp; omega) rfl ?_; refine Zg3 ⟨(fun hh => Bool.noConfusion hh), ?_⟩
  refine W2 ?_
  refine Ct.o ?_
  rw [show i + (zs.length - (i + 1)) = zs.length - 1 by omega]
  refine Y5 ?_
  refine Zhg (Zna (l := zs.length - 1) (h := zs.length) rfl rfl rfl (by omega) (by omega) (by omega)) ?_
  refine Zoj (n := 0) (o := zs.length - 1) (z := .int .i64 0) rfl rfl (by rw [show zs.length - (zs.length - 1) = 0 + 1 by omega]; rfl) qR (by rw [wr_size]; simp; omega) rfl ?_
  refine V1 ?_
  refine Zgp ((Imp.arr (N := [cl g (wr (wr (zv zs ++ rest).toArray (i * 1) (zv (zs.drop (i + 1)))) (zs.length - 1) (List.replicate (0 + 1) (Value.int .i64 0))) 3]) qV).trans (Imp.own_mk (E := 3) (size := 1) (n := zs.length - 1) (cap := c) (xs := zv (zs.take i ++ zs.drop (i + 1))) (by omega) (by omega) (by rw [wr_size, wr_size]; simp; omega) (by
    rw [Nat.mul_one, Nat.mul_one, show zv (zs.take i ++ zs.drop (i + 1)) = (zv zs).take i ++ zv (zs.drop (i + 1)) from by simp]
    exact del_take _ _ _ _ _ _ hlen hi hdl))) ?_
  refine V4 ?_
  refine rx1 (Zhc rfl (Zg7)) ?_
  exact ⟨_, ⟨rfl, rfl⟩, qI⟩
theorem clone_x {L : List Asrt} {a : Option Addr} {c : Nat} {zs : List Int} (h : Rd L 1 (.slice a zs.length c) zs.length (zv zs)) (hl : zs.length ≤ 1000000) : Con Tryz.prog 59 [.slice a zs.length c] L (fun v M => ∃ a' c', v = .slice a' zs.length c' ∧ M = ownI a' c' zs :: L) := by
  cases ha : a.isNone with
  | true =>
    obtain rfl : a = none := by simpa using ha
    by_cases h0 : zs.length = 0
    · obtain rfl : zs = [] := List.eq_nil_of_length_eq_zero h0
      refine fn_x Tryz.func59 rfl rfl rfl Tryz.mixed (by kernel_rfl) ?_
      intro w0
      refine Y6 ?_
      refine Zhm 4 rfl (rfl) ?_
      refine V5 ?_
      refine rx1 (Zhc rfl (Zg7)) ?_
      exact ⟨_, ⟨none, 0, rfl, rfl⟩, (Imp.arr (N := L) qV).trans Imp.own_nil⟩
    · refine Con.get (fun w0 w F H => h.someAt (by omega) H) ?_
      rintro ⟨s1, s2, hh⟩
      cases hh
  | false =>
    refine fn_x Tryz.func59 rfl rfl rfl Tryz.mixed (by kernel_rfl) ?_
    intro w0
    refine Y6 ?_
    refine Zhn 4 rfl (ha) ?_
    refine Y3 ?_
    refine Zh7 (cs := #[]) (by omega) (by omega) rfl ?_; intro b5; refine Zgw ((Imp.arr (N := cl b5 #[] 3 :: L) qV).trans (Imp.own_mk (E := 3) (size := 1) (n := 0) (cap := 0) (xs := []) (by omega) (by omega) rfl rfl)) ?_
    refine Y1 ?_
    refine Zia rfl rfl qH (h.imp (Imp.arr qV)) qN (by omega) qS ?_; intro a3 c3
    refine V2 ?_
    rw [Nat.zero_add, List.nil_append]
    refine rx1 (Zhc rfl (Zg7)) ?_
    exact ⟨_, ⟨a3, c3, rfl, rfl⟩, qI⟩
theorem cloneB_x {L : List Asrt} {a : Option Addr} {c : Nat} {b : List Byte} (h : Rd L 1 (.slice a b.length c) b.length (b.map u8b)) (hl : b.length ≤ 1000000) : Con Tryz.prog 56 [.slice a b.length c] L (fun v M => ∃ a' c', v = .slice a' b.length c' ∧ M = own 5 1 (.slice a' b.length c') b.length (b.map u8b) :: L) := by
  cases ha : a.isNone with
  | true =>
    obtain rfl : a = none := by simpa using ha
    by_cases h0 : b.length = 0
    · obtain rfl : b = [] := List.eq_nil_of_length_eq_zero h0
      refine fn_x Tryz.func56 rfl rfl rfl Tryz.mixed (by kernel_rfl) ?_
      intro w0
      refine Y6 ?_
      refine Zhm 4 rfl (rfl) ?_
      refine V5 ?_
      refine rx1 (Zhc rfl (Zg7)) ?_
      exact ⟨_, ⟨none, 0, rfl, rfl⟩, (Imp.arr (N := L) qV).trans Imp.own_nil⟩
    · refine Con.get (fun w0 w F H => h.someAt (by omega) H) ?_
      rintro ⟨s1, s2, hh⟩
      cases hh
  | false =>
    refine fn_x Tryz.func56 rfl rfl rfl Tryz.mixed (by kernel_rfl) ?_
    intro w0
    refine Y6 ?_
    refine Zhn 4 rfl (ha) ?_
    refine Y3 ?_
    refine Zh7 (cs := #[]) (by omega) (by omega) rfl ?_; intro b5; refine Zgw ((Imp.arr (N := cl b5 #[] 5 :: L) qV).trans (Imp.own_mk (E := 5) (size := 1) (n := 0) (cap := 0) (xs := []) (by omega) (by omega) rfl rfl)) ?_
    refine Y1 ?_
    refine Zia rfl rfl qH (h.imp (Imp.arr qV)) qN (by omega) qS ?_; intro a3 c3
    refine V2 ?_
    rw [Nat.zero_add, List.nil_append]
    refine rx1 (Zhc rfl (Zg7)) ?_
    exact ⟨_, ⟨a3, c3, rfl, rfl⟩, qI⟩
end Go.Sl
