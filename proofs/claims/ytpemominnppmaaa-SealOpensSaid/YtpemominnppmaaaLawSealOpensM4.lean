/- Parts of the proof, joined: RefR, SealG, SealH, SealI. -/
import Derived.Test.YtpemominnppmaaaLawSealOpensM0
import Derived.Test.YtpemominnppmaaaLawSealOpensM1
import Derived.Test.YtpemominnppmaaaLawSealOpensM2
import Derived.Test.YtpemominnppmaaaLawSealOpensM3
/- Apart: slices that do not share, walked. -/
set_option maxHeartbeats 4000000
set_option maxRecDepth 10000
set_option linter.unusedVariables false
set_option linter.unusedSimpArgs false
namespace Go.Sl
open Go Go.Proofs
attribute [local irreducible] cl pt own old pur ex all den denOps denS xOps xC cX CX xthen xblk xcut xloop xgo xng retX resX Calls PV Rd Con
theorem vP_at {ps : List Part} {qs : List Part} {i : Nat} (hi : i < qs.length) (h : qs.map vP = ps.map vP) {a : Option Addr} {c : Nat} {l : List Byte} (hq : (a, c, l) = qs[i]) : (ps.map vP)[i]? = some (.slice a l.length c) := by
  rw [← h, List.getElem?_map, List.getElem?_eq_getElem hi, ← hq]; rfl
theorem vP_len {ps : List Part} {i n c : Nat} {a : Option Addr} (h : (ps.map vP)[i]? = some (.slice a n c)) {B : Nat} (hb : ∀ p ∈ ps, p.2.2.length ≤ B) : n ≤ B := by
  rw [List.getElem?_map] at h
  obtain ⟨p, hp, h⟩ := Option.map_eq_some_iff.mp h
  simp only [vP, Value.slice.injEq] at h
  have := hb p (List.mem_of_getElem? hp)
  omega
attribute [local irreducible] mkB
theorem apart_x {L : List Asrt} {va : Option Addr} {vc N : Nat} (ps : List Part) (hN : ps.length = N) (hNl : N ≤ 1048576) (hlen : ∀ p ∈ ps, p.2.2.length ≤ 1099511620000) (h : Rd L 1 (.slice va N vc) N (ps.map vP)) :
    Con Try.prog 16 [.slice va N vc] (star ownP ps :: L) (fun r M => r = .bool true ∧ L = M) := by
  refine fn_x Try.func16 rfl rfl rfl Try.mixed (by kernel_rfl) ?_
  intro w0
  refine Ct.o ?_
  refine Zgb ?_
  first|refine Zhg (Za0 rfl) ?_|refine Zhg (Zas rfl) ?_
  refine Zg3 ?_
  refine Ct.o ?_
  refine Zgb ?_
  first|refine Zhg (Zaz rfl) ?_|refine Zhg (Zas rfl) ?_
  refine Zg3 ?_
  refine Ct.o ?_
  refine Zgo [(3, 4), (11, 34)] (by kernel_rfl) (fun s : Nat × List Part => s.1 ≤ N ∧ s.2.map vP = ps.map vP ∧ ∀ k p, k < s.1 → s.2[k]? = some p → MkUp k p.2.2 p.2.2.length) (fun s => star ownP s.2 :: L) (fun s => [(3, ni s.1)]) (fun s => N - s.1) (0, ps) ⟨Nat.zero_le _, rfl, fun k p h => absurd h (Nat.not_lt_zero _)⟩ qI ⟨rfl, trivial⟩ ?_
  rintro ⟨i, qs⟩ u ⟨hi, hqv, hqm⟩
  dsimp only at hi hqv hqm ⊢
  have hql : qs.length = N := by rw [← List.length_map (f := vP), hqv, List.length_map, hN]
  refine Ct.o ?_
  refine Zgb ?_
  first|refine Zhg (Zat rfl) ?_|refine Zhg (Zar rfl) ?_
  first|refine Zhg (Zaw rfl) ?_|refine Zhg (Zar rfl) ?_
  first|refine Zhg (Zcr rfl) ?_|refine Zhg (Zct) ?_|refine Zhg (Zcu rfl) ?_
  first|refine Zhg (Zmf rfl rfl) ?_|refine Zhg (Zbn rfl rfl) ?_
  refine Zg3 ?_
  refine Ct.o ?_
  refine Zgg rfl (fun hB => ?_) (fun hB => ?_)
  · have hiq : i < qs.length := by omega
    obtain ⟨⟨qa, qc, l⟩, hq⟩ : ∃ p, p = qs[i] := ⟨_, rfl⟩
    have hgi := vP_at hiq hqv hq
    have hll := vP_len hgi hlen
    refine Zgt (fun F w H => (h.imp qI).someAt (by omega) H) ?_
    rintro ⟨a1, a2, rfl⟩
    refine Zgp (star_at hiq) ?_
    rw [← hq]
    refine Ct.o ?_
    refine Zgb ?_
    first|refine Zhg (Zaz rfl) ?_|refine Zhg (Zas rfl) ?_
    refine Zg3 ?_
    refine Ct.o ?_
    refine Zgo [(4, 4), (17, 34)] (by kernel_rfl) (fun s : Nat × List Byte => s.1 ≤ l.length ∧ s.2.length = l.length ∧ MkUp i s.2 s.1) (fun s => own 5 1 (.slice qa l.length qc) l.length (s.2.map u8b) :: star ownP (qs.eraseIdx i) :: L) (fun s => [(4, ni s.1)]) (fun s => l.length - s.1) (0, l) ⟨Nat.zero_le _, rfl, fun k h => absurd h (Nat.not_lt_zero _)⟩ (Imp.refl _) ⟨rfl, trivial⟩ ?_
    rintro ⟨j, x⟩ u2 ⟨hj, hxl, hxm⟩
    dsimp only at hj hxl hxm ⊢
    refine Ct.o ?_
    refine Zgb ?_
    first|refine Zhg (Zat rfl) ?_|refine Zhg (Zar rfl) ?_
    first|refine Zhg (Zaw rfl) ?_|refine Zhg (Zar rfl) ?_
    first|refine Zhg (Zat rfl) ?_|refine Zhg (Zar rfl) ?_
    first|refine Zhg (Zl4 rfl rfl) ?_|refine Zhg (Zl1 rfl rfl) ?_
    refine Zff rfl ((h.imp qI).at hB hgi) ?_
    first|refine Zhg (Zcr rfl) ?_|refine Zhg (Zct) ?_|refine Zhg (Zcu rfl) ?_
    first|refine Zhg (Zmf rfl rfl) ?_|refine Zhg (Zbn rfl rfl) ?_
    refine Zg3 ?_
    refine Ct.o ?_
    refine Zgg rfl (fun hA => ?_) (fun hA => ?_)
    · refine Zgt (fun F w H => own_some (a := qa) qH (by omega) H) ?_
      rintro ⟨g, rfl⟩
      refine Ct.o ?_
      refine Zij (_) [7] (.q 0 (.q 1 (.q 2 (.q 4 (.q 5 (.q 6 (.r 3 (.e 7 true (.q 8 (.e 9 false .nil)))))))))) (by kernel_rfl) (by kernel_rfl) (Imp.refl _) ?_
      first|refine Zim rfl (Zaw rfl) ?_|refine Zim rfl (Zar rfl) ?_
      first|refine Zim rfl (Zat rfl) ?_|refine Zim rfl (Zar rfl) ?_
      first|refine Zim rfl (Zl4 rfl rfl) ?_|refine Zim rfl (Zl1 rfl rfl) ?_
      first|refine Zim rfl (Zat rfl) ?_|refine Zim rfl (Zar rfl) ?_
      first|refine Zim rfl (Zat rfl) ?_|refine Zim rfl (Zar rfl) ?_
      first|refine Zim rfl (Zat rfl) ?_|refine Zim rfl (Zar rfl) ?_
      refine Zfh rfl rfl ((h.imp qI).at hB hgi) ?_
      refine Ziq rfl ?_
      refine Zh8 rfl (by kernel_rfl) (mark_x i j (by omega) (by omega)) rfl qT ?_
      rintro _ _ ⟨rfl, rfl⟩
      refine Zg2 qA ?_
      refine Zg3 ⟨fun _ => Imp.arr qV, ?_⟩
      first|refine Zim rfl (Zl4 rfl rfl) ?_|refine Zim rfl (Zl1 rfl rfl) ?_
      refine Ziq rfl ?_; refine Zm7 (u := u8b (mkB i j)) (i := j) (xs := x.map u8b) (ys := (x.set j (mkB i j)).map u8b) rfl rfl rfl qR (by omega) (by rw [List.map_set]) ?_; refine Zg3 ⟨(fun hh => Bool.noConfusion hh), ?_⟩
      refine Zik ?_
      refine Ct.o ?_
      refine Zgb ?_
      first|refine Zhg (Zat rfl) ?_|refine Zhg (Zar rfl) ?_
      first|refine Zhg (Zma (b := 1) rfl rfl) ?_|refine Zhg (Zbg rfl rfl) ?_
      first|refine Zhg (Zaz rfl) ?_|refine Zhg (Zas rfl) ?_
      refine Zg3 ?_
      refine Ct.o ?_
      exact Zgl (j + 1, x.set j (mkB i j)) qO ⟨by dsimp only; omega, by simp [hxl], hxm.set (by omega)⟩ qI ⟨rfl, trivial⟩
    · have hje : j = l.length := by omega
      subst hje
      refine Ct.o ?_
      refine Zgb ?_
      first|refine Zhg (Zat rfl) ?_|refine Zhg (Zar rfl) ?_
      first|refine Zhg (Zma (b := 1) rfl rfl) ?_|refine Zhg (Zbg rfl rfl) ?_
      first|refine Zhg (Zaz rfl) ?_|refine Zhg (Zas rfl) ?_
      refine Zg3 ?_
      refine Ct.o ?_
      have e1 : vP (qa, qc, x) = vP qs[i] := by rw [← hq]; simp [vP, hxl]
      refine Zgl (i + 1, qs.set i (qa, qc, x)) qO ⟨by dsimp only; omega, ?_, ?_⟩ ?_ ⟨rfl, trivial⟩
      · dsimp only; rw [List.map_set, e1, ← List.map_set, List.set_getElem_self, hqv]
      · intro k p hk hp
        dsimp only at hk hp
        by_cases e : i = k
        · subst e
          rw [List.getElem?_set_self hiq] at hp
          obtain rfl := Option.some.inj hp
          dsimp only; rw [hxl]; exact hxm
        · rw [List.getElem?_set_ne e] at hp
          exact hqm k p (by omega) hp
      · dsimp only
        have := star_back (A := ownP) hiq (qa, qc, x) (M := L)
        refine Imp.trans ?_ this
        show Imp _ (own 5 1 (.slice qa x.length qc) x.length (x.map u8b) :: _)
        rw [hxl]
        exact qI
  · have hie : i = N := by omega
    subst hie
    have hqm2 : ∀ k p, qs[k]? = some p → MkUp k p.2.2 p.2.2.length := fun k p hp => hqm k p (by have := (List.getElem?_eq_some_iff.mp hp).1; omega) hp
    have hqb : ∀ (k : Nat) (a : Option Addr) (c : Nat) (l : List Byte), qs[k]? = some (a, c, l) → (ps.map vP)[k]? = some (.slice a l.length c) ∧ l.length ≤ 1099511620000 := fun k a c l hk => by
      obtain ⟨h1, h2⟩ := List.getElem?_eq_some_iff.mp hk
      have := vP_at h1 hqv h2.symm
      exact ⟨this, vP_len this hlen⟩
    refine Ct.o ?_
    refine Zgb ?_
    first|refine Zhg (Za2 rfl) ?_|refine Zhg (Zas rfl) ?_
    refine Zg3 ?_
    refine Ct.o ?_
    refine Zgb ?_
    first|refine Zhg (Zaz rfl) ?_|refine Zhg (Zas rfl) ?_
    refine Zg3 ?_
    refine Ct.o ?_
    refine Zgo [(5, 8), (35, 64)] (by kernel_rfl) (fun s : Nat × List Trip × Option Addr × Nat => s.1 ≤ qs.length ∧ s.2.1.length = s.1 ∧ ∀ k t, s.2.1[k]? = some t → qs[k]? = some t.1 ∧ Heir k 70 t.1 t.2.1 t.2.2) (fun s => own 26 1 (.slice s.2.2.1 s.1 s.2.2.2) s.1 (s.2.1.map fun t => vP t.2.1) :: star A2 s.2.1 :: star ownP (qs.drop s.1) :: L) (fun s => [(6, ni s.1), (5, .slice s.2.2.1 s.1 s.2.2.2)]) (fun s => qs.length - s.1) (0, [], none, 0) ⟨Nat.zero_le _, rfl, fun k t h => by simp at h⟩ (Imp.trans (star_nil (A := A2)) Imp.own_nil) ⟨rfl, rfl, trivial⟩ ?_
    rintro ⟨i, ds, ha, hc⟩ u2 ⟨hi, hdl, hdi⟩
    dsimp only at hi hdl hdi ⊢
    refine Ct.o ?_
    refine Zgb ?_
    first|refine Zhg (Zat rfl) ?_|refine Zhg (Zar rfl) ?_
    first|refine Zhg (Zaw rfl) ?_|refine Zhg (Zar rfl) ?_
    first|refine Zhg (Zcr rfl) ?_|refine Zhg (Zct) ?_|refine Zhg (Zcu rfl) ?_
    first|refine Zhg (Zmf rfl rfl) ?_|refine Zhg (Zbn rfl rfl) ?_
    refine Zg3 ?_
    refine Ct.o ?_
    refine Zgg rfl (fun hB => ?_) (fun hB => ?_)
    · have hiq : i < qs.length := by omega
      obtain ⟨⟨qa, qc, l⟩, hq⟩ : ∃ p, p = qs[i] := ⟨_, rfl⟩
      have hqs : qs[i]? = some (qa, qc, l) := by rw [List.getElem?_eq_getElem hiq, ← hq]
      obtain ⟨hgi, hll⟩ := hqb i _ _ _ hqs
      have hmk : MkUp i l l.length := hqm2 i _ hqs
      refine Zgt (fun F w H => (h.imp qI).someAt (by omega) H) ?_
      rintro ⟨a1, a2, rfl⟩
      rw [List.drop_eq_getElem_cons hiq, ← hq]
      refine Zgp (Imp.cons (Imp.cons star_uncons)) ?_
      refine Ct.o ?_
      refine Zgb ?_
      first|refine Zhg (Zaw rfl) ?_|refine Zhg (Zar rfl) ?_
      first|refine Zhg (Zat rfl) ?_|refine Zhg (Zar rfl) ?_
      first|refine Zhg (Zl4 rfl rfl) ?_|refine Zhg (Zl1 rfl rfl) ?_
      refine Zff rfl ((h.imp qI).at hB hgi) ?_
      first|refine Zhg (Za2 rfl) ?_|refine Zhg (Zas rfl) ?_
      refine Zg3 ?_
      refine Ct.o ?_
      refine Zgb ?_
      first|refine Zhg (Zaz rfl) ?_|refine Zhg (Zas rfl) ?_
      refine Zg3 ?_
      refine Ct.o ?_
      refine Zgo [(7, 8), (45, 60)] (by kernel_rfl) (fun s : Nat × Part × Bool => s.1 ≤ 70 ∧ Heir i s.1 (qa, qc, l) s.2.1 s.2.2)
        (fun s => own 5 1 (.slice s.2.1.1 (l.length + s.1) s.2.1.2.1) (l.length + s.1) (s.2.1.2.2.map u8b) :: remP s.2.2 (qa, qc, l) :: own 26 1 (.slice ha i hc) i (ds.map fun t => vP t.2.1) :: star A2 ds :: star ownP (qs.drop (i + 1)) :: L)
        (fun s => [(8, ni s.1), (7, .slice s.2.1.1 (l.length + s.1) s.2.1.2.1)]) (fun s => 70 - s.1) (0, (qa, qc, l), true) ⟨Nat.zero_le _, hmk, hmk, rfl, fun _ => ⟨rfl, rfl, List.take_length⟩⟩ ?_ ⟨rfl, rfl, trivial⟩ ?_
      · refine Imp.trans (Imp.app (L := [])) ?_
        show Imp (remP true (qa, qc, l) :: own 26 1 (.slice ha i hc) i (ds.map fun t => vP t.2.1) :: star A2 ds :: own 5 1 (.slice qa l.length qc) l.length (l.map u8b) :: star ownP (qs.drop (i + 1)) :: L) (own 5 1 (.slice qa l.length qc) l.length (l.map u8b) :: remP true (qa, qc, l) :: own 26 1 (.slice ha i hc) i (ds.map fun t => vP t.2.1) :: star A2 ds :: star ownP (qs.drop (i + 1)) :: L)
        exact qI
      rintro ⟨j, ⟨xa, xc, x⟩, s⟩ u3 ⟨hj, hpm, hxm, hxl, hxs⟩
      dsimp only at hj hpm hxm hxl hxs ⊢
      refine Ct.o ?_
      refine Zgb ?_
      first|refine Zhg (Zat rfl) ?_|refine Zhg (Zar rfl) ?_
      first|refine Zhg (Zmf (b := 70) rfl rfl) ?_|refine Zhg (Zbn rfl rfl) ?_
      refine Zg3 ?_
      refine Ct.o ?_
      refine Zgg rfl (fun hA => ?_) (fun hA => ?_)
      · refine Ct.o ?_
        refine Zgb ?_
        first|refine Zhg (Zaw rfl) ?_|refine Zhg (Zar rfl) ?_
        first|refine Zhg (Zat rfl) ?_|refine Zhg (Zar rfl) ?_
        first|refine Zhg (Zaw rfl) ?_|refine Zhg (Zar rfl) ?_
        first|refine Zhg (Zat rfl) ?_|refine Zhg (Zar rfl) ?_
        first|refine Zhg (Zl4 rfl rfl) ?_|refine Zhg (Zl1 rfl rfl) ?_
        refine Zff rfl ((h.imp qI).at hB hgi) ?_
        first|refine Zhg (Zcr rfl) ?_|refine Zhg (Zct) ?_|refine Zhg (Zcu rfl) ?_
        first|refine Zhg (Zat rfl) ?_|refine Zhg (Zar rfl) ?_
        first|refine Zhg (Zma rfl rfl) ?_|refine Zhg (Zbg rfl rfl) ?_
        refine Zh8 rfl (by kernel_rfl) (mark_x i (l.length + j) (by omega) (by omega)) rfl qT ?_
        rintro _ _ ⟨rfl, rfl⟩
        refine Zg2 qA ?_
        refine Zh7 (cs := #[.int .u8 _]) (by omega) (by omega) rfl ?_; intro b59
        refine Znq rfl rfl qH (Rd.cl (xs := [u8b (mkB i (l.length + j))]) qH rfl qZ rfl) qN (by omega) qS (by omega) ?_; intro s' a' c' hs'
        first|refine Zhg (Za2 rfl) ?_|refine Zhg (Zas rfl) ?_
        refine Zg3 ?_
        refine Ct.o ?_
        have e2 : x.map u8b ++ [u8b (mkB i (l.length + j))] = (x ++ [mkB i (l.length + j)]).map u8b := by simp only [List.map_append, List.map_cons, List.map_nil]
        rw [e2]
        have hm2 : MkUp i (x ++ [mkB i (l.length + j)]) (x ++ [mkB i (l.length + j)]).length := by
          have := MkUp.snoc hxm
          rw [List.length_append]; rw [hxl] at this ⊢; exact this
        have hl2 : (x ++ [mkB i (l.length + j)]).length = l.length + (j + 1) := by rw [List.length_append, hxl]; rfl
        refine Ct.o ?_
        refine Zgb ?_
        first|refine Zhg (Zat rfl) ?_|refine Zhg (Zar rfl) ?_
        first|refine Zhg (Zma (b := 1) rfl rfl) ?_|refine Zhg (Zbg rfl rfl) ?_
        first|refine Zhg (Zaz rfl) ?_|refine Zhg (Zas rfl) ?_
        refine Zg3 ?_
        refine Ct.o ?_
        cases s with
        | false =>
          refine Zgl (j + 1, (a', c', x ++ [mkB i (l.length + j)]), false) qO ⟨by dsimp only; omega, hpm, hm2, hl2, fun h => Bool.noConfusion h⟩ ?_ ⟨rfl, rfl, trivial⟩
          show Imp _ (own 5 1 (.slice a' (l.length + j + 1) c') (l.length + j + 1) ((x ++ [mkB i (l.length + j)]).map u8b) :: remP false (qa, qc, l) :: own 26 1 (.slice ha i hc) i (ds.map fun t => vP t.2.1) :: star A2 ds :: star ownP (qs.drop (i + 1)) :: L)
          exact qI
        | true =>
          obtain ⟨rfl, rfl, ht⟩ := hxs rfl
          cases s' with
          | true =>
            obtain ⟨rfl, rfl⟩ := hs' rfl
            refine Zgl (j + 1, (_, _, x ++ [mkB i (l.length + j)]), true) qO ⟨by dsimp only; omega, hpm, hm2, hl2, fun _ => ⟨rfl, rfl, by dsimp only; rw [List.take_append_of_le_length (by omega), ht]⟩⟩ ?_ ⟨rfl, rfl, trivial⟩
            show Imp _ (own 5 1 (.slice _ (l.length + j + 1) _) (l.length + j + 1) ((x ++ [mkB i (l.length + j)]).map u8b) :: remP true (_, _, l) :: own 26 1 (.slice ha i hc) i (ds.map fun t => vP t.2.1) :: star A2 ds :: star ownP (qs.drop (i + 1)) :: L)
            exact qI
          | false =>
            refine Zgl (j + 1, (a', c', x ++ [mkB i (l.length + j)]), false) qO ⟨by dsimp only; omega, hpm, hm2, hl2, fun h => Bool.noConfusion h⟩ ?_ ⟨rfl, rfl, trivial⟩
            refine Imp.trans (Imp.cons ((Imp.unapp (L := [own 5 1 (.slice xa (l.length + j) xc) (l.length + j) (x.map u8b)])).trans (own_take (m := l.length) (by omega)))) ?_
            rw [← List.map_take, ht]
            refine Imp.trans (Imp.arr (N := own 5 1 (.slice xa l.length xc) l.length (l.map u8b) :: own 5 1 (.slice a' (l.length + j + 1) c') (l.length + j + 1) ((x ++ [mkB i (l.length + j)]).map u8b) :: own 26 1 (.slice ha i hc) i (ds.map fun t => vP t.2.1) :: star A2 ds :: star ownP (qs.drop (i + 1)) :: L) qV) ?_
            exact (Imp.app (L := [ownP (xa, xc, l)])).trans Imp.swap
      · have hje : j = 70 := by omega
        subst hje
        refine Ct.o ?_
        refine Zgb ?_
        first|refine Zhg (Zaw rfl) ?_|refine Zhg (Zar rfl) ?_
        first|refine Zhg (Zaw rfl) ?_|refine Zhg (Zar rfl) ?_
        refine Zh7 (cs := #[.slice _ _ _]) (by omega) (by omega) rfl ?_; intro b63
        refine Zia rfl rfl qH (Rd.cl (xs := [.slice xa (l.length + 70) xc]) qH rfl qZ rfl) qN (by omega) qS ?_; intro a3 c3
        first|refine Zhg (Za2 rfl) ?_|refine Zhg (Zas rfl) ?_
        refine Zg3 ?_
        refine Ct.o ?_
        refine Zgb ?_
        first|refine Zhg (Zat rfl) ?_|refine Zhg (Zar rfl) ?_
        first|refine Zhg (Zma (b := 1) rfl rfl) ?_|refine Zhg (Zbg rfl rfl) ?_
        first|refine Zhg (Zaz rfl) ?_|refine Zhg (Zas rfl) ?_
        refine Zg3 ?_
        refine Ct.o ?_
        refine Zgl (i + 1, ds ++ [((qa, qc, l), (xa, xc, x), s)], a3, c3) qO ⟨by dsimp only; omega, by simp [hdl], ?_⟩ ?_ ⟨rfl, rfl, trivial⟩
        · intro k t hk
          dsimp only at hk
          by_cases e : k < ds.length
          · rw [List.getElem?_append_left e] at hk; exact hdi k t hk
          · rw [List.getElem?_append_right (by omega)] at hk
            obtain ⟨h1, h2⟩ := List.getElem?_eq_some_iff.mp hk
            have : k = i := by simp at h1; omega
            subst this
            have : t = ((qa, qc, l), (xa, xc, x), s) := by rw [← h2]; simp [hdl]
            subst this
            exact ⟨hqs, hpm, hxm, hxl, hxs⟩
        · dsimp only
          have e3 : (ds ++ [((qa, qc, l), (xa, xc, x), s)]).map (fun t : Trip => vP t.2.1) = (ds.map fun t => vP t.2.1) ++ [.slice xa (l.length + 70) xc] := by
            rw [List.map_append]; simp only [List.map_cons, List.map_nil, vP]; rw [hxl]
          rw [e3]
          refine Imp.trans (Imp.arr (N := own 5 1 (.slice xa (l.length + 70) xc) (l.length + 70) (x.map u8b) :: remP s (qa, qc, l) :: star A2 ds :: own 26 1 (.slice a3 (i + 1) c3) (i + 1) ((ds.map fun t => vP t.2.1) ++ [.slice xa (l.length + 70) xc]) :: star ownP (qs.drop (i + 1)) :: L) qV) ?_
          have h1 : Imp (own 5 1 (.slice xa (l.length + 70) xc) (l.length + 70) (x.map u8b) :: remP s (qa, qc, l) :: star A2 ds :: own 26 1 (.slice a3 (i + 1) c3) (i + 1) ((ds.map fun t => vP t.2.1) ++ [.slice xa (l.length + 70) xc]) :: star ownP (qs.drop (i + 1)) :: L)
              (A2 ((qa, qc, l), (xa, xc, x), s) :: star A2 ds :: own 26 1 (.slice a3 (i + 1) c3) (i + 1) ((ds.map fun t => vP t.2.1) ++ [.slice xa (l.length + 70) xc]) :: star ownP (qs.drop (i + 1)) :: L) := by
            have e4 : own 5 1 (.slice xa (l.length + 70) xc) (l.length + 70) (x.map u8b) = ownP (xa, xc, x) := by unfold ownP vP; dsimp only; rw [hxl]
            rw [e4]
            exact Imp.app (L := [ownP (xa, xc, x), remP s (qa, qc, l)])
          exact h1.trans (star_snoc.trans Imp.swap)
    · have hie : i = qs.length := by omega
      subst hie
      refine Ct.o ?_
      refine Zgb ?_
      first|refine Zhg (Zaz rfl) ?_|refine Zhg (Zas rfl) ?_
      refine Zg3 ?_
      refine Ct.o ?_
      refine Zgo [(2, 2), (9, 10), (65, 112)] (by kernel_rfl) (fun k : Nat => k ≤ qs.length) (fun _ => own 26 1 (.slice ha qs.length hc) qs.length (ds.map fun t => vP t.2.1) :: star A2 ds :: L) (fun k => [(9, ni k)]) (fun k => qs.length - k) 0 (Nat.zero_le _) qI ⟨rfl, trivial⟩ ?_
      intro k u3 hk
      refine Ct.o ?_
      refine Zgb ?_
      first|refine Zhg (Zat rfl) ?_|refine Zhg (Zar rfl) ?_
      first|refine Zhg (Zaw rfl) ?_|refine Zhg (Zar rfl) ?_
      first|refine Zhg (Zcr rfl) ?_|refine Zhg (Zct) ?_|refine Zhg (Zcu rfl) ?_
      first|refine Zhg (Zmf rfl rfl) ?_|refine Zhg (Zbn rfl rfl) ?_
      refine Zg3 ?_
      refine Ct.o ?_
      refine Zgg rfl (fun hB => ?_) (fun hB => ?_)
      · have hkd : k < ds.length := by omega
        have hkq : k < qs.length := by omega
        obtain ⟨⟨⟨pa, pc, p⟩, ⟨qa, qc, q⟩, s⟩, ht⟩ : ∃ t, t = ds[k] := ⟨_, rfl⟩
        have hmem : ((pa, pc, p), (qa, qc, q), s) ∈ ds := by rw [ht]; exact List.getElem_mem hkd
        obtain ⟨hps, hheir⟩ := hdi k ((pa, pc, p), (qa, qc, q), s) (by rw [List.getElem?_eq_getElem hkd, ← ht])
        obtain ⟨hgp, hpl⟩ := hqb k _ _ _ hps
        have hge : (ds.map fun t => vP t.2.1)[k]? = some (.slice qa q.length qc) := by rw [List.getElem?_map, List.getElem?_eq_getElem hkd, ← ht]; rfl
        have bq : ∀ {M M' : List Asrt}, Has M (star A2 ds) M' → Bs M (.slice qa q.length qc) q := fun hm => star_bs hmem (fun R => A2_q) hm
        have bp : ∀ {M M' : List Asrt}, Has M (star A2 ds) M' → Bs M (.slice pa p.length pc) p := fun hm => star_bs hmem (fun R => A2_p hheir) hm
        obtain ⟨hpm, hqm3, hql2, _⟩ := hheir
        dsimp only at hpm hqm3 hql2
        refine Zgt (fun F w H => (h.imp qI).someAt (by omega) H) ?_
        rintro ⟨a1, a2, rfl⟩
        refine Zgt (fun F w H => own_some (a := ha) qH (by omega) H) ?_
        rintro ⟨gh, rfl⟩
        refine Ct.o ?_
        refine Zgb ?_
        first|refine Zhg (Zaz rfl) ?_|refine Zhg (Zas rfl) ?_
        refine Zg3 ?_
        refine Ct.o ?_
        refine Zgo [(2, 2), (10, 10), (71, 112)] (by kernel_rfl) (fun j : Nat => j ≤ q.length) (fun _ => own 26 1 (.slice (some ⟨gh, 0, none⟩) qs.length hc) qs.length (ds.map fun t => vP t.2.1) :: star A2 ds :: L) (fun j => [(10, ni j)]) (fun j => q.length - j) 0 (Nat.zero_le _) qI ⟨rfl, trivial⟩ ?_
        intro j u4 hj
        refine Ct.o ?_
        refine Zgb ?_
        first|refine Zhg (Zat rfl) ?_|refine Zhg (Zar rfl) ?_
        first|refine Zhg (Zaw rfl) ?_|refine Zhg (Zar rfl) ?_
        first|refine Zhg (Zat rfl) ?_|refine Zhg (Zar rfl) ?_
        first|refine Zhg (Zl4 rfl rfl) ?_|refine Zhg (Zl1 rfl rfl) ?_
        refine Zff rfl ((Rd.own (n := qs.length) qH).at0 hkq hge) ?_
        first|refine Zhg (Zcr rfl) ?_|refine Zhg (Zct) ?_|refine Zhg (Zcu rfl) ?_
        first|refine Zhg (Zmf rfl rfl) ?_|refine Zhg (Zbn rfl rfl) ?_
        refine Zg3 ?_
        refine Ct.o ?_
        refine Zgg rfl (fun hA => ?_) (fun hA => ?_)
        · have hqv2 : q[j] = mkB k j := hqm3.at hA hA
          refine Zgt (fun F w H => (bq qH).some (by omega) H) ?_
          rintro ⟨c1, c2, rfl⟩
          by_cases hjp : j < p.length
          · have hpv2 : p[j] = mkB k j := hpm.at hjp hjp
            refine Zgt (fun F w H => (bp qH).some (by omega) H) ?_
            rintro ⟨d1, d2, rfl⟩
            refine Ct.o ?_
            refine Zij (_) [9, 29] (.q 0 (.q 1 (.q 2 (.q 4 (.q 7 (.q 8 (.r 3 (.q 5 (.r 6 (.e 9 true (.q 10 (.q 11 (.q 12 (.q 13 (.q 14 (.q 15 (.r 16 (.q 17 (.q 18 (.q 19 (.q 20 (.q 21 (.q 22 (.q 24 (.q 27 (.q 28 (.r 23 (.q 25 (.r 26 (.e 29 true (.q 30 (.q 31 (.q 32 .nil))))))))))))))))))))))))))))))))) (by kernel_rfl) (by kernel_rfl) (Imp.refl _) ?_
            first|refine Zim rfl (Zaw rfl) ?_|refine Zim rfl (Zar rfl) ?_
            first|refine Zim rfl (Zat rfl) ?_|refine Zim rfl (Zar rfl) ?_
            first|refine Zim rfl (Zl4 rfl rfl) ?_|refine Zim rfl (Zl1 rfl rfl) ?_
            first|refine Zim rfl (Zat rfl) ?_|refine Zim rfl (Zar rfl) ?_
            first|refine Zim rfl (Zat rfl) ?_|refine Zim rfl (Zar rfl) ?_
            first|refine Zim rfl (Zat rfl) ?_|refine Zim rfl (Zar rfl) ?_
            refine Zfh rfl rfl ((Rd.own (n := qs.length) qH).at0 hkq hge) ?_
            first|refine Zim rfl (Zl4 rfl rfl) ?_|refine Zim rfl (Zl1 rfl rfl) ?_
            refine Zfh rfl rfl ((bq qH).rd.at hA (getM hA)) ?_
            refine Ziq rfl ?_
            refine Zh8 rfl (by kernel_rfl) (mark_x k j (by omega) (by omega)) rfl qT ?_
            rintro _ _ ⟨rfl, rfl⟩
            refine Zg2 qA ?_
            refine Zg3 ⟨fun _ => Imp.arr qV, ?_⟩
            refine Zim rfl (Zjl rfl rfl) ?_
            refine Zi6 90 rfl (decide_eq_false ((fun hh => hh hqv2))) ?_
            first|refine Zim rfl (Zau rfl) ?_|refine Zim rfl (Zar rfl) ?_
            first|refine Zio rfl rfl ?_|refine Zip rfl rfl ?_|refine Zin rfl rfl (Zat rfl) ?_|refine Zin rfl rfl (Zar rfl) ?_
            first|refine Zio rfl rfl ?_|refine Zip rfl rfl ?_|refine Zin rfl rfl (Zaw rfl) ?_|refine Zin rfl rfl (Zar rfl) ?_
            first|refine Zio rfl rfl ?_|refine Zip rfl rfl ?_|refine Zin rfl rfl (Zat rfl) ?_|refine Zin rfl rfl (Zar rfl) ?_
            first|refine Zio rfl rfl ?_|refine Zip rfl rfl ?_|refine Zin rfl rfl (Zl4 rfl rfl) ?_|refine Zin rfl rfl (Zl1 rfl rfl) ?_
            first|refine Zi1 rfl rfl ?_|refine Zi2 rfl rfl ?_|refine Zfi rfl rfl rfl ((h.imp qI).at (by omega) hgp) ?_
            first|refine Zio rfl rfl ?_|refine Zip rfl rfl ?_|refine Zin rfl rfl (Zcr rfl) ?_|refine Zin rfl rfl (Zct) ?_|refine Zin rfl rfl (Zcu rfl) ?_
            first|refine Zio rfl rfl ?_|refine Zip rfl rfl ?_|refine Zin rfl rfl (Zmf rfl rfl) ?_|refine Zin rfl rfl (Zbn rfl rfl) ?_
            refine Zi5 98 rfl (decide_eq_true (hjp)) ?_
            first|refine Zio rfl rfl ?_|refine Zip rfl rfl ?_|refine Zin rfl rfl (Zau rfl) ?_|refine Zin rfl rfl (Zar rfl) ?_
            first|refine Zio rfl rfl ?_|refine Zip rfl rfl ?_|refine Zin rfl rfl (Zaw rfl) ?_|refine Zin rfl rfl (Zar rfl) ?_
            first|refine Zio rfl rfl ?_|refine Zip rfl rfl ?_|refine Zin rfl rfl (Zat rfl) ?_|refine Zin rfl rfl (Zar rfl) ?_
            first|refine Zio rfl rfl ?_|refine Zip rfl rfl ?_|refine Zin rfl rfl (Zl4 rfl rfl) ?_|refine Zin rfl rfl (Zl1 rfl rfl) ?_
            first|refine Zio rfl rfl ?_|refine Zip rfl rfl ?_|refine Zin rfl rfl (Zat rfl) ?_|refine Zin rfl rfl (Zar rfl) ?_
            first|refine Zio rfl rfl ?_|refine Zip rfl rfl ?_|refine Zin rfl rfl (Zat rfl) ?_|refine Zin rfl rfl (Zar rfl) ?_
            first|refine Zio rfl rfl ?_|refine Zip rfl rfl ?_|refine Zin rfl rfl (Zat rfl) ?_|refine Zin rfl rfl (Zar rfl) ?_
            first|refine Zi1 rfl rfl ?_|refine Zi2 rfl rfl ?_|refine Zfi rfl rfl rfl ((h.imp qI).at (by omega) hgp) ?_
            first|refine Zio rfl rfl ?_|refine Zip rfl rfl ?_|refine Zin rfl rfl (Zl4 rfl rfl) ?_|refine Zin rfl rfl (Zl1 rfl rfl) ?_
            first|refine Zi1 rfl rfl ?_|refine Zi2 rfl rfl ?_|refine Zfi rfl rfl rfl ((bp qH).rd.at hjp (getM hjp)) ?_
            refine Ziq rfl ?_
            first|refine Zhi rfl ?_|refine Zhj rfl ?_|(refine Zhh rfl ?_; (refine Zh8 rfl (by kernel_rfl) (mark_x k j (by omega) (by omega)) rfl qT ?_); (rintro _ _ ⟨rfl, rfl⟩); (refine Zg2 qA ?_))
            refine Zg3 ⟨fun _ => Imp.arr qV, ?_⟩
            first|refine Zio rfl rfl ?_|refine Zip rfl rfl ?_|refine Zin rfl rfl (Zjl rfl rfl) ?_
            refine Zi6 110 rfl (decide_eq_false ((fun hh => hh hpv2))) ?_
            first|refine Zio rfl rfl ?_|refine Zip rfl rfl ?_|refine Zin rfl rfl (Zdz rfl rfl) ?_|refine Zin rfl rfl (Zd0 rfl rfl) ?_|refine Zin rfl rfl (Za8 rfl rfl) ?_|refine Zin rfl rfl (Za9 rfl rfl) ?_|refine Zin rfl rfl (Za6 rfl rfl) ?_|refine Zin rfl rfl (Za7 rfl rfl) ?_
            first|refine Zim rfl (Zdz rfl rfl) ?_|refine Zim rfl (Zd0 rfl rfl) ?_|refine Zim rfl (Za8 rfl rfl) ?_|refine Zim rfl (Za9 rfl rfl) ?_|refine Zim rfl (Za6 rfl rfl) ?_|refine Zim rfl (Za7 rfl rfl) ?_
            refine Zik ?_
            refine Ct.o ?_
            refine Zgf rfl ?_
            refine Ct.o ?_
            refine Zgb ?_
            first|refine Zhg (Zat rfl) ?_|refine Zhg (Zar rfl) ?_
            first|refine Zhg (Zma (b := 1) rfl rfl) ?_|refine Zhg (Zbg rfl rfl) ?_
            first|refine Zhg (Zaz rfl) ?_|refine Zhg (Zas rfl) ?_
            refine Zg3 ?_
            refine Ct.o ?_
            exact Zgl (j + 1) qO (by omega) qI ⟨rfl, trivial⟩
          · refine Ct.o ?_
            refine Zij (_) [9, 29] (.q 0 (.q 1 (.q 2 (.q 4 (.q 7 (.q 8 (.r 3 (.q 5 (.r 6 (.e 9 true (.q 10 (.q 11 (.q 12 (.q 13 (.q 14 (.q 15 (.r 16 (.q 17 (.q 18 (.q 19 (.q 20 (.q 21 (.q 22 (.q 24 (.q 27 (.q 28 (.r 23 (.q 25 (.r 26 (.e 29 true (.q 30 (.q 31 (.q 32 .nil))))))))))))))))))))))))))))))))) (by kernel_rfl) (by kernel_rfl) (Imp.refl _) ?_
            first|refine Zim rfl (Zaw rfl) ?_|refine Zim rfl (Zar rfl) ?_
            first|refine Zim rfl (Zat rfl) ?_|refine Zim rfl (Zar rfl) ?_
            first|refine Zim rfl (Zl4 rfl rfl) ?_|refine Zim rfl (Zl1 rfl rfl) ?_
            first|refine Zim rfl (Zat rfl) ?_|refine Zim rfl (Zar rfl) ?_
            first|refine Zim rfl (Zat rfl) ?_|refine Zim rfl (Zar rfl) ?_
            first|refine Zim rfl (Zat rfl) ?_|refine Zim rfl (Zar rfl) ?_
            refine Zfh rfl rfl ((Rd.own (n := qs.length) qH).at0 hkq hge) ?_
            first|refine Zim rfl (Zl4 rfl rfl) ?_|refine Zim rfl (Zl1 rfl rfl) ?_
            refine Zfh rfl rfl ((bq qH).rd.at hA (getM hA)) ?_
            refine Ziq rfl ?_
            refine Zh8 rfl (by kernel_rfl) (mark_x k j (by omega) (by omega)) rfl qT ?_
            rintro _ _ ⟨rfl, rfl⟩
            refine Zg2 qA ?_
            refine Zg3 ⟨fun _ => Imp.arr qV, ?_⟩
            refine Zim rfl (Zjl rfl rfl) ?_
            refine Zi6 90 rfl (decide_eq_false ((fun hh => hh hqv2))) ?_
            first|refine Zim rfl (Zau rfl) ?_|refine Zim rfl (Zar rfl) ?_
            first|refine Zio rfl rfl ?_|refine Zip rfl rfl ?_|refine Zin rfl rfl (Zat rfl) ?_|refine Zin rfl rfl (Zar rfl) ?_
            first|refine Zio rfl rfl ?_|refine Zip rfl rfl ?_|refine Zin rfl rfl (Zaw rfl) ?_|refine Zin rfl rfl (Zar rfl) ?_
            first|refine Zio rfl rfl ?_|refine Zip rfl rfl ?_|refine Zin rfl rfl (Zat rfl) ?_|refine Zin rfl rfl (Zar rfl) ?_
            first|refine Zio rfl rfl ?_|refine Zip rfl rfl ?_|refine Zin rfl rfl (Zl4 rfl rfl) ?_|refine Zin rfl rfl (Zl1 rfl rfl) ?_
            first|refine Zi1 rfl rfl ?_|refine Zi2 rfl rfl ?_|refine Zfi rfl rfl rfl ((h.imp qI).at (by omega) hgp) ?_
            first|refine Zio rfl rfl ?_|refine Zip rfl rfl ?_|refine Zin rfl rfl (Zcr rfl) ?_|refine Zin rfl rfl (Zct) ?_|refine Zin rfl rfl (Zcu rfl) ?_
            first|refine Zio rfl rfl ?_|refine Zip rfl rfl ?_|refine Zin rfl rfl (Zmf rfl rfl) ?_|refine Zin rfl rfl (Zbn rfl rfl) ?_
            refine Zi6 98 rfl (decide_eq_false (hjp)) ?_
            first|refine Zio rfl rfl ?_|refine Zip rfl rfl ?_|refine Zin rfl rfl (Zau rfl) ?_|refine Zin rfl rfl (Zar rfl) ?_
            first|refine Zio rfl rfl ?_|refine Zip rfl rfl ?_|refine Zin rfl rfl (Zaw rfl) ?_|refine Zin rfl rfl (Zar rfl) ?_
            first|refine Zio rfl rfl ?_|refine Zip rfl rfl ?_|refine Zin rfl rfl (Zat rfl) ?_|refine Zin rfl rfl (Zar rfl) ?_
            first|refine Zio rfl rfl ?_|refine Zip rfl rfl ?_|refine Zin rfl rfl (Zl4 rfl rfl) ?_|refine Zin rfl rfl (Zl1 rfl rfl) ?_
            first|refine Zio rfl rfl ?_|refine Zip rfl rfl ?_|refine Zin rfl rfl (Zat rfl) ?_|refine Zin rfl rfl (Zar rfl) ?_
            first|refine Zio rfl rfl ?_|refine Zip rfl rfl ?_|refine Zin rfl rfl (Zat rfl) ?_|refine Zin rfl rfl (Zar rfl) ?_
            first|refine Zio rfl rfl ?_|refine Zip rfl rfl ?_|refine Zin rfl rfl (Zat rfl) ?_|refine Zin rfl rfl (Zar rfl) ?_
            first|refine Zi1 rfl rfl ?_|refine Zi2 rfl rfl ?_|refine Ziw rfl rfl rfl qH rfl ?_
            first|refine Zio rfl rfl ?_|refine Zip rfl rfl ?_|refine Zin rfl rfl (Zl4 rfl rfl) ?_|refine Zin rfl rfl (Zl1 rfl rfl) ?_
            first|refine Zi1 rfl rfl ?_|refine Zi2 rfl rfl ?_|refine Ziw rfl rfl rfl qH rfl ?_
            refine Ziq rfl ?_
            first|refine Zhi rfl ?_|refine Zhj rfl ?_|(refine Zhh rfl ?_; (refine Zh8 rfl (by kernel_rfl) (mark_x k j (by omega) (by omega)) rfl qT ?_); (rintro _ _ ⟨rfl, rfl⟩); (refine Zg2 qA ?_))
            refine Zg3 ⟨fun _ => Imp.arr qV, ?_⟩
            first|refine Zio rfl rfl ?_|refine Zip rfl rfl ?_|refine Zin rfl rfl (Zjl rfl rfl) ?_
            first|refine Zio rfl rfl ?_|refine Zip rfl rfl ?_|refine Zin rfl rfl (Zdz rfl rfl) ?_|refine Zin rfl rfl (Zd0 rfl rfl) ?_|refine Zin rfl rfl (Za8 rfl rfl) ?_|refine Zin rfl rfl (Za9 rfl rfl) ?_|refine Zin rfl rfl (Za6 rfl rfl) ?_|refine Zin rfl rfl (Za7 rfl rfl) ?_
            first|refine Zim rfl (Zdz rfl rfl) ?_|refine Zim rfl (Zd0 rfl rfl) ?_|refine Zim rfl (Za8 rfl rfl) ?_|refine Zim rfl (Za9 rfl rfl) ?_|refine Zim rfl (Za6 rfl rfl) ?_|refine Zim rfl (Za7 rfl rfl) ?_
            refine Zik ?_
            refine Ct.o ?_
            refine Zgf rfl ?_
            refine Ct.o ?_
            refine Zgb ?_
            first|refine Zhg (Zat rfl) ?_|refine Zhg (Zar rfl) ?_
            first|refine Zhg (Zma (b := 1) rfl rfl) ?_|refine Zhg (Zbg rfl rfl) ?_
            first|refine Zhg (Zaz rfl) ?_|refine Zhg (Zas rfl) ?_
            refine Zg3 ?_
            refine Ct.o ?_
            exact Zgl (j + 1) qO (by omega) qI ⟨rfl, trivial⟩
        · refine Ct.o ?_
          refine Zgb ?_
          first|refine Zhg (Zat rfl) ?_|refine Zhg (Zar rfl) ?_
          first|refine Zhg (Zma (b := 1) rfl rfl) ?_|refine Zhg (Zbg rfl rfl) ?_
          first|refine Zhg (Zaz rfl) ?_|refine Zhg (Zas rfl) ?_
          refine Zg3 ?_
          refine Ct.o ?_
          exact Zgl (k + 1) qO (by omega) qI ⟨rfl, trivial⟩
      · refine Ct.o ?_
        refine Zgb ?_
        first|refine Zhg (Za0 rfl) ?_|refine Zhg (Zas rfl) ?_
        refine Zg3 ?_
        refine Ct.o ?_
        refine rx1 (Zha rfl (Zg7)) ?_
        exact ⟨_, ⟨rfl, rfl⟩, qI⟩
end Go.Sl

/- trystlaw07: SealSeals, walked. -/
set_option maxHeartbeats 4000000
set_option maxRecDepth 10000
set_option linter.unusedVariables false
set_option linter.unusedSimpArgs false
namespace Go.Sl
open Go Go.Proofs
attribute [local irreducible] cl pt own old pur ex all den denOps denS xOps xC cX CX xthen xblk xcut xloop xgo xng retX resX Calls PV Rd Con
attribute [local irreducible] code blockB ksB xorB vouchB leB sealB textB rightB CaseV.cells sealR
theorem sealR_len (key nonce more text : List Byte) : (sealR key nonce more text).1.length ≤ 1048592 := by
  unfold sealR
  split
  · simp
  · dsimp only; rw [sealB_len]; omega
/-- A text whose bytes are turned up to a place. -/
def flB (l : List Byte) (i : Nat) : List Byte := (l.take i).map (· ^^^ 49#8) ++ l.drop i
theorem flB_len (l : List Byte) (i : Nat) : (flB l i).length = l.length := by simp [flB]; omega
theorem flB_zero (l : List Byte) : flB l 0 = l := by simp [flB]
theorem flB_at (l : List Byte) (i : Nat) (h : i < l.length) : (flB l i)[i]? = some l[i] := by
  unfold flB
  rw [List.getElem?_append_right (by simp; omega), List.length_map, List.length_take, Nat.min_eq_left (by omega), Nat.sub_self, List.getElem?_drop, Nat.add_zero, List.getElem?_eq_getElem h]
theorem flB_set (l : List Byte) (i : Nat) (h : i < l.length) : (flB l i).set i (l[i] ^^^ 49#8) = flB l (i + 1) := by
  unfold flB
  rw [List.set_append_right _ _ (by simp; omega), List.length_map, List.length_take, Nat.min_eq_left (by omega), Nat.sub_self, List.drop_eq_getElem_cons h, List.set_cons_zero, List.take_succ_eq_append_getElem h, List.map_append, List.append_assoc]; rfl
theorem bs_front {M M' : List Asrt} {g n c E : Nat} {l t : List Byte} (hm : Has M (cl g ((l ++ t).map u8b).toArray E) M') (hn : l.length = n) (hc : n ≤ c) (hcm : c ≤ 9223372036854775807) : Bs M (.slice (some ⟨g, 0, none⟩) n c) l := by
  subst hn
  exact Bs.cl (o := 0) hm (by simp) (by
    simp only [Array.toList_extract, List.extract_eq_take_drop]
    rw [Nat.zero_add, Nat.sub_zero, List.drop_zero, ← List.map_take, List.take_append_of_le_length (Nat.le_refl _), List.take_length]) hc hcm
attribute [local irreducible] flB
theorem seals_x (W : World) (x : CaseV) (ok : CaseVOk W x) : Con Try.prog 3 [.agg x.cells.toArray] [old W] (fun r M => r = .bool true ∧ [old W] = M) := by
  have hlen : x.cells.toArray.size = 46 := by rw [List.size_toArray]; exact CaseV.len ok
  have hk := ok.key_
  have hn := ok.nonce_
  have hml := ok.more_.len
  have htl := ok.text_.len
  have hma : Bs [old W] x.more_V x.more_ := ok.more_.bs .here
  have hta : Bs [old W] x.text_V x.text_ := ok.text_.bs .here
  have c0 := CaseV.c_key_ ok
  have c1 := CaseV.c_nonce_ ok
  have c2 := CaseV.c_more_ ok
  have c3 := CaseV.c_text_ ok
  obtain ⟨ma, mc, hmv, hmc1, hmc2⟩ := ok.more_.sh
  obtain ⟨ta, tc, htv, htc1, htc2⟩ := ok.text_.sh
  rw [hmv] at hma c2
  rw [htv] at hta c3
  refine fn_x Try.func3 rfl rfl rfl Try.mixed (by kernel_rfl) ?_
  intro w0
  refine Ct.o ?_
  refine Zgb ?_
  refine Zh5 rfl ?_; intro b1
  first|refine Zhg (Za0 rfl) ?_|refine Zhg (Zas rfl) ?_
  refine Zg3 ?_
  refine Ct.o ?_
  refine Zgb ?_
  first|refine Zhg (Zl8 rfl) ?_|refine Zhg (Zce rfl) ?_
  refine Zhp rfl qH (c2) ?_
  refine Zh8 rfl (by kernel_rfl) (spare_x (L := [old W]) hma (by omega)) rfl qT ?_
  rintro _ _ ⟨gm, rfl, rfl⟩
  refine Zg2 qA ?_
  first|refine Zhg (Za2 rfl) ?_|refine Zhg (Zas rfl) ?_
  refine Zg3 ?_
  refine Ct.o ?_
  refine Zgb ?_
  first|refine Zhg (Zl8 rfl) ?_|refine Zhg (Zce rfl) ?_
  refine Zhp rfl qH (c3) ?_
  refine Zh8 rfl (by kernel_rfl) (spare_x (L := [old W]) hta (by omega)) rfl qT ?_
  rintro _ _ ⟨gt, rfl, rfl⟩
  refine Zg2 qA ?_
  first|refine Zhg (Za2 rfl) ?_|refine Zhg (Zas rfl) ?_
  refine Zg3 ?_
  refine Ct.o ?_
  have hsp : spareL x.text_ = x.text_ ++ (spareL x.text_).drop x.text_.length := by
    conv => lhs; rw [← List.take_append_drop x.text_.length (spareL x.text_), spareL_take]
  have htail : ((spareL x.text_).drop x.text_.length).length = 80 := by rw [List.length_drop, spareL_len]; omega
  have hs3 := sealRef_x (L := [old W]) x.key_ x.nonce_ hk hn hma hta
  have hs4 := seal_x (L := [cl gm ((spareL x.more_).map u8b).toArray 5, cl gt ((spareL x.text_).map u8b).toArray 5]) x.key_ x.nonce_ hk hn (bs_spare .here (by omega)) (bs_spare (.there .here) (by omega)) (by omega) (by omega)
  have hRl := sealR_len x.key_ x.nonce_ x.more_ x.text_
  generalize sealR x.key_ x.nonce_ x.more_ x.text_ = R at hs3 hs4 hRl
  obtain ⟨S, e⟩ := R
  dsimp only at hs3 hs4 hRl
  refine Ct.o ?_
  refine Zgb ?_
  first|refine Zhg (Zl8 rfl) ?_|refine Zhg (Zce rfl) ?_
  refine Zhq (n := 32) rfl qH qZ (c0) ?_
  first|refine Zhg (Zl8 rfl) ?_|refine Zhg (Zce rfl) ?_
  refine Zhq (n := 12) rfl qH qZ (c1) ?_
  first|refine Zhg (Zl8 rfl) ?_|refine Zhg (Zce rfl) ?_
  refine Zhp rfl qH (c2) ?_
  first|refine Zhg (Zl8 rfl) ?_|refine Zhg (Zce rfl) ?_
  refine Zhp rfl qH (c3) ?_
  refine Zh8 rfl (by kernel_rfl) (hs3) rfl qT ?_
  rintro _ _ ⟨ra, rc, rfl, rfl⟩
  refine Zg2 qA ?_
  first|refine Zhg (Zmm rfl) ?_|refine Zhg (Zar rfl) ?_
  refine Zhg (Zco rfl rfl) ?_
  refine Zhg (Zco rfl rfl) ?_
  first|refine Zhg (Za2 rfl) ?_|refine Zhg (Zas rfl) ?_
  first|refine Zhg (Zaz rfl) ?_|refine Zhg (Zas rfl) ?_
  refine Zg3 ?_
  refine Ct.o ?_
  refine Zgb ?_
  first|refine Zhg (Zl8 rfl) ?_|refine Zhg (Zce rfl) ?_
  refine Zhq (n := 32) rfl qH qZ (c0) ?_
  first|refine Zhg (Zl8 rfl) ?_|refine Zhg (Zce rfl) ?_
  refine Zhq (n := 12) rfl qH qZ (c1) ?_
  first|refine Zhg (Zaw rfl) ?_|refine Zhg (Zar rfl) ?_
  first|refine Zhg (Zaw rfl) ?_|refine Zhg (Zar rfl) ?_
  refine Zh8 rfl (by kernel_rfl) (hs4) rfl qT ?_
  rintro _ _ ⟨sa, sc, rfl, rfl⟩
  refine Zg2 qA ?_
  first|refine Zhg (Zmm rfl) ?_|refine Zhg (Zar rfl) ?_
  refine Zhg (Zco rfl rfl) ?_
  refine Zhg (Zco rfl rfl) ?_
  first|refine Zhg (Za2 rfl) ?_|refine Zhg (Zas rfl) ?_
  first|refine Zhg (Zaz rfl) ?_|refine Zhg (Zas rfl) ?_
  refine Zg3 ?_
  refine Ct.o ?_
  refine Zgb ?_
  first|refine Zhg (Zl8 rfl) ?_|refine Zhg (Zce rfl) ?_
  refine Zhq (n := 32) rfl qH qZ (c0) ?_
  first|refine Zhg (Zl8 rfl) ?_|refine Zhg (Zce rfl) ?_
  refine Zhq (n := 12) rfl qH qZ (c1) ?_
  first|refine Zhg (Zaw rfl) ?_|refine Zhg (Zar rfl) ?_
  first|refine Zhg (Zaw rfl) ?_|refine Zhg (Zar rfl) ?_
  refine Zh8 rfl (by kernel_rfl) (hs4) rfl qT ?_
  rintro _ _ ⟨ua, uc, rfl, rfl⟩
  refine Zg2 qA ?_
  first|refine Zhg (Zmm rfl) ?_|refine Zhg (Zar rfl) ?_
  refine Zhg (Zco rfl rfl) ?_
  refine Zhg (Zco rfl rfl) ?_
  first|refine Zhg (Za2 rfl) ?_|refine Zhg (Zas rfl) ?_
  first|refine Zhg (Zaz rfl) ?_|refine Zhg (Zas rfl) ?_
  refine Zg3 ?_
  refine Ct.o ?_
  have ebA := eqBytes_x (L := [own 5 1 (.slice sa S.length sc) S.length (S.map u8b), own 5 1 (.slice ra S.length rc) S.length (S.map u8b)]) (a := S) (b := S) (Bs.own .here) (Bs.own (.there .here))
  have ebB := eqBytes_x (L := [own 5 1 (.slice ua S.length uc) S.length (S.map u8b), own 5 1 (.slice ra S.length rc) S.length (S.map u8b)]) (a := S) (b := S) (Bs.own .here) (Bs.own (.there .here))
  refine Ct.o ?_
  refine Zgb ?_
  first|refine Zhg (Zat rfl) ?_|refine Zhg (Zar rfl) ?_
  first|refine Zhg (Zat rfl) ?_|refine Zhg (Zar rfl) ?_
  first|refine Zhg (Zmk rfl rfl) ?_|refine Zhg (Zbs rfl rfl) ?_
  refine Zhn 56 rfl (decide_eq_false ((fun h => h rfl))) ?_
  first|refine Zhg (Zau rfl) ?_|refine Zhg (Zar rfl) ?_
  first|refine Zhi rfl ?_|refine Zhj rfl ?_|(refine Zhh rfl ?_; (first|refine Zhg (Zat rfl) ?_|refine Zhg (Zar rfl) ?_))
  first|refine Zhi rfl ?_|refine Zhj rfl ?_|(refine Zhh rfl ?_; (first|refine Zhg (Zat rfl) ?_|refine Zhg (Zar rfl) ?_))
  first|refine Zhi rfl ?_|refine Zhj rfl ?_|(refine Zhh rfl ?_; (first|refine Zhg (Zmk rfl rfl) ?_|refine Zhg (Zbs rfl rfl) ?_))
  refine Zhn 60 rfl (decide_eq_false ((fun h => h rfl))) ?_
  first|refine Zhg (Zdz rfl rfl) ?_|refine Zhg (Zd0 rfl rfl) ?_|refine Zhg (Za8 rfl rfl) ?_|refine Zhg (Za9 rfl rfl) ?_|refine Zhg (Za6 rfl rfl) ?_|refine Zhg (Za7 rfl rfl) ?_
  first|refine Zhg (Zau rfl) ?_|refine Zhg (Zar rfl) ?_
  first|refine Zhi rfl ?_|refine Zhj rfl ?_|(refine Zhh rfl ?_; (first|refine Zhg (Zaw rfl) ?_|refine Zhg (Zar rfl) ?_))
  first|refine Zhi rfl ?_|refine Zhj rfl ?_|(refine Zhh rfl ?_; (first|refine Zhg (Zaw rfl) ?_|refine Zhg (Zar rfl) ?_))
  first|refine Zhi rfl ?_|refine Zhj rfl ?_|(refine Zhh rfl ?_; (refine Zh8 rfl (by kernel_rfl) (ebA) rfl qT ?_); (rintro _ _ ⟨rfl, rfl⟩); (refine Zg2 qA ?_))
  refine Zhm 65 rfl (decide_eq_true (rfl)) ?_
  first|refine Zhi rfl ?_|refine Zhj rfl ?_|(refine Zhh rfl ?_; (first|refine Zhg (Zb1 rfl) ?_|refine Zhg (Zb0 rfl) ?_))
  refine Zhn 66 rfl (rfl) ?_
  first|refine Zhg (Zdz rfl rfl) ?_|refine Zhg (Zd0 rfl rfl) ?_|refine Zhg (Za8 rfl rfl) ?_|refine Zhg (Za9 rfl rfl) ?_|refine Zhg (Za6 rfl rfl) ?_|refine Zhg (Za7 rfl rfl) ?_
  first|refine Zhg (Zau rfl) ?_|refine Zhg (Zar rfl) ?_
  first|refine Zhi rfl ?_|refine Zhj rfl ?_|(refine Zhh rfl ?_; (first|refine Zhg (Zaw rfl) ?_|refine Zhg (Zar rfl) ?_))
  first|refine Zhi rfl ?_|refine Zhj rfl ?_|(refine Zhh rfl ?_; (first|refine Zhg (Zaw rfl) ?_|refine Zhg (Zar rfl) ?_))
  first|refine Zhi rfl ?_|refine Zhj rfl ?_|(refine Zhh rfl ?_; (refine Zh8 rfl (by kernel_rfl) (ebB) rfl qT ?_); (rintro _ _ ⟨rfl, rfl⟩); (refine Zg2 qA ?_))
  refine Zhm 71 rfl (decide_eq_true (rfl)) ?_
  first|refine Zhi rfl ?_|refine Zhj rfl ?_|(refine Zhh rfl ?_; (first|refine Zhg (Zb1 rfl) ?_|refine Zhg (Zb0 rfl) ?_))
  refine Zhn 72 rfl (rfl) ?_
  first|refine Zhg (Zdz rfl rfl) ?_|refine Zhg (Zd0 rfl rfl) ?_|refine Zhg (Za8 rfl rfl) ?_|refine Zhg (Za9 rfl rfl) ?_|refine Zhg (Za6 rfl rfl) ?_|refine Zhg (Za7 rfl rfl) ?_
  first|refine Zhg (Zau rfl) ?_|refine Zhg (Zar rfl) ?_
  first|refine Zhi rfl ?_|refine Zhj rfl ?_|(refine Zhh rfl ?_; (first|refine Zhg (Zaw rfl) ?_|refine Zhg (Zar rfl) ?_))
  first|refine Zhi rfl ?_|refine Zhj rfl ?_|(refine Zhh rfl ?_; (first|refine Zhg (Zl8 rfl) ?_|refine Zhg (Zce rfl) ?_))
  first|refine Zhi rfl ?_|refine Zhj rfl ?_|(refine Zhh rfl ?_; (refine Zhp rfl qH (c2) ?_))
  first|refine Zhi rfl ?_|refine Zhj rfl ?_|(refine Zhh rfl ?_; (refine Zh8 rfl (by kernel_rfl) (kept_x (L := [cl gm ((spareL x.more_).map u8b).toArray 5, old W]) .here (hma.imp Imp.tail) (by omega)) rfl qT ?_); (rintro _ _ ⟨rfl, rfl⟩); (refine Zg2 qA ?_))
  first|refine Zhi rfl ?_|refine Zhj rfl ?_|(refine Zhh rfl ?_; (first|refine Zhg (Zb1 rfl) ?_|refine Zhg (Zb0 rfl) ?_))
  refine Zhn 79 rfl (rfl) ?_
  first|refine Zhg (Zdz rfl rfl) ?_|refine Zhg (Zd0 rfl rfl) ?_|refine Zhg (Za8 rfl rfl) ?_|refine Zhg (Za9 rfl rfl) ?_|refine Zhg (Za6 rfl rfl) ?_|refine Zhg (Za7 rfl rfl) ?_
  first|refine Zhg (Zau rfl) ?_|refine Zhg (Zar rfl) ?_
  first|refine Zhi rfl ?_|refine Zhj rfl ?_|(refine Zhh rfl ?_; (first|refine Zhg (Zaw rfl) ?_|refine Zhg (Zar rfl) ?_))
  first|refine Zhi rfl ?_|refine Zhj rfl ?_|(refine Zhh rfl ?_; (first|refine Zhg (Zl8 rfl) ?_|refine Zhg (Zce rfl) ?_))
  first|refine Zhi rfl ?_|refine Zhj rfl ?_|(refine Zhh rfl ?_; (refine Zhp rfl qH (c3) ?_))
  first|refine Zhi rfl ?_|refine Zhj rfl ?_|(refine Zhh rfl ?_; (refine Zh8 rfl (by kernel_rfl) (kept_x (L := [cl gt ((spareL x.text_).map u8b).toArray 5, old W]) .here (hta.imp Imp.tail) (by omega)) rfl qT ?_); (rintro _ _ ⟨rfl, rfl⟩); (refine Zg2 qA ?_))
  first|refine Zhi rfl ?_|refine Zhj rfl ?_|(refine Zhh rfl ?_; (first|refine Zhg (Zb1 rfl) ?_|refine Zhg (Zb0 rfl) ?_))
  refine Zhn 86 rfl (rfl) ?_
  first|refine Zhg (Zdz rfl rfl) ?_|refine Zhg (Zd0 rfl rfl) ?_|refine Zhg (Za8 rfl rfl) ?_|refine Zhg (Za9 rfl rfl) ?_|refine Zhg (Za6 rfl rfl) ?_|refine Zhg (Za7 rfl rfl) ?_
  refine Zg3 ?_
  refine Ct.o ?_
  refine Zgf rfl ?_
  refine Ct.o ?_
  refine Zgb ?_
  first|refine Zhg (Zl8 rfl) ?_|refine Zhg (Zce rfl) ?_
  refine Zhp rfl qH (c3) ?_
  refine Zh8 rfl (by kernel_rfl) (copyBytes_x (L := [old W]) hta (by omega)) rfl qT ?_
  rintro _ _ ⟨ca, cc, rfl, rfl⟩
  refine Zg2 qA ?_
  first|refine Zhg (Za2 rfl) ?_|refine Zhg (Zas rfl) ?_
  refine Zg3 ?_
  refine Ct.o ?_
  refine Zgb ?_
  first|refine Zhg (Zaz rfl) ?_|refine Zhg (Zas rfl) ?_
  refine Zg3 ?_
  refine Ct.o ?_
  rw [hsp]
  generalize (spareL x.text_).drop x.text_.length = tl at htail
  refine Zgo [(12, 12), (91, 112)] (by kernel_rfl) (fun i : Nat => i ≤ x.text_.length) (fun i => cl gt ((flB x.text_ i ++ tl).map u8b).toArray 5 :: own 5 1 (.slice ca x.text_.length cc) x.text_.length ((flB x.text_ i).map u8b) :: own 5 1 (.slice sa S.length sc) S.length (S.map u8b) :: own 5 1 (.slice ua S.length uc) S.length (S.map u8b) :: own 5 1 (.slice ra S.length rc) S.length (S.map u8b) :: cl gm ((spareL x.more_).map u8b).toArray 5 :: cl b1 x.cells.toArray 28 :: [old W])
    (fun i => [(12, nvv i)]) (fun i => x.text_.length - i) 0 (Nat.zero_le _) (by rw [flB_zero]; exact qI) ⟨rfl, trivial⟩ ?_
  intro i u hi
  have hfl := flB_len x.text_ i
  refine Ct.o ?_
  refine Zgb ?_
  first|refine Zhg (Zat rfl) ?_|refine Zhg (Zar rfl) ?_
  first|refine Zhg (Zaw rfl) ?_|refine Zhg (Zar rfl) ?_
  first|refine Zhg (Zcr rfl) ?_|refine Zhg (Zct) ?_|refine Zhg (Zcu rfl) ?_
  first|refine Zhg (Zmf rfl rfl) ?_|refine Zhg (Zbn rfl rfl) ?_
  refine Zg3 ?_
  refine Ct.o ?_
  refine Zgg rfl (fun hB => ?_) (fun hB => ?_)
  · have hfa := flB_at x.text_ i hB
    have hg : (((flB x.text_ i ++ tl).map u8b).toArray)[i]? = some (u8b x.text_[i]) := by
      rw [List.getElem?_toArray, List.getElem?_map, List.getElem?_append_left (by omega), hfa]; rfl
    have hg2 : ((flB x.text_ i).map u8b)[i]? = some (u8b x.text_[i]) := by rw [List.getElem?_map, hfa]; rfl
    have hst : (flB x.text_ i ++ tl).set i (x.text_[i] ^^^ 49#8) = flB x.text_ (i + 1) ++ tl := by rw [List.set_append_left _ _ (by omega), flB_set x.text_ i hB]
    refine Zgt (fun F w H => own_some (a := ca) qH (by omega) H) ?_
    rintro ⟨gc, rfl⟩
    refine Ct.o ?_
    refine Zgb ?_
    first|refine Zhg (Zaw rfl) ?_|refine Zhg (Zar rfl) ?_
    first|refine Zhg (Zat rfl) ?_|refine Zhg (Zar rfl) ?_
    first|refine Zhg (Zaw rfl) ?_|refine Zhg (Zar rfl) ?_
    first|refine Zhg (Zat rfl) ?_|refine Zhg (Zar rfl) ?_
    first|refine Zhg (Zl4 rfl rfl) ?_|refine Zhg (Zl1 rfl rfl) ?_
    refine Zhp rfl qH (hg) ?_
    refine Zhg (Zje (y := 49#8) rfl rfl) ?_
    first|refine Zhg (Zl4 rfl rfl) ?_|refine Zhg (Zl1 rfl rfl) ?_
    refine Zht rfl rfl qR qZ (setL (f := u8b)) ?_
    refine Zg3 ?_
    refine Ct.o ?_
    rw [hst]
    refine Ct.o ?_
    refine Zgb ?_
    first|refine Zhg (Zaw rfl) ?_|refine Zhg (Zar rfl) ?_
    first|refine Zhg (Zat rfl) ?_|refine Zhg (Zar rfl) ?_
    first|refine Zhg (Zaw rfl) ?_|refine Zhg (Zar rfl) ?_
    first|refine Zhg (Zat rfl) ?_|refine Zhg (Zar rfl) ?_
    first|refine Zhg (Zl4 rfl rfl) ?_|refine Zhg (Zl1 rfl rfl) ?_
    refine Zff rfl (((Rd.own (n := x.text_.length) qH).at0 hB hg2)) ?_
    refine Zhg (Zje (y := 49#8) rfl rfl) ?_
    first|refine Zhg (Zl4 rfl rfl) ?_|refine Zhg (Zl1 rfl rfl) ?_
    refine Zm7 (u := u8b (x.text_[i] ^^^ 49#8)) (i := i) (xs := (flB x.text_ i).map u8b) (ys := ((flB x.text_ i).set i (x.text_[i] ^^^ 49#8)).map u8b) rfl rfl rfl qR hB (by rw [List.map_set]) ?_
    refine Zg3 ?_
    refine Ct.o ?_
    rw [flB_set x.text_ i hB]
    refine Ct.o ?_
    refine Zgb ?_
    first|refine Zhg (Zat rfl) ?_|refine Zhg (Zar rfl) ?_
    first|refine Zhg (Zma (b := 1) rfl rfl) ?_|refine Zhg (Zbg rfl rfl) ?_
    first|refine Zhg (Zaz rfl) ?_|refine Zhg (Zas rfl) ?_
    refine Zg3 ?_
    refine Ct.o ?_
    exact Zgl (i + 1) qO (by omega) qI ⟨rfl, trivial⟩
  · have hie : i = x.text_.length := by omega
    rw [hie] at hfl ⊢
    generalize flB x.text_ x.text_.length = T at hfl
    have hs3 := sealRef_x (L := [own 5 1 (.slice ca x.text_.length cc) x.text_.length (T.map u8b), old W]) x.key_ x.nonce_ hk hn (hma.imp Imp.tail) (bs_own .here hfl)
    have hs4 := seal_x (L := [cl gm ((spareL x.more_).map u8b).toArray 5, cl gt ((T ++ tl).map u8b).toArray 5]) x.key_ x.nonce_ hk hn (bs_spare .here (by omega)) (bs_front (c := x.text_.length + 80) (.there .here) hfl (by omega) (by omega)) (by omega) (by omega)
    have hR2 := sealR_len x.key_ x.nonce_ x.more_ T
    generalize sealR x.key_ x.nonce_ x.more_ T = R2 at hs3 hs4 hR2
    obtain ⟨S2, e2⟩ := R2
    dsimp only at hs3 hs4 hR2
    refine Ct.o ?_
    refine Zgb ?_
    first|refine Zhg (Zl8 rfl) ?_|refine Zhg (Zce rfl) ?_
    refine Zhq (n := 32) rfl qH qZ (c0) ?_
    first|refine Zhg (Zl8 rfl) ?_|refine Zhg (Zce rfl) ?_
    refine Zhq (n := 12) rfl qH qZ (c1) ?_
    first|refine Zhg (Zl8 rfl) ?_|refine Zhg (Zce rfl) ?_
    refine Zhp rfl qH (c2) ?_
    first|refine Zhg (Zaw rfl) ?_|refine Zhg (Zar rfl) ?_
    refine Zh8 rfl (by kernel_rfl) (hs3) rfl qT ?_
    rintro _ _ ⟨qa, qc, rfl, rfl⟩
    refine Zg2 qA ?_
    first|refine Zhg (Zmm rfl) ?_|refine Zhg (Zar rfl) ?_
    refine Zhg (Zco rfl rfl) ?_
    refine Zhg (Zco rfl rfl) ?_
    first|refine Zhg (Za2 rfl) ?_|refine Zhg (Zas rfl) ?_
    first|refine Zhg (Zaz rfl) ?_|refine Zhg (Zas rfl) ?_
    refine Zg3 ?_
    refine Ct.o ?_
    refine Zgb ?_
    first|refine Zhg (Zl8 rfl) ?_|refine Zhg (Zce rfl) ?_
    refine Zhq (n := 32) rfl qH qZ (c0) ?_
    first|refine Zhg (Zl8 rfl) ?_|refine Zhg (Zce rfl) ?_
    refine Zhq (n := 12) rfl qH qZ (c1) ?_
    first|refine Zhg (Zaw rfl) ?_|refine Zhg (Zar rfl) ?_
    first|refine Zhg (Zaw rfl) ?_|refine Zhg (Zar rfl) ?_
    refine Zh8 rfl (by kernel_rfl) (hs4) rfl qT ?_
    rintro _ _ ⟨wa, wc, rfl, rfl⟩
    refine Zg2 qA ?_
    first|refine Zhg (Zmm rfl) ?_|refine Zhg (Zar rfl) ?_
    refine Zhg (Zco rfl rfl) ?_
    refine Zhg (Zco rfl rfl) ?_
    first|refine Zhg (Za2 rfl) ?_|refine Zhg (Zas rfl) ?_
    first|refine Zhg (Zaz rfl) ?_|refine Zhg (Zas rfl) ?_
    refine Zg3 ?_
    refine Ct.o ?_
    have ebC := eqBytes_x (L := [own 5 1 (.slice wa S2.length wc) S2.length (S2.map u8b), own 5 1 (.slice qa S2.length qc) S2.length (S2.map u8b)]) (a := S2) (b := S2) (Bs.own .here) (Bs.own (.there .here))
    refine Ct.o ?_
    refine Zgb ?_
    first|refine Zhg (Zat rfl) ?_|refine Zhg (Zar rfl) ?_
    first|refine Zhg (Zat rfl) ?_|refine Zhg (Zar rfl) ?_
    first|refine Zhg (Zmk rfl rfl) ?_|refine Zhg (Zbs rfl rfl) ?_
    refine Zhn 136 rfl (decide_eq_false ((fun h => h rfl))) ?_
    first|refine Zhg (Zau rfl) ?_|refine Zhg (Zar rfl) ?_
    first|refine Zhi rfl ?_|refine Zhj rfl ?_|(refine Zhh rfl ?_; (first|refine Zhg (Zaw rfl) ?_|refine Zhg (Zar rfl) ?_))
    first|refine Zhi rfl ?_|refine Zhj rfl ?_|(refine Zhh rfl ?_; (first|refine Zhg (Zaw rfl) ?_|refine Zhg (Zar rfl) ?_))
    first|refine Zhi rfl ?_|refine Zhj rfl ?_|(refine Zhh rfl ?_; (refine Zh8 rfl (by kernel_rfl) (ebC) rfl qT ?_); (rintro _ _ ⟨rfl, rfl⟩); (refine Zg2 qA ?_))
    refine Zhm 140 rfl (decide_eq_true (rfl)) ?_
    first|refine Zhi rfl ?_|refine Zhj rfl ?_|(refine Zhh rfl ?_; (first|refine Zhg (Zb1 rfl) ?_|refine Zhg (Zb0 rfl) ?_))
    refine Zhn 141 rfl (rfl) ?_
    first|refine Zhg (Zdz rfl rfl) ?_|refine Zhg (Zd0 rfl rfl) ?_|refine Zhg (Za8 rfl rfl) ?_|refine Zhg (Za9 rfl rfl) ?_|refine Zhg (Za6 rfl rfl) ?_|refine Zhg (Za7 rfl rfl) ?_
    first|refine Zhg (Zau rfl) ?_|refine Zhg (Zar rfl) ?_
    first|refine Zhi rfl ?_|refine Zhj rfl ?_|(refine Zhh rfl ?_; (first|refine Zhg (Zaw rfl) ?_|refine Zhg (Zar rfl) ?_))
    first|refine Zhi rfl ?_|refine Zhj rfl ?_|(refine Zhh rfl ?_; (first|refine Zhg (Zaw rfl) ?_|refine Zhg (Zar rfl) ?_))
    first|refine Zhi rfl ?_|refine Zhj rfl ?_|(refine Zhh rfl ?_; (refine Zh8 rfl (by kernel_rfl) (ebA) rfl qT ?_); (rintro _ _ ⟨rfl, rfl⟩); (refine Zg2 qA ?_))
    refine Zhm 146 rfl (decide_eq_true (rfl)) ?_
    first|refine Zhi rfl ?_|refine Zhj rfl ?_|(refine Zhh rfl ?_; (first|refine Zhg (Zb1 rfl) ?_|refine Zhg (Zb0 rfl) ?_))
    refine Zhn 147 rfl (rfl) ?_
    first|refine Zhg (Zdz rfl rfl) ?_|refine Zhg (Zd0 rfl rfl) ?_|refine Zhg (Za8 rfl rfl) ?_|refine Zhg (Za9 rfl rfl) ?_|refine Zhg (Za6 rfl rfl) ?_|refine Zhg (Za7 rfl rfl) ?_
    first|refine Zhg (Zau rfl) ?_|refine Zhg (Zar rfl) ?_
    first|refine Zhi rfl ?_|refine Zhj rfl ?_|(refine Zhh rfl ?_; (first|refine Zhg (Zaw rfl) ?_|refine Zhg (Zar rfl) ?_))
    first|refine Zhi rfl ?_|refine Zhj rfl ?_|(refine Zhh rfl ?_; (first|refine Zhg (Zaw rfl) ?_|refine Zhg (Zar rfl) ?_))
    first|refine Zhi rfl ?_|refine Zhj rfl ?_|(refine Zhh rfl ?_; (refine Zh8 rfl (by kernel_rfl) (ebB) rfl qT ?_); (rintro _ _ ⟨rfl, rfl⟩); (refine Zg2 qA ?_))
    refine Zhm 152 rfl (decide_eq_true (rfl)) ?_
    first|refine Zhi rfl ?_|refine Zhj rfl ?_|(refine Zhh rfl ?_; (first|refine Zhg (Zb1 rfl) ?_|refine Zhg (Zb0 rfl) ?_))
    refine Zhn 153 rfl (rfl) ?_
    first|refine Zhg (Zdz rfl rfl) ?_|refine Zhg (Zd0 rfl rfl) ?_|refine Zhg (Za8 rfl rfl) ?_|refine Zhg (Za9 rfl rfl) ?_|refine Zhg (Za6 rfl rfl) ?_|refine Zhg (Za7 rfl rfl) ?_
    refine Zg3 ?_
    refine Ct.o ?_
    refine Zgf rfl ?_
    refine Ct.o ?_
    refine Zgp (Imp.arr (N := own 5 1 (.slice sa S.length sc) S.length (S.map u8b) :: own 5 1 (.slice ua S.length uc) S.length (S.map u8b) :: own 5 1 (.slice wa S2.length wc) S2.length (S2.map u8b) :: cl gt ((T ++ tl).map u8b).toArray 5 :: own 5 1 (.slice ca x.text_.length cc) x.text_.length (T.map u8b) :: [old W]) qV) ?_
    refine Zgp (Imp.cons (Imp.cons (Imp.cons (star_nil (A := ownP))))) ?_
    refine Zgp (Imp.cons (Imp.cons (star_cons (A := ownP) (x := (wa, wc, S2))))) ?_
    refine Zgp (Imp.cons (star_cons (A := ownP) (x := (ua, uc, S)))) ?_
    refine Zgp (star_cons (A := ownP) (x := (sa, sc, S))) ?_
    have ebD := eqBytes_x (L := [cl gt ((T ++ tl).map u8b).toArray 5, own 5 1 (.slice ca x.text_.length cc) x.text_.length (T.map u8b)]) (a := T) (b := T) (bs_front (c := x.text_.length + 80) .here hfl (by omega) (by omega)) (bs_own (.there .here) hfl)
    refine Ct.o ?_
    refine Zgb ?_
    first|refine Zhg (Zaw rfl) ?_|refine Zhg (Zar rfl) ?_
    first|refine Zhg (Zaw rfl) ?_|refine Zhg (Zar rfl) ?_
    first|refine Zhg (Zaw rfl) ?_|refine Zhg (Zar rfl) ?_
    refine Zh7 (cs := #[.slice _ _ _, .slice _ _ _, .slice _ _ _]) (by omega) (by omega) rfl ?_; intro b158
    refine Zh8 rfl (by kernel_rfl) (apart_x (N := 3) (L := [cl b158 #[.slice sa S.length sc, .slice ua S.length uc, .slice wa S2.length wc] 26]) [(sa, sc, S), (ua, uc, S), (wa, wc, S2)] rfl (by omega) (by intro p hp; simp only [List.mem_cons, List.not_mem_nil, or_false] at hp; rcases hp with rfl|rfl|rfl <;> (dsimp only; omega)) (Rd.cl (o := 0) .here rfl (by simp) rfl)) rfl qT ?_
    rintro _ _ ⟨rfl, rfl⟩
    refine Zg2 qA ?_
    refine Zhm 159 rfl (rfl) ?_
    first|refine Zhg (Zau rfl) ?_|refine Zhg (Zar rfl) ?_
    first|refine Zhi rfl ?_|refine Zhj rfl ?_|(refine Zhh rfl ?_; (first|refine Zhg (Zaw rfl) ?_|refine Zhg (Zar rfl) ?_))
    first|refine Zhi rfl ?_|refine Zhj rfl ?_|(refine Zhh rfl ?_; (first|refine Zhg (Zaw rfl) ?_|refine Zhg (Zar rfl) ?_))
    first|refine Zhi rfl ?_|refine Zhj rfl ?_|(refine Zhh rfl ?_; (refine Zh8 rfl (by kernel_rfl) (ebD) rfl qT ?_); (rintro _ _ ⟨rfl, rfl⟩); (refine Zg2 qA ?_))
    refine Zhm 163 rfl (decide_eq_true (rfl)) ?_
    first|refine Zhg (Zdz rfl rfl) ?_|refine Zhg (Zd0 rfl rfl) ?_|refine Zhg (Za8 rfl rfl) ?_|refine Zhg (Za9 rfl rfl) ?_|refine Zhg (Za6 rfl rfl) ?_|refine Zhg (Za7 rfl rfl) ?_
    refine Zhm 164 rfl (rfl) ?_
    first|refine Zhg (Zau rfl) ?_|refine Zhg (Zar rfl) ?_
    first|refine Zhi rfl ?_|refine Zhj rfl ?_|(refine Zhh rfl ?_; (refine Zh8 rfl (by kernel_rfl) (works_x) rfl qT ?_); (rintro _ _ ⟨rfl, rfl⟩); (refine Zg2 qA ?_))
    first|refine Zhg (Zdz rfl rfl) ?_|refine Zhg (Zd0 rfl rfl) ?_|refine Zhg (Za8 rfl rfl) ?_|refine Zhg (Za9 rfl rfl) ?_|refine Zhg (Za6 rfl rfl) ?_|refine Zhg (Za7 rfl rfl) ?_
    first|refine Zhg (Za0 rfl) ?_|refine Zhg (Zas rfl) ?_
    refine Zg3 ?_
    refine Ct.o ?_
    refine rx1 (Zha rfl (Zg7)) ?_
    exact ⟨_, ⟨rfl, rfl⟩, qI⟩
end Go.Sl

/- trystlaw07: opened, walked. -/
set_option maxHeartbeats 4000000
set_option maxRecDepth 10000
set_option linter.unusedVariables false
set_option linter.unusedSimpArgs false
namespace Go.Sl
open Go Go.Proofs
attribute [local irreducible] cl pt own old pur ex all den denOps denS xOps xC cX CX xthen xblk xcut xloop xgo xng retX resX Calls PV Rd Con
attribute [local irreducible] code blockB ksB xorB vouchB leB sealB textB rightB sealR
def ccl (key nonce : List Byte) (v2 v3 : Value) : List Value := key.map u8b ++ (nonce.map u8b ++ ([v2] ++ [v3]))
section
variable {key nonce : List Byte} {v2 v3 v : Value}
theorem ccl_len (hk : key.length = 32) (hn : nonce.length = 12) : ((ccl key nonce v2 v3).toArray).size = 46 := by simp [ccl, hk, hn]
theorem ccl_key (hk : key.length = 32) (hn : nonce.length = 12) : ((ccl key nonce v2 v3).toArray).extract 0 32 = (key.map u8b).toArray := by
  apply Array.ext'; simp [ccl, List.extract_eq_take_drop, List.drop_append, List.take_append, List.take_of_length_le, hk, hn]
theorem ccl_nonce (hk : key.length = 32) (hn : nonce.length = 12) : ((ccl key nonce v2 v3).toArray).extract 32 44 = (nonce.map u8b).toArray := by
  apply Array.ext'; simp [ccl, List.extract_eq_take_drop, List.drop_append, List.take_append, List.take_of_length_le, hk, hn]
theorem ccl_2 (hk : key.length = 32) (hn : nonce.length = 12) : ((ccl key nonce v2 v3).toArray)[44]? = some v2 := by simp [ccl, List.getElem?_append, List.getElem?_cons, hk, hn]
theorem ccl_3 (hk : key.length = 32) (hn : nonce.length = 12) : ((ccl key nonce v2 v3).toArray)[45]? = some v3 := by simp [ccl, List.getElem?_append, List.getElem?_cons, hk, hn]
theorem ccl_set (hk : key.length = 32) (hn : nonce.length = 12) : ((ccl key nonce v2 v3).toArray).setIfInBounds 45 v = (ccl key nonce v2 v).toArray := by
  apply Array.ext'; simp [ccl, List.set_append, List.set_cons_succ, hk, hn]
end
theorem wrong_cases (key nonce more box : List Byte) : (wrongR more.length box.length = 0 ∧ ¬ box.length < 16 ∧ ¬ (1048576 < more.length ∨ 1048576 < box.length - 16)) ∨
    ∃ k : Nat, 0 < k ∧ k < 5 ∧ wrongR more.length box.length = k ∧ openR key nonce more box = ([], k) ∧ lookR key nonce more box = ([], 0#64, k) := by
  by_cases h : box.length < 16
  · exact .inr ⟨4, by omega, by omega, if_pos h, if_pos h, if_pos h⟩
  · by_cases hl : 1048576 < more.length ∨ 1048592 < box.length
    · have hl2 : 1048576 < more.length ∨ 1048576 < box.length - 16 := by omega
      exact .inr ⟨3, by omega, by omega, by unfold wrongR; rw [if_neg h, if_pos hl], by unfold openR; rw [if_neg h, if_pos hl2], by unfold lookR; rw [if_neg h, if_pos hl2]⟩
    · exact .inl ⟨by unfold wrongR; rw [if_neg h, if_neg hl], h, by omega⟩
attribute [local irreducible] ccl
theorem opened_x {L : List Asrt} (key nonce : List Byte) (hk : key.length = 32) (hn : nonce.length = 12) {vm vb v1 v2 : Value} {more box : List Byte} (hm : Bs L vm more) (hb : Bs L vb box) (hm1 : Bs L v1 more) (hb1 : Bs L v2 box) (hml : more.length ≤ 140737488351232) (hbl : box.length ≤ 140737488351232) :
    Con Try.prog 18 [.agg (ccl key nonce vm vb).toArray, v1, v2] L (fun r M => r = .bool true ∧ L = M) := by
  refine Con.get (fun w0 w F H => hm.sh _ _ _ H) ?_
  rintro ⟨ma, mc, rfl, hmc, hmcm⟩
  refine Con.get (fun w0 w F H => hb.sh _ _ _ H) ?_
  rintro ⟨ba, bc, rfl, hbc, hbcm⟩
  refine Con.get (fun w0 w F H => hm1.sh _ _ _ H) ?_
  rintro ⟨na, nc, rfl, hnc, hncm⟩
  refine Con.get (fun w0 w F H => hb1.sh _ _ _ H) ?_
  rintro ⟨da, dc, rfl, hdc, hdcm⟩
  have hlen := ccl_len (v2 := .slice ma more.length mc) (v3 := .slice ba box.length bc) hk hn
  have c0 := ccl_key (v2 := .slice ma more.length mc) (v3 := .slice ba box.length bc) hk hn
  have c1 := ccl_nonce (v2 := .slice ma more.length mc) (v3 := .slice ba box.length bc) hk hn
  have c2 := ccl_2 (v2 := .slice ma more.length mc) (v3 := .slice ba box.length bc) hk hn
  have c3 := ccl_3 (v2 := .slice ma more.length mc) (v3 := .slice ba box.length bc) hk hn
  have ho := open_x (L := L) key nonce hk hn hm1 hb1 hml hbl
  have hp := peek_x (L := L) key nonce hk hn hm1 hb1 hml hbl
  refine fn_x Try.func18 rfl rfl rfl Try.mixed (by kernel_rfl) ?_
  intro w0
  refine Ct.o ?_
  refine Zgb ?_
  refine Zh5 rfl ?_; intro b3
  first|refine Zhg (Za0 rfl) ?_|refine Zhg (Zas rfl) ?_
  refine Zg3 ?_
  refine Ct.o ?_
  refine Zgb ?_
  first|refine Zhg (Zl8 rfl) ?_|refine Zhg (Zce rfl) ?_
  refine Zhp rfl qH (c2) ?_
  first|refine Zhg (Zl8 rfl) ?_|refine Zhg (Zce rfl) ?_
  refine Zhp rfl qH (c3) ?_
  refine Zh8 rfl (by kernel_rfl) (wrong_x (L := L) (by omega) (by omega)) rfl qT ?_
  rintro _ _ ⟨rfl, rfl⟩
  refine Zg2 qA ?_
  first|refine Zhg (Zaz rfl) ?_|refine Zhg (Zas rfl) ?_
  refine Zg3 ?_
  refine Ct.o ?_
  refine Zgb ?_
  first|refine Zhg (Za2 rfl) ?_|refine Zhg (Zas rfl) ?_
  refine Zg3 ?_
  refine Ct.o ?_
  refine Zgb ?_
  first|refine Zhg (Za0 rfl) ?_|refine Zhg (Zas rfl) ?_
  refine Zg3 ?_
  refine Ct.o ?_
  rcases wrong_cases key nonce more box with ⟨e0, h16, hlong⟩|⟨k, hk0, hk5, e0, e1, e2⟩
  · rw [e0]
    refine Ct.o ?_
    refine Zgb ?_
    first|refine Zhg (Zat rfl) ?_|refine Zhg (Zar rfl) ?_
    first|refine Zhg (Zmj (b := 0) rfl rfl) ?_|refine Zhg (Zbr rfl rfl) ?_
    refine Zhm 21 rfl (rfl) ?_
    refine Zg3 ?_
    refine Ct.o ?_
    refine Zge rfl ?_
    refine Ct.o ?_
    refine Zgb ?_
    first|refine Zhg (Zl8 rfl) ?_|refine Zhg (Zce rfl) ?_
    refine Zhq (n := 32) rfl qH qZ (c0) ?_
    first|refine Zhg (Zl8 rfl) ?_|refine Zhg (Zce rfl) ?_
    refine Zhq (n := 12) rfl qH qZ (c1) ?_
    first|refine Zhg (Zl8 rfl) ?_|refine Zhg (Zce rfl) ?_
    refine Zhp rfl qH (c2) ?_
    first|refine Zhg (Zl8 rfl) ?_|refine Zhg (Zce rfl) ?_
    refine Zhp rfl qH (c3) ?_
    refine Zh8 rfl (by kernel_rfl) (textR_x (L := L) key nonce hk hn hm hb (by omega) (by omega) (by omega)) rfl qT ?_
    rintro _ _ ⟨xa, xc, rfl, rfl⟩
    refine Zg2 qA ?_
    first|refine Zhg (Zmm rfl) ?_|refine Zhg (Zar rfl) ?_
    refine Zhg (Zco rfl rfl) ?_
    refine Zhg (Zco rfl rfl) ?_
    first|refine Zhg (Za2 rfl) ?_|refine Zhg (Zas rfl) ?_
    first|refine Zhg (Za0 rfl) ?_|refine Zhg (Zas rfl) ?_
    refine Zg3 ?_
    refine Ct.o ?_
    by_cases hr : rightB key nonce more box = true
    · have e1 : openR key nonce more box = (textB key nonce box, 0) := by unfold openR; rw [if_neg h16, if_neg hlong, if_pos hr]
      have e2 : lookR key nonce more box = (textB key nonce box, 18446744073709551615#64, 0) := by unfold lookR; rw [if_neg h16, if_neg hlong, if_pos hr]
      have e3 : textR key nonce more box = textB key nonce box := if_pos hr
      have htl := textB_len key nonce box
      rw [e1] at ho
      rw [e2] at hp
      rw [e3, hr]
      generalize textB key nonce box = T at ho hp htl
      dsimp only at ho hp
      refine Ct.o ?_
      refine Zgb ?_
      first|refine Zhg (Zl8 rfl) ?_|refine Zhg (Zce rfl) ?_
      refine Zhq (n := 32) rfl qH qZ (c0) ?_
      first|refine Zhg (Zl8 rfl) ?_|refine Zhg (Zce rfl) ?_
      refine Zhq (n := 12) rfl qH qZ (c1) ?_
      first|refine Zhg (Zaw rfl) ?_|refine Zhg (Zar rfl) ?_
      first|refine Zhg (Zaw rfl) ?_|refine Zhg (Zar rfl) ?_
      refine Zh8 rfl (by kernel_rfl) (ho) rfl qT ?_
      rintro _ _ ⟨oa, oc, rfl, rfl⟩
      refine Zg2 qA ?_
      first|refine Zhg (Zmm rfl) ?_|refine Zhg (Zar rfl) ?_
      refine Zhg (Zco rfl rfl) ?_
      refine Zhg (Zco rfl rfl) ?_
      first|refine Zhg (Za2 rfl) ?_|refine Zhg (Zas rfl) ?_
      first|refine Zhg (Zaz rfl) ?_|refine Zhg (Zas rfl) ?_
      refine Zg3 ?_
      refine Ct.o ?_
      refine Zgb ?_
      first|refine Zhg (Zl8 rfl) ?_|refine Zhg (Zce rfl) ?_
      refine Zhq (n := 32) rfl qH qZ (c0) ?_
      first|refine Zhg (Zl8 rfl) ?_|refine Zhg (Zce rfl) ?_
      refine Zhq (n := 12) rfl qH qZ (c1) ?_
      first|refine Zhg (Zaw rfl) ?_|refine Zhg (Zar rfl) ?_
      first|refine Zhg (Zaw rfl) ?_|refine Zhg (Zar rfl) ?_
      refine Zh8 rfl (by kernel_rfl) (hp) rfl qT ?_
      rintro _ _ ⟨pa, pc, rfl, rfl⟩
      refine Zg2 qA ?_
      first|refine Zhg (Zmm rfl) ?_|refine Zhg (Zar rfl) ?_
      refine Zhg (Zco rfl rfl) ?_
      refine Zhg (Zco rfl rfl) ?_
      refine Zhg (Zco rfl rfl) ?_
      first|refine Zhg (Za2 rfl) ?_|refine Zhg (Zas rfl) ?_
      first|refine Zhg (Zaz rfl) ?_|refine Zhg (Zas rfl) ?_
      first|refine Zhg (Zaz rfl) ?_|refine Zhg (Zas rfl) ?_
      refine Zg3 ?_
      refine Ct.o ?_
      refine Zgb ?_
      first|refine Zhg (Zat rfl) ?_|refine Zhg (Zar rfl) ?_
      first|refine Zhg (Zmk (b := 0) rfl rfl) ?_|refine Zhg (Zbs rfl rfl) ?_
      refine Zhn 56 rfl (rfl) ?_
      refine Zg3 ?_
      refine Ct.o ?_
      refine Zgf rfl ?_
      refine Ct.o ?_
      refine Zgb ?_
      first|refine Zhg (Zau rfl) ?_|refine Zhg (Zar rfl) ?_
      refine Zg3 ?_
      refine Ct.o ?_
      refine Zge rfl ?_
      refine Ct.o ?_
      refine Zgb ?_
      first|refine Zhg (Zat rfl) ?_|refine Zhg (Zar rfl) ?_
      first|refine Zhg (Zmj (b := 0) rfl rfl) ?_|refine Zhg (Zbr rfl rfl) ?_
      refine Zhm 81 rfl (rfl) ?_
      first|refine Zhg (Zau rfl) ?_|refine Zhg (Zar rfl) ?_
      first|refine Zhi rfl ?_|refine Zhj rfl ?_|(refine Zhh rfl ?_; (first|refine Zhg (Zat rfl) ?_|refine Zhg (Zar rfl) ?_))
      first|refine Zhi rfl ?_|refine Zhj rfl ?_|(refine Zhh rfl ?_; (first|refine Zhg (Zmj (b := 0) rfl rfl) ?_|refine Zhg (Zbr rfl rfl) ?_))
      refine Zhm 84 rfl (rfl) ?_
      first|refine Zhg (Zdz rfl rfl) ?_|refine Zhg (Zd0 rfl rfl) ?_|refine Zhg (Za8 rfl rfl) ?_|refine Zhg (Za9 rfl rfl) ?_|refine Zhg (Za6 rfl rfl) ?_|refine Zhg (Za7 rfl rfl) ?_
      first|refine Zhg (Zau rfl) ?_|refine Zhg (Zar rfl) ?_
      first|refine Zhi rfl ?_|refine Zhj rfl ?_|(refine Zhh rfl ?_; (first|refine Zhg (Zat rfl) ?_|refine Zhg (Zar rfl) ?_))
      first|refine Zhi rfl ?_|refine Zhj rfl ?_|(refine Zhh rfl ?_; (refine Zhg (Zln (x := 18446744073709551615#64) (y := 18446744073709551615#64) rfl rfl) ?_))
      refine Zhm 88 rfl (decide_eq_true (rfl)) ?_
      first|refine Zhg (Zdz rfl rfl) ?_|refine Zhg (Zd0 rfl rfl) ?_|refine Zhg (Za8 rfl rfl) ?_|refine Zhg (Za9 rfl rfl) ?_|refine Zhg (Za6 rfl rfl) ?_|refine Zhg (Za7 rfl rfl) ?_
      first|refine Zhg (Zau rfl) ?_|refine Zhg (Zar rfl) ?_
      first|refine Zhi rfl ?_|refine Zhj rfl ?_|(refine Zhh rfl ?_; (first|refine Zhg (Zaw rfl) ?_|refine Zhg (Zar rfl) ?_))
      first|refine Zhi rfl ?_|refine Zhj rfl ?_|(refine Zhh rfl ?_; (first|refine Zhg (Zaw rfl) ?_|refine Zhg (Zar rfl) ?_))
      first|refine Zhi rfl ?_|refine Zhj rfl ?_|(refine Zhh rfl ?_; (refine Zh8 rfl (by kernel_rfl) (eqBytes_x (L := [own 5 1 (.slice oa T.length oc) T.length (T.map u8b), own 5 1 (.slice xa T.length xc) T.length (T.map u8b)]) (a := T) (b := T) (Bs.own .here) (Bs.own (.there .here))) rfl qT ?_); (rintro _ _ ⟨rfl, rfl⟩); (refine Zg2 qA ?_))
      refine Zhm 93 rfl (decide_eq_true (rfl)) ?_
      first|refine Zhg (Zdz rfl rfl) ?_|refine Zhg (Zd0 rfl rfl) ?_|refine Zhg (Za8 rfl rfl) ?_|refine Zhg (Za9 rfl rfl) ?_|refine Zhg (Za6 rfl rfl) ?_|refine Zhg (Za7 rfl rfl) ?_
      first|refine Zhg (Zau rfl) ?_|refine Zhg (Zar rfl) ?_
      first|refine Zhi rfl ?_|refine Zhj rfl ?_|(refine Zhh rfl ?_; (first|refine Zhg (Zaw rfl) ?_|refine Zhg (Zar rfl) ?_))
      first|refine Zhi rfl ?_|refine Zhj rfl ?_|(refine Zhh rfl ?_; (first|refine Zhg (Zaw rfl) ?_|refine Zhg (Zar rfl) ?_))
      first|refine Zhi rfl ?_|refine Zhj rfl ?_|(refine Zhh rfl ?_; (refine Zh8 rfl (by kernel_rfl) (eqBytes_x (L := [own 5 1 (.slice pa T.length pc) T.length (T.map u8b), own 5 1 (.slice xa T.length xc) T.length (T.map u8b)]) (a := T) (b := T) (Bs.own .here) (Bs.own (.there .here))) rfl qT ?_); (rintro _ _ ⟨rfl, rfl⟩); (refine Zg2 qA ?_))
      refine Zhm 98 rfl (decide_eq_true (rfl)) ?_
      first|refine Zhg (Zdz rfl rfl) ?_|refine Zhg (Zd0 rfl rfl) ?_|refine Zhg (Za8 rfl rfl) ?_|refine Zhg (Za9 rfl rfl) ?_|refine Zhg (Za6 rfl rfl) ?_|refine Zhg (Za7 rfl rfl) ?_
      first|refine Zhg (Za0 rfl) ?_|refine Zhg (Zas rfl) ?_
      refine Zg3 ?_
      refine Ct.o ?_
      refine rx1 (Zha rfl (Zg7)) ?_
      exact ⟨_, ⟨rfl, rfl⟩, qI⟩
    · have hrf : rightB key nonce more box = false := by simpa using hr
      have e1 : openR key nonce more box = ([], 70) := by unfold openR; rw [if_neg h16, if_neg hlong, if_neg hr]
      have e2 : lookR key nonce more box = (List.replicate (box.length - 16) 0#8, 0#64, 0) := by unfold lookR; rw [if_neg h16, if_neg hlong, if_neg hr]
      have e3 : textR key nonce more box = [] := if_neg hr
      rw [e1] at ho
      rw [e2] at hp
      rw [e3, hrf]
      have hzl : (List.replicate (box.length - 16) 0#8).length = box.length - 16 := List.length_replicate
      dsimp only at ho hp
      refine Ct.o ?_
      refine Zgb ?_
      first|refine Zhg (Zl8 rfl) ?_|refine Zhg (Zce rfl) ?_
      refine Zhq (n := 32) rfl qH qZ (c0) ?_
      first|refine Zhg (Zl8 rfl) ?_|refine Zhg (Zce rfl) ?_
      refine Zhq (n := 12) rfl qH qZ (c1) ?_
      first|refine Zhg (Zaw rfl) ?_|refine Zhg (Zar rfl) ?_
      first|refine Zhg (Zaw rfl) ?_|refine Zhg (Zar rfl) ?_
      refine Zh8 rfl (by kernel_rfl) (ho) rfl qT ?_
      rintro _ _ ⟨oa, oc, rfl, rfl⟩
      refine Zg2 qA ?_
      first|refine Zhg (Zmm rfl) ?_|refine Zhg (Zar rfl) ?_
      refine Zhg (Zco rfl rfl) ?_
      refine Zhg (Zco rfl rfl) ?_
      first|refine Zhg (Za2 rfl) ?_|refine Zhg (Zas rfl) ?_
      first|refine Zhg (Zaz rfl) ?_|refine Zhg (Zas rfl) ?_
      refine Zg3 ?_
      refine Ct.o ?_
      refine Zgb ?_
      first|refine Zhg (Zl8 rfl) ?_|refine Zhg (Zce rfl) ?_
      refine Zhq (n := 32) rfl qH qZ (c0) ?_
      first|refine Zhg (Zl8 rfl) ?_|refine Zhg (Zce rfl) ?_
      refine Zhq (n := 12) rfl qH qZ (c1) ?_
      first|refine Zhg (Zaw rfl) ?_|refine Zhg (Zar rfl) ?_
      first|refine Zhg (Zaw rfl) ?_|refine Zhg (Zar rfl) ?_
      refine Zh8 rfl (by kernel_rfl) (hp) rfl qT ?_
      rintro _ _ ⟨pa, pc, rfl, rfl⟩
      refine Zg2 qA ?_
      first|refine Zhg (Zmm rfl) ?_|refine Zhg (Zar rfl) ?_
      refine Zhg (Zco rfl rfl) ?_
      refine Zhg (Zco rfl rfl) ?_
      refine Zhg (Zco rfl rfl) ?_
      first|refine Zhg (Za2 rfl) ?_|refine Zhg (Zas rfl) ?_
      first|refine Zhg (Zaz rfl) ?_|refine Zhg (Zas rfl) ?_
      first|refine Zhg (Zaz rfl) ?_|refine Zhg (Zas rfl) ?_
      refine Zg3 ?_
      refine Ct.o ?_
      refine Zgb ?_
      first|refine Zhg (Zat rfl) ?_|refine Zhg (Zar rfl) ?_
      first|refine Zhg (Zmk (b := 0) rfl rfl) ?_|refine Zhg (Zbs rfl rfl) ?_
      refine Zhn 56 rfl (rfl) ?_
      refine Zg3 ?_
      refine Ct.o ?_
      refine Zgf rfl ?_
      refine Ct.o ?_
      refine Zgb ?_
      first|refine Zhg (Zau rfl) ?_|refine Zhg (Zar rfl) ?_
      refine Zg3 ?_
      refine Ct.o ?_
      refine Zgf rfl ?_
      refine Ct.o ?_
      refine Zgb ?_
      first|refine Zhg (Zat rfl) ?_|refine Zhg (Zar rfl) ?_
      first|refine Zhg (Zmj (b := 70) rfl rfl) ?_|refine Zhg (Zbr rfl rfl) ?_
      refine Zhm 101 rfl (rfl) ?_
      first|refine Zhg (Zau rfl) ?_|refine Zhg (Zar rfl) ?_
      first|refine Zhi rfl ?_|refine Zhj rfl ?_|(refine Zhh rfl ?_; (first|refine Zhg (Zaw rfl) ?_|refine Zhg (Zar rfl) ?_))
      first|refine Zhi rfl ?_|refine Zhj rfl ?_|(refine Zhh rfl ?_; (first|refine Zhg (Zcr rfl) ?_|refine Zhg (Zct) ?_|refine Zhg (Zcu rfl) ?_))
      first|refine Zhi rfl ?_|refine Zhj rfl ?_|(refine Zhh rfl ?_; (first|refine Zhg (Zmj (b := 0) rfl rfl) ?_|refine Zhg (Zbr rfl rfl) ?_))
      refine Zhm 105 rfl (rfl) ?_
      first|refine Zhg (Zdz rfl rfl) ?_|refine Zhg (Zd0 rfl rfl) ?_|refine Zhg (Za8 rfl rfl) ?_|refine Zhg (Za9 rfl rfl) ?_|refine Zhg (Za6 rfl rfl) ?_|refine Zhg (Za7 rfl rfl) ?_
      first|refine Zhg (Zau rfl) ?_|refine Zhg (Zar rfl) ?_
      first|refine Zhi rfl ?_|refine Zhj rfl ?_|(refine Zhh rfl ?_; (first|refine Zhg (Zat rfl) ?_|refine Zhg (Zar rfl) ?_))
      first|refine Zhi rfl ?_|refine Zhj rfl ?_|(refine Zhh rfl ?_; (first|refine Zhg (Zmj (b := 0) rfl rfl) ?_|refine Zhg (Zbr rfl rfl) ?_))
      refine Zhm 109 rfl (rfl) ?_
      first|refine Zhg (Zdz rfl rfl) ?_|refine Zhg (Zd0 rfl rfl) ?_|refine Zhg (Za8 rfl rfl) ?_|refine Zhg (Za9 rfl rfl) ?_|refine Zhg (Za6 rfl rfl) ?_|refine Zhg (Za7 rfl rfl) ?_
      first|refine Zhg (Zau rfl) ?_|refine Zhg (Zar rfl) ?_
      first|refine Zhi rfl ?_|refine Zhj rfl ?_|(refine Zhh rfl ?_; (first|refine Zhg (Zat rfl) ?_|refine Zhg (Zar rfl) ?_))
      first|refine Zhi rfl ?_|refine Zhj rfl ?_|(refine Zhh rfl ?_; (refine Zhg (Zln (x := 0#64) (y := 0#64) rfl rfl) ?_))
      refine Zhm 113 rfl (decide_eq_true (rfl)) ?_
      first|refine Zhg (Zdz rfl rfl) ?_|refine Zhg (Zd0 rfl rfl) ?_|refine Zhg (Za8 rfl rfl) ?_|refine Zhg (Za9 rfl rfl) ?_|refine Zhg (Za6 rfl rfl) ?_|refine Zhg (Za7 rfl rfl) ?_
      first|refine Zhg (Zau rfl) ?_|refine Zhg (Zar rfl) ?_
      first|refine Zhi rfl ?_|refine Zhj rfl ?_|(refine Zhh rfl ?_; (first|refine Zhg (Zaw rfl) ?_|refine Zhg (Zar rfl) ?_))
      first|refine Zhi rfl ?_|refine Zhj rfl ?_|(refine Zhh rfl ?_; (first|refine Zhg (Zl8 rfl) ?_|refine Zhg (Zce rfl) ?_))
      first|refine Zhi rfl ?_|refine Zhj rfl ?_|(refine Zhh rfl ?_; (refine Zhp rfl qH (c3) ?_))
      first|refine Zhi rfl ?_|refine Zhj rfl ?_|(refine Zhh rfl ?_; (first|refine Zhg (Zcr rfl) ?_|refine Zhg (Zct) ?_|refine Zhg (Zcu rfl) ?_))
      first|refine Zhi rfl ?_|refine Zhj rfl ?_|(refine Zhh rfl ?_; (refine Zhg (PV.eq (v' := nvv (box.length - 16)) (Zbh (b := 16) rfl rfl (by omega)) (int_eq (by omega))) ?_))
      first|refine Zhi rfl ?_|refine Zhj rfl ?_|(refine Zhh rfl ?_; (refine Zm3 (f := u8b) (a := 0#8) rfl rfl rfl qS qS qS ?_; intro b121))
      first|refine Zhi rfl ?_|refine Zhj rfl ?_|(refine Zhh rfl ?_; (refine Zh8 rfl (by kernel_rfl) (eqBytes_x (L := [cl b121 ((List.replicate (box.length - 16) 0#8).map u8b).toArray 5, own 5 1 (.slice pa (List.replicate (box.length - 16) 0#8).length pc) (List.replicate (box.length - 16) 0#8).length ((List.replicate (box.length - 16) 0#8).map u8b)]) (a := List.replicate (box.length - 16) 0#8) (b := List.replicate (box.length - 16) 0#8) (Bs.own (.there .here)) (bs_full .here hzl (by omega))) rfl qT ?_); (rintro _ _ ⟨rfl, rfl⟩); (refine Zg2 qA ?_))
      refine Zhm 122 rfl (decide_eq_true (rfl)) ?_
      first|refine Zhg (Zdz rfl rfl) ?_|refine Zhg (Zd0 rfl rfl) ?_|refine Zhg (Za8 rfl rfl) ?_|refine Zhg (Za9 rfl rfl) ?_|refine Zhg (Za6 rfl rfl) ?_|refine Zhg (Za7 rfl rfl) ?_
      first|refine Zhg (Za0 rfl) ?_|refine Zhg (Zas rfl) ?_
      refine Zg3 ?_
      refine Ct.o ?_
      refine rx1 (Zha rfl (Zg7)) ?_
      exact ⟨_, ⟨rfl, rfl⟩, qI⟩
  · rw [e1] at ho
    rw [e2] at hp
    rw [e0]
    dsimp only at ho hp
    refine Ct.o ?_
    refine Zgb ?_
    first|refine Zhg (Zat rfl) ?_|refine Zhg (Zar rfl) ?_
    first|refine Zhg (Zmj (b := 0) rfl rfl) ?_|refine Zhg (Zbr rfl rfl) ?_
    refine Zhn 21 rfl (decide_eq_false ((by omega))) ?_
    refine Zg3 ?_
    refine Ct.o ?_
    refine Zgf rfl ?_
    refine Ct.o ?_
    refine Zgb ?_
    first|refine Zhg (Zl8 rfl) ?_|refine Zhg (Zce rfl) ?_
    refine Zhq (n := 32) rfl qH qZ (c0) ?_
    first|refine Zhg (Zl8 rfl) ?_|refine Zhg (Zce rfl) ?_
    refine Zhq (n := 12) rfl qH qZ (c1) ?_
    first|refine Zhg (Zaw rfl) ?_|refine Zhg (Zar rfl) ?_
    first|refine Zhg (Zaw rfl) ?_|refine Zhg (Zar rfl) ?_
    refine Zh8 rfl (by kernel_rfl) (ho) rfl qT ?_
    rintro _ _ ⟨oa, oc, rfl, rfl⟩
    refine Zg2 qA ?_
    first|refine Zhg (Zmm rfl) ?_|refine Zhg (Zar rfl) ?_
    refine Zhg (Zco rfl rfl) ?_
    refine Zhg (Zco rfl rfl) ?_
    first|refine Zhg (Za2 rfl) ?_|refine Zhg (Zas rfl) ?_
    first|refine Zhg (Zaz rfl) ?_|refine Zhg (Zas rfl) ?_
    refine Zg3 ?_
    refine Ct.o ?_
    refine Zgb ?_
    first|refine Zhg (Zl8 rfl) ?_|refine Zhg (Zce rfl) ?_
    refine Zhq (n := 32) rfl qH qZ (c0) ?_
    first|refine Zhg (Zl8 rfl) ?_|refine Zhg (Zce rfl) ?_
    refine Zhq (n := 12) rfl qH qZ (c1) ?_
    first|refine Zhg (Zaw rfl) ?_|refine Zhg (Zar rfl) ?_
    first|refine Zhg (Zaw rfl) ?_|refine Zhg (Zar rfl) ?_
    refine Zh8 rfl (by kernel_rfl) (hp) rfl qT ?_
    rintro _ _ ⟨pa, pc, rfl, rfl⟩
    refine Zg2 qA ?_
    first|refine Zhg (Zmm rfl) ?_|refine Zhg (Zar rfl) ?_
    refine Zhg (Zco rfl rfl) ?_
    refine Zhg (Zco rfl rfl) ?_
    refine Zhg (Zco rfl rfl) ?_
    first|refine Zhg (Za2 rfl) ?_|refine Zhg (Zas rfl) ?_
    first|refine Zhg (Zaz rfl) ?_|refine Zhg (Zas rfl) ?_
    first|refine Zhg (Zaz rfl) ?_|refine Zhg (Zas rfl) ?_
    refine Zg3 ?_
    refine Ct.o ?_
    refine Zgb ?_
    first|refine Zhg (Zat rfl) ?_|refine Zhg (Zar rfl) ?_
    first|refine Zhg (Zmk (b := 0) rfl rfl) ?_|refine Zhg (Zbs rfl rfl) ?_
    refine Zhm 56 rfl (decide_eq_true ((by omega))) ?_
    refine Zg3 ?_
    refine Ct.o ?_
    refine Zge rfl ?_
    refine Ct.o ?_
    refine Zgb ?_
    first|refine Zhg (Zat rfl) ?_|refine Zhg (Zar rfl) ?_
    first|refine Zhg (Zat rfl) ?_|refine Zhg (Zar rfl) ?_
    first|refine Zhg (Zmj rfl rfl) ?_|refine Zhg (Zbr rfl rfl) ?_
    refine Zhm 59 rfl (decide_eq_true (rfl)) ?_
    first|refine Zhg (Zau rfl) ?_|refine Zhg (Zar rfl) ?_
    first|refine Zhi rfl ?_|refine Zhj rfl ?_|(refine Zhh rfl ?_; (first|refine Zhg (Zat rfl) ?_|refine Zhg (Zar rfl) ?_))
    first|refine Zhi rfl ?_|refine Zhj rfl ?_|(refine Zhh rfl ?_; (first|refine Zhg (Zat rfl) ?_|refine Zhg (Zar rfl) ?_))
    first|refine Zhi rfl ?_|refine Zhj rfl ?_|(refine Zhh rfl ?_; (first|refine Zhg (Zmj rfl rfl) ?_|refine Zhg (Zbr rfl rfl) ?_))
    refine Zhm 63 rfl (decide_eq_true (rfl)) ?_
    first|refine Zhg (Zdz rfl rfl) ?_|refine Zhg (Zd0 rfl rfl) ?_|refine Zhg (Za8 rfl rfl) ?_|refine Zhg (Za9 rfl rfl) ?_|refine Zhg (Za6 rfl rfl) ?_|refine Zhg (Za7 rfl rfl) ?_
    first|refine Zhg (Zau rfl) ?_|refine Zhg (Zar rfl) ?_
    first|refine Zhi rfl ?_|refine Zhj rfl ?_|(refine Zhh rfl ?_; (first|refine Zhg (Zat rfl) ?_|refine Zhg (Zar rfl) ?_))
    first|refine Zhi rfl ?_|refine Zhj rfl ?_|(refine Zhh rfl ?_; (refine Zhg (Zln (x := 0#64) (y := 0#64) rfl rfl) ?_))
    refine Zhm 67 rfl (decide_eq_true (rfl)) ?_
    first|refine Zhg (Zdz rfl rfl) ?_|refine Zhg (Zd0 rfl rfl) ?_|refine Zhg (Za8 rfl rfl) ?_|refine Zhg (Za9 rfl rfl) ?_|refine Zhg (Za6 rfl rfl) ?_|refine Zhg (Za7 rfl rfl) ?_
    first|refine Zhg (Zau rfl) ?_|refine Zhg (Zar rfl) ?_
    first|refine Zhi rfl ?_|refine Zhj rfl ?_|(refine Zhh rfl ?_; (first|refine Zhg (Zaw rfl) ?_|refine Zhg (Zar rfl) ?_))
    first|refine Zhi rfl ?_|refine Zhj rfl ?_|(refine Zhh rfl ?_; (first|refine Zhg (Zcr rfl) ?_|refine Zhg (Zct) ?_|refine Zhg (Zcu rfl) ?_))
    first|refine Zhi rfl ?_|refine Zhj rfl ?_|(refine Zhh rfl ?_; (first|refine Zhg (Zmj (b := 0) rfl rfl) ?_|refine Zhg (Zbr rfl rfl) ?_))
    refine Zhm 72 rfl (rfl) ?_
    first|refine Zhg (Zdz rfl rfl) ?_|refine Zhg (Zd0 rfl rfl) ?_|refine Zhg (Za8 rfl rfl) ?_|refine Zhg (Za9 rfl rfl) ?_|refine Zhg (Za6 rfl rfl) ?_|refine Zhg (Za7 rfl rfl) ?_
    first|refine Zhg (Zau rfl) ?_|refine Zhg (Zar rfl) ?_
    first|refine Zhi rfl ?_|refine Zhj rfl ?_|(refine Zhh rfl ?_; (first|refine Zhg (Zaw rfl) ?_|refine Zhg (Zar rfl) ?_))
    first|refine Zhi rfl ?_|refine Zhj rfl ?_|(refine Zhh rfl ?_; (first|refine Zhg (Zcr rfl) ?_|refine Zhg (Zct) ?_|refine Zhg (Zcu rfl) ?_))
    first|refine Zhi rfl ?_|refine Zhj rfl ?_|(refine Zhh rfl ?_; (first|refine Zhg (Zmj (b := 0) rfl rfl) ?_|refine Zhg (Zbr rfl rfl) ?_))
    refine Zhm 77 rfl (rfl) ?_
    first|refine Zhg (Zdz rfl rfl) ?_|refine Zhg (Zd0 rfl rfl) ?_|refine Zhg (Za8 rfl rfl) ?_|refine Zhg (Za9 rfl rfl) ?_|refine Zhg (Za6 rfl rfl) ?_|refine Zhg (Za7 rfl rfl) ?_
    first|refine Zhg (Za0 rfl) ?_|refine Zhg (Zas rfl) ?_
    refine Zg3 ?_
    refine Ct.o ?_
    refine rx1 (Zha rfl (Zg7)) ?_
    exact ⟨_, ⟨rfl, rfl⟩, qI⟩
end Go.Sl

/- trystlaw07: SealOpens, walked. -/
set_option maxHeartbeats 4000000
set_option maxRecDepth 10000
set_option linter.unusedVariables false
set_option linter.unusedSimpArgs false
namespace Go.Sl
open Go Go.Proofs
attribute [local irreducible] cl pt own old pur ex all den denOps denS xOps xC cX CX xthen xblk xcut xloop xgo xng retX resX Calls PV Rd Con
theorem ccl_one (key nonce : List Byte) (a a' : Option Addr) (n n' c c' : Nat) : ((ccl key nonce (.slice a n c) (.slice a' n' c')).toArray).toList.all oneC = true := by simp [ccl, oneC]
attribute [local irreducible] code blockB ksB xorB vouchB leB sealB textB rightB sealR openR lookR ccl
theorem openR_len (key nonce more box : List Byte) : (openR key nonce more box).1.length ≤ 1048576 := by
  unfold openR
  split
  · simp
  · split
    · simp
    · split
      · dsimp only; rw [textB_len]; omega
      · simp
theorem lookR_len (key nonce more box : List Byte) : (lookR key nonce more box).1.length ≤ 1048576 := by
  unfold lookR
  split
  · simp
  · split
    · simp
    · split
      · dsimp only; rw [textB_len]; omega
      · dsimp only; rw [List.length_replicate]; omega
theorem case_ccl (x : CaseV) : x.cells = ccl x.key_ x.nonce_ x.more_V x.text_V := by unfold ccl CaseV.cells; rfl
theorem opens_x (W : World) (x : CaseV) (ok : CaseVOk W x) : Con Try.prog 5 [.agg x.cells.toArray] [old W] (fun r M => r = .bool true ∧ [old W] = M) := by
  have hk := ok.key_
  have hn := ok.nonce_
  have hml := ok.more_.len
  have htl := ok.text_.len
  have hma : Bs [old W] x.more_V x.more_ := ok.more_.bs .here
  have hta : Bs [old W] x.text_V x.text_ := ok.text_.bs .here
  obtain ⟨ma, mc, hmv, hmc1, hmc2⟩ := ok.more_.sh
  obtain ⟨ta, tc, htv, htc1, htc2⟩ := ok.text_.sh
  rw [case_ccl]
  rw [hmv] at hma ⊢
  rw [htv] at hta ⊢
  have hlen := ccl_len (v2 := .slice ma x.more_.length mc) (v3 := .slice ta x.text_.length tc) hk hn
  have c0 := ccl_key (v2 := .slice ma x.more_.length mc) (v3 := .slice ta x.text_.length tc) hk hn
  have c1 := ccl_nonce (v2 := .slice ma x.more_.length mc) (v3 := .slice ta x.text_.length tc) hk hn
  have c2 := ccl_2 (v2 := .slice ma x.more_.length mc) (v3 := .slice ta x.text_.length tc) hk hn
  have c3 := ccl_3 (v2 := .slice ma x.more_.length mc) (v3 := .slice ta x.text_.length tc) hk hn
  generalize x.key_ = key at hk hlen c0 c1 c2 c3 ⊢
  generalize x.nonce_ = nonce at hn hlen c0 c1 c2 c3 ⊢
  generalize x.more_ = more at hma hml hmc1 hlen c0 c1 c2 c3 ⊢
  generalize x.text_ = box at hta htl htc1 hlen c0 c1 c2 c3 ⊢
  refine fn_x Try.func5 rfl rfl rfl Try.mixed (by kernel_rfl) ?_
  intro w0
  refine Ct.o ?_
  refine Zgb ?_
  refine Zh5 rfl ?_; intro b1
  first|refine Zhg (Za0 rfl) ?_|refine Zhg (Zas rfl) ?_
  refine Zg3 ?_
  refine Ct.o ?_
  refine Zgb ?_
  first|refine Zhg (Zl8 rfl) ?_|refine Zhg (Zce rfl) ?_
  refine Zhp rfl qH (c2) ?_
  refine Zh8 rfl (by kernel_rfl) (spare_x (L := [old W]) hma (by omega)) rfl qT ?_
  rintro _ _ ⟨gm, rfl, rfl⟩
  refine Zg2 qA ?_
  first|refine Zhg (Za2 rfl) ?_|refine Zhg (Zas rfl) ?_
  refine Zg3 ?_
  refine Ct.o ?_
  refine Zgb ?_
  first|refine Zhg (Zl8 rfl) ?_|refine Zhg (Zce rfl) ?_
  refine Zhp rfl qH (c3) ?_
  refine Zh8 rfl (by kernel_rfl) (spare_x (L := [old W]) hta (by omega)) rfl qT ?_
  rintro _ _ ⟨gt, rfl, rfl⟩
  refine Zg2 qA ?_
  first|refine Zhg (Za2 rfl) ?_|refine Zhg (Zas rfl) ?_
  refine Zg3 ?_
  refine Ct.o ?_
  refine Zgb ?_
  first|refine Zhr rfl qH qZ ?_|refine Zhq rfl qH qZ rfl ?_
  first|refine Zhg (Zaw rfl) ?_|refine Zhg (Zar rfl) ?_
  first|refine Zhg (Zaw rfl) ?_|refine Zhg (Zar rfl) ?_
  refine Zh8 rfl (by kernel_rfl) (opened_x (L := [cl gm ((spareL more).map u8b).toArray 5, cl gt ((spareL box).map u8b).toArray 5, old W]) key nonce hk hn (hma.imp (Imp.arr qV)) (hta.imp (Imp.arr qV)) (bs_spare .here (by omega)) (bs_spare (.there .here) (by omega)) (by omega) (by omega)) rfl qT ?_
  rintro _ _ ⟨rfl, rfl⟩
  refine Zg2 qA ?_
  first|refine Zhg (Zb1 rfl) ?_|refine Zhg (Zb0 rfl) ?_
  refine Zhn 28 rfl (rfl) ?_
  first|refine Zhg (Zau rfl) ?_|refine Zhg (Zar rfl) ?_
  first|refine Zhi rfl ?_|refine Zhj rfl ?_|(refine Zhh rfl ?_; (first|refine Zhg (Zaw rfl) ?_|refine Zhg (Zar rfl) ?_))
  first|refine Zhi rfl ?_|refine Zhj rfl ?_|(refine Zhh rfl ?_; (first|refine Zhg (Zl8 rfl) ?_|refine Zhg (Zce rfl) ?_))
  first|refine Zhi rfl ?_|refine Zhj rfl ?_|(refine Zhh rfl ?_; (refine Zhp rfl qH (c2) ?_))
  first|refine Zhi rfl ?_|refine Zhj rfl ?_|(refine Zhh rfl ?_; (refine Zh8 rfl (by kernel_rfl) (kept_x (L := [cl gm ((spareL more).map u8b).toArray 5, old W]) .here (hma.imp Imp.tail) (by omega)) rfl qT ?_); (rintro _ _ ⟨rfl, rfl⟩); (refine Zg2 qA ?_))
  first|refine Zhi rfl ?_|refine Zhj rfl ?_|(refine Zhh rfl ?_; (first|refine Zhg (Zb1 rfl) ?_|refine Zhg (Zb0 rfl) ?_))
  refine Zhn 34 rfl (rfl) ?_
  first|refine Zhg (Zdz rfl rfl) ?_|refine Zhg (Zd0 rfl rfl) ?_|refine Zhg (Za8 rfl rfl) ?_|refine Zhg (Za9 rfl rfl) ?_|refine Zhg (Za6 rfl rfl) ?_|refine Zhg (Za7 rfl rfl) ?_
  first|refine Zhg (Zau rfl) ?_|refine Zhg (Zar rfl) ?_
  first|refine Zhi rfl ?_|refine Zhj rfl ?_|(refine Zhh rfl ?_; (first|refine Zhg (Zaw rfl) ?_|refine Zhg (Zar rfl) ?_))
  first|refine Zhi rfl ?_|refine Zhj rfl ?_|(refine Zhh rfl ?_; (first|refine Zhg (Zl8 rfl) ?_|refine Zhg (Zce rfl) ?_))
  first|refine Zhi rfl ?_|refine Zhj rfl ?_|(refine Zhh rfl ?_; (refine Zhp rfl qH (c3) ?_))
  first|refine Zhi rfl ?_|refine Zhj rfl ?_|(refine Zhh rfl ?_; (refine Zh8 rfl (by kernel_rfl) (kept_x (L := [cl gt ((spareL box).map u8b).toArray 5, old W]) .here (hta.imp Imp.tail) (by omega)) rfl qT ?_); (rintro _ _ ⟨rfl, rfl⟩); (refine Zg2 qA ?_))
  first|refine Zhi rfl ?_|refine Zhj rfl ?_|(refine Zhh rfl ?_; (first|refine Zhg (Zb1 rfl) ?_|refine Zhg (Zb0 rfl) ?_))
  refine Zhn 41 rfl (rfl) ?_
  first|refine Zhg (Zdz rfl rfl) ?_|refine Zhg (Zd0 rfl rfl) ?_|refine Zhg (Za8 rfl rfl) ?_|refine Zhg (Za9 rfl rfl) ?_|refine Zhg (Za6 rfl rfl) ?_|refine Zhg (Za7 rfl rfl) ?_
  refine Zg3 ?_
  refine Ct.o ?_
  refine Zgf rfl ?_
  refine Ct.o ?_
  have hsp : spareL box = box ++ (spareL box).drop box.length := by
    conv => lhs; rw [← List.take_append_drop box.length (spareL box), spareL_take]
  have htail : ((spareL box).drop box.length).length = 80 := by rw [List.length_drop, spareL_len]; omega
  have ho := open_x (L := [cl gm ((spareL more).map u8b).toArray 5, cl gt ((spareL box).map u8b).toArray 5]) key nonce hk hn (bs_spare .here (by omega)) (bs_spare (.there .here) (by omega)) (by omega) (by omega)
  have hp := peek_x (L := [cl gm ((spareL more).map u8b).toArray 5, cl gt ((spareL box).map u8b).toArray 5]) key nonce hk hn (bs_spare .here (by omega)) (bs_spare (.there .here) (by omega)) (by omega) (by omega)
  have hol := openR_len key nonce more box
  have hll := lookR_len key nonce more box
  generalize openR key nonce more box = R at ho hol
  generalize lookR key nonce more box = R2 at hp hll
  obtain ⟨O, eo⟩ := R
  obtain ⟨K, km, ek⟩ := R2
  dsimp only at ho hp hol hll
  refine Ct.o ?_
  refine Zgb ?_
  first|refine Zhg (Zl8 rfl) ?_|refine Zhg (Zce rfl) ?_
  refine Zhq (n := 32) rfl qH qZ (c0) ?_
  first|refine Zhg (Zl8 rfl) ?_|refine Zhg (Zce rfl) ?_
  refine Zhq (n := 12) rfl qH qZ (c1) ?_
  first|refine Zhg (Zaw rfl) ?_|refine Zhg (Zar rfl) ?_
  first|refine Zhg (Zaw rfl) ?_|refine Zhg (Zar rfl) ?_
  refine Zh8 rfl (by kernel_rfl) (ho) rfl qT ?_
  rintro _ _ ⟨oa, oc, rfl, rfl⟩
  refine Zg2 qA ?_
  first|refine Zhg (Zmm rfl) ?_|refine Zhg (Zar rfl) ?_
  refine Zhg (Zco rfl rfl) ?_
  refine Zhg (Zco rfl rfl) ?_
  first|refine Zhg (Za2 rfl) ?_|refine Zhg (Zas rfl) ?_
  first|refine Zhg (Zaz rfl) ?_|refine Zhg (Zas rfl) ?_
  refine Zg3 ?_
  refine Ct.o ?_
  refine Zgb ?_
  first|refine Zhg (Zl8 rfl) ?_|refine Zhg (Zce rfl) ?_
  refine Zhq (n := 32) rfl qH qZ (c0) ?_
  first|refine Zhg (Zl8 rfl) ?_|refine Zhg (Zce rfl) ?_
  refine Zhq (n := 12) rfl qH qZ (c1) ?_
  first|refine Zhg (Zaw rfl) ?_|refine Zhg (Zar rfl) ?_
  first|refine Zhg (Zaw rfl) ?_|refine Zhg (Zar rfl) ?_
  refine Zh8 rfl (by kernel_rfl) (ho) rfl qT ?_
  rintro _ _ ⟨ua, uc, rfl, rfl⟩
  refine Zg2 qA ?_
  first|refine Zhg (Zmm rfl) ?_|refine Zhg (Zar rfl) ?_
  refine Zhg (Zco rfl rfl) ?_
  refine Zhg (Zco rfl rfl) ?_
  first|refine Zhg (Za2 rfl) ?_|refine Zhg (Zas rfl) ?_
  first|refine Zhg (Zaz rfl) ?_|refine Zhg (Zas rfl) ?_
  refine Zg3 ?_
  refine Ct.o ?_
  refine Zgb ?_
  first|refine Zhg (Zl8 rfl) ?_|refine Zhg (Zce rfl) ?_
  refine Zhq (n := 32) rfl qH qZ (c0) ?_
  first|refine Zhg (Zl8 rfl) ?_|refine Zhg (Zce rfl) ?_
  refine Zhq (n := 12) rfl qH qZ (c1) ?_
  first|refine Zhg (Zaw rfl) ?_|refine Zhg (Zar rfl) ?_
  first|refine Zhg (Zaw rfl) ?_|refine Zhg (Zar rfl) ?_
  refine Zh8 rfl (by kernel_rfl) (hp) rfl qT ?_
  rintro _ _ ⟨pa, pc, rfl, rfl⟩
  refine Zg2 qA ?_
  first|refine Zhg (Zmm rfl) ?_|refine Zhg (Zar rfl) ?_
  refine Zhg (Zco rfl rfl) ?_
  refine Zhg (Zco rfl rfl) ?_
  refine Zhg (Zco rfl rfl) ?_
  first|refine Zhg (Za2 rfl) ?_|refine Zhg (Zas rfl) ?_
  first|refine Zhg (Zaz rfl) ?_|refine Zhg (Zas rfl) ?_
  first|refine Zhg (Zaz rfl) ?_|refine Zhg (Zas rfl) ?_
  refine Zg3 ?_
  refine Ct.o ?_
  refine Zgb ?_
  first|refine Zhg (Zl8 rfl) ?_|refine Zhg (Zce rfl) ?_
  refine Zhq (n := 32) rfl qH qZ (c0) ?_
  first|refine Zhg (Zl8 rfl) ?_|refine Zhg (Zce rfl) ?_
  refine Zhq (n := 12) rfl qH qZ (c1) ?_
  first|refine Zhg (Zaw rfl) ?_|refine Zhg (Zar rfl) ?_
  first|refine Zhg (Zaw rfl) ?_|refine Zhg (Zar rfl) ?_
  refine Zh8 rfl (by kernel_rfl) (hp) rfl qT ?_
  rintro _ _ ⟨qa, qc, rfl, rfl⟩
  refine Zg2 qA ?_
  first|refine Zhg (Zmm rfl) ?_|refine Zhg (Zar rfl) ?_
  refine Zhg (Zco rfl rfl) ?_
  refine Zhg (Zco rfl rfl) ?_
  refine Zhg (Zco rfl rfl) ?_
  first|refine Zhg (Za2 rfl) ?_|refine Zhg (Zas rfl) ?_
  first|refine Zhg (Zaz rfl) ?_|refine Zhg (Zas rfl) ?_
  first|refine Zhg (Zaz rfl) ?_|refine Zhg (Zas rfl) ?_
  refine Zg3 ?_
  refine Ct.o ?_
  refine Zgb ?_
  first|refine Zhg (Zat rfl) ?_|refine Zhg (Zar rfl) ?_
  first|refine Zhg (Zat rfl) ?_|refine Zhg (Zar rfl) ?_
  first|refine Zhg (Zmk rfl rfl) ?_|refine Zhg (Zbs rfl rfl) ?_
  refine Zhn 87 rfl (decide_eq_false ((fun h => h rfl))) ?_
  first|refine Zhg (Zau rfl) ?_|refine Zhg (Zar rfl) ?_
  first|refine Zhi rfl ?_|refine Zhj rfl ?_|(refine Zhh rfl ?_; (first|refine Zhg (Zat rfl) ?_|refine Zhg (Zar rfl) ?_))
  first|refine Zhi rfl ?_|refine Zhj rfl ?_|(refine Zhh rfl ?_; (first|refine Zhg (Zat rfl) ?_|refine Zhg (Zar rfl) ?_))
  first|refine Zhi rfl ?_|refine Zhj rfl ?_|(refine Zhh rfl ?_; (first|refine Zhg (Zmk rfl rfl) ?_|refine Zhg (Zbs rfl rfl) ?_))
  refine Zhn 91 rfl (decide_eq_false ((fun h => h rfl))) ?_
  first|refine Zhg (Zdz rfl rfl) ?_|refine Zhg (Zd0 rfl rfl) ?_|refine Zhg (Za8 rfl rfl) ?_|refine Zhg (Za9 rfl rfl) ?_|refine Zhg (Za6 rfl rfl) ?_|refine Zhg (Za7 rfl rfl) ?_
  first|refine Zhg (Zau rfl) ?_|refine Zhg (Zar rfl) ?_
  first|refine Zhi rfl ?_|refine Zhj rfl ?_|(refine Zhh rfl ?_; (first|refine Zhg (Zaw rfl) ?_|refine Zhg (Zar rfl) ?_))
  first|refine Zhi rfl ?_|refine Zhj rfl ?_|(refine Zhh rfl ?_; (first|refine Zhg (Zaw rfl) ?_|refine Zhg (Zar rfl) ?_))
  first|refine Zhi rfl ?_|refine Zhj rfl ?_|(refine Zhh rfl ?_; (refine Zh8 rfl (by kernel_rfl) (eqBytes_x (L := [own 5 1 (.slice oa O.length oc) O.length (O.map u8b), own 5 1 (.slice ua O.length uc) O.length (O.map u8b)]) (a := O) (b := O) (Bs.own .here) (Bs.own (.there .here))) rfl qT ?_); (rintro _ _ ⟨rfl, rfl⟩); (refine Zg2 qA ?_))
  refine Zhm 96 rfl (decide_eq_true (rfl)) ?_
  first|refine Zhi rfl ?_|refine Zhj rfl ?_|(refine Zhh rfl ?_; (first|refine Zhg (Zb1 rfl) ?_|refine Zhg (Zb0 rfl) ?_))
  refine Zhn 97 rfl (rfl) ?_
  first|refine Zhg (Zdz rfl rfl) ?_|refine Zhg (Zd0 rfl rfl) ?_|refine Zhg (Za8 rfl rfl) ?_|refine Zhg (Za9 rfl rfl) ?_|refine Zhg (Za6 rfl rfl) ?_|refine Zhg (Za7 rfl rfl) ?_
  first|refine Zhg (Zau rfl) ?_|refine Zhg (Zar rfl) ?_
  first|refine Zhi rfl ?_|refine Zhj rfl ?_|(refine Zhh rfl ?_; (first|refine Zhg (Zaw rfl) ?_|refine Zhg (Zar rfl) ?_))
  first|refine Zhi rfl ?_|refine Zhj rfl ?_|(refine Zhh rfl ?_; (first|refine Zhg (Zaw rfl) ?_|refine Zhg (Zar rfl) ?_))
  first|refine Zhi rfl ?_|refine Zhj rfl ?_|(refine Zhh rfl ?_; (refine Zh8 rfl (by kernel_rfl) (eqBytes_x (L := [own 5 1 (.slice pa K.length pc) K.length (K.map u8b), own 5 1 (.slice qa K.length qc) K.length (K.map u8b)]) (a := K) (b := K) (Bs.own .here) (Bs.own (.there .here))) rfl qT ?_); (rintro _ _ ⟨rfl, rfl⟩); (refine Zg2 qA ?_))
  refine Zhm 102 rfl (decide_eq_true (rfl)) ?_
  first|refine Zhi rfl ?_|refine Zhj rfl ?_|(refine Zhh rfl ?_; (first|refine Zhg (Zb1 rfl) ?_|refine Zhg (Zb0 rfl) ?_))
  refine Zhn 103 rfl (rfl) ?_
  first|refine Zhg (Zdz rfl rfl) ?_|refine Zhg (Zd0 rfl rfl) ?_|refine Zhg (Za8 rfl rfl) ?_|refine Zhg (Za9 rfl rfl) ?_|refine Zhg (Za6 rfl rfl) ?_|refine Zhg (Za7 rfl rfl) ?_
  refine Zg3 ?_
  refine Ct.o ?_
  refine Zgf rfl ?_
  refine Ct.o ?_
  refine Zgb ?_
  first|refine Zhg (Zaw rfl) ?_|refine Zhg (Zar rfl) ?_
  refine Zh8 rfl (by kernel_rfl) (copyBytes_x (L := [own 5 1 (.slice oa O.length oc) O.length (O.map u8b)]) (Bs.own .here) (by omega)) rfl qT ?_
  rintro _ _ ⟨ra, rc, rfl, rfl⟩
  refine Zg2 qA ?_
  first|refine Zhg (Za2 rfl) ?_|refine Zhg (Zas rfl) ?_
  refine Zg3 ?_
  refine Ct.o ?_
  refine Zgb ?_
  first|refine Zhg (Zaw rfl) ?_|refine Zhg (Zar rfl) ?_
  refine Zh8 rfl (by kernel_rfl) (copyBytes_x (L := [own 5 1 (.slice pa K.length pc) K.length (K.map u8b)]) (Bs.own .here) (by omega)) rfl qT ?_
  rintro _ _ ⟨sa, sc, rfl, rfl⟩
  refine Zg2 qA ?_
  first|refine Zhg (Za2 rfl) ?_|refine Zhg (Zas rfl) ?_
  refine Zg3 ?_
  refine Ct.o ?_
  refine Zgb ?_
  first|refine Zhr rfl qH qZ ?_|refine Zhq rfl qH qZ rfl ?_
  refine Zhz (cs := #[u8b 0#8, u8b 0#8, u8b 0#8, u8b 0#8, u8b 0#8, u8b 0#8, u8b 0#8, u8b 0#8, u8b 0#8, u8b 0#8, u8b 0#8, u8b 0#8, u8b 0#8, u8b 0#8, u8b 0#8, u8b 0#8, u8b 0#8, u8b 0#8, u8b 0#8, u8b 0#8, u8b 0#8, u8b 0#8, u8b 0#8, u8b 0#8, u8b 0#8, u8b 0#8, u8b 0#8, u8b 0#8, u8b 0#8, u8b 0#8, u8b 0#8, u8b 0#8, u8b 0#8, u8b 0#8, u8b 0#8, u8b 0#8, u8b 0#8, u8b 0#8, u8b 0#8, u8b 0#8, u8b 0#8, u8b 0#8, u8b 0#8, u8b 0#8, .slice none 0 0, .slice none 0 0]) rfl ?_; intro b17
  first|refine Zhy rfl rfl qR qZ (by first|rfl|exact oneM_u8 _|exact oneL_u8 _|exact ccl_one _ _ _ _ _ _ _ _|(simp [oneC]; done)) qZ ?_|refine Zhx rfl rfl qR qZ (by first|rfl|exact oneM_u8 _|exact oneL_u8 _|exact ccl_one _ _ _ _ _ _ _ _|(simp [oneC]; done)) qZ rfl ?_
  refine Zg3 ?_
  refine Ct.o ?_
  refine Zgb ?_
  first|refine Zhg (Zl8 rfl) ?_|refine Zhg (Zce rfl) ?_
  refine Zhp rfl qH (c3) ?_
  refine Zh8 rfl (by kernel_rfl) (copyBytes_x (L := [old W]) hta (by omega)) rfl qT ?_
  rintro _ _ ⟨ca, cc, rfl, rfl⟩
  refine Zg2 qA ?_
  first|refine Zhg (Zl8 rfl) ?_|refine Zhg (Zce rfl) ?_
  refine Zhw rfl rfl qR qZ (ccl_set hk hn) ?_
  refine Zg3 ?_
  refine Ct.o ?_
  rw [hsp]
  generalize (spareL box).drop box.length = tl at htail
  have hlen2 := ccl_len (v2 := .slice ma more.length mc) (v3 := .slice ca box.length cc) hk hn
  have d3 := ccl_3 (v2 := .slice ma more.length mc) (v3 := .slice ca box.length cc) hk hn
  refine Ct.o ?_
  refine Zgb ?_
  first|refine Zhg (Zaw rfl) ?_|refine Zhg (Zar rfl) ?_
  first|refine Zhg (Zcr rfl) ?_|refine Zhg (Zct) ?_|refine Zhg (Zcu rfl) ?_
  first|refine Zhg (Zmh (b := 0) rfl rfl) ?_|refine Zhg (Zbp rfl rfl) ?_
  refine Zg3 ?_
  refine Ct.o ?_
  refine Zgn [(117, 130)] (by kernel_rfl) (fun T : List Byte => T.length = box.length) (fun T => [cl b17 ((ccl key nonce (.slice ma more.length mc) (.slice ca box.length cc)).toArray) 28, own 5 1 (.slice ca box.length cc) box.length (T.map u8b), cl gt ((T ++ tl).map u8b).toArray 5, cl gm ((spareL more).map u8b).toArray 5, own 5 1 (.slice sa K.length sc) K.length (K.map u8b), own 5 1 (.slice ra O.length rc) O.length (O.map u8b), own 5 1 (.slice qa K.length qc) K.length (K.map u8b), own 5 1 (.slice pa K.length pc) K.length (K.map u8b), own 5 1 (.slice ua O.length uc) O.length (O.map u8b), own 5 1 (.slice oa O.length oc) O.length (O.map u8b), old W]) (fun _ => []) ?_ ?_
  · refine Zgg rfl (fun hA => ?_) (fun hA => ?_)
    · have hA0 : 0 < box.length := by omega
      have hg : (((box ++ tl).map u8b).toArray)[0]? = some (u8b box[0]) := by
        rw [List.getElem?_toArray, List.getElem?_map, List.getElem?_append_left (by omega), List.getElem?_eq_getElem hA0]; rfl
      refine Zgt (fun F w H => own_some (a := ca) qH (by omega) H) ?_
      rintro ⟨g2, rfl⟩
      refine Ct.o ?_
      refine Zgb ?_
      first|refine Zhg (Zaw rfl) ?_|refine Zhg (Zar rfl) ?_
      first|refine Zhg (Zaw rfl) ?_|refine Zhg (Zar rfl) ?_
      first|refine Zhg (Zl4 (n := 0) rfl rfl) ?_|refine Zhg (Zl1 (n := 0) rfl rfl) ?_
      refine Zhp rfl qH (hg) ?_
      refine Zhg (Zje (y := 1#8) rfl rfl) ?_
      first|refine Zhg (Zl4 (n := 0) rfl rfl) ?_|refine Zhg (Zl1 (n := 0) rfl rfl) ?_
      refine Zht rfl rfl qR qZ (setL (f := u8b)) ?_
      refine Zg3 ?_
      refine Ct.o ?_
      rw [List.set_append_left _ _ hA0]
      refine Ct.o ?_
      refine Zij (_) [3, 4, 5, 6] (.q 0 (.q 2 (.r 1 (.r 3 (.r 4 (.r 5 (.r 6 (.q 7 (.e 8 false .nil))))))))) (by kernel_rfl) (by kernel_rfl) (Imp.refl _) ?_
      first|refine Zim rfl (Zl8 rfl) ?_|refine Zim rfl (Zce rfl) ?_
      first|refine Zim rfl (Zl8 rfl) ?_|refine Zim rfl (Zce rfl) ?_
      refine Ziv rfl rfl qH (d3) ?_
      refine Ziv rfl rfl qH (d3) ?_
      first|refine Ziz rfl (Zl4 (n := 0) rfl rfl) ?_|refine Ziz rfl (Zl1 (n := 0) rfl rfl) ?_
      refine Zfh rfl rfl (((Rd.own (n := box.length) qH).at0 hA0 (getM hA0))) ?_
      refine Ziz rfl (Zje (y := 1#8) rfl rfl) ?_
      first|refine Zim rfl (Zl4 (n := 0) rfl rfl) ?_|refine Zim rfl (Zl1 (n := 0) rfl rfl) ?_
      refine Ziq rfl ?_; refine Zm7 (u := u8b (box[0] ^^^ 1#8)) (i := 0) (xs := box.map u8b) (ys := (box.set 0 (box[0] ^^^ 1#8)).map u8b) rfl rfl rfl qR hA0 (by rw [List.map_set]) ?_; refine Zg3 ⟨(fun hh => Bool.noConfusion hh), ?_⟩
      refine Zik ?_
      refine Ct.o ?_
      exact Zgk (box.set 0 (box[0] ^^^ 1#8)) (by simp) qI trivial
    · refine Ct.o ?_
      exact Zgk box rfl qI trivial
  intro T u hT
  refine Ct.o ?_
  refine Zgb ?_
  first|refine Zhr rfl qH qZ ?_|refine Zhq rfl qH qZ rfl ?_
  first|refine Zhg (Zaw rfl) ?_|refine Zhg (Zar rfl) ?_
  first|refine Zhg (Zaw rfl) ?_|refine Zhg (Zar rfl) ?_
  refine Zh8 rfl (by kernel_rfl) (opened_x (L := [cl gm ((spareL more).map u8b).toArray 5, cl gt ((T ++ tl).map u8b).toArray 5, own 5 1 (.slice ca box.length cc) box.length (T.map u8b), old W]) key nonce hk hn (hma.imp (Imp.arr qV)) (bs_own (.there (.there .here)) hT) (bs_spare .here (by omega)) (bs_front (c := box.length + 80) (.there .here) hT (by omega) (by omega)) (by omega) (by omega)) rfl qT ?_
  rintro _ _ ⟨rfl, rfl⟩
  refine Zg2 qA ?_
  first|refine Zhg (Zb1 rfl) ?_|refine Zhg (Zb0 rfl) ?_
  refine Zhn 135 rfl (rfl) ?_
  first|refine Zhg (Zau rfl) ?_|refine Zhg (Zar rfl) ?_
  first|refine Zhi rfl ?_|refine Zhj rfl ?_|(refine Zhh rfl ?_; (first|refine Zhg (Zaw rfl) ?_|refine Zhg (Zar rfl) ?_))
  first|refine Zhi rfl ?_|refine Zhj rfl ?_|(refine Zhh rfl ?_; (first|refine Zhg (Zaw rfl) ?_|refine Zhg (Zar rfl) ?_))
  first|refine Zhi rfl ?_|refine Zhj rfl ?_|(refine Zhh rfl ?_; (refine Zh8 rfl (by kernel_rfl) (eqBytes_x (L := [own 5 1 (.slice oa O.length oc) O.length (O.map u8b), own 5 1 (.slice ra O.length rc) O.length (O.map u8b)]) (a := O) (b := O) (Bs.own .here) (Bs.own (.there .here))) rfl qT ?_); (rintro _ _ ⟨rfl, rfl⟩); (refine Zg2 qA ?_))
  refine Zhm 139 rfl (decide_eq_true (rfl)) ?_
  first|refine Zhi rfl ?_|refine Zhj rfl ?_|(refine Zhh rfl ?_; (first|refine Zhg (Zb1 rfl) ?_|refine Zhg (Zb0 rfl) ?_))
  refine Zhn 140 rfl (rfl) ?_
  first|refine Zhg (Zdz rfl rfl) ?_|refine Zhg (Zd0 rfl rfl) ?_|refine Zhg (Za8 rfl rfl) ?_|refine Zhg (Za9 rfl rfl) ?_|refine Zhg (Za6 rfl rfl) ?_|refine Zhg (Za7 rfl rfl) ?_
  first|refine Zhg (Zau rfl) ?_|refine Zhg (Zar rfl) ?_
  first|refine Zhi rfl ?_|refine Zhj rfl ?_|(refine Zhh rfl ?_; (first|refine Zhg (Zaw rfl) ?_|refine Zhg (Zar rfl) ?_))
  first|refine Zhi rfl ?_|refine Zhj rfl ?_|(refine Zhh rfl ?_; (first|refine Zhg (Zaw rfl) ?_|refine Zhg (Zar rfl) ?_))
  first|refine Zhi rfl ?_|refine Zhj rfl ?_|(refine Zhh rfl ?_; (refine Zh8 rfl (by kernel_rfl) (eqBytes_x (L := [own 5 1 (.slice ua O.length uc) O.length (O.map u8b), own 5 1 (.slice ra O.length rc) O.length (O.map u8b)]) (a := O) (b := O) (Bs.own .here) (Bs.own (.there .here))) rfl qT ?_); (rintro _ _ ⟨rfl, rfl⟩); (refine Zg2 qA ?_))
  refine Zhm 145 rfl (decide_eq_true (rfl)) ?_
  first|refine Zhi rfl ?_|refine Zhj rfl ?_|(refine Zhh rfl ?_; (first|refine Zhg (Zb1 rfl) ?_|refine Zhg (Zb0 rfl) ?_))
  refine Zhn 146 rfl (rfl) ?_
  first|refine Zhg (Zdz rfl rfl) ?_|refine Zhg (Zd0 rfl rfl) ?_|refine Zhg (Za8 rfl rfl) ?_|refine Zhg (Za9 rfl rfl) ?_|refine Zhg (Za6 rfl rfl) ?_|refine Zhg (Za7 rfl rfl) ?_
  first|refine Zhg (Zau rfl) ?_|refine Zhg (Zar rfl) ?_
  first|refine Zhi rfl ?_|refine Zhj rfl ?_|(refine Zhh rfl ?_; (first|refine Zhg (Zaw rfl) ?_|refine Zhg (Zar rfl) ?_))
  first|refine Zhi rfl ?_|refine Zhj rfl ?_|(refine Zhh rfl ?_; (first|refine Zhg (Zaw rfl) ?_|refine Zhg (Zar rfl) ?_))
  first|refine Zhi rfl ?_|refine Zhj rfl ?_|(refine Zhh rfl ?_; (refine Zh8 rfl (by kernel_rfl) (eqBytes_x (L := [own 5 1 (.slice pa K.length pc) K.length (K.map u8b), own 5 1 (.slice sa K.length sc) K.length (K.map u8b)]) (a := K) (b := K) (Bs.own .here) (Bs.own (.there .here))) rfl qT ?_); (rintro _ _ ⟨rfl, rfl⟩); (refine Zg2 qA ?_))
  refine Zhm 151 rfl (decide_eq_true (rfl)) ?_
  first|refine Zhi rfl ?_|refine Zhj rfl ?_|(refine Zhh rfl ?_; (first|refine Zhg (Zb1 rfl) ?_|refine Zhg (Zb0 rfl) ?_))
  refine Zhn 152 rfl (rfl) ?_
  first|refine Zhg (Zdz rfl rfl) ?_|refine Zhg (Zd0 rfl rfl) ?_|refine Zhg (Za8 rfl rfl) ?_|refine Zhg (Za9 rfl rfl) ?_|refine Zhg (Za6 rfl rfl) ?_|refine Zhg (Za7 rfl rfl) ?_
  first|refine Zhg (Zau rfl) ?_|refine Zhg (Zar rfl) ?_
  first|refine Zhi rfl ?_|refine Zhj rfl ?_|(refine Zhh rfl ?_; (first|refine Zhg (Zaw rfl) ?_|refine Zhg (Zar rfl) ?_))
  first|refine Zhi rfl ?_|refine Zhj rfl ?_|(refine Zhh rfl ?_; (first|refine Zhg (Zaw rfl) ?_|refine Zhg (Zar rfl) ?_))
  first|refine Zhi rfl ?_|refine Zhj rfl ?_|(refine Zhh rfl ?_; (refine Zh8 rfl (by kernel_rfl) (eqBytes_x (L := [own 5 1 (.slice qa K.length qc) K.length (K.map u8b), own 5 1 (.slice sa K.length sc) K.length (K.map u8b)]) (a := K) (b := K) (Bs.own .here) (Bs.own (.there .here))) rfl qT ?_); (rintro _ _ ⟨rfl, rfl⟩); (refine Zg2 qA ?_))
  refine Zhm 157 rfl (decide_eq_true (rfl)) ?_
  first|refine Zhi rfl ?_|refine Zhj rfl ?_|(refine Zhh rfl ?_; (first|refine Zhg (Zb1 rfl) ?_|refine Zhg (Zb0 rfl) ?_))
  refine Zhn 158 rfl (rfl) ?_
  first|refine Zhg (Zdz rfl rfl) ?_|refine Zhg (Zd0 rfl rfl) ?_|refine Zhg (Za8 rfl rfl) ?_|refine Zhg (Za9 rfl rfl) ?_|refine Zhg (Za6 rfl rfl) ?_|refine Zhg (Za7 rfl rfl) ?_
  refine Zg3 ?_
  refine Ct.o ?_
  refine Zgf rfl ?_
  refine Ct.o ?_
  refine Zgp (Imp.arr (N := own 5 1 (.slice oa O.length oc) O.length (O.map u8b) :: own 5 1 (.slice ua O.length uc) O.length (O.map u8b) :: own 5 1 (.slice pa K.length pc) K.length (K.map u8b) :: own 5 1 (.slice qa K.length qc) K.length (K.map u8b) :: cl b17 ((ccl key nonce (.slice ma more.length mc) (.slice ca box.length cc)).toArray) 28 :: cl gt ((T ++ tl).map u8b).toArray 5 :: own 5 1 (.slice ca box.length cc) box.length (T.map u8b) :: [old W]) qV) ?_
  refine Zgp (Imp.cons (Imp.cons (Imp.cons (Imp.cons (star_nil (A := ownP)))))) ?_
  refine Zgp (Imp.cons (Imp.cons (Imp.cons (star_cons (A := ownP) (x := (qa, qc, K)))))) ?_
  refine Zgp (Imp.cons (Imp.cons (star_cons (A := ownP) (x := (pa, pc, K))))) ?_
  refine Zgp (Imp.cons (star_cons (A := ownP) (x := (ua, uc, O)))) ?_
  refine Zgp (star_cons (A := ownP) (x := (oa, oc, O))) ?_
  refine Ct.o ?_
  refine Zgb ?_
  first|refine Zhg (Zaw rfl) ?_|refine Zhg (Zar rfl) ?_
  first|refine Zhg (Zaw rfl) ?_|refine Zhg (Zar rfl) ?_
  first|refine Zhg (Zaw rfl) ?_|refine Zhg (Zar rfl) ?_
  first|refine Zhg (Zaw rfl) ?_|refine Zhg (Zar rfl) ?_
  refine Zh7 (cs := #[.slice _ _ _, .slice _ _ _, .slice _ _ _, .slice _ _ _]) (by omega) (by omega) rfl ?_; intro b164
  refine Zh8 rfl (by kernel_rfl) (apart_x (N := 4) (L := [cl b164 #[.slice oa O.length oc, .slice ua O.length uc, .slice pa K.length pc, .slice qa K.length qc] 26]) [(oa, oc, O), (ua, uc, O), (pa, pc, K), (qa, qc, K)] rfl (by omega) (by intro p hp; simp only [List.mem_cons, List.not_mem_nil, or_false] at hp; rcases hp with rfl|rfl|rfl|rfl <;> (dsimp only; omega)) (Rd.cl (o := 0) .here rfl (by simp) rfl)) rfl qT ?_
  rintro _ _ ⟨rfl, rfl⟩
  refine Zg2 qA ?_
  refine Zhm 165 rfl (rfl) ?_
  first|refine Zhg (Zau rfl) ?_|refine Zhg (Zar rfl) ?_
  first|refine Zhi rfl ?_|refine Zhj rfl ?_|(refine Zhh rfl ?_; (first|refine Zhg (Zaw rfl) ?_|refine Zhg (Zar rfl) ?_))
  first|refine Zhi rfl ?_|refine Zhj rfl ?_|(refine Zhh rfl ?_; (first|refine Zhg (Zl8 rfl) ?_|refine Zhg (Zce rfl) ?_))
  first|refine Zhi rfl ?_|refine Zhj rfl ?_|(refine Zhh rfl ?_; (refine Zhp rfl qH (d3) ?_))
  first|refine Zhi rfl ?_|refine Zhj rfl ?_|(refine Zhh rfl ?_; (refine Zh8 rfl (by kernel_rfl) (eqBytes_x (L := [cl gt ((T ++ tl).map u8b).toArray 5, own 5 1 (.slice ca box.length cc) box.length (T.map u8b)]) (a := T) (b := T) (bs_front (c := box.length + 80) .here hT (by omega) (by omega)) (bs_own (.there .here) hT)) rfl qT ?_); (rintro _ _ ⟨rfl, rfl⟩); (refine Zg2 qA ?_))
  refine Zhm 170 rfl (decide_eq_true (rfl)) ?_
  first|refine Zhg (Zdz rfl rfl) ?_|refine Zhg (Zd0 rfl rfl) ?_|refine Zhg (Za8 rfl rfl) ?_|refine Zhg (Za9 rfl rfl) ?_|refine Zhg (Za6 rfl rfl) ?_|refine Zhg (Za7 rfl rfl) ?_
  refine Zhm 171 rfl (rfl) ?_
  first|refine Zhg (Zau rfl) ?_|refine Zhg (Zar rfl) ?_
  first|refine Zhi rfl ?_|refine Zhj rfl ?_|(refine Zhh rfl ?_; (refine Zh8 rfl (by kernel_rfl) (works_x) rfl qT ?_); (rintro _ _ ⟨rfl, rfl⟩); (refine Zg2 qA ?_))
  first|refine Zhg (Zdz rfl rfl) ?_|refine Zhg (Zd0 rfl rfl) ?_|refine Zhg (Za8 rfl rfl) ?_|refine Zhg (Za9 rfl rfl) ?_|refine Zhg (Za6 rfl rfl) ?_|refine Zhg (Za7 rfl rfl) ?_
  first|refine Zhg (Za0 rfl) ?_|refine Zhg (Zas rfl) ?_
  refine Zg3 ?_
  refine Ct.o ?_
  refine rx1 (Zha rfl (Zg7)) ?_
  exact ⟨_, ⟨rfl, rfl⟩, qI⟩
end Go.Sl
