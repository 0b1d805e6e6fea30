/- Parts of the proof, joined: RefE, RefO, TagU, TagV, EngL, OpenOp, TagX, EngJ, TagY. -/
import Derived.Test.YtiebmodokjaokabLawTagPlaysM0
import Derived.Test.YtiebmodokjaokabLawTagPlaysM1
import Derived.Test.YtiebmodokjaokabLawTagPlaysM2
import Derived.Test.YtiebmodokjaokabLawTagPlaysM3
import Derived.OpenShut
import Derived.LaidEql
/- the statements' small helpers: lists of lists with marked room behind them. -/
set_option maxHeartbeats 4000000
set_option maxRecDepth 10000
set_option linter.unusedVariables false
set_option linter.unusedSimpArgs false
namespace Go.Sl
open Go Go.Proofs
attribute [local irreducible] cl pt own old pur ex all den denOps denS xOps xC cX CX xthen xblk xcut xloop retX resX Calls PV Rd Con
abbrev nilS : Value := .slice none 0 0
def rowB (rows : List (List Byte)) (j : Nat) : List Byte := if j < rows.length then spareL (rows.getD j []) else [BitVec.ofInt 8 (j : Int), 119#8]
def rowV (rows : List (List Byte)) (x : Nat × Nat) : Value := if x.2 < rows.length then .slice (some ⟨x.1, 0, none⟩) (rows.getD x.2 []).length ((rows.getD x.2 []).length + 80) else .slice (some ⟨x.1, 0, none⟩) 2 2
abbrev blkA (rows : List (List Byte)) (x : Nat × Nat) : Asrt := cl x.1 ((rowB rows x.2).map u8b).toArray 5
/-- What SpareRows makes: the outer block g, and the blocks gs. -/
def sparesA (rows : List (List Byte)) (g : Nat) (gs : List Nat) : List Asrt := [cl g ((gs.zipIdx).map (rowV rows)).toArray 31, star (blkA rows) gs.zipIdx]
theorem zip_snoc (gs : List Nat) (g : Nat) : (gs ++ [g]).zipIdx = gs.zipIdx ++ [(g, gs.length)] := by
  rw [List.zipIdx_append]; simp
theorem slots_set (vs : List Value) (n : Nat) (v : Value) : ((vs ++ List.replicate (n + 1) nilS).toArray).setIfInBounds vs.length v = ((vs ++ [v]) ++ List.replicate n nilS).toArray := by
  apply Array.ext'
  simp [List.replicate_succ, List.set_append_right]
theorem spareRows_x {L : List Asrt} {v : Value} {ps : List (Value × List Byte)} (h : Rs L v ps) (hl : ps.length ≤ 2097152) (hel : ∀ x ∈ ps, x.2.length ≤ 140737488355328) :
    Con Try.prog 12 [v] L (fun r M => ∃ g gs, gs.length = ps.length + 3 ∧ r = .slice (some ⟨g, 0, none⟩) ps.length (ps.length + 3) ∧ M = sparesA (ps.map (·.2)) g gs ++ L) := by
  refine Con.get (fun w0 w F H => h.sh _ _ _ H) ?_
  rintro ⟨aa, ac, rfl, hac, hacm⟩
  obtain ⟨rows, hrows⟩ : ∃ rows : List (List Byte), rows = ps.map (·.2) := ⟨_, rfl⟩
  have hrl : rows.length = ps.length := by rw [hrows]; simp
  rw [← hrows]
  refine fn_x Try.func12 rfl rfl rfl Try.mixed (by kernel_rfl) ?_
  intro w0
  repeat (first|refine zA ?_|refine zB ?_|refine zC ?_|refine zD ?_|refine zE ?_|refine zF ?_|refine zG ?_|refine zH ?_|refine zI ?_|refine zJ ?_|refine zK ?_|refine zL ?_|refine zM rfl ?_|refine zN ?_|refine zO ?_|refine zP ?_|refine zQ ?_)
  refine Zgb ?_
  first|refine Zhg (Za2 rfl) ?_|refine Zhg (Zas rfl) ?_
  refine Zg3 ?_
  repeat (first|refine zA ?_|refine zB ?_|refine zC ?_|refine zD ?_|refine zE ?_|refine zF ?_|refine zG ?_|refine zH ?_|refine zI ?_|refine zJ ?_|refine zK ?_|refine zL ?_|refine zM rfl ?_|refine zN ?_|refine zO ?_|refine zP ?_|refine zQ ?_)
  refine Zgb ?_
  first|refine Zhg (Zaw rfl) ?_|refine Zhg (Zar rfl) ?_
  first|refine Zhg (Zcr rfl) ?_|refine Zhg (Zct) ?_|refine Zhg (Zcu rfl) ?_
  first|refine Zhg (Zma (b := 3) rfl rfl) ?_|refine Zhg (Zbg rfl rfl) ?_
  refine Zm3 (f := fun x : Value => x) (a := nilS) rfl rfl rfl (by first|omega|exact Nat.le_of_ble_eq_true rfl|(simp; done)|(simp; omega)|decide) (by first|omega|exact Nat.le_of_ble_eq_true rfl|(simp; done)|(simp; omega)|decide) (by first|omega|exact Nat.le_of_ble_eq_true rfl|(simp; done)|(simp; omega)|decide) ?_; intro b8
  first|refine Zhg (Za2 rfl) ?_|refine Zhg (Zas rfl) ?_
  refine Zg3 ?_
  repeat (first|refine zA ?_|refine zB ?_|refine zC ?_|refine zD ?_|refine zE ?_|refine zF ?_|refine zG ?_|refine zH ?_|refine zI ?_|refine zJ ?_|refine zK ?_|refine zL ?_|refine zM rfl ?_|refine zN ?_|refine zO ?_|refine zP ?_|refine zQ ?_)
  refine Zgb ?_
  first|refine Zhg (Zaz rfl) ?_|refine Zhg (Zas rfl) ?_
  refine Zg3 ?_
  repeat (first|refine zA ?_|refine zB ?_|refine zC ?_|refine zD ?_|refine zE ?_|refine zF ?_|refine zG ?_|refine zH ?_|refine zI ?_|refine zJ ?_|refine zK ?_|refine zL ?_|refine zM rfl ?_|refine zN ?_|refine zO ?_|refine zP ?_|refine zQ ?_)
  refine Zgo [(4, 4), (9, 32)] (by kernel_rfl) (fun s : Nat × List Nat => s.1 ≤ ps.length + 3 ∧ s.2.length = s.1)
    (fun s => cl b8 ((s.2.zipIdx).map (rowV rows) ++ List.replicate (ps.length + 3 - s.1) nilS).toArray 31 :: star (blkA rows) s.2.zipIdx :: L)
    (fun s => [(4, .int .i64 (s.1 : Int))]) (fun s => ps.length + 3 - s.1) (0, []) ⟨by omega, rfl⟩ ?_ ⟨rfl, trivial⟩ ?_
  · refine Imp.trans (Imp.arr (N := cl b8 ((List.replicate (ps.length + 3) nilS).map fun x => x).toArray 31 :: L) (by repeat (first|exact Arr.nil|exact Arr.stop|refine Arr.cons (by repeat constructor) ?_|refine Arr.skip ?_))) ?_
    rw [List.map_id']
    exact Imp.cons star_nil
  rintro ⟨i, gs⟩ u ⟨hi, hgl⟩
  dsimp only at hi hgl ⊢
  have hvl : ((gs.zipIdx).map (rowV rows)).length = i := by simp [hgl]
  repeat (first|refine zA ?_|refine zB ?_|refine zC ?_|refine zD ?_|refine zE ?_|refine zF ?_|refine zG ?_|refine zH ?_|refine zI ?_|refine zJ ?_|refine zK ?_|refine zL ?_|refine zM rfl ?_|refine zN ?_|refine zO ?_|refine zP ?_|refine zQ ?_)
  refine Zgb ?_
  first|refine Zhg (Zat rfl) ?_|refine Zhg (Zar rfl) ?_
  first|refine Zhg (Zaw rfl) ?_|refine Zhg (Zar rfl) ?_
  first|refine Zhg (Zcr rfl) ?_|refine Zhg (Zct) ?_|refine Zhg (Zcu rfl) ?_
  first|refine Zhg (Zmf rfl rfl) ?_|refine Zhg (Zbn rfl rfl) ?_
  refine Zg3 ?_
  repeat (first|refine zA ?_|refine zB ?_|refine zC ?_|refine zD ?_|refine zE ?_|refine zF ?_|refine zG ?_|refine zH ?_|refine zI ?_|refine zJ ?_|refine zK ?_|refine zL ?_|refine zM rfl ?_|refine zN ?_|refine zO ?_|refine zP ?_|refine zQ ?_)
  refine Zgg rfl (fun hB => ?_) (fun hB => ?_)
  · have hrep : ps.length + 3 - i = (ps.length + 3 - (i + 1)) + 1 := by omega
    rw [hrep]
    have hset : ∀ u : Value, ((((gs.zipIdx).map (rowV rows)) ++ List.replicate ((ps.length + 3 - (i + 1)) + 1) nilS).toArray).setIfInBounds i u = ((((gs.zipIdx).map (rowV rows)) ++ [u]) ++ List.replicate (ps.length + 3 - (i + 1)) nilS).toArray := fun u => by
      have := slots_set ((gs.zipIdx).map (rowV rows)) (ps.length + 3 - (i + 1)) u
      rwa [hvl] at this
    have hsz : ((((gs.zipIdx).map (rowV rows)) ++ List.replicate ((ps.length + 3 - (i + 1)) + 1) nilS).toArray).size = ps.length + 3 := by
      rw [List.size_toArray, List.length_append, hvl, List.length_replicate]; omega
    repeat (first|refine zA ?_|refine zB ?_|refine zC ?_|refine zD ?_|refine zE ?_|refine zF ?_|refine zG ?_|refine zH ?_|refine zI ?_|refine zJ ?_|refine zK ?_|refine zL ?_|refine zM rfl ?_|refine zN ?_|refine zO ?_|refine zP ?_|refine zQ ?_)
    refine Zgb ?_
    first|refine Zhg (Zat rfl) ?_|refine Zhg (Zar rfl) ?_
    first|refine Zhg (Zaw rfl) ?_|refine Zhg (Zar rfl) ?_
    first|refine Zhg (Zcr rfl) ?_|refine Zhg (Zct) ?_|refine Zhg (Zcu rfl) ?_
    first|refine Zhg (Zmf rfl rfl) ?_|refine Zhg (Zbn rfl rfl) ?_
    refine Zg3 ?_
    repeat (first|refine zA ?_|refine zB ?_|refine zC ?_|refine zD ?_|refine zE ?_|refine zF ?_|refine zG ?_|refine zH ?_|refine zI ?_|refine zJ ?_|refine zK ?_|refine zL ?_|refine zM rfl ?_|refine zN ?_|refine zO ?_|refine zP ?_|refine zQ ?_)
    refine Zgg rfl (fun hC => ?_) (fun hC => ?_)
    · have hbs := h.el _ (List.getElem_mem hC)
      have hln := hel _ (List.getElem_mem hC)
      refine Zgt (fun F w H => (h.rd.imp (by exact Imp.arr (by repeat (first|exact Arr.nil|exact Arr.stop|refine Arr.cons (by repeat constructor) ?_|refine Arr.skip ?_)))).someAt (by omega) H) ?_
      rintro ⟨a1, a2, rfl⟩
      refine Zgt (fun F w H => (hbs.imp (by exact Imp.arr (by repeat (first|exact Arr.nil|exact Arr.stop|refine Arr.cons (by repeat constructor) ?_|refine Arr.skip ?_)))).sh _ _ _ H) ?_
      rintro ⟨ea, ec, hev, hecl, hecm⟩
      have hgd : rows.getD i [] = ps[i].2 := by rw [hrows]; simp [hC]
      generalize hrow : ps[i].2 = row at hbs hev hecl hln hgd
      have hgi : (ps.map (·.1))[i]? = some (.slice ea row.length ec) := by simp [hC, hev]
      rw [hev] at hbs
      repeat (first|refine zA ?_|refine zB ?_|refine zC ?_|refine zD ?_|refine zE ?_|refine zF ?_|refine zG ?_|refine zH ?_|refine zI ?_|refine zJ ?_|refine zK ?_|refine zL ?_|refine zM rfl ?_|refine zN ?_|refine zO ?_|refine zP ?_|refine zQ ?_)
      refine Zgb ?_
      first|refine Zhg (Zaw rfl) ?_|refine Zhg (Zar rfl) ?_
      first|refine Zhg (Zat rfl) ?_|refine Zhg (Zar rfl) ?_
      first|refine Zhg (Zaw rfl) ?_|refine Zhg (Zar rfl) ?_
      first|refine Zhg (Zat rfl) ?_|refine Zhg (Zar rfl) ?_
      first|refine Zhg (Zl4 rfl rfl) ?_|refine Zhg (Zl1 rfl rfl) ?_
      refine Zic (j := i) rfl (h.rd.imp (by exact Imp.arr (by repeat (first|exact Arr.nil|exact Arr.stop|refine Arr.cons (by repeat constructor) ?_|refine Arr.skip ?_)))) hC hgi ?_
      refine Zh8 rfl (by kernel_rfl) (spare_x (L := L) hbs hln) rfl (by repeat (first|exact Take.nil|exact Take.all|(apply Take.cons; (next => (repeat constructor); done))|apply Take.skip)) ?_
      rintro _ _ ⟨g, rfl, rfl⟩
      refine Zg2 (by repeat (first|exact App.nil|apply App.cons|(apply App.flip; first|exact App.nil|apply App.cons)|exact App.any)) ?_
      first|refine Zhg (Zl4 rfl rfl) ?_|refine Zhg (Zl1 rfl rfl) ?_
      refine Zhw rfl rfl (by repeat constructor) (by first|rfl|omega|(rw [szL]; omega)|exact Nat.le_of_ble_eq_true rfl|(simp; done)|(simp; omega)) (hset _) ?_
      refine Zg3 ?_
      repeat (first|refine zA ?_|refine zB ?_|refine zC ?_|refine zD ?_|refine zE ?_|refine zF ?_|refine zG ?_|refine zH ?_|refine zI ?_|refine zJ ?_|refine zK ?_|refine zL ?_|refine zM rfl ?_|refine zN ?_|refine zO ?_|refine zP ?_|refine zQ ?_)
      refine Zgb ?_
      first|refine Zhg (Zat rfl) ?_|refine Zhg (Zar rfl) ?_
      first|refine Zhg (Zma (b := 1) rfl rfl) ?_|refine Zhg (Zbg rfl rfl) ?_
      first|refine Zhg (Zaz rfl) ?_|refine Zhg (Zas rfl) ?_
      refine Zg3 ?_
      repeat (first|refine zA ?_|refine zB ?_|refine zC ?_|refine zD ?_|refine zE ?_|refine zF ?_|refine zG ?_|refine zH ?_|refine zI ?_|refine zJ ?_|refine zK ?_|refine zL ?_|refine zM rfl ?_|refine zN ?_|refine zO ?_|refine zP ?_|refine zQ ?_)
      have e1 : rowV rows (g, i) = .slice (some ⟨g, 0, none⟩) row.length (row.length + 80) := by unfold rowV; rw [if_pos (by omega), hgd]
      have e2 : rowB rows i = spareL row := by unfold rowB; rw [if_pos (by omega), hgd]
      refine Zgl (i + 1, gs ++ [g]) (by first|omega|(dsimp only; omega)|(simp only []; omega)) ⟨by dsimp only; omega, by simp [hgl]⟩ ?_ ⟨rfl, trivial⟩
      dsimp only
      rw [zip_snoc, hgl, List.map_append, List.map_cons, List.map_nil, e1]
      refine Imp.trans (Imp.arr (N := cl b8 ((((gs.zipIdx).map (rowV rows)) ++ [Value.slice (some ⟨g, 0, none⟩) row.length (row.length + 80)]) ++ List.replicate (ps.length + 3 - (i + 1)) nilS).toArray 31 :: cl g ((spareL row).map u8b).toArray 5 :: star (blkA rows) gs.zipIdx :: L) (by repeat (first|exact Arr.nil|exact Arr.stop|refine Arr.cons (by repeat constructor) ?_|refine Arr.skip ?_))) (Imp.cons ?_)
      have := star_snoc (A := blkA rows) (x := (g, i)) (l := gs.zipIdx) (M := L)
      rwa [show blkA rows (g, i) = cl g ((spareL row).map u8b).toArray 5 by show cl g ((rowB rows i).map u8b).toArray _ = _; rw [e2]] at this
    · repeat (first|refine zA ?_|refine zB ?_|refine zC ?_|refine zD ?_|refine zE ?_|refine zF ?_|refine zG ?_|refine zH ?_|refine zI ?_|refine zJ ?_|refine zK ?_|refine zL ?_|refine zM rfl ?_|refine zN ?_|refine zO ?_|refine zP ?_|refine zQ ?_)
      refine Zgb ?_
      first|refine Zhg (Zaw rfl) ?_|refine Zhg (Zar rfl) ?_
      first|refine Zhg (Zat rfl) ?_|refine Zhg (Zar rfl) ?_
      first|refine Zhg (Zat rfl) ?_|refine Zhg (Zar rfl) ?_
      refine Zhg (Zjs rfl) ?_
      refine Zh7 (cs := #[.int .u8 _, u8b 119#8]) (by omega) (by omega) rfl ?_; intro b31
      first|refine Zhg (Zl4 rfl rfl) ?_|refine Zhg (Zl1 rfl rfl) ?_
      refine Zhw rfl rfl (by repeat constructor) (by first|rfl|omega|(rw [szL]; omega)|exact Nat.le_of_ble_eq_true rfl|(simp; done)|(simp; omega)) (hset _) ?_
      refine Zg3 ?_
      repeat (first|refine zA ?_|refine zB ?_|refine zC ?_|refine zD ?_|refine zE ?_|refine zF ?_|refine zG ?_|refine zH ?_|refine zI ?_|refine zJ ?_|refine zK ?_|refine zL ?_|refine zM rfl ?_|refine zN ?_|refine zO ?_|refine zP ?_|refine zQ ?_)
      refine Zgb ?_
      first|refine Zhg (Zat rfl) ?_|refine Zhg (Zar rfl) ?_
      first|refine Zhg (Zma (b := 1) rfl rfl) ?_|refine Zhg (Zbg rfl rfl) ?_
      first|refine Zhg (Zaz rfl) ?_|refine Zhg (Zas rfl) ?_
      refine Zg3 ?_
      repeat (first|refine zA ?_|refine zB ?_|refine zC ?_|refine zD ?_|refine zE ?_|refine zF ?_|refine zG ?_|refine zH ?_|refine zI ?_|refine zJ ?_|refine zK ?_|refine zL ?_|refine zM rfl ?_|refine zN ?_|refine zO ?_|refine zP ?_|refine zQ ?_)
      have e1 : rowV rows (b31, i) = .slice (some ⟨b31, 0, none⟩) 2 2 := by unfold rowV; rw [if_neg (by omega)]
      have e2 : rowB rows i = [BitVec.ofInt 8 (i : Int), 119#8] := by unfold rowB; rw [if_neg (by omega)]
      refine Zgl (i + 1, gs ++ [b31]) (by first|omega|(dsimp only; omega)|(simp only []; omega)) ⟨by dsimp only; omega, by simp [hgl]⟩ ?_ ⟨rfl, trivial⟩
      dsimp only
      rw [zip_snoc, hgl, List.map_append, List.map_cons, List.map_nil, e1]
      refine Imp.trans (Imp.arr (N := cl b8 ((((gs.zipIdx).map (rowV rows)) ++ [Value.slice (some ⟨b31, 0, none⟩) 2 2]) ++ List.replicate (ps.length + 3 - (i + 1)) nilS).toArray 31 :: cl b31 (([BitVec.ofInt 8 (i : Int), 119#8]).map u8b).toArray 5 :: star (blkA rows) gs.zipIdx :: L) (by repeat (first|exact Arr.nil|exact Arr.stop|refine Arr.cons (by repeat constructor) ?_|refine Arr.skip ?_))) (Imp.cons ?_)
      have := star_snoc (A := blkA rows) (x := (b31, i)) (l := gs.zipIdx) (M := L)
      rwa [show blkA rows (b31, i) = cl b31 (([BitVec.ofInt 8 (i : Int), 119#8]).map u8b).toArray 5 by show cl b31 ((rowB rows i).map u8b).toArray _ = _; rw [e2]] at this
  · have hie : i = ps.length + 3 := by omega
    subst hie
    rw [Nat.sub_self, List.replicate_zero, List.append_nil]
    repeat (first|refine zA ?_|refine zB ?_|refine zC ?_|refine zD ?_|refine zE ?_|refine zF ?_|refine zG ?_|refine zH ?_|refine zI ?_|refine zJ ?_|refine zK ?_|refine zL ?_|refine zM rfl ?_|refine zN ?_|refine zO ?_|refine zP ?_|refine zQ ?_)
    refine Zgb ?_
    first|refine Zhg (Zaw rfl) ?_|refine Zhg (Zar rfl) ?_
    first|refine Zhg (Zaw rfl) ?_|refine Zhg (Zar rfl) ?_
    first|refine Zhg (Zcr rfl) ?_|refine Zhg (Zct) ?_|refine Zhg (Zcu rfl) ?_
    refine Zhg (Zm0 rfl rfl) ?_
    first|refine Zhg (Za2 rfl) ?_|refine Zhg (Zas rfl) ?_
    refine Zg3 ?_
    repeat (first|refine zA ?_|refine zB ?_|refine zC ?_|refine zD ?_|refine zE ?_|refine zF ?_|refine zG ?_|refine zH ?_|refine zI ?_|refine zJ ?_|refine zK ?_|refine zL ?_|refine zM rfl ?_|refine zN ?_|refine zO ?_|refine zP ?_|refine zQ ?_)
    refine rx1 (Zhc rfl (Zg7)) ?_
    exact ⟨_, ⟨b8, gs, hgl, rfl, rfl⟩, by unfold sparesA; exact Imp.arr (by repeat (first|exact Arr.nil|exact Arr.stop|refine Arr.cons (by repeat constructor) ?_|refine Arr.skip ?_))⟩
theorem keptRows_x {L : List Asrt} {g : Nat} {gs : List Nat} {vw : Value} {ps : List (Value × List Byte)} (rows : List (List Byte)) (hrows : ps.map (·.2) = rows) (hgl : gs.length = ps.length + 3) (hw : Rs L vw ps) (hl : ps.length ≤ 2097152) (hel : ∀ x ∈ ps, x.2.length ≤ 140737488355328)
    (hg : Rd L 1 (.slice (some ⟨g, 0, none⟩) (ps.length + 3) (ps.length + 3)) (ps.length + 3) ((gs.zipIdx).map (rowV rows))) (hb : ∀ x ∈ gs.zipIdx, ∃ R, Imp L (blkA rows x :: R)) :
    Con Try.prog 16 [.slice (some ⟨g, 0, none⟩) ps.length (ps.length + 3), vw] L (fun r M => r = .bool true ∧ L = M) := by
  refine Con.get (fun w0 w F H => hw.sh _ _ _ H) ?_
  rintro ⟨ba, bc, rfl, hbc, hbcm⟩
  have hrl : rows.length = ps.length := by rw [← hrows]; simp
  have hmem : ∀ j (h : j < gs.length), (gs[j], j) ∈ gs.zipIdx := fun j h => by
    rw [List.mem_iff_getElem]
    exact ⟨j, by simpa using h, by simp⟩
  have hgv : ∀ j (h : j < gs.length), ((gs.zipIdx).map (rowV rows))[j]? = some (rowV rows (gs[j], j)) := fun j h => by simp [h]
  have hg1 : Rd L 1 (.slice (some ⟨g, 0, none⟩) ps.length (ps.length + 3)) ps.length (((gs.zipIdx).map (rowV rows)).take ps.length) := by
    unfold Rd at hg ⊢
    intro w0 F w H
    obtain ⟨h1, h2⟩ := hg w0 F w H
    refine ⟨by simp; omega, ?_⟩
    rcases h2 with ⟨a, k, _, h0⟩|⟨b', o', k, cc, E, fr, hv, hb', hle, hx⟩
    · omega
    · simp only [Value.slice.injEq, Option.some.injEq, Addr.mk.injEq] at hv
      obtain ⟨⟨rfl, rfl, _⟩, _, rfl⟩ := hv
      refine .inr ⟨g, 0, _, cc, E, fr, rfl, hb', by omega, ?_⟩
      rw [← hx]
      simp only [Array.toList_extract, List.extract_eq_take_drop, List.take_take]
      congr 1; omega
  refine fn_x Try.func16 rfl rfl rfl Try.mixed (by kernel_rfl) ?_
  intro w0
  repeat (first|refine zA ?_|refine zB ?_|refine zC ?_|refine zD ?_|refine zE ?_|refine zF ?_|refine zG ?_|refine zH ?_|refine zI ?_|refine zJ ?_|refine zK ?_|refine zL ?_|refine zM rfl ?_|refine zN ?_|refine zO ?_|refine zP ?_|refine zQ ?_)
  refine Zgb ?_
  first|refine Zhg (Za0 rfl) ?_|refine Zhg (Zas rfl) ?_
  refine Zg3 ?_
  repeat (first|refine zA ?_|refine zB ?_|refine zC ?_|refine zD ?_|refine zE ?_|refine zF ?_|refine zG ?_|refine zH ?_|refine zI ?_|refine zJ ?_|refine zK ?_|refine zL ?_|refine zM rfl ?_|refine zN ?_|refine zO ?_|refine zP ?_|refine zQ ?_)
  refine Zgb ?_
  first|refine Zhg (Zaw rfl) ?_|refine Zhg (Zar rfl) ?_
  first|refine Zhg (Zcr rfl) ?_|refine Zhg (Zct) ?_|refine Zhg (Zcu rfl) ?_
  first|refine Zhg (Zaw rfl) ?_|refine Zhg (Zar rfl) ?_
  first|refine Zhg (Zcr rfl) ?_|refine Zhg (Zct) ?_|refine Zhg (Zcu rfl) ?_
  first|refine Zhg (Zmk rfl rfl) ?_|refine Zhg (Zbs rfl rfl) ?_
  refine Zg3 ?_
  repeat (first|refine zA ?_|refine zB ?_|refine zC ?_|refine zD ?_|refine zE ?_|refine zF ?_|refine zG ?_|refine zH ?_|refine zI ?_|refine zJ ?_|refine zK ?_|refine zL ?_|refine zM rfl ?_|refine zN ?_|refine zO ?_|refine zP ?_|refine zQ ?_)
  refine Zgf (by show Value.bool _ = _; simp) ?_
  repeat (first|refine zA ?_|refine zB ?_|refine zC ?_|refine zD ?_|refine zE ?_|refine zF ?_|refine zG ?_|refine zH ?_|refine zI ?_|refine zJ ?_|refine zK ?_|refine zL ?_|refine zM rfl ?_|refine zN ?_|refine zO ?_|refine zP ?_|refine zQ ?_)
  refine Zgb ?_
  first|refine Zhg (Zaz rfl) ?_|refine Zhg (Zas rfl) ?_
  refine Zg3 ?_
  repeat (first|refine zA ?_|refine zB ?_|refine zC ?_|refine zD ?_|refine zE ?_|refine zF ?_|refine zG ?_|refine zH ?_|refine zI ?_|refine zJ ?_|refine zK ?_|refine zL ?_|refine zM rfl ?_|refine zN ?_|refine zO ?_|refine zP ?_|refine zQ ?_)
  refine Zgo [(4, 5), (13, 28)] (by kernel_rfl) (fun i : Nat => i ≤ ps.length) (fun _ => L) (fun i => [(5, .int .i64 (i : Int))]) (fun i => ps.length - i) 0 (by omega) (Imp.refl _) ⟨rfl, trivial⟩ ?_
  intro i u hi
  repeat (first|refine zA ?_|refine zB ?_|refine zC ?_|refine zD ?_|refine zE ?_|refine zF ?_|refine zG ?_|refine zH ?_|refine zI ?_|refine zJ ?_|refine zK ?_|refine zL ?_|refine zM rfl ?_|refine zN ?_|refine zO ?_|refine zP ?_|refine zQ ?_)
  refine Zgb ?_
  first|refine Zhg (Zat rfl) ?_|refine Zhg (Zar rfl) ?_
  first|refine Zhg (Zaw rfl) ?_|refine Zhg (Zar rfl) ?_
  first|refine Zhg (Zcr rfl) ?_|refine Zhg (Zct) ?_|refine Zhg (Zcu rfl) ?_
  first|refine Zhg (Zmf rfl rfl) ?_|refine Zhg (Zbn rfl rfl) ?_
  refine Zg3 ?_
  repeat (first|refine zA ?_|refine zB ?_|refine zC ?_|refine zD ?_|refine zE ?_|refine zF ?_|refine zG ?_|refine zH ?_|refine zI ?_|refine zJ ?_|refine zK ?_|refine zL ?_|refine zM rfl ?_|refine zN ?_|refine zO ?_|refine zP ?_|refine zQ ?_)
  refine Zgg rfl (fun hB => ?_) (fun hB => ?_)
  · have hbs := hw.el _ (List.getElem_mem hB)
    have hln := hel _ (List.getElem_mem hB)
    refine Zgt (fun F w H => hw.rd.someAt (by omega) H) ?_
    rintro ⟨a1, a2, rfl⟩
    refine Zgt (fun F w H => hbs.sh _ _ _ H) ?_
    rintro ⟨ea, ec, hev, hecl, hecm⟩
    have hgd : rows.getD i [] = ps[i].2 := by rw [← hrows]; simp [hB]
    generalize hrow : ps[i].2 = row at hbs hev hecl hln hgd
    have hgi : (ps.map (·.1))[i]? = some (.slice ea row.length ec) := by simp [hB, hev]
    rw [hev] at hbs
    obtain ⟨R, hR⟩ := hb _ (hmem i (by omega))
    have e1 : rowV rows (gs[i], i) = .slice (some ⟨gs[i], 0, none⟩) row.length (row.length + 80) := by unfold rowV; rw [if_pos (by omega), hgd]
    have e2 : rowB rows i = spareL row := by unfold rowB; rw [if_pos (by omega), hgd]
    have e3 : blkA rows (gs[i], i) = cl gs[i] ((spareL row).map u8b).toArray 5 := by show cl gs[i] ((rowB rows i).map u8b).toArray _ = _; rw [e2]
    rw [e3] at hR
    have hv1 : (((gs.zipIdx).map (rowV rows)).take ps.length)[i]? = some (.slice (some ⟨gs[i], 0, none⟩) row.length (row.length + 80)) := by
      rw [List.getElem?_take_of_lt hB, hgv i (by omega), e1]
    repeat (first|refine zA ?_|refine zB ?_|refine zC ?_|refine zD ?_|refine zE ?_|refine zF ?_|refine zG ?_|refine zH ?_|refine zI ?_|refine zJ ?_|refine zK ?_|refine zL ?_|refine zM rfl ?_|refine zN ?_|refine zO ?_|refine zP ?_|refine zQ ?_)
    refine Zij (_) [0, 1, 2, 3, 4, 5, 6, 7] (.r 0 (.r 1 (.r 2 (.r 3 (.r 4 (.r 5 (.r 6 (.r 7 (.e 8 false (.q 9 .nil)))))))))) (by kernel_rfl) (by kernel_rfl) (Imp.refl _) ?_
    first|refine Ziz rfl (Zaw rfl) ?_|refine Ziz rfl (Zar rfl) ?_
    first|refine Ziz rfl (Zat rfl) ?_|refine Ziz rfl (Zar rfl) ?_
    first|refine Ziz rfl (Zl4 rfl rfl) ?_|refine Ziz rfl (Zl1 rfl rfl) ?_
    refine Zi8 (b := g) (o := 0) (j := i) rfl (by rw [Nat.zero_add]; rfl) hg1 hB hv1 ?_
    first|refine Ziz rfl (Zaw rfl) ?_|refine Ziz rfl (Zar rfl) ?_
    first|refine Ziz rfl (Zat rfl) ?_|refine Ziz rfl (Zar rfl) ?_
    first|refine Ziz rfl (Zl4 rfl rfl) ?_|refine Ziz rfl (Zl1 rfl rfl) ?_
    refine Zi8 (j := i) rfl rfl hw.rd hB hgi ?_
    refine Ziq rfl ?_
    refine Zh8 rfl (by kernel_rfl) (kept_r (L := L) ((rd_spare .here).imp hR) ((bs_spare .here hln).imp hR) hbs hln) rfl (by repeat (first|exact Take.nil|exact Take.all|(apply Take.cons; (next => (repeat constructor); done))|apply Take.skip)) ?_
    rintro _ _ ⟨rfl, rfl⟩
    refine Zg2 (by repeat (first|exact App.nil|apply App.cons|(apply App.flip; first|exact App.nil|apply App.cons)|exact App.any)) ?_
    refine Zg3 ⟨(fun hh => Bool.noConfusion hh), ?_⟩
    first|refine Zim rfl (Zb1 rfl) ?_|refine Zim rfl (Zb0 rfl) ?_
    refine Zi6 28 rfl (by simp) ?_
    refine Zik ?_
    repeat (first|refine zA ?_|refine zB ?_|refine zC ?_|refine zD ?_|refine zE ?_|refine zF ?_|refine zG ?_|refine zH ?_|refine zI ?_|refine zJ ?_|refine zK ?_|refine zL ?_|refine zM rfl ?_|refine zN ?_|refine zO ?_|refine zP ?_|refine zQ ?_)
    refine Zgf rfl ?_
    repeat (first|refine zA ?_|refine zB ?_|refine zC ?_|refine zD ?_|refine zE ?_|refine zF ?_|refine zG ?_|refine zH ?_|refine zI ?_|refine zJ ?_|refine zK ?_|refine zL ?_|refine zM rfl ?_|refine zN ?_|refine zO ?_|refine zP ?_|refine zQ ?_)
    refine Zgb ?_
    first|refine Zhg (Zat rfl) ?_|refine Zhg (Zar rfl) ?_
    first|refine Zhg (Zma (b := 1) rfl rfl) ?_|refine Zhg (Zbg rfl rfl) ?_
    first|refine Zhg (Zaz rfl) ?_|refine Zhg (Zas rfl) ?_
    refine Zg3 ?_
    repeat (first|refine zA ?_|refine zB ?_|refine zC ?_|refine zD ?_|refine zE ?_|refine zF ?_|refine zG ?_|refine zH ?_|refine zI ?_|refine zJ ?_|refine zK ?_|refine zL ?_|refine zM rfl ?_|refine zN ?_|refine zO ?_|refine zP ?_|refine zQ ?_)
    exact Zgl (i + 1) (by first|omega|(dsimp only; omega)|(simp only []; omega)) (by first|omega|(dsimp only; omega)|(simp only []; omega)) (by exact Imp.arr (by repeat (first|exact Arr.nil|exact Arr.stop|refine Arr.cons (by repeat constructor) ?_|refine Arr.skip ?_))) ⟨rfl, trivial⟩
  · repeat (first|refine zA ?_|refine zB ?_|refine zC ?_|refine zD ?_|refine zE ?_|refine zF ?_|refine zG ?_|refine zH ?_|refine zI ?_|refine zJ ?_|refine zK ?_|refine zL ?_|refine zM rfl ?_|refine zN ?_|refine zO ?_|refine zP ?_|refine zQ ?_)
    refine Zgb ?_
    first|refine Zhg (Zaw rfl) ?_|refine Zhg (Zar rfl) ?_
    first|refine Zhg (Zaw rfl) ?_|refine Zhg (Zar rfl) ?_
    first|refine Zhg (Zcr rfl) ?_|refine Zhg (Zct) ?_|refine Zhg (Zcu rfl) ?_
    first|refine Zhg (Zma (b := 3) rfl rfl) ?_|refine Zhg (Zbg rfl rfl) ?_
    refine Zhg (Zm0 (h := ps.length + 3) rfl rfl (by omega)) ?_
    first|refine Zhg (Za2 rfl) ?_|refine Zhg (Zas rfl) ?_
    refine Zg3 ?_
    repeat (first|refine zA ?_|refine zB ?_|refine zC ?_|refine zD ?_|refine zE ?_|refine zF ?_|refine zG ?_|refine zH ?_|refine zI ?_|refine zJ ?_|refine zK ?_|refine zL ?_|refine zM rfl ?_|refine zN ?_|refine zO ?_|refine zP ?_|refine zQ ?_)
    refine Zgb ?_
    first|refine Zhg (Zaw rfl) ?_|refine Zhg (Zar rfl) ?_
    first|refine Zhg (Zcr rfl) ?_|refine Zhg (Zct) ?_|refine Zhg (Zcu rfl) ?_
    first|refine Zhg (Zaz rfl) ?_|refine Zhg (Zas rfl) ?_
    refine Zg3 ?_
    repeat (first|refine zA ?_|refine zB ?_|refine zC ?_|refine zD ?_|refine zE ?_|refine zF ?_|refine zG ?_|refine zH ?_|refine zI ?_|refine zJ ?_|refine zK ?_|refine zL ?_|refine zM rfl ?_|refine zN ?_|refine zO ?_|refine zP ?_|refine zQ ?_)
    refine Zgo [(4, 4), (7, 7), (36, 67)] (by kernel_rfl) (fun i : Nat => ps.length ≤ i ∧ i ≤ ps.length + 3) (fun _ => L) (fun i => [(7, .int .i64 (i : Int))]) (fun i => ps.length + 3 - i) ps.length (by omega) (Imp.refl _) ⟨rfl, trivial⟩ ?_
    rintro j u2 ⟨hj0, hj⟩
    repeat (first|refine zA ?_|refine zB ?_|refine zC ?_|refine zD ?_|refine zE ?_|refine zF ?_|refine zG ?_|refine zH ?_|refine zI ?_|refine zJ ?_|refine zK ?_|refine zL ?_|refine zM rfl ?_|refine zN ?_|refine zO ?_|refine zP ?_|refine zQ ?_)
    refine Zgb ?_
    first|refine Zhg (Zat rfl) ?_|refine Zhg (Zar rfl) ?_
    first|refine Zhg (Zaw rfl) ?_|refine Zhg (Zar rfl) ?_
    first|refine Zhg (Zcr rfl) ?_|refine Zhg (Zct) ?_|refine Zhg (Zcu rfl) ?_
    first|refine Zhg (Zmf rfl rfl) ?_|refine Zhg (Zbn rfl rfl) ?_
    refine Zg3 ?_
    repeat (first|refine zA ?_|refine zB ?_|refine zC ?_|refine zD ?_|refine zE ?_|refine zF ?_|refine zG ?_|refine zH ?_|refine zI ?_|refine zJ ?_|refine zK ?_|refine zL ?_|refine zM rfl ?_|refine zN ?_|refine zO ?_|refine zP ?_|refine zQ ?_)
    refine Zgg rfl (fun hC => ?_) (fun hC => ?_)
    · obtain ⟨R, hR⟩ := hb _ (hmem j (by omega))
      have e1 : rowV rows (gs[j], j) = .slice (some ⟨gs[j], 0, none⟩) 2 2 := by unfold rowV; rw [if_neg (by omega)]
      have e2 : rowB rows j = [BitVec.ofInt 8 (j : Int), 119#8] := by unfold rowB; rw [if_neg (by omega)]
      have e3 : blkA rows (gs[j], j) = cl gs[j] (([BitVec.ofInt 8 (j : Int), 119#8]).map u8b).toArray 5 := by show cl gs[j] ((rowB rows j).map u8b).toArray _ = _; rw [e2]
      rw [e3] at hR
      have hv1 : ((gs.zipIdx).map (rowV rows))[j]? = some (.slice (some ⟨gs[j], 0, none⟩) 2 2) := by rw [hgv j (by omega), e1]
      have hm2 : Rd L 1 (.slice (some ⟨gs[j], 0, none⟩) 2 2) 2 [u8b (BitVec.ofInt 8 (j : Int)), u8b 119#8] := (Rd.cl (o := 0) (xs := [u8b (BitVec.ofInt 8 (j : Int)), u8b 119#8]) (c := ([u8b (BitVec.ofInt 8 (j : Int)), u8b 119#8]).toArray) (E := 5) .here rfl (by first|rfl|omega|(rw [szL]; omega)|exact Nat.le_of_ble_eq_true rfl|(simp; done)|(simp; omega)) rfl).imp hR
      repeat (first|refine zA ?_|refine zB ?_|refine zC ?_|refine zD ?_|refine zE ?_|refine zF ?_|refine zG ?_|refine zH ?_|refine zI ?_|refine zJ ?_|refine zK ?_|refine zL ?_|refine zM rfl ?_|refine zN ?_|refine zO ?_|refine zP ?_|refine zQ ?_)
      refine Zgb ?_
      first|refine Zhg (Zaw rfl) ?_|refine Zhg (Zar rfl) ?_
      first|refine Zhg (Zat rfl) ?_|refine Zhg (Zar rfl) ?_
      first|refine Zhg (Zl4 rfl rfl) ?_|refine Zhg (Zl1 rfl rfl) ?_
      refine Zm6 (j := j) rfl hg hC hv1 ?_
      first|refine Zhg (Zcr rfl) ?_|refine Zhg (Zct) ?_|refine Zhg (Zcu rfl) ?_
      first|refine Zhg (Zmk (b := 2) rfl rfl) ?_|refine Zhg (Zbs rfl rfl) ?_
      refine Zhn 47 rfl (decide_eq_false (fun h => h rfl)) ?_
      first|refine Zhg (Zau rfl) ?_|refine Zhg (Zar rfl) ?_
      first|refine Zhi rfl ?_|refine Zhj rfl ?_|(refine Zhh rfl ?_; (first|refine Zhg (Zaw rfl) ?_|refine Zhg (Zar rfl) ?_))
      first|refine Zhi rfl ?_|refine Zhj rfl ?_|(refine Zhh rfl ?_; (first|refine Zhg (Zat rfl) ?_|refine Zhg (Zar rfl) ?_))
      first|refine Zhi rfl ?_|refine Zhj rfl ?_|(refine Zhh rfl ?_; (first|refine Zhg (Zl4 rfl rfl) ?_|refine Zhg (Zl1 rfl rfl) ?_))
      refine Zhh rfl ?_; refine Zm6 (j := j) rfl hg hC hv1 ?_
      first|refine Zhi rfl ?_|refine Zhj rfl ?_|(refine Zhh rfl ?_; (first|refine Zhg (Zl4 (n := 0) rfl rfl) ?_|refine Zhg (Zl1 (n := 0) rfl rfl) ?_))
      refine Zhh rfl ?_; refine Zm6 (j := 0) rfl hm2 (by omega) rfl ?_
      first|refine Zhi rfl ?_|refine Zhj rfl ?_|(refine Zhh rfl ?_; (first|refine Zhg (Zat rfl) ?_|refine Zhg (Zar rfl) ?_))
      first|refine Zhi rfl ?_|refine Zhj rfl ?_|(refine Zhh rfl ?_; (refine Zhg (Zjs rfl) ?_))
      first|refine Zhi rfl ?_|refine Zhj rfl ?_|(refine Zhh rfl ?_; (refine Zhg (Zjl rfl rfl) ?_))
      refine Zhn 57 rfl (decide_eq_false (fun h => h rfl)) ?_
      first|refine Zhg (Zdz rfl rfl) ?_|refine Zhg (Zd0 rfl rfl) ?_|refine Zhg (Za8 rfl rfl) ?_|refine Zhg (Za9 rfl rfl) ?_|refine Zhg (Za6 rfl rfl) ?_|refine Zhg (Za7 rfl rfl) ?_
      first|refine Zhg (Zau rfl) ?_|refine Zhg (Zar rfl) ?_
      first|refine Zhi rfl ?_|refine Zhj rfl ?_|(refine Zhh rfl ?_; (first|refine Zhg (Zaw rfl) ?_|refine Zhg (Zar rfl) ?_))
      first|refine Zhi rfl ?_|refine Zhj rfl ?_|(refine Zhh rfl ?_; (first|refine Zhg (Zat rfl) ?_|refine Zhg (Zar rfl) ?_))
      first|refine Zhi rfl ?_|refine Zhj rfl ?_|(refine Zhh rfl ?_; (first|refine Zhg (Zl4 rfl rfl) ?_|refine Zhg (Zl1 rfl rfl) ?_))
      refine Zhh rfl ?_; refine Zm6 (j := j) rfl hg hC hv1 ?_
      first|refine Zhi rfl ?_|refine Zhj rfl ?_|(refine Zhh rfl ?_; (first|refine Zhg (Zl4 (n := 1) rfl rfl) ?_|refine Zhg (Zl1 (n := 1) rfl rfl) ?_))
      refine Zhh rfl ?_; refine Zm6 (j := 1) rfl hm2 (by omega) rfl ?_
      first|refine Zhi rfl ?_|refine Zhj rfl ?_|(refine Zhh rfl ?_; (refine Zhg (Zjl (y := 119#8) rfl rfl) ?_))
      refine Zhn 66 rfl (decide_eq_false (fun h => h rfl)) ?_
      first|refine Zhg (Zdz rfl rfl) ?_|refine Zhg (Zd0 rfl rfl) ?_|refine Zhg (Za8 rfl rfl) ?_|refine Zhg (Za9 rfl rfl) ?_|refine Zhg (Za6 rfl rfl) ?_|refine Zhg (Za7 rfl rfl) ?_
      refine Zg3 ?_
      repeat (first|refine zA ?_|refine zB ?_|refine zC ?_|refine zD ?_|refine zE ?_|refine zF ?_|refine zG ?_|refine zH ?_|refine zI ?_|refine zJ ?_|refine zK ?_|refine zL ?_|refine zM rfl ?_|refine zN ?_|refine zO ?_|refine zP ?_|refine zQ ?_)
      refine Zgf rfl ?_
      repeat (first|refine zA ?_|refine zB ?_|refine zC ?_|refine zD ?_|refine zE ?_|refine zF ?_|refine zG ?_|refine zH ?_|refine zI ?_|refine zJ ?_|refine zK ?_|refine zL ?_|refine zM rfl ?_|refine zN ?_|refine zO ?_|refine zP ?_|refine zQ ?_)
      refine Zgb ?_
      first|refine Zhg (Zat rfl) ?_|refine Zhg (Zar rfl) ?_
      first|refine Zhg (Zma (b := 1) rfl rfl) ?_|refine Zhg (Zbg rfl rfl) ?_
      first|refine Zhg (Zaz rfl) ?_|refine Zhg (Zas rfl) ?_
      refine Zg3 ?_
      repeat (first|refine zA ?_|refine zB ?_|refine zC ?_|refine zD ?_|refine zE ?_|refine zF ?_|refine zG ?_|refine zH ?_|refine zI ?_|refine zJ ?_|refine zK ?_|refine zL ?_|refine zM rfl ?_|refine zN ?_|refine zO ?_|refine zP ?_|refine zQ ?_)
      exact Zgl (j + 1) (by first|omega|(dsimp only; omega)|(simp only []; omega)) ⟨by omega, by omega⟩ (by exact Imp.arr (by repeat (first|exact Arr.nil|exact Arr.stop|refine Arr.cons (by repeat constructor) ?_|refine Arr.skip ?_))) ⟨rfl, trivial⟩
    · repeat (first|refine zA ?_|refine zB ?_|refine zC ?_|refine zD ?_|refine zE ?_|refine zF ?_|refine zG ?_|refine zH ?_|refine zI ?_|refine zJ ?_|refine zK ?_|refine zL ?_|refine zM rfl ?_|refine zN ?_|refine zO ?_|refine zP ?_|refine zQ ?_)
      refine Zgb ?_
      first|refine Zhg (Za0 rfl) ?_|refine Zhg (Zas rfl) ?_
      refine Zg3 ?_
      repeat (first|refine zA ?_|refine zB ?_|refine zC ?_|refine zD ?_|refine zE ?_|refine zF ?_|refine zG ?_|refine zH ?_|refine zI ?_|refine zJ ?_|refine zK ?_|refine zL ?_|refine zM rfl ?_|refine zN ?_|refine zO ?_|refine zP ?_|refine zQ ?_)
      refine rx1 (Zha rfl (Zg7)) ?_
      exact ⟨_, ⟨rfl, rfl⟩, by exact Imp.arr (by repeat (first|exact Arr.nil|exact Arr.stop|refine Arr.cons (by repeat constructor) ?_|refine Arr.skip ?_))⟩
end Go.Sl

/- lists of lists with marked room behind them: as slices that are read, and kept. -/
set_option maxHeartbeats 4000000
set_option maxRecDepth 10000
set_option linter.unusedVariables false
set_option linter.unusedSimpArgs false
namespace Go.Sl
open Go Go.Proofs
attribute [local irreducible] cl pt own old pur ex all den denOps denS xOps xC cX CX xthen xblk xcut xloop retX resX Calls PV Rd Con
def spQ (rows : List (List Byte)) (gs : List Nat) : List (Value × List Byte) := (gs.zipIdx.take rows.length).map fun x => (rowV rows x, rows.getD x.2 [])
theorem spQ_len {rows : List (List Byte)} {gs : List Nat} (h : gs.length = rows.length + 3) : (spQ rows gs).length = rows.length := by simp [spQ]; omega
theorem spQ_get {rows : List (List Byte)} {gs : List Nat} (h : gs.length = rows.length + 3) (i : Nat) (hi : i < rows.length) : (spQ rows gs)[i]'(by rw [spQ_len h]; exact hi) = (rowV rows (gs[i]'(by omega), i), rows[i]) := by
  have hg : i < gs.length := by omega
  simp only [spQ, List.getElem_map, List.getElem_take, List.getElem_zipIdx, Nat.zero_add]
  rw [List.getD_eq_getElem?_getD, List.getElem?_eq_getElem hi]; rfl
theorem spQ_rows {rows : List (List Byte)} {gs : List Nat} (h : gs.length = rows.length + 3) : (spQ rows gs).map (·.2) = rows := by
  apply List.ext_getElem (by simp [spQ_len h])
  intro i h1 h2
  rw [List.getElem_map, spQ_get h i h2]
theorem spQ_join {rows : List (List Byte)} {gs : List Nat} (h : gs.length = rows.length + 3) : joinB (spQ rows gs) = rows.flatten := by unfold joinB; rw [spQ_rows h]
theorem join_rows (ps : List (Value × List Byte)) : joinB ps = (ps.map (·.2)).flatten := rfl
theorem rs_spares {M M1 M2 : List Asrt} {g : Nat} {rows : List (List Byte)} {gs : List Nat} (hm : Has M (cl g ((gs.zipIdx).map (rowV rows)).toArray 31) M1) (hs : Has M (star (blkA rows) gs.zipIdx) M2)
    (hgl : gs.length = rows.length + 3) (hel : ∀ r ∈ rows, r.length ≤ 140737488355328) (hl : rows.length ≤ 2097152) : Rs M (.slice (some ⟨g, 0, none⟩) rows.length (rows.length + 3)) (spQ rows gs) := by
  have hq := spQ_len hgl
  have hzl : (gs.zipIdx).length = rows.length + 3 := by simp [hgl]
  have h := Rs.cl (M := M) (o := 0) (c := rows.length + 3) (ps := spQ rows gs) hm (by simp [hq, hzl]) (by
      simp only [Array.toList_extract, List.extract_eq_take_drop, Nat.zero_add, Nat.sub_zero, List.drop_zero]
      rw [hq, ← List.map_take]; simp only [spQ, List.map_map]; rfl) (by omega) (by omega) ?_
  · rwa [hq] at h
  · intro x hx
    obtain ⟨i, hi, rfl⟩ := List.getElem_of_mem hx
    have hi2 : i < rows.length := by rwa [hq] at hi
    have hgi : i < gs.length := by omega
    have hmem : (gs[i], i) ∈ gs.zipIdx := by
      rw [List.mem_iff_getElem]; exact ⟨i, by simpa using hgi, by simp⟩
    obtain ⟨R, hR⟩ := star_has (A := blkA rows) hmem hs
    rw [spQ_get hgl i hi2]
    have e1 : rowV rows (gs[i], i) = .slice (some ⟨gs[i], 0, none⟩) rows[i].length (rows[i].length + 80) := by
      unfold rowV; rw [if_pos hi2, List.getD_eq_getElem?_getD, List.getElem?_eq_getElem hi2]; rfl
    have e2 : rowB rows i = spareL rows[i] := by unfold rowB; rw [if_pos hi2, List.getD_eq_getElem?_getD, List.getElem?_eq_getElem hi2]; rfl
    have e3 : blkA rows (gs[i], i) = cl gs[i] ((spareL rows[i]).map u8b).toArray 5 := by show cl gs[i] ((rowB rows i).map u8b).toArray _ = _; rw [e2]
    rw [e3] at hR
    rw [e1]
    exact (bs_spare .here (hel _ (List.getElem_mem hi2))).imp hR
theorem spareRows_y {L : List Asrt} {v : Value} {ps : List (Value × List Byte)} (rows : List (List Byte)) (hrows : ps.map (·.2) = rows) (h : Rs L v ps) (hl : ps.length ≤ 2097152) (hel : ∀ x ∈ ps, x.2.length ≤ 140737488355328) :
    Con Try.prog 12 [v] L (fun r M => ∃ (g : Nat) (gs : List Nat), gs.length = rows.length + 3 ∧ r = .slice (some ⟨g, 0, none⟩) rows.length (rows.length + 3) ∧ M = cl g ((gs.zipIdx).map (rowV rows)).toArray 31 :: star (blkA rows) gs.zipIdx :: L) := by
  have hrl : ps.length = rows.length := by rw [← hrows]; simp
  refine (spareRows_x h hl hel).mono ?_
  rintro v M ⟨g, gs, h1, rfl, rfl⟩
  exact ⟨_, Imp.refl _, g, gs, by omega, by rw [hrl], by rw [hrows]; rfl⟩
theorem kept_spares {L L1 L2 : List Asrt} {g : Nat} {gs : List Nat} {vw : Value} {ps : List (Value × List Byte)} (rows : List (List Byte)) (hrows : ps.map (·.2) = rows) (hgl : gs.length = rows.length + 3) (hw : Rs L vw ps) (hl : ps.length ≤ 2097152) (hel : ∀ x ∈ ps, x.2.length ≤ 140737488355328)
    (hm : Has L (cl g ((gs.zipIdx).map (rowV rows)).toArray 31) L1) (hs : Has L (star (blkA rows) gs.zipIdx) L2) :
    Con Try.prog 16 [.slice (some ⟨g, 0, none⟩) rows.length (rows.length + 3), vw] L (fun r M => r = .bool true ∧ L = M) := by
  have hrl : ps.length = rows.length := by rw [← hrows]; simp
  have hzl : (gs.zipIdx).length = rows.length + 3 := by simp [hgl]
  rw [← hrl]
  refine keptRows_x (gs := gs) rows hrows (by omega) hw hl hel ?_ ?_
  · refine Rd.cl (o := 0) hm (by simp [hgl, hrl]) (by simp [hgl, hrl]) ?_
    simp only [Array.toList_extract, List.extract_eq_take_drop, Nat.zero_add, Nat.sub_zero, List.drop_zero, Nat.mul_one]
    exact List.take_of_length_le (by rw [List.length_map, hzl]; omega)
  · intro x hx
    obtain ⟨i, hi, rfl⟩ := List.getElem_of_mem hx
    exact star_has (A := blkA rows) (List.getElem_mem hi) hs
end Go.Sl

/- trystlaw06: TagChecks, walked. -/
set_option maxHeartbeats 4000000
set_option maxRecDepth 10000
set_option linter.unusedVariables false
set_option linter.unusedSimpArgs false
namespace Go.Sl
open Go Go.Proofs
attribute [local irreducible] cl pt own old pur ex all den denOps denS xOps xC cX CX xthen xblk xcut xloop retX resX Calls PV Rd Con
attribute [local irreducible] pc writeS takeW full put1 setU setH code sumS spareL spQ
theorem turn_ne (w : List Byte) (i : Nat) (h : i < w.length) (o : Byte) : ¬ w = w.set i (w[i] ^^^ (o ||| 1#8)) := by
  intro e
  have e2 : w[i]? = (w.set i (w[i] ^^^ (o ||| 1#8)))[i]? := congrArg (fun l => l[i]?) e
  rw [List.getElem?_eq_getElem h, List.getElem?_set_self h, Option.some.injEq] at e2
  have h0 : o ||| 1#8 = 0#8 := by
    have : w[i] ^^^ w[i] = w[i] ^^^ (w[i] ^^^ (o ||| 1#8)) := congrArg (fun x => w[i] ^^^ x) e2
    rw [BitVec.xor_self, ← BitVec.xor_assoc, BitVec.xor_self, BitVec.zero_xor] at this
    exact this.symm
  have : (o ||| 1#8).getLsbD 0 = (0#8 : Byte).getLsbD 0 := by rw [h0]
  simp at this
theorem plus_ne (w : List Byte) (i j : Nat) (h : i < w.length) (hij : i ≠ j) (y : Byte) : ¬ w = (w.set i (w[i] + 1#8)).set j y := by
  intro e
  have e2 : w[i]? = ((w.set i (w[i] + 1#8)).set j y)[i]? := congrArg (fun l => l[i]?) e
  rw [List.getElem?_eq_getElem h, List.getElem?_set_ne (fun e => hij e.symm), List.getElem?_set_self h, Option.some.injEq] at e2
  have : w[i].toNat = (w[i] + 1#8).toNat := by rw [← e2]
  rw [BitVec.toNat_add] at this
  have := w[i].isLt
  simp at *
theorem neq_sym (a b : List Byte) : (decide (a = b) != decide (b = a)) = false := by
  by_cases e : a = b
  · simp [e]
  · simp [e, show ¬ b = a from fun h => e h.symm]
theorem checks_x (W : World) (key : List Byte) (hk : key.length = 32) (v : Value) (ps : List (Value × List Byte)) (hin : InR W v ps) (ot : List Byte) (ho : ot.length = 16) (hjb : (joinB ps).length + ps.length ≤ 2097152) :
    Con Try.prog 5 [.agg (key.map u8b).toArray, v, .agg (ot.map u8b).toArray] [old W] (fun r M => r = .bool true ∧ [old W] = M) := by
  obtain ⟨va, vc, rfl, hvl, hvc⟩ := hin.sh
  have hpl1 : ps.length ≤ 2097152 := by omega
  obtain ⟨J, hJ⟩ : ∃ J, J = joinB ps := ⟨_, rfl⟩
  have hcl := code_len key J
  have hcl0 := code_len key (joinB ps)
  have hel2 : ∀ x ∈ ps, x.2.length ≤ 140737488355328 := fun x hx => by have := (hin.el x hx).len; omega
  obtain ⟨rows, hrows⟩ : ∃ rows, ps.map (·.2) = rows := ⟨_, rfl⟩
  have hrl : rows.length = ps.length := by rw [← hrows]; simp
  have hrel : ∀ r ∈ rows, r.length ≤ 140737488355328 := fun r hr => by
    rw [← hrows] at hr; obtain ⟨x, hx, rfl⟩ := List.mem_map.1 hr; exact hel2 x hx
  refine fn_x Try.func5 rfl rfl rfl Try.mixed (by kernel_rfl) ?_
  intro w0
  repeat (first|refine zA ?_|refine zB ?_|refine zC ?_|refine zD ?_|refine zE ?_|refine zF ?_|refine zG ?_|refine zH ?_|refine zI ?_|refine zJ ?_|refine zK ?_|refine zL ?_|refine zM rfl ?_|refine zN ?_|refine zO ?_|refine zP ?_|refine zQ ?_)
  refine Zgb ?_
  refine Zh5 rfl ?_; intro b3
  refine Zh5 rfl ?_; intro b5
  first|refine Zhg (Za0 rfl) ?_|refine Zhg (Zas rfl) ?_
  refine Zg3 ?_
  repeat (first|refine zA ?_|refine zB ?_|refine zC ?_|refine zD ?_|refine zE ?_|refine zF ?_|refine zG ?_|refine zH ?_|refine zI ?_|refine zJ ?_|refine zK ?_|refine zL ?_|refine zM rfl ?_|refine zN ?_|refine zO ?_|refine zP ?_|refine zQ ?_)
  refine Zgb ?_
  first|refine Zhg (Zaw rfl) ?_|refine Zhg (Zar rfl) ?_
  refine Zh8 rfl (by kernel_rfl) (spareRows_y (L := [old W]) rows hrows (hin.rs .here) hpl1 hel2) rfl (by repeat (first|exact Take.nil|exact Take.all|(apply Take.cons; (next => (repeat constructor); done))|apply Take.skip)) ?_
  rintro _ _ ⟨g, gs, hgl, rfl, rfl⟩
  refine Zg2 (by repeat (first|exact App.nil|apply App.cons|(apply App.flip; first|exact App.nil|apply App.cons)|exact App.any)) ?_
  first|refine Zhg (Za2 rfl) ?_|refine Zhg (Zas rfl) ?_
  refine Zg3 ?_
  repeat (first|refine zA ?_|refine zB ?_|refine zC ?_|refine zD ?_|refine zE ?_|refine zF ?_|refine zG ?_|refine zH ?_|refine zI ?_|refine zJ ?_|refine zK ?_|refine zL ?_|refine zM rfl ?_|refine zN ?_|refine zO ?_|refine zP ?_|refine zQ ?_)
  have hqj : joinB (spQ rows gs) = J := by rw [spQ_join hgl, hJ, join_rows, hrows]
  have hql := spQ_len hgl
  repeat (first|refine zA ?_|refine zB ?_|refine zC ?_|refine zD ?_|refine zE ?_|refine zF ?_|refine zG ?_|refine zH ?_|refine zI ?_|refine zJ ?_|refine zK ?_|refine zL ?_|refine zM rfl ?_|refine zN ?_|refine zO ?_|refine zP ?_|refine zQ ?_)
  refine Zij (_) [0, 1, 2, 3, 4] (.r 0 (.r 1 (.e 2 true (.e 3 true (.a 4 (.e 5 false .nil)))))) (by kernel_rfl) (by kernel_rfl) (Imp.refl _) ?_
  first|refine Ziy rfl rfl (by repeat constructor) (by first|rfl|omega|(rw [szL]; omega)|exact Nat.le_of_ble_eq_true rfl|(simp; done)|(simp; omega)) ?_|refine Zix rfl rfl (by repeat constructor) (by first|rfl|omega|(rw [szL]; omega)|exact Nat.le_of_ble_eq_true rfl|(simp; done)|(simp; omega)) rfl ?_
  first|refine Ziz rfl (Zaw rfl) ?_|refine Ziz rfl (Zar rfl) ?_
  refine Ziq rfl ?_
  refine Zh8 rfl (by kernel_rfl) (join_x (L := [old W]) (hin.rs .here) (by omega)) rfl (by repeat (first|exact Take.nil|exact Take.all|(apply Take.cons; (next => (repeat constructor); done))|apply Take.skip)) ?_
  rintro _ _ ⟨ja, jc, rfl, rfl⟩
  refine Zg2 (by repeat (first|exact App.nil|apply App.cons|(apply App.flip; first|exact App.nil|apply App.cons)|exact App.any)) ?_
  refine Zg3 ⟨fun _ => Imp.arr (by repeat (first|exact Arr.nil|exact Arr.stop|refine Arr.cons (by repeat constructor) ?_|refine Arr.skip ?_)), ?_⟩
  refine Ziq rfl ?_
  refine Zh8 rfl (by kernel_rfl) (rsum_x (L := [own 5 1 (.slice ja (joinB ps).length jc) (joinB ps).length ((joinB ps).map u8b)]) key hk (Bs.own .here) (by omega)) rfl (by repeat (first|exact Take.nil|exact Take.all|(apply Take.cons; (next => (repeat constructor); done))|apply Take.skip)) ?_
  rintro _ _ ⟨rfl, rfl⟩
  refine Zg2 (by repeat (first|exact App.nil|apply App.cons|(apply App.flip; first|exact App.nil|apply App.cons)|exact App.any)) ?_
  refine Zg3 ⟨fun _ => Imp.arr (by repeat (first|exact Arr.nil|exact Arr.stop|refine Arr.cons (by repeat constructor) ?_|refine Arr.skip ?_)), ?_⟩
  refine Zir rfl (cs := ((List.replicate 16 0#8).map u8b).toArray) rfl ?_; intro b8
  refine Ziq rfl ?_
  first|refine Zhy rfl rfl (by repeat constructor) (by first|rfl|omega|(rw [szL]; omega)|exact Nat.le_of_ble_eq_true rfl|(simp; done)|(simp; omega)) (by first|rfl|exact oneM_u8 _|exact oneL_u8 _|(simp [oneC]; done)) (by first|rfl|omega|(rw [szL]; omega)|exact Nat.le_of_ble_eq_true rfl|(simp; done)|(simp; omega)) ?_|refine Zhx rfl rfl (by repeat constructor) (by first|rfl|omega|(rw [szL]; omega)|exact Nat.le_of_ble_eq_true rfl|(simp; done)|(simp; omega)) (by first|rfl|exact oneM_u8 _|exact oneL_u8 _|(simp [oneC]; done)) (by first|rfl|omega|(rw [szL]; omega)|exact Nat.le_of_ble_eq_true rfl|(simp; done)|(simp; omega)) rfl ?_
  refine Zg3 ⟨(fun hh => Bool.noConfusion hh), ?_⟩
  refine Zik ?_
  repeat (first|refine zA ?_|refine zB ?_|refine zC ?_|refine zD ?_|refine zE ?_|refine zF ?_|refine zG ?_|refine zH ?_|refine zI ?_|refine zJ ?_|refine zK ?_|refine zL ?_|refine zM rfl ?_|refine zN ?_|refine zO ?_|refine zP ?_|refine zQ ?_)
  rw [← hJ]
  repeat (first|refine zA ?_|refine zB ?_|refine zC ?_|refine zD ?_|refine zE ?_|refine zF ?_|refine zG ?_|refine zH ?_|refine zI ?_|refine zJ ?_|refine zK ?_|refine zL ?_|refine zM rfl ?_|refine zN ?_|refine zO ?_|refine zP ?_|refine zQ ?_)
  refine Zij ([cl b8 ((code key J).map u8b).toArray 28, cl b3 (key.map u8b).toArray 24, cl b5 (ot.map u8b).toArray 28]) [0, 1, 2, 3, 6, 7, 8, 9, 10, 11, 12] (.r 0 (.r 1 (.r 2 (.e 3 true (.q 4 (.q 5 (.r 6 (.r 7 (.r 8 (.r 10 (.r 11 (.r 12 (.e 9 true (.q 13 (.q 14 .nil))))))))))))))) (by kernel_rfl) (by kernel_rfl) (Imp.arr (by repeat (first|exact Arr.nil|exact Arr.stop|refine Arr.cons (by repeat constructor) ?_|refine Arr.skip ?_))) ?_
  first|refine Ziy rfl rfl (by repeat constructor) (by first|rfl|omega|(rw [szL]; omega)|exact Nat.le_of_ble_eq_true rfl|(simp; done)|(simp; omega)) ?_|refine Zix rfl rfl (by repeat constructor) (by first|rfl|omega|(rw [szL]; omega)|exact Nat.le_of_ble_eq_true rfl|(simp; done)|(simp; omega)) rfl ?_
  first|refine Ziy rfl rfl (by repeat constructor) (by first|rfl|omega|(rw [szL]; omega)|exact Nat.le_of_ble_eq_true rfl|(simp; done)|(simp; omega)) ?_|refine Zix rfl rfl (by repeat constructor) (by first|rfl|omega|(rw [szL]; omega)|exact Nat.le_of_ble_eq_true rfl|(simp; done)|(simp; omega)) rfl ?_
  first|refine Ziz rfl (Zaw rfl) ?_|refine Ziz rfl (Zar rfl) ?_
  refine Ziq rfl ?_
  refine Zh8 rfl (by kernel_rfl) (check_c (L := [cl g ((gs.zipIdx).map (rowV rows)).toArray 31, star (blkA rows) gs.zipIdx]) key hk (code key J) hcl (rs_spares (by repeat constructor) (by repeat constructor) hgl hrel (by omega)) (by omega)) rfl (by repeat (first|exact Take.nil|exact Take.all|(apply Take.cons; (next => (repeat constructor); done))|apply Take.skip)) ?_
  rintro _ _ ⟨rfl, rfl⟩
  refine Zg2 (by repeat (first|exact App.nil|apply App.cons|(apply App.flip; first|exact App.nil|apply App.cons)|exact App.any)) ?_
  refine Zg3 ⟨fun _ => Imp.arr (by repeat (first|exact Arr.nil|exact Arr.stop|refine Arr.cons (by repeat constructor) ?_|refine Arr.skip ?_)), ?_⟩
  first|refine Zim rfl (Zb1 rfl) ?_|refine Zim rfl (Zb0 rfl) ?_
  refine Zi6 21 rfl (decide_eq_false ((by rw [hqj]; simp))) ?_
  first|refine Zim rfl (Zau rfl) ?_|refine Zim rfl (Zar rfl) ?_
  first|refine Zi1 rfl rfl ?_|refine Zi2 rfl rfl ?_|refine Zi4 rfl rfl rfl (by repeat constructor) (by first|rfl|omega|(rw [szL]; omega)|exact Nat.le_of_ble_eq_true rfl|(simp; done)|(simp; omega)) ?_|refine Zi3 rfl rfl rfl (by repeat constructor) (by first|rfl|omega|(rw [szL]; omega)|exact Nat.le_of_ble_eq_true rfl|(simp; done)|(simp; omega)) rfl ?_
  first|refine Zi1 rfl rfl ?_|refine Zi2 rfl rfl ?_|refine Zi4 rfl rfl rfl (by repeat constructor) (by first|rfl|omega|(rw [szL]; omega)|exact Nat.le_of_ble_eq_true rfl|(simp; done)|(simp; omega)) ?_|refine Zi3 rfl rfl rfl (by repeat constructor) (by first|rfl|omega|(rw [szL]; omega)|exact Nat.le_of_ble_eq_true rfl|(simp; done)|(simp; omega)) rfl ?_
  first|refine Zi1 rfl rfl ?_|refine Zi2 rfl rfl ?_|refine Zi0 rfl rfl (Zaw rfl) ?_|refine Zi0 rfl rfl (Zar rfl) ?_
  first|refine Zi1 rfl rfl ?_|refine Zi2 rfl rfl ?_|refine Zi4 rfl rfl rfl (by repeat constructor) (by first|rfl|omega|(rw [szL]; omega)|exact Nat.le_of_ble_eq_true rfl|(simp; done)|(simp; omega)) ?_|refine Zi3 rfl rfl rfl (by repeat constructor) (by first|rfl|omega|(rw [szL]; omega)|exact Nat.le_of_ble_eq_true rfl|(simp; done)|(simp; omega)) rfl ?_
  first|refine Zi1 rfl rfl ?_|refine Zi2 rfl rfl ?_|refine Zi4 rfl rfl rfl (by repeat constructor) (by first|rfl|omega|(rw [szL]; omega)|exact Nat.le_of_ble_eq_true rfl|(simp; done)|(simp; omega)) ?_|refine Zi3 rfl rfl rfl (by repeat constructor) (by first|rfl|omega|(rw [szL]; omega)|exact Nat.le_of_ble_eq_true rfl|(simp; done)|(simp; omega)) rfl ?_
  first|refine Zi1 rfl rfl ?_|refine Zi2 rfl rfl ?_|refine Zi0 rfl rfl (Zm4 (n := 16) (a := ot) (b := code key J) ho hcl rfl rfl) ?_
  refine Ziq rfl ?_
  first|refine Zhi rfl ?_|refine Zhj rfl ?_|(refine Zhh rfl ?_; (refine Zh8 rfl (by kernel_rfl) (check_c (L := [cl g ((gs.zipIdx).map (rowV rows)).toArray 31, star (blkA rows) gs.zipIdx]) key hk ot ho (rs_spares (by repeat constructor) (by repeat constructor) hgl hrel (by omega)) (by omega)) rfl (by repeat (first|exact Take.nil|exact Take.all|(apply Take.cons; (next => (repeat constructor); done))|apply Take.skip)) ?_); (rintro _ _ ⟨rfl, rfl⟩); (refine Zg2 (by repeat (first|exact App.nil|apply App.cons|(apply App.flip; first|exact App.nil|apply App.cons)|exact App.any)) ?_))
  refine Zg3 ⟨fun _ => Imp.arr (by repeat (first|exact Arr.nil|exact Arr.stop|refine Arr.cons (by repeat constructor) ?_|refine Arr.skip ?_)), ?_⟩
  first|refine Zio rfl rfl ?_|refine Zip rfl rfl ?_|refine Zin rfl rfl (Zb8 rfl rfl) ?_
  refine Zi6 30 rfl ((by rw [hqj]; exact neq_sym _ _)) ?_
  first|refine Zim rfl (Zdz rfl rfl) ?_|refine Zim rfl (Zd0 rfl rfl) ?_|refine Zim rfl (Za8 rfl rfl) ?_|refine Zim rfl (Za9 rfl rfl) ?_|refine Zim rfl (Za6 rfl rfl) ?_|refine Zim rfl (Za7 rfl rfl) ?_
  refine Zik ?_
  repeat (first|refine zA ?_|refine zB ?_|refine zC ?_|refine zD ?_|refine zE ?_|refine zF ?_|refine zG ?_|refine zH ?_|refine zI ?_|refine zJ ?_|refine zK ?_|refine zL ?_|refine zM rfl ?_|refine zN ?_|refine zO ?_|refine zP ?_|refine zQ ?_)
  refine Zgf rfl ?_
  repeat (first|refine zA ?_|refine zB ?_|refine zC ?_|refine zD ?_|refine zE ?_|refine zF ?_|refine zG ?_|refine zH ?_|refine zI ?_|refine zJ ?_|refine zK ?_|refine zL ?_|refine zM rfl ?_|refine zN ?_|refine zO ?_|refine zP ?_|refine zQ ?_)
  generalize hw : code key J = w at *
  repeat (first|refine zA ?_|refine zB ?_|refine zC ?_|refine zD ?_|refine zE ?_|refine zF ?_|refine zG ?_|refine zH ?_|refine zI ?_|refine zJ ?_|refine zK ?_|refine zL ?_|refine zM rfl ?_|refine zN ?_|refine zO ?_|refine zP ?_|refine zQ ?_)
  refine Zgb ?_
  first|refine Zhg (Zaz rfl) ?_|refine Zhg (Zas rfl) ?_
  refine Zg3 ?_
  repeat (first|refine zA ?_|refine zB ?_|refine zC ?_|refine zD ?_|refine zE ?_|refine zF ?_|refine zG ?_|refine zH ?_|refine zI ?_|refine zJ ?_|refine zK ?_|refine zL ?_|refine zM rfl ?_|refine zN ?_|refine zO ?_|refine zP ?_|refine zQ ?_)
  refine Zgo [(6, 6), (9, 10), (32, 71)] (by kernel_rfl) (fun i : Nat => i ≤ 16) (fun i => [cl g ((gs.zipIdx).map (rowV rows)).toArray 31, star (blkA rows) gs.zipIdx, cl b8 (w.map u8b).toArray 28, cl b3 (key.map u8b).toArray 24, cl b5 (ot.map u8b).toArray 28, old W])
    (fun i => [(9, nv i)]) (fun i => 16 - i) 0 (by omega) (by exact Imp.arr (by repeat (first|exact Arr.nil|exact Arr.stop|refine Arr.cons (by repeat constructor) ?_|refine Arr.skip ?_))) ⟨rfl, trivial⟩ ?_
  intro i u hi
  repeat (first|refine zA ?_|refine zB ?_|refine zC ?_|refine zD ?_|refine zE ?_|refine zF ?_|refine zG ?_|refine zH ?_|refine zI ?_|refine zJ ?_|refine zK ?_|refine zL ?_|refine zM rfl ?_|refine zN ?_|refine zO ?_|refine zP ?_|refine zQ ?_)
  refine Zgb ?_
  first|refine Zhg (Zat rfl) ?_|refine Zhg (Zar rfl) ?_
  first|refine Zhg (Zmf (b := 16) rfl rfl) ?_|refine Zhg (Zbn rfl rfl) ?_
  refine Zg3 ?_
  repeat (first|refine zA ?_|refine zB ?_|refine zC ?_|refine zD ?_|refine zE ?_|refine zF ?_|refine zG ?_|refine zH ?_|refine zI ?_|refine zJ ?_|refine zK ?_|refine zL ?_|refine zM rfl ?_|refine zN ?_|refine zO ?_|refine zP ?_|refine zQ ?_)
  refine Zgg rfl (fun hA => ?_) (fun hA => ?_)
  · have hiw : i < w.length := by omega
    have hio : i < ot.length := by omega
    have hj16 : (i + 1) % 16 < 16 := Nat.mod_lt _ (by omega)
    have hij : i ≠ (i + 1) % 16 := by omega
    repeat (first|refine zA ?_|refine zB ?_|refine zC ?_|refine zD ?_|refine zE ?_|refine zF ?_|refine zG ?_|refine zH ?_|refine zI ?_|refine zJ ?_|refine zK ?_|refine zL ?_|refine zM rfl ?_|refine zN ?_|refine zO ?_|refine zP ?_|refine zQ ?_)
    refine Zgb ?_
    first|refine Zhr rfl (by repeat constructor) (by first|rfl|omega|(rw [szL]; omega)|exact Nat.le_of_ble_eq_true rfl|(simp; done)|(simp; omega)) ?_|refine Zhq rfl (by repeat constructor) (by first|rfl|omega|(rw [szL]; omega)|exact Nat.le_of_ble_eq_true rfl|(simp; done)|(simp; omega)) rfl ?_
    refine Zhz (cs := ((List.replicate 16 0#8).map u8b).toArray) rfl ?_; intro b10
    first|refine Zhy rfl rfl (by repeat constructor) (by first|rfl|omega|(rw [szL]; omega)|exact Nat.le_of_ble_eq_true rfl|(simp; done)|(simp; omega)) (by first|rfl|exact oneM_u8 _|exact oneL_u8 _|(simp [oneC]; done)) (by first|rfl|omega|(rw [szL]; omega)|exact Nat.le_of_ble_eq_true rfl|(simp; done)|(simp; omega)) ?_|refine Zhx rfl rfl (by repeat constructor) (by first|rfl|omega|(rw [szL]; omega)|exact Nat.le_of_ble_eq_true rfl|(simp; done)|(simp; omega)) (by first|rfl|exact oneM_u8 _|exact oneL_u8 _|(simp [oneC]; done)) (by first|rfl|omega|(rw [szL]; omega)|exact Nat.le_of_ble_eq_true rfl|(simp; done)|(simp; omega)) rfl ?_
    refine Zg3 ?_
    repeat (first|refine zA ?_|refine zB ?_|refine zC ?_|refine zD ?_|refine zE ?_|refine zF ?_|refine zG ?_|refine zH ?_|refine zI ?_|refine zJ ?_|refine zK ?_|refine zL ?_|refine zM rfl ?_|refine zN ?_|refine zO ?_|refine zP ?_|refine zQ ?_)
    refine Zij (_) [0, 1, 2, 3, 4, 5, 6, 7, 8] (.r 0 (.r 1 (.r 2 (.r 3 (.r 4 (.r 5 (.r 6 (.r 7 (.r 8 (.q 9 (.e 10 false .nil))))))))))) (by kernel_rfl) (by kernel_rfl) (Imp.refl _) ?_
    first|refine Ziz rfl (Zat rfl) ?_|refine Ziz rfl (Zar rfl) ?_
    first|refine Ziz rfl (Zat rfl) ?_|refine Ziz rfl (Zar rfl) ?_
    first|refine Ziz rfl (Zl5 rfl rfl) ?_|refine Ziz rfl (Zl3 rfl rfl) ?_
    refine Ziv rfl rfl (by repeat constructor) (getL (f := u8b) (l := w) hiw) ?_
    first|refine Ziz rfl (Zat rfl) ?_|refine Ziz rfl (Zar rfl) ?_
    first|refine Ziz rfl (Zl5 rfl rfl) ?_|refine Ziz rfl (Zl3 rfl rfl) ?_
    refine Ziv rfl rfl (by repeat constructor) (getL (f := u8b) (l := ot) hio) ?_
    refine Ziz rfl (Zjd (y := 1#8) rfl rfl) ?_
    refine Ziz rfl (Zje rfl rfl) ?_
    first|refine Zim rfl (Zl5 rfl rfl) ?_|refine Zim rfl (Zl3 rfl rfl) ?_
    refine Ziq rfl ?_
    refine Zht rfl rfl (by repeat constructor) (by first|rfl|omega|(rw [szL]; omega)|exact Nat.le_of_ble_eq_true rfl|(simp; done)|(simp; omega)) (setL (f := u8b) (l := w)) ?_
    refine Zg3 ⟨(fun hh => Bool.noConfusion hh), ?_⟩
    refine Zik ?_
    repeat (first|refine zA ?_|refine zB ?_|refine zC ?_|refine zD ?_|refine zE ?_|refine zF ?_|refine zG ?_|refine zH ?_|refine zI ?_|refine zJ ?_|refine zK ?_|refine zL ?_|refine zM rfl ?_|refine zN ?_|refine zO ?_|refine zP ?_|refine zQ ?_)
    refine Zgb ?_
    first|refine Zhr rfl (by repeat constructor) (by first|rfl|omega|(rw [szL]; omega)|exact Nat.le_of_ble_eq_true rfl|(simp; done)|(simp; omega)) ?_|refine Zhq rfl (by repeat constructor) (by first|rfl|omega|(rw [szL]; omega)|exact Nat.le_of_ble_eq_true rfl|(simp; done)|(simp; omega)) rfl ?_
    first|refine Zhr rfl (by repeat constructor) (by first|rfl|omega|(rw [szL]; omega)|exact Nat.le_of_ble_eq_true rfl|(simp; done)|(simp; omega)) ?_|refine Zhq rfl (by repeat constructor) (by first|rfl|omega|(rw [szL]; omega)|exact Nat.le_of_ble_eq_true rfl|(simp; done)|(simp; omega)) rfl ?_
    first|refine Zhg (Zaw rfl) ?_|refine Zhg (Zar rfl) ?_
    refine Zh8 rfl (by kernel_rfl) (check_c (L := [cl g ((gs.zipIdx).map (rowV rows)).toArray 31, star (blkA rows) gs.zipIdx]) key hk (w.set i (w[i] ^^^ (ot[i] ||| 1#8))) (by simp [hcl]) (rs_spares (by repeat constructor) (by repeat constructor) hgl hrel (by omega)) (by omega)) rfl (by repeat (first|exact Take.nil|exact Take.all|(apply Take.cons; (next => (repeat constructor); done))|apply Take.skip)) ?_
    rintro _ _ ⟨rfl, rfl⟩
    refine Zg2 (by repeat (first|exact App.nil|apply App.cons|(apply App.flip; first|exact App.nil|apply App.cons)|exact App.any)) ?_
    refine Zhn 50 rfl (decide_eq_false (by rw [hqj, hw]; exact turn_ne w i hiw _)) ?_
    refine Zg3 ?_
    repeat (first|refine zA ?_|refine zB ?_|refine zC ?_|refine zD ?_|refine zE ?_|refine zF ?_|refine zG ?_|refine zH ?_|refine zI ?_|refine zJ ?_|refine zK ?_|refine zL ?_|refine zM rfl ?_|refine zN ?_|refine zO ?_|refine zP ?_|refine zQ ?_)
    refine Zgf rfl ?_
    repeat (first|refine zA ?_|refine zB ?_|refine zC ?_|refine zD ?_|refine zE ?_|refine zF ?_|refine zG ?_|refine zH ?_|refine zI ?_|refine zJ ?_|refine zK ?_|refine zL ?_|refine zM rfl ?_|refine zN ?_|refine zO ?_|refine zP ?_|refine zQ ?_)
    refine Zgb ?_
    first|refine Zhr rfl (by repeat constructor) (by first|rfl|omega|(rw [szL]; omega)|exact Nat.le_of_ble_eq_true rfl|(simp; done)|(simp; omega)) ?_|refine Zhq rfl (by repeat constructor) (by first|rfl|omega|(rw [szL]; omega)|exact Nat.le_of_ble_eq_true rfl|(simp; done)|(simp; omega)) rfl ?_
    first|refine Zhy rfl rfl (by repeat constructor) (by first|rfl|omega|(rw [szL]; omega)|exact Nat.le_of_ble_eq_true rfl|(simp; done)|(simp; omega)) (by first|rfl|exact oneM_u8 _|exact oneL_u8 _|(simp [oneC]; done)) (by first|rfl|omega|(rw [szL]; omega)|exact Nat.le_of_ble_eq_true rfl|(simp; done)|(simp; omega)) ?_|refine Zhx rfl rfl (by repeat constructor) (by first|rfl|omega|(rw [szL]; omega)|exact Nat.le_of_ble_eq_true rfl|(simp; done)|(simp; omega)) (by first|rfl|exact oneM_u8 _|exact oneL_u8 _|(simp [oneC]; done)) (by first|rfl|omega|(rw [szL]; omega)|exact Nat.le_of_ble_eq_true rfl|(simp; done)|(simp; omega)) rfl ?_
    refine Zg3 ?_
    repeat (first|refine zA ?_|refine zB ?_|refine zC ?_|refine zD ?_|refine zE ?_|refine zF ?_|refine zG ?_|refine zH ?_|refine zI ?_|refine zJ ?_|refine zK ?_|refine zL ?_|refine zM rfl ?_|refine zN ?_|refine zO ?_|refine zP ?_|refine zQ ?_)
    refine Zgb ?_
    first|refine Zhg (Zat rfl) ?_|refine Zhg (Zar rfl) ?_
    first|refine Zhg (Zat rfl) ?_|refine Zhg (Zar rfl) ?_
    first|refine Zhg (Zl5 rfl rfl) ?_|refine Zhg (Zl3 rfl rfl) ?_
    refine Zhp rfl (by repeat constructor) (getL (f := u8b) (l := w) hiw) ?_
    refine Zhg (Zi9 (y := 1#8) rfl rfl) ?_
    first|refine Zhg (Zl5 rfl rfl) ?_|refine Zhg (Zl3 rfl rfl) ?_
    refine Zht rfl rfl (by repeat constructor) (by first|rfl|omega|(rw [szL]; omega)|exact Nat.le_of_ble_eq_true rfl|(simp; done)|(simp; omega)) (setL (f := u8b) (l := w)) ?_
    refine Zg3 ?_
    repeat (first|refine zA ?_|refine zB ?_|refine zC ?_|refine zD ?_|refine zE ?_|refine zF ?_|refine zG ?_|refine zH ?_|refine zI ?_|refine zJ ?_|refine zK ?_|refine zL ?_|refine zM rfl ?_|refine zN ?_|refine zO ?_|refine zP ?_|refine zQ ?_)
    have hs1 : (w.set i (w[i] + 1#8)).length = 16 := by simp [hcl]
    have hjs : (i + 1) % 16 < (w.set i (w[i] + 1#8)).length := by omega
    repeat (first|refine zA ?_|refine zB ?_|refine zC ?_|refine zD ?_|refine zE ?_|refine zF ?_|refine zG ?_|refine zH ?_|refine zI ?_|refine zJ ?_|refine zK ?_|refine zL ?_|refine zM rfl ?_|refine zN ?_|refine zO ?_|refine zP ?_|refine zQ ?_)
    refine Zgb ?_
    first|refine Zhg (Zat rfl) ?_|refine Zhg (Zar rfl) ?_
    first|refine Zhg (Zma (b := 1) rfl rfl) ?_|refine Zhg (Zbg rfl rfl) ?_
    refine Zhg (Zme (b := 16) rfl rfl (by omega)) ?_
    first|refine Zhg (Zat rfl) ?_|refine Zhg (Zar rfl) ?_
    first|refine Zhg (Zma (b := 1) rfl rfl) ?_|refine Zhg (Zbg rfl rfl) ?_
    refine Zhg (Zme (b := 16) rfl rfl (by omega)) ?_
    first|refine Zhg (Zl5 rfl rfl) ?_|refine Zhg (Zl3 rfl rfl) ?_
    refine Zhp rfl (by repeat constructor) (getL (f := u8b) (l := w.set i (w[i] + 1#8)) hjs) ?_
    refine Zhg (Zja (y := 1#8) rfl rfl) ?_
    first|refine Zhg (Zl5 rfl rfl) ?_|refine Zhg (Zl3 rfl rfl) ?_
    refine Zht rfl rfl (by repeat constructor) (by first|rfl|omega|(rw [szL]; omega)|exact Nat.le_of_ble_eq_true rfl|(simp; done)|(simp; omega)) (setL (f := u8b) (l := w.set i (w[i] + 1#8))) ?_
    refine Zg3 ?_
    repeat (first|refine zA ?_|refine zB ?_|refine zC ?_|refine zD ?_|refine zE ?_|refine zF ?_|refine zG ?_|refine zH ?_|refine zI ?_|refine zJ ?_|refine zK ?_|refine zL ?_|refine zM rfl ?_|refine zN ?_|refine zO ?_|refine zP ?_|refine zQ ?_)
    refine Zgb ?_
    first|refine Zhr rfl (by repeat constructor) (by first|rfl|omega|(rw [szL]; omega)|exact Nat.le_of_ble_eq_true rfl|(simp; done)|(simp; omega)) ?_|refine Zhq rfl (by repeat constructor) (by first|rfl|omega|(rw [szL]; omega)|exact Nat.le_of_ble_eq_true rfl|(simp; done)|(simp; omega)) rfl ?_
    first|refine Zhr rfl (by repeat constructor) (by first|rfl|omega|(rw [szL]; omega)|exact Nat.le_of_ble_eq_true rfl|(simp; done)|(simp; omega)) ?_|refine Zhq rfl (by repeat constructor) (by first|rfl|omega|(rw [szL]; omega)|exact Nat.le_of_ble_eq_true rfl|(simp; done)|(simp; omega)) rfl ?_
    first|refine Zhg (Zaw rfl) ?_|refine Zhg (Zar rfl) ?_
    refine Zh8 rfl (by kernel_rfl) (check_c (L := [cl g ((gs.zipIdx).map (rowV rows)).toArray 31, star (blkA rows) gs.zipIdx]) key hk ((w.set i (w[i] + 1#8)).set ((i + 1) % 16) ((w.set i (w[i] + 1#8))[(i + 1) % 16] - 1#8)) (by simp [hcl]) (rs_spares (by repeat constructor) (by repeat constructor) hgl hrel (by omega)) (by omega)) rfl (by repeat (first|exact Take.nil|exact Take.all|(apply Take.cons; (next => (repeat constructor); done))|apply Take.skip)) ?_
    rintro _ _ ⟨rfl, rfl⟩
    refine Zg2 (by repeat (first|exact App.nil|apply App.cons|(apply App.flip; first|exact App.nil|apply App.cons)|exact App.any)) ?_
    refine Zhn 71 rfl (decide_eq_false (by rw [hqj, hw]; exact plus_ne w i _ hiw hij _)) ?_
    refine Zg3 ?_
    repeat (first|refine zA ?_|refine zB ?_|refine zC ?_|refine zD ?_|refine zE ?_|refine zF ?_|refine zG ?_|refine zH ?_|refine zI ?_|refine zJ ?_|refine zK ?_|refine zL ?_|refine zM rfl ?_|refine zN ?_|refine zO ?_|refine zP ?_|refine zQ ?_)
    refine Zgf rfl ?_
    repeat (first|refine zA ?_|refine zB ?_|refine zC ?_|refine zD ?_|refine zE ?_|refine zF ?_|refine zG ?_|refine zH ?_|refine zI ?_|refine zJ ?_|refine zK ?_|refine zL ?_|refine zM rfl ?_|refine zN ?_|refine zO ?_|refine zP ?_|refine zQ ?_)
    refine Zgb ?_
    first|refine Zhg (Zat rfl) ?_|refine Zhg (Zar rfl) ?_
    first|refine Zhg (Zma (b := 1) rfl rfl) ?_|refine Zhg (Zbg rfl rfl) ?_
    first|refine Zhg (Zaz rfl) ?_|refine Zhg (Zas rfl) ?_
    refine Zg3 ?_
    repeat (first|refine zA ?_|refine zB ?_|refine zC ?_|refine zD ?_|refine zE ?_|refine zF ?_|refine zG ?_|refine zH ?_|refine zI ?_|refine zJ ?_|refine zK ?_|refine zL ?_|refine zM rfl ?_|refine zN ?_|refine zO ?_|refine zP ?_|refine zQ ?_)
    exact Zgl (i + 1) (by first|omega|(dsimp only; omega)|(simp only []; omega)) (by first|omega|(dsimp only; omega)|(simp only []; omega)) (by exact Imp.arr (by repeat (first|exact Arr.nil|exact Arr.stop|refine Arr.cons (by repeat constructor) ?_|refine Arr.skip ?_))) ⟨rfl, trivial⟩
  · repeat (first|refine zA ?_|refine zB ?_|refine zC ?_|refine zD ?_|refine zE ?_|refine zF ?_|refine zG ?_|refine zH ?_|refine zI ?_|refine zJ ?_|refine zK ?_|refine zL ?_|refine zM rfl ?_|refine zN ?_|refine zO ?_|refine zP ?_|refine zQ ?_)
    refine Zgb ?_
    first|refine Zhg (Zaw rfl) ?_|refine Zhg (Zar rfl) ?_
    first|refine Zhg (Zaw rfl) ?_|refine Zhg (Zar rfl) ?_
    refine Zh8 rfl (by kernel_rfl) (kept_spares (L := [cl g ((gs.zipIdx).map (rowV rows)).toArray 31, star (blkA rows) gs.zipIdx, old W]) rows hrows hgl (hin.rs (by repeat constructor)) hpl1 hel2 (by repeat constructor) (by repeat constructor)) rfl (by repeat (first|exact Take.nil|exact Take.all|(apply Take.cons; (next => (repeat constructor); done))|apply Take.skip)) ?_
    rintro _ _ ⟨rfl, rfl⟩
    refine Zg2 (by repeat (first|exact App.nil|apply App.cons|(apply App.flip; first|exact App.nil|apply App.cons)|exact App.any)) ?_
    first|refine Zhg (Zau rfl) ?_|refine Zhg (Zar rfl) ?_
    first|refine Zhi rfl ?_|refine Zhj rfl ?_|(refine Zhh rfl ?_; (refine Zh8 rfl (by kernel_rfl) (works_x) rfl (by repeat (first|exact Take.nil|exact Take.all|(apply Take.cons; (next => (repeat constructor); done))|apply Take.skip)) ?_); (rintro _ _ ⟨rfl, rfl⟩); (refine Zg2 (by repeat (first|exact App.nil|apply App.cons|(apply App.flip; first|exact App.nil|apply App.cons)|exact App.any)) ?_))
    first|refine Zhg (Zdz rfl rfl) ?_|refine Zhg (Zd0 rfl rfl) ?_|refine Zhg (Za8 rfl rfl) ?_|refine Zhg (Za9 rfl rfl) ?_|refine Zhg (Za6 rfl rfl) ?_|refine Zhg (Za7 rfl rfl) ?_
    first|refine Zhg (Za0 rfl) ?_|refine Zhg (Zas rfl) ?_
    refine Zg3 ?_
    repeat (first|refine zA ?_|refine zB ?_|refine zC ?_|refine zD ?_|refine zE ?_|refine zF ?_|refine zG ?_|refine zH ?_|refine zI ?_|refine zJ ?_|refine zK ?_|refine zL ?_|refine zM rfl ?_|refine zN ?_|refine zO ?_|refine zP ?_|refine zQ ?_)
    refine rx1 (Zha rfl (Zg7)) ?_
    exact ⟨_, ⟨rfl, rfl⟩, by exact Imp.arr (by repeat (first|exact Arr.nil|exact Arr.stop|refine Arr.cons (by repeat constructor) ?_|refine Arr.skip ?_))⟩
end Go.Sl

/- trystlaw06: TagSums, walked. -/
set_option maxHeartbeats 4000000
set_option maxRecDepth 10000
set_option linter.unusedVariables false
set_option linter.unusedSimpArgs false
namespace Go.Sl
open Go Go.Proofs
attribute [local irreducible] cl pt own old pur ex all den denOps denS xOps xC cX CX xthen xblk xcut xloop retX resX Calls PV Rd Con
attribute [local irreducible] pc writeS takeW full put1 setU setH code sumS spareL spQ
abbrev blkB (x : Nat × List Byte) : Asrt := cl x.1 (x.2.map u8b).toArray 5
def bl0 (rows : List (List Byte)) (gs : List Nat) : List (Nat × List Byte) := gs.zipIdx.map fun x => (x.1, rowB rows x.2)
abbrev shp (x : Nat × List Byte) : Nat × Nat := (x.1, x.2.length)
def blQ (n : Nat) (bl : List (Nat × List Byte)) : List (Value × List Byte) := (bl.take n).map fun x => (.slice (some ⟨x.1, 0, none⟩) (x.2.length - 80) x.2.length, x.2.take (x.2.length - 80))
theorem star_bl0 {rows : List (List Byte)} {gs : List Nat} {M : List Asrt} : Imp (star (blkA rows) gs.zipIdx :: M) (star blkB (bl0 rows gs) :: M) := by
  have e : star blkB (bl0 rows gs) = star (blkA rows) gs.zipIdx := by unfold star bl0; rw [List.map_map]; rfl
  rw [e]; exact Imp.refl _
structure BlOk (rows : List (List Byte)) (gs : List Nat) (bl : List (Nat × List Byte)) : Prop where
  h : bl.map shp = (bl0 rows gs).map shp
theorem BlOk.len {rows : List (List Byte)} {gs : List Nat} {bl : List (Nat × List Byte)} (h : BlOk rows gs bl) : bl.length = gs.length := by
  have := congrArg List.length h.h; simpa [bl0] using this
theorem BlOk.at {rows : List (List Byte)} {gs : List Nat} {bl : List (Nat × List Byte)} (h : BlOk rows gs bl) (i : Nat) (hi : i < rows.length) (hg : i < gs.length) (hb : i < bl.length) : bl[i].1 = gs[i] ∧ bl[i].2.length = rows[i].length + 80 := by
  have e : (bl.map shp)[i]? = ((bl0 rows gs).map shp)[i]? := by rw [h.h]
  have hz : i < gs.zipIdx.length := by simpa using hg
  rw [List.getElem?_map, List.getElem?_eq_getElem hb, bl0, List.getElem?_map, List.getElem?_map, List.getElem?_eq_getElem hz] at e
  simp only [Option.map_some, Option.some.injEq, shp, Prod.mk.injEq, List.getElem_zipIdx, Nat.zero_add] at e
  refine ⟨e.1, ?_⟩
  rw [e.2, rowB, if_pos hi, spareL_len, List.getD_eq_getElem?_getD, List.getElem?_eq_getElem hi]; rfl
theorem BlOk.set {rows : List (List Byte)} {gs : List Nat} {bl : List (Nat × List Byte)} (h : BlOk rows gs bl) (i : Nat) (hb : i < bl.length) (y : Nat × List Byte) (hy : shp y = shp bl[i]) : BlOk rows gs (bl.set i y) := by
  refine ⟨?_⟩
  rw [List.map_set, hy, ← h.h]
  have : shp bl[i] = (bl.map shp)[i]'(by simpa using hb) := by simp
  rw [this, List.set_getElem_self]
theorem blQ_len {n : Nat} {bl : List (Nat × List Byte)} (h : n ≤ bl.length) : (blQ n bl).length = n := by simp [blQ]; omega
theorem BlOk.vals {rows : List (List Byte)} {gs : List Nat} {bl : List (Nat × List Byte)} (h : BlOk rows gs bl) (hg : gs.length = rows.length + 3) : (blQ rows.length bl).map (·.1) = ((gs.zipIdx).map (rowV rows)).take rows.length := by
  have hbl := h.len
  apply List.ext_getElem (by rw [List.length_map, blQ_len (by omega)]; simp; omega)
  intro i h1 h2
  have hi : i < rows.length := by rw [List.length_map, blQ_len (by omega)] at h1; exact h1
  have ha := h.at i hi (by omega) (by omega)
  simp only [blQ, List.getElem_map, List.getElem_take, List.getElem_zipIdx, Nat.zero_add]
  rw [ha.1, ha.2, rowV, if_pos hi, List.getD_eq_getElem?_getD, List.getElem?_eq_getElem hi]
  simp
theorem BlOk.lens {rows : List (List Byte)} {gs : List Nat} {bl : List (Nat × List Byte)} (h : BlOk rows gs bl) (hg : gs.length = rows.length + 3) : (joinB (blQ rows.length bl)).length = rows.flatten.length := by
  have hbl := h.len
  unfold joinB
  rw [List.length_flatten, List.length_flatten, List.map_map]
  congr 1
  apply List.ext_getElem (by rw [List.length_map, blQ_len (by omega)]; simp)
  intro i h1 h2
  have hi : i < rows.length := by simpa using h2
  have ha := h.at i hi (by omega) (by omega)
  simp only [blQ, List.getElem_map, List.getElem_take, Function.comp, List.length_take]
  rw [ha.2]; omega
theorem BlOk.rs {M M1 M2 : List Asrt} {g : Nat} {rows : List (List Byte)} {gs : List Nat} {bl : List (Nat × List Byte)} (h : BlOk rows gs bl) (hg : gs.length = rows.length + 3) (hm : Has M (cl g (((gs.zipIdx).map (rowV rows))).toArray 31) M1) (hs : Has M (star blkB bl) M2)
    (hel : ∀ r ∈ rows, r.length ≤ 140737488355328) (hl : rows.length ≤ 2097152) : Rs M (.slice (some ⟨g, 0, none⟩) rows.length (rows.length + 3)) (blQ rows.length bl) := by
  have hbl := h.len
  have hq : (blQ rows.length bl).length = rows.length := blQ_len (by omega)
  have hzl : (gs.zipIdx).length = rows.length + 3 := by simp [hg]
  have hh := Rs.cl (M := M) (o := 0) (c := rows.length + 3) (ps := blQ rows.length bl) hm (by simp [hq, hzl]) (by
      simp only [Array.toList_extract, List.extract_eq_take_drop, Nat.zero_add, Nat.sub_zero, List.drop_zero]
      rw [hq, h.vals hg]) (by omega) (by omega) ?_
  · rwa [hq] at hh
  · intro x hx
    obtain ⟨i, hi, rfl⟩ := List.getElem_of_mem hx
    have hi2 : i < rows.length := by rwa [hq] at hi
    have ha := h.at i hi2 (by omega) (by omega)
    have hr := hel _ (List.getElem_mem hi2)
    obtain ⟨R, hR⟩ := star_has (A := blkB) (List.getElem_mem (show i < bl.length by omega)) hs
    simp only [blQ, List.getElem_map, List.getElem_take]
    have hbs := Bs.cl (M := blkB bl[i] :: R) (o := 0) (c := bl[i].2.length) (l := bl[i].2.take (bl[i].2.length - 80)) .here (by simp) (by
      simp only [Array.toList_extract, List.extract_eq_take_drop, Nat.zero_add, Nat.sub_zero, List.drop_zero]
      rw [List.map_take]; congr 1; simp) (by simp) (by omega)
    have e : (bl[i].2.take (bl[i].2.length - 80)).length = bl[i].2.length - 80 := by simp
    rw [e] at hbs
    exact hbs.imp hR
theorem sums_x (W : World) (key : List Byte) (hk : key.length = 32) (v : Value) (ps : List (Value × List Byte)) (hin : InR W v ps) (hjb : (joinB ps).length + ps.length ≤ 2097152) :
    Con Try.prog 4 [.agg (key.map u8b).toArray, v] [old W] (fun r M => r = .bool true ∧ [old W] = M) := by
  obtain ⟨va, vc, rfl, hvl, hvc⟩ := hin.sh
  have hpl1 : ps.length ≤ 2097152 := by omega
  obtain ⟨J, hJ⟩ : ∃ J, J = joinB ps := ⟨_, rfl⟩
  have hcl := code_len key J
  have hcl0 := code_len key (joinB ps)
  have hel2 : ∀ x ∈ ps, x.2.length ≤ 140737488355328 := fun x hx => by have := (hin.el x hx).len; omega
  obtain ⟨rows, hrows⟩ : ∃ rows, ps.map (·.2) = rows := ⟨_, rfl⟩
  have hrl : rows.length = ps.length := by rw [← hrows]; simp
  have hrel : ∀ r ∈ rows, r.length ≤ 140737488355328 := fun r hr => by
    rw [← hrows] at hr; obtain ⟨x, hx, rfl⟩ := List.mem_map.1 hr; exact hel2 x hx
  have hfl : rows.flatten.length ≤ 2097152 := by rw [← hrows, ← join_rows]; omega
  refine fn_x Try.func4 rfl rfl rfl Try.mixed (by kernel_rfl) ?_
  intro w0
  repeat (first|refine zA ?_|refine zB ?_|refine zC ?_|refine zD ?_|refine zE ?_|refine zF ?_|refine zG ?_|refine zH ?_|refine zI ?_|refine zJ ?_|refine zK ?_|refine zL ?_|refine zM rfl ?_|refine zN ?_|refine zO ?_|refine zP ?_|refine zQ ?_)
  refine Zgb ?_
  refine Zh5 rfl ?_; intro b2
  first|refine Zhg (Za0 rfl) ?_|refine Zhg (Zas rfl) ?_
  refine Zg3 ?_
  repeat (first|refine zA ?_|refine zB ?_|refine zC ?_|refine zD ?_|refine zE ?_|refine zF ?_|refine zG ?_|refine zH ?_|refine zI ?_|refine zJ ?_|refine zK ?_|refine zL ?_|refine zM rfl ?_|refine zN ?_|refine zO ?_|refine zP ?_|refine zQ ?_)
  refine Zgb ?_
  first|refine Zhg (Zaw rfl) ?_|refine Zhg (Zar rfl) ?_
  refine Zh8 rfl (by kernel_rfl) (spareRows_y (L := [old W]) rows hrows (hin.rs .here) hpl1 hel2) rfl (by repeat (first|exact Take.nil|exact Take.all|(apply Take.cons; (next => (repeat constructor); done))|apply Take.skip)) ?_
  rintro _ _ ⟨g, gs, hgl, rfl, rfl⟩
  refine Zg2 (by repeat (first|exact App.nil|apply App.cons|(apply App.flip; first|exact App.nil|apply App.cons)|exact App.any)) ?_
  first|refine Zhg (Za2 rfl) ?_|refine Zhg (Zas rfl) ?_
  refine Zg3 ?_
  repeat (first|refine zA ?_|refine zB ?_|refine zC ?_|refine zD ?_|refine zE ?_|refine zF ?_|refine zG ?_|refine zH ?_|refine zI ?_|refine zJ ?_|refine zK ?_|refine zL ?_|refine zM rfl ?_|refine zN ?_|refine zO ?_|refine zP ?_|refine zQ ?_)
  have hqj : joinB (spQ rows gs) = J := by rw [spQ_join hgl, hJ, join_rows, hrows]
  have hql := spQ_len hgl
  have hclq := code_len key (joinB (spQ rows gs))
  have hzl : (((gs.zipIdx).map (rowV rows))).length = rows.length + 3 := by simp [hgl]
  repeat (first|refine zA ?_|refine zB ?_|refine zC ?_|refine zD ?_|refine zE ?_|refine zF ?_|refine zG ?_|refine zH ?_|refine zI ?_|refine zJ ?_|refine zK ?_|refine zL ?_|refine zM rfl ?_|refine zN ?_|refine zO ?_|refine zP ?_|refine zQ ?_)
  refine Zgb ?_
  first|refine Zhr rfl (by repeat constructor) (by first|rfl|omega|(rw [szL]; omega)|exact Nat.le_of_ble_eq_true rfl|(simp; done)|(simp; omega)) ?_|refine Zhq rfl (by repeat constructor) (by first|rfl|omega|(rw [szL]; omega)|exact Nat.le_of_ble_eq_true rfl|(simp; done)|(simp; omega)) rfl ?_
  first|refine Zhg (Zaw rfl) ?_|refine Zhg (Zar rfl) ?_
  refine Zh8 rfl (by kernel_rfl) (tsum_c (L := [cl g ((gs.zipIdx).map (rowV rows)).toArray 31, star (blkA rows) gs.zipIdx]) key hk (rs_spares (by repeat constructor) (by repeat constructor) hgl hrel (by omega)) (by omega)) rfl (by repeat (first|exact Take.nil|exact Take.all|(apply Take.cons; (next => (repeat constructor); done))|apply Take.skip)) ?_
  rintro _ _ ⟨rfl, rfl⟩
  refine Zg2 (by repeat (first|exact App.nil|apply App.cons|(apply App.flip; first|exact App.nil|apply App.cons)|exact App.any)) ?_
  refine Zhz (cs := ((List.replicate 16 0#8).map u8b).toArray) rfl ?_; intro b6
  first|refine Zhy rfl rfl (by repeat constructor) (by first|rfl|omega|(rw [szL]; omega)|exact Nat.le_of_ble_eq_true rfl|(simp; done)|(simp; omega)) (by first|rfl|exact oneM_u8 _|exact oneL_u8 _|(simp [oneC]; done)) (by first|rfl|omega|(rw [szL]; omega)|exact Nat.le_of_ble_eq_true rfl|(simp; done)|(simp; omega)) ?_|refine Zhx rfl rfl (by repeat constructor) (by first|rfl|omega|(rw [szL]; omega)|exact Nat.le_of_ble_eq_true rfl|(simp; done)|(simp; omega)) (by first|rfl|exact oneM_u8 _|exact oneL_u8 _|(simp [oneC]; done)) (by first|rfl|omega|(rw [szL]; omega)|exact Nat.le_of_ble_eq_true rfl|(simp; done)|(simp; omega)) rfl ?_
  refine Zg3 ?_
  repeat (first|refine zA ?_|refine zB ?_|refine zC ?_|refine zD ?_|refine zE ?_|refine zF ?_|refine zG ?_|refine zH ?_|refine zI ?_|refine zJ ?_|refine zK ?_|refine zL ?_|refine zM rfl ?_|refine zN ?_|refine zO ?_|refine zP ?_|refine zQ ?_)
  rw [hqj]
  repeat (first|refine zA ?_|refine zB ?_|refine zC ?_|refine zD ?_|refine zE ?_|refine zF ?_|refine zG ?_|refine zH ?_|refine zI ?_|refine zJ ?_|refine zK ?_|refine zL ?_|refine zM rfl ?_|refine zN ?_|refine zO ?_|refine zP ?_|refine zQ ?_)
  refine Zij ([cl b6 ((code key J).map u8b).toArray 28, cl b2 (key.map u8b).toArray 24]) [0, 1, 2, 3, 4] (.r 0 (.r 1 (.r 2 (.e 3 true (.e 4 true (.q 5 (.q 6 (.q 7 (.q 8 (.e 9 false (.q 10 (.q 11 .nil)))))))))))) (by kernel_rfl) (by kernel_rfl) (Imp.arr (by repeat (first|exact Arr.nil|exact Arr.stop|refine Arr.cons (by repeat constructor) ?_|refine Arr.skip ?_))) ?_
  first|refine Ziy rfl rfl (by repeat constructor) (by first|rfl|omega|(rw [szL]; omega)|exact Nat.le_of_ble_eq_true rfl|(simp; done)|(simp; omega)) ?_|refine Zix rfl rfl (by repeat constructor) (by first|rfl|omega|(rw [szL]; omega)|exact Nat.le_of_ble_eq_true rfl|(simp; done)|(simp; omega)) rfl ?_
  first|refine Ziy rfl rfl (by repeat constructor) (by first|rfl|omega|(rw [szL]; omega)|exact Nat.le_of_ble_eq_true rfl|(simp; done)|(simp; omega)) ?_|refine Zix rfl rfl (by repeat constructor) (by first|rfl|omega|(rw [szL]; omega)|exact Nat.le_of_ble_eq_true rfl|(simp; done)|(simp; omega)) rfl ?_
  first|refine Ziz rfl (Zaw rfl) ?_|refine Ziz rfl (Zar rfl) ?_
  refine Ziq rfl ?_
  refine Zh8 rfl (by kernel_rfl) (join_x (L := [old W]) (hin.rs .here) (by omega)) rfl (by repeat (first|exact Take.nil|exact Take.all|(apply Take.cons; (next => (repeat constructor); done))|apply Take.skip)) ?_
  rintro _ _ ⟨ja, jc, rfl, rfl⟩
  refine Zg2 (by repeat (first|exact App.nil|apply App.cons|(apply App.flip; first|exact App.nil|apply App.cons)|exact App.any)) ?_
  refine Zg3 ⟨fun _ => Imp.arr (by repeat (first|exact Arr.nil|exact Arr.stop|refine Arr.cons (by repeat constructor) ?_|refine Arr.skip ?_)), ?_⟩
  refine Ziq rfl ?_
  refine Zh8 rfl (by kernel_rfl) (rsum_x (L := [own 5 1 (.slice ja (joinB ps).length jc) (joinB ps).length ((joinB ps).map u8b)]) key hk (Bs.own .here) (by omega)) rfl (by repeat (first|exact Take.nil|exact Take.all|(apply Take.cons; (next => (repeat constructor); done))|apply Take.skip)) ?_
  rintro _ _ ⟨rfl, rfl⟩
  refine Zg2 (by repeat (first|exact App.nil|apply App.cons|(apply App.flip; first|exact App.nil|apply App.cons)|exact App.any)) ?_
  refine Zg3 ⟨fun _ => Imp.arr (by repeat (first|exact Arr.nil|exact Arr.stop|refine Arr.cons (by repeat constructor) ?_|refine Arr.skip ?_)), ?_⟩
  refine Zim rfl (Zm5 (n := 16) (a := code key J) (b := code key (joinB ps)) hcl hcl0 rfl rfl) ?_
  refine Zi6 20 rfl (decide_eq_false ((by rw [← hJ]; simp))) ?_
  first|refine Zim rfl (Zau rfl) ?_|refine Zim rfl (Zar rfl) ?_
  first|refine Zio rfl rfl ?_|refine Zip rfl rfl ?_|refine Zin rfl rfl (Zaw rfl) ?_|refine Zin rfl rfl (Zar rfl) ?_
  first|refine Zio rfl rfl ?_|refine Zip rfl rfl ?_|refine Zin rfl rfl (Zaw rfl) ?_|refine Zin rfl rfl (Zar rfl) ?_
  refine Ziq rfl ?_
  first|refine Zhi rfl ?_|refine Zhj rfl ?_|(refine Zhh rfl ?_; (refine Zh8 rfl (by kernel_rfl) (kept_spares (L := [cl g ((gs.zipIdx).map (rowV rows)).toArray 31, star (blkA rows) gs.zipIdx, old W]) rows hrows hgl (hin.rs (by repeat constructor)) hpl1 hel2 (by repeat constructor) (by repeat constructor)) rfl (by repeat (first|exact Take.nil|exact Take.all|(apply Take.cons; (next => (repeat constructor); done))|apply Take.skip)) ?_); (rintro _ _ ⟨rfl, rfl⟩); (refine Zg2 (by repeat (first|exact App.nil|apply App.cons|(apply App.flip; first|exact App.nil|apply App.cons)|exact App.any)) ?_))
  refine Zg3 ⟨(fun hh => Bool.noConfusion hh), ?_⟩
  first|refine Zio rfl rfl ?_|refine Zip rfl rfl ?_|refine Zin rfl rfl (Zb1 rfl) ?_|refine Zin rfl rfl (Zb0 rfl) ?_
  refine Zi6 25 rfl (rfl) ?_
  first|refine Zim rfl (Zdz rfl rfl) ?_|refine Zim rfl (Zd0 rfl rfl) ?_|refine Zim rfl (Za8 rfl rfl) ?_|refine Zim rfl (Za9 rfl rfl) ?_|refine Zim rfl (Za6 rfl rfl) ?_|refine Zim rfl (Za7 rfl rfl) ?_
  refine Zik ?_
  repeat (first|refine zA ?_|refine zB ?_|refine zC ?_|refine zD ?_|refine zE ?_|refine zF ?_|refine zG ?_|refine zH ?_|refine zI ?_|refine zJ ?_|refine zK ?_|refine zL ?_|refine zM rfl ?_|refine zN ?_|refine zO ?_|refine zP ?_|refine zQ ?_)
  refine Zgf rfl ?_
  repeat (first|refine zA ?_|refine zB ?_|refine zC ?_|refine zD ?_|refine zE ?_|refine zF ?_|refine zG ?_|refine zH ?_|refine zI ?_|refine zJ ?_|refine zK ?_|refine zL ?_|refine zM rfl ?_|refine zN ?_|refine zO ?_|refine zP ?_|refine zQ ?_)
  refine Zgb ?_
  first|refine Zhg (Zaz rfl) ?_|refine Zhg (Zas rfl) ?_
  refine Zg3 ?_
  repeat (first|refine zA ?_|refine zB ?_|refine zC ?_|refine zD ?_|refine zE ?_|refine zF ?_|refine zG ?_|refine zH ?_|refine zI ?_|refine zJ ?_|refine zK ?_|refine zL ?_|refine zM rfl ?_|refine zN ?_|refine zO ?_|refine zP ?_|refine zQ ?_)
  refine Zgo [(7, 8), (27, 60)] (by kernel_rfl) (fun s : Nat × List (Nat × List Byte) => s.1 ≤ rows.length ∧ BlOk rows gs s.2) (fun s => [star blkB s.2, cl g (((gs.zipIdx).map (rowV rows))).toArray 31, cl b2 (key.map u8b).toArray 24, old W])
    (fun s => [(7, nv s.1)]) (fun s => rows.length - s.1) (0, bl0 rows gs) ⟨by omega, ⟨rfl⟩⟩ ((Imp.arr (N := star (blkA rows) gs.zipIdx :: [cl g (((gs.zipIdx).map (rowV rows))).toArray 31, cl b2 (key.map u8b).toArray 24, old W]) (by repeat (first|exact Arr.nil|exact Arr.stop|refine Arr.cons (by repeat constructor) ?_|refine Arr.skip ?_))).trans star_bl0) ⟨rfl, trivial⟩ ?_
  rintro ⟨i, bl⟩ u ⟨hi, hbl⟩
  dsimp only at hi hbl ⊢
  have hbln := hbl.len
  repeat (first|refine zA ?_|refine zB ?_|refine zC ?_|refine zD ?_|refine zE ?_|refine zF ?_|refine zG ?_|refine zH ?_|refine zI ?_|refine zJ ?_|refine zK ?_|refine zL ?_|refine zM rfl ?_|refine zN ?_|refine zO ?_|refine zP ?_|refine zQ ?_)
  refine Zgb ?_
  first|refine Zhg (Zat rfl) ?_|refine Zhg (Zar rfl) ?_
  first|refine Zhg (Zaw rfl) ?_|refine Zhg (Zar rfl) ?_
  first|refine Zhg (Zcr rfl) ?_|refine Zhg (Zct) ?_|refine Zhg (Zcu rfl) ?_
  first|refine Zhg (Zmf rfl rfl) ?_|refine Zhg (Zbn rfl rfl) ?_
  refine Zg3 ?_
  repeat (first|refine zA ?_|refine zB ?_|refine zC ?_|refine zD ?_|refine zE ?_|refine zF ?_|refine zG ?_|refine zH ?_|refine zI ?_|refine zJ ?_|refine zK ?_|refine zL ?_|refine zM rfl ?_|refine zN ?_|refine zO ?_|refine zP ?_|refine zQ ?_)
  refine Zgg rfl (fun hA => ?_) (fun hA => ?_)
  · have hat := hbl.at i hA (by omega) (by omega)
    have hib : i < bl.length := by omega
    generalize hgi : gs[i] = gi at hat
    have hVi : (((gs.zipIdx).map (rowV rows))).toArray[i]? = some (.slice (some ⟨gi, 0, none⟩) rows[i].length (rows[i].length + 80)) := by
      rw [List.getElem?_toArray, List.getElem?_eq_getElem (by rw [hzl]; omega), List.getElem_map, List.getElem_zipIdx, Nat.zero_add, rowV, if_pos hA, List.getD_eq_getElem?_getD, List.getElem?_eq_getElem hA, hgi]; rfl
    have hri := hrel _ (List.getElem_mem hA)
    generalize hrow : rows[i] = row at hat hVi hri
    refine Zgp (star_at (A := blkB) hib) ?_
    rw [show blkB bl[i] = cl gi (bl[i].2.map u8b).toArray 5 by show cl bl[i].1 _ _ = _; rw [hat.1]]
    repeat (first|refine zA ?_|refine zB ?_|refine zC ?_|refine zD ?_|refine zE ?_|refine zF ?_|refine zG ?_|refine zH ?_|refine zI ?_|refine zJ ?_|refine zK ?_|refine zL ?_|refine zM rfl ?_|refine zN ?_|refine zO ?_|refine zP ?_|refine zQ ?_)
    refine Zgb ?_
    first|refine Zhg (Zaz rfl) ?_|refine Zhg (Zas rfl) ?_
    refine Zg3 ?_
    repeat (first|refine zA ?_|refine zB ?_|refine zC ?_|refine zD ?_|refine zE ?_|refine zF ?_|refine zG ?_|refine zH ?_|refine zI ?_|refine zJ ?_|refine zK ?_|refine zL ?_|refine zM rfl ?_|refine zN ?_|refine zO ?_|refine zP ?_|refine zQ ?_)
    refine Zgo [(8, 8), (33, 60)] (by kernel_rfl) (fun t : Nat × List Byte => t.1 ≤ row.length ∧ t.2.length = row.length + 80) (fun t => [cl gi (t.2.map u8b).toArray 5, star blkB (bl.eraseIdx i), cl g (((gs.zipIdx).map (rowV rows))).toArray 31, cl b2 (key.map u8b).toArray 24, old W])
      (fun t => [(8, nv t.1)]) (fun t => row.length - t.1) (0, bl[i].2) ⟨by omega, hat.2⟩ (by exact Imp.arr (by repeat (first|exact Arr.nil|exact Arr.stop|refine Arr.cons (by repeat constructor) ?_|refine Arr.skip ?_))) ⟨rfl, trivial⟩ ?_
    rintro ⟨k, c⟩ u2 ⟨hk2, hc⟩
    dsimp only at hk2 hc ⊢
    repeat (first|refine zA ?_|refine zB ?_|refine zC ?_|refine zD ?_|refine zE ?_|refine zF ?_|refine zG ?_|refine zH ?_|refine zI ?_|refine zJ ?_|refine zK ?_|refine zL ?_|refine zM rfl ?_|refine zN ?_|refine zO ?_|refine zP ?_|refine zQ ?_)
    refine Zgb ?_
    first|refine Zhg (Zat rfl) ?_|refine Zhg (Zar rfl) ?_
    first|refine Zhg (Zaw rfl) ?_|refine Zhg (Zar rfl) ?_
    first|refine Zhg (Zat rfl) ?_|refine Zhg (Zar rfl) ?_
    first|refine Zhg (Zl4 rfl rfl) ?_|refine Zhg (Zl1 rfl rfl) ?_
    refine Zhp rfl (by repeat constructor) (hVi) ?_
    first|refine Zhg (Zcr rfl) ?_|refine Zhg (Zct) ?_|refine Zhg (Zcu rfl) ?_
    first|refine Zhg (Zmf rfl rfl) ?_|refine Zhg (Zbn rfl rfl) ?_
    refine Zg3 ?_
    repeat (first|refine zA ?_|refine zB ?_|refine zC ?_|refine zD ?_|refine zE ?_|refine zF ?_|refine zG ?_|refine zH ?_|refine zI ?_|refine zJ ?_|refine zK ?_|refine zL ?_|refine zM rfl ?_|refine zN ?_|refine zO ?_|refine zP ?_|refine zQ ?_)
    refine Zgg rfl (fun hB => ?_) (fun hB => ?_)
    · have hkc : k < c.length := by omega
      repeat (first|refine zA ?_|refine zB ?_|refine zC ?_|refine zD ?_|refine zE ?_|refine zF ?_|refine zG ?_|refine zH ?_|refine zI ?_|refine zJ ?_|refine zK ?_|refine zL ?_|refine zM rfl ?_|refine zN ?_|refine zO ?_|refine zP ?_|refine zQ ?_)
      refine Zij (_) [0, 1, 2, 3, 4, 5, 6, 7, 8, 9, 10, 11, 12, 13, 14, 15, 16, 17] (.r 0 (.r 1 (.r 2 (.r 3 (.r 4 (.r 5 (.r 6 (.r 7 (.r 8 (.r 9 (.r 10 (.r 11 (.r 12 (.r 13 (.r 14 (.r 15 (.r 16 (.r 17 (.q 18 (.e 19 false .nil)))))))))))))))))))) (by kernel_rfl) (by kernel_rfl) (Imp.refl _) ?_
      first|refine Ziz rfl (Zaw rfl) ?_|refine Ziz rfl (Zar rfl) ?_
      first|refine Ziz rfl (Zat rfl) ?_|refine Ziz rfl (Zar rfl) ?_
      first|refine Ziz rfl (Zl4 rfl rfl) ?_|refine Ziz rfl (Zl1 rfl rfl) ?_
      refine Ziv rfl rfl (by repeat constructor) (hVi) ?_
      first|refine Ziz rfl (Zat rfl) ?_|refine Ziz rfl (Zar rfl) ?_
      first|refine Ziz rfl (Zaw rfl) ?_|refine Ziz rfl (Zar rfl) ?_
      first|refine Ziz rfl (Zat rfl) ?_|refine Ziz rfl (Zar rfl) ?_
      first|refine Ziz rfl (Zl4 rfl rfl) ?_|refine Ziz rfl (Zl1 rfl rfl) ?_
      refine Ziv rfl rfl (by repeat constructor) (hVi) ?_
      first|refine Ziz rfl (Zat rfl) ?_|refine Ziz rfl (Zar rfl) ?_
      first|refine Ziz rfl (Zl4 rfl rfl) ?_|refine Ziz rfl (Zl1 rfl rfl) ?_
      refine Ziv rfl rfl (by repeat constructor) (getL (f := u8b) (l := c) hkc) ?_
      first|refine Ziz rfl (Zat rfl) ?_|refine Ziz rfl (Zar rfl) ?_
      first|refine Ziz rfl (Zma (a := 1) rfl rfl) ?_|refine Ziz rfl (Zbg rfl rfl) ?_
      first|refine Ziz rfl (Zat rfl) ?_|refine Ziz rfl (Zar rfl) ?_
      first|refine Ziz rfl (Zma rfl rfl) ?_|refine Ziz rfl (Zbg rfl rfl) ?_
      refine Ziz rfl (Zjs rfl) ?_
      refine Ziz rfl (Zje rfl rfl) ?_
      first|refine Zim rfl (Zl4 rfl rfl) ?_|refine Zim rfl (Zl1 rfl rfl) ?_
      refine Ziq rfl ?_
      refine Zht rfl rfl (by repeat constructor) (by first|rfl|omega|(rw [szL]; omega)|exact Nat.le_of_ble_eq_true rfl|(simp; done)|(simp; omega)) (setL (f := u8b) (l := c)) ?_
      refine Zg3 ⟨(fun hh => Bool.noConfusion hh), ?_⟩
      refine Zik ?_
      repeat (first|refine zA ?_|refine zB ?_|refine zC ?_|refine zD ?_|refine zE ?_|refine zF ?_|refine zG ?_|refine zH ?_|refine zI ?_|refine zJ ?_|refine zK ?_|refine zL ?_|refine zM rfl ?_|refine zN ?_|refine zO ?_|refine zP ?_|refine zQ ?_)
      refine Zgb ?_
      first|refine Zhg (Zat rfl) ?_|refine Zhg (Zar rfl) ?_
      first|refine Zhg (Zma (b := 1) rfl rfl) ?_|refine Zhg (Zbg rfl rfl) ?_
      first|refine Zhg (Zaz rfl) ?_|refine Zhg (Zas rfl) ?_
      refine Zg3 ?_
      repeat (first|refine zA ?_|refine zB ?_|refine zC ?_|refine zD ?_|refine zE ?_|refine zF ?_|refine zG ?_|refine zH ?_|refine zI ?_|refine zJ ?_|refine zK ?_|refine zL ?_|refine zM rfl ?_|refine zN ?_|refine zO ?_|refine zP ?_|refine zQ ?_)
      exact Zgl (k + 1, c.set k (c[k] ^^^ BitVec.ofInt 8 ((1 + i + k : Nat) : Int))) (by first|omega|(dsimp only; omega)|(simp only []; omega)) ⟨by dsimp only; omega, by simp [hc]⟩ (by exact Imp.arr (by repeat (first|exact Arr.nil|exact Arr.stop|refine Arr.cons (by repeat constructor) ?_|refine Arr.skip ?_))) ⟨rfl, trivial⟩
    · repeat (first|refine zA ?_|refine zB ?_|refine zC ?_|refine zD ?_|refine zE ?_|refine zF ?_|refine zG ?_|refine zH ?_|refine zI ?_|refine zJ ?_|refine zK ?_|refine zL ?_|refine zM rfl ?_|refine zN ?_|refine zO ?_|refine zP ?_|refine zQ ?_)
      refine Zgb ?_
      first|refine Zhg (Zat rfl) ?_|refine Zhg (Zar rfl) ?_
      first|refine Zhg (Zma (b := 1) rfl rfl) ?_|refine Zhg (Zbg rfl rfl) ?_
      first|refine Zhg (Zaz rfl) ?_|refine Zhg (Zas rfl) ?_
      refine Zg3 ?_
      repeat (first|refine zA ?_|refine zB ?_|refine zC ?_|refine zD ?_|refine zE ?_|refine zF ?_|refine zG ?_|refine zH ?_|refine zI ?_|refine zJ ?_|refine zK ?_|refine zL ?_|refine zM rfl ?_|refine zN ?_|refine zO ?_|refine zP ?_|refine zQ ?_)
      refine Zgl (i + 1, bl.set i (gi, c)) (by first|omega|(dsimp only; omega)|(simp only []; omega)) ⟨by dsimp only; omega, hbl.set i hib (gi, c) (by show (gi, c.length) = (bl[i].1, bl[i].2.length); rw [hat.1, hat.2, hc])⟩ ?_ ⟨rfl, trivial⟩
      exact (Imp.arr (N := blkB (gi, c) :: star blkB (bl.eraseIdx i) :: [cl g (((gs.zipIdx).map (rowV rows))).toArray 31, cl b2 (key.map u8b).toArray 24, old W]) (by repeat (first|exact Arr.nil|exact Arr.stop|refine Arr.cons (by repeat constructor) ?_|refine Arr.skip ?_))).trans (star_back hib (gi, c))
  · have hrs := hbl.rs (M := [star blkB bl, cl g (((gs.zipIdx).map (rowV rows))).toArray 31]) hgl (by repeat constructor) (by repeat constructor) hrel (by omega)
    have hrs2 := hbl.rs (M := [star blkB bl, cl g (((gs.zipIdx).map (rowV rows))).toArray 31]) hgl (by repeat constructor) (by repeat constructor) hrel (by omega)
    have hqn : (blQ rows.length bl).length = rows.length := blQ_len (by omega)
    have hlens := hbl.lens hgl
    generalize blQ rows.length bl = Q at hrs hqn hlens
    have hQl : ∀ x ∈ Q, x.2.length ≤ 140737488355328 := fun x hx => by
      obtain ⟨k, hk2, rfl⟩ := List.getElem_of_mem hx
      have h1 := joinB_succ Q k hk2
      have h2 := joinB_le Q (k + 1)
      rw [h1, List.length_append] at h2
      omega
    repeat (first|refine zA ?_|refine zB ?_|refine zC ?_|refine zD ?_|refine zE ?_|refine zF ?_|refine zG ?_|refine zH ?_|refine zI ?_|refine zJ ?_|refine zK ?_|refine zL ?_|refine zM rfl ?_|refine zN ?_|refine zO ?_|refine zP ?_|refine zQ ?_)
    refine Zgb ?_
    first|refine Zhg (Zaw rfl) ?_|refine Zhg (Zar rfl) ?_
    refine Zh8 rfl (by kernel_rfl) (copyRows_x (L := [star blkB bl, cl g (((gs.zipIdx).map (rowV rows))).toArray 31]) hrs (by omega) hQl) rfl (by repeat (first|exact Take.nil|exact Take.all|(apply Take.cons; (next => (repeat constructor); done))|apply Take.skip)) ?_
    rintro _ _ ⟨qs, ra, rc, hqs, rfl, rfl⟩
    refine Zg2 (by repeat (first|exact App.nil|apply App.cons|(apply App.flip; first|exact App.nil|apply App.cons)|exact App.any)) ?_
    first|refine Zhg (Za2 rfl) ?_|refine Zhg (Zas rfl) ?_
    refine Zg3 ?_
    repeat (first|refine zA ?_|refine zB ?_|refine zC ?_|refine zD ?_|refine zE ?_|refine zF ?_|refine zG ?_|refine zH ?_|refine zI ?_|refine zJ ?_|refine zK ?_|refine zL ?_|refine zM rfl ?_|refine zN ?_|refine zO ?_|refine zP ?_|refine zQ ?_)
    have hqj2 : joinB qs = joinB Q := by unfold joinB; rw [hqs]
    have hqsl : qs.length = rows.length := by have := congrArg List.length hqs; simp at this; omega
    have hcl2 := code_len key (joinB qs)
    have hcl3 := code_len key (joinB Q)
    repeat (first|refine zA ?_|refine zB ?_|refine zC ?_|refine zD ?_|refine zE ?_|refine zF ?_|refine zG ?_|refine zH ?_|refine zI ?_|refine zJ ?_|refine zK ?_|refine zL ?_|refine zM rfl ?_|refine zN ?_|refine zO ?_|refine zP ?_|refine zQ ?_)
    refine Zij ([cl b2 (key.map u8b).toArray 24]) [0, 1, 2, 3, 4, 5] (.r 0 (.r 1 (.r 3 (.r 4 (.e 2 true (.e 5 true (.e 6 false (.q 7 (.q 8 (.e 9 false (.q 10 (.q 11 .nil)))))))))))) (by kernel_rfl) (by kernel_rfl) (Imp.arr (by repeat (first|exact Arr.nil|exact Arr.stop|refine Arr.cons (by repeat constructor) ?_|refine Arr.skip ?_))) ?_
    first|refine Ziy rfl rfl (by repeat constructor) (by first|rfl|omega|(rw [szL]; omega)|exact Nat.le_of_ble_eq_true rfl|(simp; done)|(simp; omega)) ?_|refine Zix rfl rfl (by repeat constructor) (by first|rfl|omega|(rw [szL]; omega)|exact Nat.le_of_ble_eq_true rfl|(simp; done)|(simp; omega)) rfl ?_
    first|refine Ziz rfl (Zaw rfl) ?_|refine Ziz rfl (Zar rfl) ?_
    first|refine Ziy rfl rfl (by repeat constructor) (by first|rfl|omega|(rw [szL]; omega)|exact Nat.le_of_ble_eq_true rfl|(simp; done)|(simp; omega)) ?_|refine Zix rfl rfl (by repeat constructor) (by first|rfl|omega|(rw [szL]; omega)|exact Nat.le_of_ble_eq_true rfl|(simp; done)|(simp; omega)) rfl ?_
    first|refine Ziz rfl (Zaw rfl) ?_|refine Ziz rfl (Zar rfl) ?_
    refine Ziq rfl ?_
    refine Zh8 rfl (by kernel_rfl) (tsum_c (L := [star blkB bl, cl g (((gs.zipIdx).map (rowV rows))).toArray 31]) key hk hrs (by omega)) rfl (by repeat (first|exact Take.nil|exact Take.all|(apply Take.cons; (next => (repeat constructor); done))|apply Take.skip)) ?_
    rintro _ _ ⟨rfl, rfl⟩
    refine Zg2 (by repeat (first|exact App.nil|apply App.cons|(apply App.flip; first|exact App.nil|apply App.cons)|exact App.any)) ?_
    refine Zg3 ⟨fun _ => Imp.arr (by repeat (first|exact Arr.nil|exact Arr.stop|refine Arr.cons (by repeat constructor) ?_|refine Arr.skip ?_)), ?_⟩
    refine Ziq rfl ?_
    refine Zh8 rfl (by kernel_rfl) (join_x (L := [own 31 1 (.slice ra qs.length rc) qs.length (qs.map (·.1)), star rowA qs]) (rs_rows (by repeat constructor) (by repeat constructor)) (by rw [hqj2]; omega)) rfl (by repeat (first|exact Take.nil|exact Take.all|(apply Take.cons; (next => (repeat constructor); done))|apply Take.skip)) ?_
    rintro _ _ ⟨ja2, jc2, rfl, rfl⟩
    refine Zg2 (by repeat (first|exact App.nil|apply App.cons|(apply App.flip; first|exact App.nil|apply App.cons)|exact App.any)) ?_
    refine Zg3 ⟨fun _ => Imp.arr (by repeat (first|exact Arr.nil|exact Arr.stop|refine Arr.cons (by repeat constructor) ?_|refine Arr.skip ?_)), ?_⟩
    refine Ziq rfl ?_
    refine Zh8 rfl (by kernel_rfl) (rsum_x (L := [own 5 1 (.slice ja2 (joinB qs).length jc2) (joinB qs).length ((joinB qs).map u8b)]) key hk (Bs.own .here) (by rw [hqj2]; omega)) rfl (by repeat (first|exact Take.nil|exact Take.all|(apply Take.cons; (next => (repeat constructor); done))|apply Take.skip)) ?_
    rintro _ _ ⟨rfl, rfl⟩
    refine Zg2 (by repeat (first|exact App.nil|apply App.cons|(apply App.flip; first|exact App.nil|apply App.cons)|exact App.any)) ?_
    refine Zg3 ⟨(fun hh => Bool.noConfusion hh), ?_⟩
    refine Zim rfl (Zm4 (n := 16) (a := code key (joinB Q)) (b := code key (joinB qs)) hcl3 hcl2 rfl rfl) ?_
    refine Zi5 70 rfl (decide_eq_true ((by rw [hqj2]))) ?_
    first|refine Zim rfl (Zau rfl) ?_|refine Zim rfl (Zar rfl) ?_
    refine Ziq rfl ?_
    first|refine Zhi rfl ?_|refine Zhj rfl ?_|(refine Zhh rfl ?_; (refine Zh8 rfl (by kernel_rfl) (works_x) rfl (by repeat (first|exact Take.nil|exact Take.all|(apply Take.cons; (next => (repeat constructor); done))|apply Take.skip)) ?_); (rintro _ _ ⟨rfl, rfl⟩); (refine Zg2 (by repeat (first|exact App.nil|apply App.cons|(apply App.flip; first|exact App.nil|apply App.cons)|exact App.any)) ?_))
    refine Zg3 ⟨(fun hh => Bool.noConfusion hh), ?_⟩
    first|refine Zim rfl (Zdz rfl rfl) ?_|refine Zim rfl (Zd0 rfl rfl) ?_|refine Zim rfl (Za8 rfl rfl) ?_|refine Zim rfl (Za9 rfl rfl) ?_|refine Zim rfl (Za6 rfl rfl) ?_|refine Zim rfl (Za7 rfl rfl) ?_
    first|refine Zim rfl (Za0 rfl) ?_|refine Zim rfl (Zas rfl) ?_
    refine Zik ?_
    repeat (first|refine zA ?_|refine zB ?_|refine zC ?_|refine zD ?_|refine zE ?_|refine zF ?_|refine zG ?_|refine zH ?_|refine zI ?_|refine zJ ?_|refine zK ?_|refine zL ?_|refine zM rfl ?_|refine zN ?_|refine zO ?_|refine zP ?_|refine zQ ?_)
    refine rx1 (Zha rfl (Zg7)) ?_
    exact ⟨_, ⟨rfl, rfl⟩, by exact Imp.arr (by repeat (first|exact Arr.nil|exact Arr.stop|refine Arr.cons (by repeat constructor) ?_|refine Arr.skip ?_))⟩
end Go.Sl

/- what comes in, opened: numbers. -/
set_option linter.unusedVariables false
namespace Go.Sl
open Go Go.ChangeShapes Go.WideShapes Go.ChangeAt Go.RowKit
theorem Imp.pur_mk {p : Prop} {M : List Asrt} (hp : p) : Imp M (pur p :: M) := fun h hs => ⟨fun _ => none, h, hp, hs, Frag.none_disj _, Frag.none_sub _, Frag.sub_refl _⟩
theorem i64_of {n : Int} (h : (Lit.int .i64 n).wf = true) : -9223372036854775808 ≤ n ∧ n ≤ 9223372036854775807 := by
  simp only [Lit.wf, Bool.and_eq_true, decide_eq_true_eq] at h
  have hlo : IntKind.i64.min = -9223372036854775808 := by decide
  have hhi : IntKind.i64.max = 9223372036854775807 := by decide
  omega
theorem u8_of {n : Int} (hw : (Lit.int .u8 n).wf = true) : ∃ b : BitVec 8, Value.int .u8 n = u8b b := byte_of hw
theorem u16_of {n : Int} (hw : (Lit.int .u16 n).wf = true) : ∃ b : BitVec 16, Value.int .u16 n = u16b b := by
  simp only [Lit.wf, Bool.and_eq_true, decide_eq_true_eq] at hw
  have hlo : IntKind.u16.min = 0 := by decide
  have hhi : IntKind.u16.max = 65535 := by decide
  refine ⟨BitVec.ofNat 16 n.toNat, ?_⟩
  show Value.int .u16 n = .int .u16 _
  rw [BitVec.toNat_ofNat]; congr 1; omega
theorem u32_of {n : Int} (hw : (Lit.int .u32 n).wf = true) : ∃ b : BitVec 32, Value.int .u32 n = u32b b := by
  simp only [Lit.wf, Bool.and_eq_true, decide_eq_true_eq] at hw
  have hlo : IntKind.u32.min = 0 := by decide
  have hhi : IntKind.u32.max = 4294967295 := by decide
  refine ⟨BitVec.ofNat 32 n.toNat, ?_⟩
  show Value.int .u32 n = .int .u32 _
  rw [BitVec.toNat_ofNat]; congr 1; omega
theorem u64_of {n : Int} (hw : (Lit.int .u64 n).wf = true) : ∃ b : BitVec 64, Value.int .u64 n = u64b b := by
  simp only [Lit.wf, Bool.and_eq_true, decide_eq_true_eq] at hw
  have hlo : IntKind.u64.min = 0 := by decide
  have hhi : IntKind.u64.max = 18446744073709551615 := by decide
  refine ⟨BitVec.ofNat 64 n.toNat, ?_⟩
  show Value.int .u64 n = .int .u64 _
  rw [BitVec.toNat_ofNat]; congr 1; omega
end Go.Sl

/- the script of TagPlays, opened. -/
set_option linter.unusedVariables false
set_option maxHeartbeats 2000000
namespace Go.Sl
open Go Go.Proofs Go.ChangeShapes Go.WideShapes Go.ChangeAt Go.RowKit
structure OpV where
  kind_ : Int
  which_ : Int
  b_V : Value
  b_ : List Byte
  key_ : List Byte
def OpV.cells (x : OpV) : List Value := [.int .i64 x.kind_] ++ ([.int .i64 x.which_] ++ ([x.b_V] ++ (x.key_.map u8b)))
structure OpVOk (w : World) (x : OpV) : Prop where
  triv : True
  kind_ : -9223372036854775808 ≤ x.kind_ ∧ x.kind_ ≤ 9223372036854775807
  which_ : -9223372036854775808 ≤ x.which_ ∧ x.which_ ≤ 9223372036854775807
  b_ : InB w x.b_V x.b_
  key_ : x.key_.length = 32
theorem OpV.len {w : World} {x : OpV} (h : OpVOk w x) : x.cells.length = 35 := by
  simp [OpV.cells, h.key_]
section
variable {H : Type} {enc : TypeId × Value → H} {w : World} {base : Nat} {spare : Nat → Bool} {held : Bool}
theorem open_OpV {n : Nat} {cs : List Value} {y : DataW H × List MemPlace} (h : DataW.trod enc Try.prog w base spare held n 45 cs = some y) (hs : Small Try.prog 45 y.1) : ∃ x : OpV, cs = x.cells ∧ OpVOk w x := by
  obtain ⟨xs, m, _, hx, hl, hn, hf⟩ := DataW.trod_struct Try.underlying45 h
  rw [show Try.prog.cellsOf 45 = 35 by kernel_rfl] at hl
  have hn : xs.length = 4 := hn
  have g : ∀ i (hi : i < xs.length), xs[i]? = some xs[i] := fun i hi => List.getElem?_eq_getElem hi
  rw [hx] at hs
  have e0 : DataW.trod enc Try.prog w base spare held m 3 ((cs.drop 0).take (Try.prog.cellsOf 3)) = some (xs[0]'(by omega)) := (hf 0 _ rfl).trans (g 0 (by omega))
  rw [show Try.prog.cellsOf 3 = 1 by kernel_rfl] at e0
  obtain ⟨n0, c0, _, wf0⟩ := DataW.trod_int Try.underlying3 e0
  have e1 : DataW.trod enc Try.prog w base spare held m 3 ((cs.drop 1).take (Try.prog.cellsOf 3)) = some (xs[1]'(by omega)) := (hf 1 _ rfl).trans (g 1 (by omega))
  rw [show Try.prog.cellsOf 3 = 1 by kernel_rfl] at e1
  obtain ⟨n1, c1, _, wf1⟩ := DataW.trod_int Try.underlying3 e1
  have e2 : DataW.trod enc Try.prog w base spare held m 31 ((cs.drop 2).take (Try.prog.cellsOf 31)) = some (xs[2]'(by omega)) := (hf 2 _ rfl).trans (g 2 (by omega))
  rw [show Try.prog.cellsOf 31 = 1 by kernel_rfl] at e2
  have hs2 := Small.part (j := 2) Try.underlying45 hs rfl (by rw [List.getElem?_map, g 2 (by omega)]; rfl)
  obtain ⟨v2, l2, c2, ok2⟩ := open_bs Try.underlying31 Try.underlying5 (by kernel_rfl) (by kernel_rfl) e2 hs2
  have e3 : DataW.trod enc Try.prog w base spare held m 24 ((cs.drop 3).take (Try.prog.cellsOf 24)) = some (xs[3]'(by omega)) := (hf 3 _ rfl).trans (g 3 (by omega))
  rw [show Try.prog.cellsOf 24 = 32 by kernel_rfl] at e3
  obtain ⟨l3, c3, ok3⟩ := open_ba e3
  refine ⟨⟨n0, n1, v2, l2, l3⟩, ?_, ⟨trivial, i64_of wf0, i64_of wf1, ok2, ok3⟩⟩
  have d0 : cs.drop 0 = (cs.drop 0).take 1 ++ cs.drop 1 := by
    have := (List.take_append_drop 1 (cs.drop 0)).symm
    rwa [List.drop_drop] at this
  have d1 : cs.drop 1 = (cs.drop 1).take 1 ++ cs.drop 2 := by
    have := (List.take_append_drop 1 (cs.drop 1)).symm
    rwa [List.drop_drop] at this
  have d2 : cs.drop 2 = (cs.drop 2).take 1 ++ cs.drop 3 := by
    have := (List.take_append_drop 1 (cs.drop 2)).symm
    rwa [List.drop_drop] at this
  have d3 : cs.drop 3 = (cs.drop 3).take 32 := by rw [List.take_of_length_le (by simp; omega)]
  show cs = _ ++ (_ ++ (_ ++ (_)))
  have dz : cs = cs.drop 0 := rfl
  rw [dz, d0, d1, d2, d3, c0, c1, c2, c3] <;> rfl
end
/-- A slice of them that comes in. -/
structure InOpV (W : World) (v : Value) (l : List OpV) : Prop where
  sl : SlW W 35 v l.length (l.flatMap OpV.cells)
  sh : ∃ a c, v = .slice a l.length c ∧ l.length ≤ c ∧ c ≤ 9223372036854775807
  el : ∀ x ∈ l, OpVOk W x
  len : l.length * 72 ≤ 140737488351232
abbrev OpVS (w : World) := {x : OpV // OpVOk w x}
theorem InOpV.sub {w : World} {v : Value} {l : List OpV} (h : InOpV w v l) : ∃ l2 : List (OpVS w), l2.map (·.1) = l ∧ SlW w 35 v l2.length (l2.flatMap fun x => x.1.cells) := by
  have e : (l.attach.map fun x => (⟨x.1, h.el x.1 x.2⟩ : OpVS w)).map (·.1) = l := by rw [List.map_map]; exact List.attach_map_subtype_val l
  refine ⟨_, e, ?_⟩
  have h2 := h.sl
  rw [← e, List.flatMap_map] at h2
  rw [List.length_map] at h2
  exact h2
section
variable {H : Type} {enc : TypeId × Value → H} {w : World} {base : Nat} {spare : Nat → Bool} {held : Bool}
theorem opens_OpV {n : Nat} {cs : List Value} {y : DataW H × List MemPlace} (h : DataW.trod enc Try.prog w base spare held n 37 cs = some y) (hs : Small Try.prog 37 y.1) : ∃ (v : Value) (l : List OpV), cs = [v] ∧ InOpV w v l := by
  obtain ⟨v, l, h1, h2, h3, h4⟩ := open_sls (encd := fun x : OpVS w => x.1.cells) (good := fun _ => True) Try.underlying37 (by kernel_rfl) (by decide) (by kernel_rfl : Try.prog.bytesOf 45 = 72) (fun x => OpV.len x.2) (fun n cs y hy hsm => by
    obtain ⟨x, hx, ok⟩ := open_OpV hy hsm
    exact ⟨⟨x, ok⟩, hx, trivial⟩) h hs
  obtain ⟨a, len, cap, h5, h6, h7⟩ := slice_shape Try.underlying37 h
  rw [h1] at h5
  simp only [List.cons.injEq, and_true] at h5
  obtain ⟨a', k', hv⟩ := h2.len
  rw [h5] at hv
  simp only [Value.slice.injEq] at hv
  obtain ⟨rfl, rfl, rfl⟩ := hv
  have e : (l.map (·.1)).flatMap OpV.cells = l.flatMap fun x => x.1.cells := by rw [List.flatMap_map]
  refine ⟨v, l.map (·.1), h1, ⟨?_, ?_, ?_, ?_⟩⟩
  · rw [e, List.length_map]; exact h2
  · rw [List.length_map]; exact ⟨_, _, h5, h6, h7⟩
  · intro x hx
    obtain ⟨z, _, rfl⟩ := List.mem_map.1 hx
    exact z.2
  · rw [List.length_map]; exact h4
end
section
variable {H : Type} {enc : TypeId × Value → H} {w : World} {base : Nat} {spare : Nat → Bool} {held : Bool}
/-- ... with its bulk. -/
theorem bulk_OpV {n : Nat} {cs : List Value} {y : DataW H × List MemPlace} (h : DataW.trod enc Try.prog w base spare held n 45 cs = some y) {x : OpV} (hc : cs = x.cells) (ok : OpVOk w x) : x.b_.length ≤ Ytiebmodokjaokab.Rows.uptoBulk y.1 := by
  obtain ⟨xs, m, _, hx, hl, hn, hf⟩ := DataW.trod_struct Try.underlying45 h
  have hn : xs.length = 4 := hn
  have e2 : DataW.trod enc Try.prog w base spare held m 31 ((cs.drop 2).take (Try.prog.cellsOf 31)) = some (xs[2]'(by omega)) := (hf 2 _ rfl).trans (List.getElem?_eq_getElem (show 2 < xs.length by omega))
  rw [show ((cs.drop 2).take (Try.prog.cellsOf 31)) = [x.b_V] by rw [show Try.prog.cellsOf 31 = 1 by kernel_rfl, hc]; rfl] at e2
  have hb := bulk_bs Try.underlying31 ok.b_ e2
  rw [hx]
  simp only [Ytiebmodokjaokab.Rows.uptoBulk]
  have : ∀ (l : List (DataW H)) (i : Nat) (hi : i < l.length), Ytiebmodokjaokab.Rows.uptoBulk l[i] ≤ Ytiebmodokjaokab.Rows.uptoBulkAll l := by
    intro l
    induction l with
    | nil => intro i hi; simp at hi
    | cons a l ih =>
      intro i hi
      simp only [Ytiebmodokjaokab.Rows.uptoBulkAll]
      cases i with
      | zero => simp only [List.getElem_cons_zero]; omega
      | succ i => have := ih i (by simpa using hi); simp only [List.getElem_cons_succ]; omega
  have h3 := this (xs.map (·.1)) 2 (by simp; omega)
  simp only [List.getElem_map] at h3
  omega
theorem opens_OpVb {n : Nat} {cs : List Value} {y : DataW H × List MemPlace} (h : DataW.trod enc Try.prog w base spare held n 37 cs = some y) (hs : Small Try.prog 37 y.1) : ∃ (v : Value) (l : List OpV), cs = [v] ∧ InOpV w v l ∧ (l.map (·.b_.length)).sum + l.length ≤ 2 * Ytiebmodokjaokab.Rows.uptoBulk y.1 := by
  obtain ⟨v, l, h1, h2, h3, h4⟩ := open_slr (encd := fun x : OpVS w => x.1.cells) (good := fun x d => x.1.b_.length ≤ Ytiebmodokjaokab.Rows.uptoBulk d) (Wt := Small Try.prog 45) Try.underlying37 (by kernel_rfl) (by decide) (fun x => OpV.len x.2) (fun n cs y hy hsm => by
    obtain ⟨x, hx, ok⟩ := open_OpV hy hsm
    exact ⟨⟨x, ok⟩, hx, bulk_OpV hy hx ok⟩) h (fun es rs hx d hd => (Small.elems Try.underlying37 (hx ▸ hs)).1 d hd)
  obtain ⟨a, len, cap, h5, h6, h7⟩ := slice_shape Try.underlying37 h
  rw [h1] at h5
  simp only [List.cons.injEq, and_true] at h5
  obtain ⟨a', k', hv⟩ := h2.len
  rw [h5] at hv
  simp only [Value.slice.injEq] at hv
  obtain ⟨rfl, rfl, rfl⟩ := hv
  have e : (l.map (·.1)).flatMap OpV.cells = l.flatMap fun x => x.1.cells := by rw [List.flatMap_map]
  refine ⟨v, l.map (·.1), h1, ⟨?_, ?_, ?_, ?_⟩, ?_⟩
  · rw [e, List.length_map]; exact h2
  · rw [List.length_map]; exact ⟨_, _, h5, h6, h7⟩
  · intro x hx
    obtain ⟨z, _, rfl⟩ := List.mem_map.1 hx
    exact z.2
  · rw [List.length_map]
    rcases h4 with rfl|⟨es, rs, hx, hl, _⟩
    · simp
    · have := (Small.elems Try.underlying37 (hx ▸ hs)).2
      rw [show Try.prog.bytesOf 45 = 72 by kernel_rfl, hl] at this
      exact this
  · rcases h4 with rfl|⟨es, rs, hx, hl, hg⟩
    · simp
    · rw [hx]
      have key : ∀ (l : List (OpVS w)) (es : List (DataW H)), es.length = l.length → (∀ i (h : i < l.length), ∃ d, es[i]? = some d ∧ l[i].1.b_.length ≤ Ytiebmodokjaokab.Rows.uptoBulk d) → ((l.map (·.1)).map (·.b_.length)).sum ≤ Ytiebmodokjaokab.Rows.uptoBulkAll es := by
        intro l
        induction l with
        | nil => intro es _ _; simp
        | cons a l ih =>
          intro es hl hg
          cases es with
          | nil => simp at hl
          | cons d es =>
            have h0 := hg 0 (by simp)
            obtain ⟨d', hd, hle⟩ := h0
            simp only [List.getElem?_cons_zero, Option.some.injEq] at hd
            subst hd
            have h1 := ih es (by simpa using hl) (fun i hi => by
              have := hg (i + 1) (by simpa using hi)
              simpa using this)
            simp only [List.getElem_cons_zero] at hle
            simp only [List.map_cons, List.sum_cons, Ytiebmodokjaokab.Rows.uptoBulkAll]
            omega
      have h5 := key l es hl hg
      have h6 := bulk_len es
      simp only [Ytiebmodokjaokab.Rows.uptoBulk]
      rw [List.length_map]
      omega
end
end Go.Sl

/- trystlaw06: a step of TagPlays, walked. -/
set_option maxHeartbeats 4000000
set_option maxRecDepth 10000
set_option linter.unusedVariables false
set_option linter.unusedSimpArgs false
namespace Go.Sl
open Go Go.Proofs
attribute [local irreducible] cl pt own old pur ex all den denOps denS xOps xC cX CX xthen xblk xcut xloop retX resX Calls PV Rd Con
attribute [local irreducible] pc writeS takeW full put1 setU setH code sumS spareL
theorem run_eqIn_ifc {P : Program} (w : World) (d : Nat) {ti tn : TypeId} {ms : Array (String × TypeId)} {i : TypeInfo} {k : IntKind} (a b : Int)
    (hi : P.underlying ti = some (.interface ms)) (hn : P.underlying tn = some (.int k)) (hinfo : P.info? tn = some i) (hcomp : i.comparable = true) :
    (Op.equalIn (d + 2) ti (.iface tn (.int k a)) (.iface tn (.int k b))).run P w = .ok (a == b) w := by
  simp [Op.equalIn, run_underlying hi, run_underlying hn, typeInfo, hinfo, hcomp]
theorem pv_eql_ifc_i {P : Program} {ρ : Env} {T T' tn : Nat} {x y : Operand} {ms : Array (String × TypeId)} {i : TypeInfo} {k : IntKind} {a b : Int} (h : P.underlying T = some (.interface ms)) (hn : P.underlying tn = some (.int k)) (hinfo : P.info? tn = some i) (hcomp : i.comparable = true)
    (hx : ev ρ x = .iface tn (.int k a)) (hy : ev ρ y = .iface tn (.int k b)) : PV P (.binOp .eql T x y T') ρ (.bool (a == b)) :=
  Zb9 hx hy (fun w => by unfold eqGuard; rfl) fun w => by
    have hr : (Op.equal T (.iface tn (.int k a)) (.iface tn (.int k b))).run P w = .ok (a == b) w := by
      unfold Op.equal Op.maxDepth; exact run_eqIn_ifc w 9998 a b h hn hinfo hcomp
    have he : binOp .eql T (.iface tn (.int k a)) (.iface tn (.int k b)) = (Op.equal T (.iface tn (.int k a)) (.iface tn (.int k b)) >>= fun b => pure (Value.bool b)) := rfl
    rw [he, run_bind P _ _ w w _ hr]; rfl
structure PairS where
  q : Nat
  key : List Byte
  all : List Byte
  a : Option Addr
  c : Nat
  pl : Bool
  nn : Bool
def pcl (P : Option Addr) (key : List Byte) (S : Value) (nn : Bool) : Array Value := ([Value.pointer P] ++ (key.map u8b ++ [S, .bool nn])).toArray
theorem pcl_size {P : Option Addr} {key : List Byte} {S : Value} {nn : Bool} (h : key.length = 32) : (pcl P key S nn).size = 35 := by simp [pcl, h]
theorem pcl_P {P : Option Addr} {key : List Byte} {S : Value} {nn : Bool} : (pcl P key S nn)[0]? = some (.pointer P) := rfl
theorem pcl_S {P : Option Addr} {key : List Byte} {S : Value} {nn : Bool} (h : key.length = 32) : (pcl P key S nn)[33]? = some S := by simp [pcl, List.getElem?_append, List.getElem?_cons, h]
theorem pcl_nn {P : Option Addr} {key : List Byte} {S : Value} {nn : Bool} (h : key.length = 32) : (pcl P key S nn)[34]? = some (.bool nn) := by simp [pcl, List.getElem?_append, List.getElem?_cons, h]
theorem pcl_key {P : Option Addr} {key : List Byte} {S : Value} {nn : Bool} (h : key.length = 32) : (pcl P key S nn).extract 1 33 = (key.map u8b).toArray := by
  apply Array.ext'
  simp only [pcl, Array.toList_extract, List.extract_eq_take_drop]
  simp [h]
theorem pcl_setP {P P' : Option Addr} {key : List Byte} {S : Value} {nn : Bool} : (pcl P key S nn).setIfInBounds 0 (.pointer P') = pcl P' key S nn := by apply Array.ext'; simp [pcl]
theorem pcl_setS {P : Option Addr} {key : List Byte} {S S' : Value} {nn : Bool} (h : key.length = 32) : (pcl P key S nn).setIfInBounds 33 S' = pcl P key S' nn := by apply Array.ext'; simp [pcl, List.set_append, List.set_cons_succ, h]
theorem pcl_setN {P : Option Addr} {key : List Byte} {S : Value} {nn nn' : Bool} (h : key.length = 32) : (pcl P key S nn).setIfInBounds 34 (.bool nn') = pcl P key S nn' := by apply Array.ext'; simp [pcl, List.set_append, List.set_cons_succ, h]
theorem pcl_setK {P : Option Addr} {key key' : List Byte} {S : Value} {nn : Bool} (h : key.length = 32) (h' : key'.length = 32) : wr (pcl P key S nn) 1 (key'.map u8b) = pcl P key' S nn := by
  apply Array.ext'
  rw [wr_toList _ _ _ (by rw [pcl_size h]; simp [h'])]
  simp [pcl, h, h']
theorem ocl_0 (o : OpV) : (o.cells.toArray)[0]? = some (.int .i64 o.kind_) := rfl
theorem ocl_1 (o : OpV) : (o.cells.toArray)[1]? = some (.int .i64 o.which_) := rfl
theorem ocl_2 (o : OpV) : (o.cells.toArray)[2]? = some o.b_V := rfl
theorem ocl_len (o : OpV) (h : o.key_.length = 32) : o.cells.length = 35 := by simp [OpV.cells, h]
theorem ocl_3 (o : OpV) (h : o.key_.length = 32) : (o.cells.toArray).extract 3 35 = (o.key_.map u8b).toArray := by
  apply Array.ext'
  simp only [OpV.cells, Array.toList_extract, List.extract_eq_take_drop]
  exact List.take_of_length_le (by simp [h])
def PairS.ptr (x : PairS) : Option Addr := if x.pl then some ⟨x.q, 0, none⟩ else none
def pq (x : PairS) : Asrt := if x.pl then cl x.q (pc (writeS (newS x.key) x.all)) 74 else pur True
/-- A pair: its struct, what it holds, its poly. -/
def pA (p : Nat) (x : PairS) : List Asrt := [cl p (pcl x.ptr x.key (.slice x.a x.all.length x.c) x.nn) 42, own 5 1 (.slice x.a x.all.length x.c) x.all.length (x.all.map u8b), pq x]
structure PairOk (x : PairS) : Prop where
  key : x.key.length = 32
  some : x.pl = true → x.nn = false
  none : x.pl = false → x.nn = true ∧ x.all = [] ∧ x.a = .none ∧ x.c = 0
attribute [local irreducible] pcl OpV.cells
theorem step_some {L : List Asrt} {p q : Nat} {key all : List Byte} {a : Option Addr} {c : Nat} (hk : key.length = 32) (o : OpV) (ho : o.key_.length = 32) (hb : Bs L o.b_V o.b_) (hbl : o.b_.length ≤ 140737488351232) (hal : (all ++ o.b_).length ≤ 140737488351232) (oc : Array Value) (hoc : oc = o.cells.toArray) :
    Con Try.prog 19 [.pointer (some ⟨p, 0, none⟩), .agg oc] (cl p (pcl (some ⟨q, 0, none⟩) key (.slice a all.length c) false) 42 :: own 5 1 (.slice a all.length c) all.length (all.map u8b) :: cl q (pc (writeS (newS key) all)) 74 :: L)
      (fun r M => r = .bool true ∧ ∃ x, PairOk x ∧ x.all.length ≤ all.length + o.b_.length ∧ pA p x ++ L = M) := by
  subst hoc
  have hsz := pcl_size (P := some ⟨q, 0, none⟩) (S := .slice a all.length c) (nn := false) hk
  have hok : PolyOk (writeS (newS key) all) := writeS_ok (newS_ok key)
  have hocl := ocl_len o ho
  refine Con.get (fun w0 w F H => (hb.imp (Imp.arr (by repeat (first|exact Arr.nil|exact Arr.stop|refine Arr.cons (by repeat constructor) ?_|refine Arr.skip ?_)))).sh _ _ _ H) ?_
  rintro ⟨oa, oca, hov, hoc1, hoc2⟩
  rw [hov] at hb
  refine fn_x Try.func19 rfl rfl rfl Try.mixed (by kernel_rfl) ?_
  intro w0
  repeat (first|refine zA ?_|refine zB ?_|refine zC ?_|refine zD ?_|refine zE ?_|refine zF ?_|refine zG ?_|refine zH ?_|refine zI ?_|refine zJ ?_|refine zK ?_|refine zL ?_|refine zM rfl ?_|refine zN ?_|refine zO ?_|refine zP ?_|refine zQ ?_)
  refine Zgb ?_
  refine Zh5 rfl ?_; intro b3
  first|refine Zhg (Za0 rfl) ?_|refine Zhg (Zas rfl) ?_
  refine Zg3 ?_
  repeat (first|refine zA ?_|refine zB ?_|refine zC ?_|refine zD ?_|refine zE ?_|refine zF ?_|refine zG ?_|refine zH ?_|refine zI ?_|refine zJ ?_|refine zK ?_|refine zL ?_|refine zM rfl ?_|refine zN ?_|refine zO ?_|refine zP ?_|refine zQ ?_)
  refine Zgb ?_
  first|refine Zhg (Zl8 rfl) ?_|refine Zhg (Zce rfl) ?_
  refine Zhp rfl (by repeat constructor) (ocl_0 o) ?_
  refine Zg3 ?_
  repeat (first|refine zA ?_|refine zB ?_|refine zC ?_|refine zD ?_|refine zE ?_|refine zF ?_|refine zG ?_|refine zH ?_|refine zI ?_|refine zJ ?_|refine zK ?_|refine zL ?_|refine zM rfl ?_|refine zN ?_|refine zO ?_|refine zP ?_|refine zQ ?_)
  refine Zgb ?_
  first|refine Zhg (Zmj (b := 1) rfl rfl) ?_|refine Zhg (Zbr rfl rfl) ?_
  first|refine Zhg (Za0 rfl) ?_|refine Zhg (Zas rfl) ?_
  refine Zg3 ?_
  repeat (first|refine zA ?_|refine zB ?_|refine zC ?_|refine zD ?_|refine zE ?_|refine zF ?_|refine zG ?_|refine zH ?_|refine zI ?_|refine zJ ?_|refine zK ?_|refine zL ?_|refine zM rfl ?_|refine zN ?_|refine zO ?_|refine zP ?_|refine zQ ?_)
  refine Zgg rfl (fun h1 => ?_) (fun h1 => ?_)
  · repeat (first|refine zA ?_|refine zB ?_|refine zC ?_|refine zD ?_|refine zE ?_|refine zF ?_|refine zG ?_|refine zH ?_|refine zI ?_|refine zJ ?_|refine zK ?_|refine zL ?_|refine zM rfl ?_|refine zN ?_|refine zO ?_|refine zP ?_|refine zQ ?_)
    refine Zgb ?_
    first|refine Zhg (Zl8 rfl) ?_|refine Zhg (Zce rfl) ?_
    refine Zhp rfl (by repeat constructor) ((ocl_2 o).trans (by rw [hov])) ?_
    refine Zh8 rfl (by kernel_rfl) (spare_x (L := L) hb (by omega)) rfl (by repeat (first|exact Take.nil|exact Take.all|(apply Take.cons; (next => (repeat constructor); done))|apply Take.skip)) ?_
    rintro _ _ ⟨g, rfl, rfl⟩
    refine Zg2 (by repeat (first|exact App.nil|apply App.cons|(apply App.flip; first|exact App.nil|apply App.cons)|exact App.any)) ?_
    first|refine Zhg (Za2 rfl) ?_|refine Zhg (Zas rfl) ?_
    refine Zg3 ?_
    repeat (first|refine zA ?_|refine zB ?_|refine zC ?_|refine zD ?_|refine zE ?_|refine zF ?_|refine zG ?_|refine zH ?_|refine zI ?_|refine zJ ?_|refine zK ?_|refine zL ?_|refine zM rfl ?_|refine zN ?_|refine zO ?_|refine zP ?_|refine zQ ?_)
    have hsp := spareL_len o.b_
    repeat (first|refine zA ?_|refine zB ?_|refine zC ?_|refine zD ?_|refine zE ?_|refine zF ?_|refine zG ?_|refine zH ?_|refine zI ?_|refine zJ ?_|refine zK ?_|refine zL ?_|refine zM rfl ?_|refine zN ?_|refine zO ?_|refine zP ?_|refine zQ ?_)
    refine Zgb ?_
    first|refine Zhg (Zav rfl) ?_|refine Zhg (Zar rfl) ?_
    refine Zhg (Zba rfl) ?_
    first|refine Zhg (Zl8 rfl) ?_|refine Zhg (Zce rfl) ?_
    refine Zhp rfl (by repeat constructor) (pcl_P) ?_
    first|refine Zhg (Zaw rfl) ?_|refine Zhg (Zar rfl) ?_
    refine Zh8 rfl (by kernel_rfl) (write_b (L := [cl g ((spareL o.b_).map u8b).toArray 5]) _ hok (bs_spare .here (by omega))) rfl (by repeat (first|exact Take.nil|exact Take.all|(apply Take.cons; (next => (repeat constructor); done))|apply Take.skip)) ?_
    rintro _ _ ⟨rfl, rfl⟩
    refine Zg2 (by repeat (first|exact App.nil|apply App.cons|(apply App.flip; first|exact App.nil|apply App.cons)|exact App.any)) ?_
    first|refine Zhg (Zmm rfl) ?_|refine Zhg (Zar rfl) ?_
    refine Zhg (Zco rfl rfl) ?_
    refine Zhg (Zco rfl rfl) ?_
    first|refine Zhg (Zaz rfl) ?_|refine Zhg (Zas rfl) ?_
    first|refine Zhg (Zms rfl) ?_|refine Zhg (Zas rfl) ?_
    refine Zg3 ?_
    repeat (first|refine zA ?_|refine zB ?_|refine zC ?_|refine zD ?_|refine zE ?_|refine zF ?_|refine zG ?_|refine zH ?_|refine zI ?_|refine zJ ?_|refine zK ?_|refine zL ?_|refine zM rfl ?_|refine zN ?_|refine zO ?_|refine zP ?_|refine zQ ?_)
    rw [← writeS_append]
    repeat (first|refine zA ?_|refine zB ?_|refine zC ?_|refine zD ?_|refine zE ?_|refine zF ?_|refine zG ?_|refine zH ?_|refine zI ?_|refine zJ ?_|refine zK ?_|refine zL ?_|refine zM rfl ?_|refine zN ?_|refine zO ?_|refine zP ?_|refine zQ ?_)
    refine Zgb ?_
    first|refine Zhg (Zav rfl) ?_|refine Zhg (Zar rfl) ?_
    refine Zhg (Zba rfl) ?_
    first|refine Zhg (Zl8 rfl) ?_|refine Zhg (Zce rfl) ?_
    refine Zhp rfl (by repeat constructor) (pcl_nn hk) ?_
    refine Zg3 ?_
    repeat (first|refine zA ?_|refine zB ?_|refine zC ?_|refine zD ?_|refine zE ?_|refine zF ?_|refine zG ?_|refine zH ?_|refine zI ?_|refine zJ ?_|refine zK ?_|refine zL ?_|refine zM rfl ?_|refine zN ?_|refine zO ?_|refine zP ?_|refine zQ ?_)
    refine Zgf rfl ?_
    repeat (first|refine zA ?_|refine zB ?_|refine zC ?_|refine zD ?_|refine zE ?_|refine zF ?_|refine zG ?_|refine zH ?_|refine zI ?_|refine zJ ?_|refine zK ?_|refine zL ?_|refine zM rfl ?_|refine zN ?_|refine zO ?_|refine zP ?_|refine zQ ?_)
    refine Zgb ?_
    first|refine Zhg (Zat rfl) ?_|refine Zhg (Zar rfl) ?_
    first|refine Zhg (Zl8 rfl) ?_|refine Zhg (Zce rfl) ?_
    refine Zhp rfl (by repeat constructor) ((ocl_2 o).trans (by rw [hov])) ?_
    first|refine Zhg (Zcr rfl) ?_|refine Zhg (Zct) ?_|refine Zhg (Zcu rfl) ?_
    first|refine Zhg (Zmk rfl rfl) ?_|refine Zhg (Zbs rfl rfl) ?_
    refine Zhn 47 rfl (decide_eq_false ((fun h => h rfl))) ?_
    first|refine Zhg (Zau rfl) ?_|refine Zhg (Zar rfl) ?_
    first|refine Zhi rfl ?_|refine Zhj rfl ?_|(refine Zhh rfl ?_; (first|refine Zhg (Zmp rfl) ?_|refine Zhg (Zar rfl) ?_))
    first|refine Zhi rfl ?_|refine Zhj rfl ?_|(refine Zhh rfl ?_; (refine Zhg (pv_neq_ifc_nil Try.underlying50 rfl) ?_))
    first|refine Zhg (Zdz rfl rfl) ?_|refine Zhg (Zd0 rfl rfl) ?_|refine Zhg (Za8 rfl rfl) ?_|refine Zhg (Za9 rfl rfl) ?_|refine Zhg (Za6 rfl rfl) ?_|refine Zhg (Za7 rfl rfl) ?_
    first|refine Zhg (Zau rfl) ?_|refine Zhg (Zar rfl) ?_
    first|refine Zhi rfl ?_|refine Zhj rfl ?_|(refine Zhh rfl ?_; (first|refine Zhg (Zaw rfl) ?_|refine Zhg (Zar rfl) ?_))
    first|refine Zhi rfl ?_|refine Zhj rfl ?_|(refine Zhh rfl ?_; (first|refine Zhg (Zl8 rfl) ?_|refine Zhg (Zce rfl) ?_))
    first|refine Zhi rfl ?_|refine Zhj rfl ?_|(refine Zhh rfl ?_; (refine Zhp rfl (by repeat constructor) ((ocl_2 o).trans (by rw [hov])) ?_))
    first|refine Zhi rfl ?_|refine Zhj rfl ?_|(refine Zhh rfl ?_; (refine Zh8 rfl (by kernel_rfl) (kept_x (L := cl g ((spareL o.b_).map u8b).toArray 5 :: L) .here (hb.imp Imp.tail) (by omega)) rfl (by repeat (first|exact Take.nil|exact Take.all|(apply Take.cons; (next => (repeat constructor); done))|apply Take.skip)) ?_); (rintro _ _ ⟨rfl, rfl⟩); (refine Zg2 (by repeat (first|exact App.nil|apply App.cons|(apply App.flip; first|exact App.nil|apply App.cons)|exact App.any)) ?_))
    first|refine Zhi rfl ?_|refine Zhj rfl ?_|(refine Zhh rfl ?_; (first|refine Zhg (Zb1 rfl) ?_|refine Zhg (Zb0 rfl) ?_))
    refine Zhn 57 rfl (rfl) ?_
    first|refine Zhg (Zdz rfl rfl) ?_|refine Zhg (Zd0 rfl rfl) ?_|refine Zhg (Za8 rfl rfl) ?_|refine Zhg (Za9 rfl rfl) ?_|refine Zhg (Za6 rfl rfl) ?_|refine Zhg (Za7 rfl rfl) ?_
    refine Zg3 ?_
    repeat (first|refine zA ?_|refine zB ?_|refine zC ?_|refine zD ?_|refine zE ?_|refine zF ?_|refine zG ?_|refine zH ?_|refine zI ?_|refine zJ ?_|refine zK ?_|refine zL ?_|refine zM rfl ?_|refine zN ?_|refine zO ?_|refine zP ?_|refine zQ ?_)
    refine Zgf rfl ?_
    repeat (first|refine zA ?_|refine zB ?_|refine zC ?_|refine zD ?_|refine zE ?_|refine zF ?_|refine zG ?_|refine zH ?_|refine zI ?_|refine zJ ?_|refine zK ?_|refine zL ?_|refine zM rfl ?_|refine zN ?_|refine zO ?_|refine zP ?_|refine zQ ?_)
    refine Zij (_) [0, 1, 2, 3, 4, 5, 6, 7] (.r 0 (.r 1 (.r 2 (.r 3 (.r 4 (.r 5 (.r 6 (.e 7 true (.q 8 (.q 9 (.e 10 false .nil))))))))))) (by kernel_rfl) (by kernel_rfl) (Imp.refl _) ?_
    first|refine Ziz rfl (Zav rfl) ?_|refine Ziz rfl (Zar rfl) ?_
    first|refine Ziz rfl (Zav rfl) ?_|refine Ziz rfl (Zar rfl) ?_
    refine Ziz rfl (Zba rfl) ?_
    first|refine Ziz rfl (Zl8 rfl) ?_|refine Ziz rfl (Zce rfl) ?_
    refine Ziv rfl rfl (by repeat constructor) (pcl_S hk) ?_
    first|refine Ziz rfl (Zl8 rfl) ?_|refine Ziz rfl (Zce rfl) ?_
    refine Ziv rfl rfl (by repeat constructor) ((ocl_2 o).trans (by rw [hov])) ?_
    refine Ziq rfl ?_
    refine Zh8 rfl (by kernel_rfl) (two_x (L := own 5 1 (.slice a all.length c) all.length (all.map u8b) :: L) (Bs.own .here) (hb.imp Imp.tail) (by omega)) rfl (by repeat (first|exact Take.nil|exact Take.all|(apply Take.cons; (next => (repeat constructor); done))|apply Take.skip)) ?_
    rintro _ _ ⟨ta, tc, rfl, rfl⟩
    refine Zg2 (by repeat (first|exact App.nil|apply App.cons|(apply App.flip; first|exact App.nil|apply App.cons)|exact App.any)) ?_
    refine Zg3 ⟨fun _ => Imp.arr (by repeat (first|exact Arr.nil|exact Arr.stop|refine Arr.cons (by repeat constructor) ?_|refine Arr.skip ?_)), ?_⟩
    refine Zim rfl (Zba rfl) ?_
    first|refine Zim rfl (Zl8 rfl) ?_|refine Zim rfl (Zce rfl) ?_
    refine Ziq rfl ?_
    refine Zhw rfl rfl (by repeat constructor) (by first|rfl|omega|(rw [szL]; omega)|exact Nat.le_of_ble_eq_true rfl|(simp; done)|(simp; omega)) (pcl_setS hk) ?_
    refine Zg3 ⟨(fun hh => Bool.noConfusion hh), ?_⟩
    refine Zik ?_
    repeat (first|refine zA ?_|refine zB ?_|refine zC ?_|refine zD ?_|refine zE ?_|refine zF ?_|refine zG ?_|refine zH ?_|refine zI ?_|refine zJ ?_|refine zK ?_|refine zL ?_|refine zM rfl ?_|refine zN ?_|refine zO ?_|refine zP ?_|refine zQ ?_)
    refine Zgb ?_
    first|refine Zhg (Zaz rfl) ?_|refine Zhg (Zas rfl) ?_
    refine Zg3 ?_
    repeat (first|refine zA ?_|refine zB ?_|refine zC ?_|refine zD ?_|refine zE ?_|refine zF ?_|refine zG ?_|refine zH ?_|refine zI ?_|refine zJ ?_|refine zK ?_|refine zL ?_|refine zM rfl ?_|refine zN ?_|refine zO ?_|refine zP ?_|refine zQ ?_)
    refine Zgo [(8, 8), (69, 82)] (by kernel_rfl) (fun s : Nat × List Byte => s.1 ≤ o.b_.length ∧ s.2.length = o.b_.length + 80)
      (fun s => cl g (s.2.map u8b).toArray 5 :: cl p (pcl (some ⟨q, 0, none⟩) key (.slice ta (all ++ o.b_).length tc) false) 42 :: own 5 1 (.slice ta (all ++ o.b_).length tc) (all ++ o.b_).length ((all ++ o.b_).map u8b) :: cl q (pc (writeS (newS key) (all ++ o.b_))) 74 :: L)
      (fun s => [(8, nv s.1)]) (fun s => o.b_.length - s.1) (0, spareL o.b_) ⟨by omega, hsp⟩ (by exact Imp.arr (by repeat (first|exact Arr.nil|exact Arr.stop|refine Arr.cons (by repeat constructor) ?_|refine Arr.skip ?_))) ⟨rfl, trivial⟩ ?_
    rintro ⟨k, ct⟩ u ⟨hk2, hct⟩
    dsimp only at hk2 hct ⊢
    repeat (first|refine zA ?_|refine zB ?_|refine zC ?_|refine zD ?_|refine zE ?_|refine zF ?_|refine zG ?_|refine zH ?_|refine zI ?_|refine zJ ?_|refine zK ?_|refine zL ?_|refine zM rfl ?_|refine zN ?_|refine zO ?_|refine zP ?_|refine zQ ?_)
    refine Zgb ?_
    first|refine Zhg (Zat rfl) ?_|refine Zhg (Zar rfl) ?_
    first|refine Zhg (Zaw rfl) ?_|refine Zhg (Zar rfl) ?_
    first|refine Zhg (Zcr rfl) ?_|refine Zhg (Zct) ?_|refine Zhg (Zcu rfl) ?_
    first|refine Zhg (Zmf rfl rfl) ?_|refine Zhg (Zbn rfl rfl) ?_
    refine Zg3 ?_
    repeat (first|refine zA ?_|refine zB ?_|refine zC ?_|refine zD ?_|refine zE ?_|refine zF ?_|refine zG ?_|refine zH ?_|refine zI ?_|refine zJ ?_|refine zK ?_|refine zL ?_|refine zM rfl ?_|refine zN ?_|refine zO ?_|refine zP ?_|refine zQ ?_)
    refine Zgg rfl (fun hB => ?_) (fun hB => ?_)
    · have hkc : k < ct.length := by omega
      repeat (first|refine zA ?_|refine zB ?_|refine zC ?_|refine zD ?_|refine zE ?_|refine zF ?_|refine zG ?_|refine zH ?_|refine zI ?_|refine zJ ?_|refine zK ?_|refine zL ?_|refine zM rfl ?_|refine zN ?_|refine zO ?_|refine zP ?_|refine zQ ?_)
      refine Zgb ?_
      first|refine Zhg (Zaw rfl) ?_|refine Zhg (Zar rfl) ?_
      first|refine Zhg (Zat rfl) ?_|refine Zhg (Zar rfl) ?_
      first|refine Zhg (Zaw rfl) ?_|refine Zhg (Zar rfl) ?_
      first|refine Zhg (Zat rfl) ?_|refine Zhg (Zar rfl) ?_
      first|refine Zhg (Zl4 rfl rfl) ?_|refine Zhg (Zl1 rfl rfl) ?_
      refine Zhp rfl (by repeat constructor) (getL (f := u8b) (l := ct) hkc) ?_
      refine Zhg (Zje (y := 90#8) rfl rfl) ?_
      first|refine Zhg (Zl4 rfl rfl) ?_|refine Zhg (Zl1 rfl rfl) ?_
      refine Zht rfl rfl (by repeat constructor) (by first|rfl|omega|(rw [szL]; omega)|exact Nat.le_of_ble_eq_true rfl|(simp; done)|(simp; omega)) (setL (f := u8b) (l := ct)) ?_
      refine Zg3 ?_
      repeat (first|refine zA ?_|refine zB ?_|refine zC ?_|refine zD ?_|refine zE ?_|refine zF ?_|refine zG ?_|refine zH ?_|refine zI ?_|refine zJ ?_|refine zK ?_|refine zL ?_|refine zM rfl ?_|refine zN ?_|refine zO ?_|refine zP ?_|refine zQ ?_)
      refine Zgb ?_
      first|refine Zhg (Zat rfl) ?_|refine Zhg (Zar rfl) ?_
      first|refine Zhg (Zma (b := 1) rfl rfl) ?_|refine Zhg (Zbg rfl rfl) ?_
      first|refine Zhg (Zaz rfl) ?_|refine Zhg (Zas rfl) ?_
      refine Zg3 ?_
      repeat (first|refine zA ?_|refine zB ?_|refine zC ?_|refine zD ?_|refine zE ?_|refine zF ?_|refine zG ?_|refine zH ?_|refine zI ?_|refine zJ ?_|refine zK ?_|refine zL ?_|refine zM rfl ?_|refine zN ?_|refine zO ?_|refine zP ?_|refine zQ ?_)
      exact Zgl (k + 1, ct.set k (ct[k] ^^^ 90#8)) (by first|omega|(dsimp only; omega)|(simp only []; omega)) ⟨by dsimp only; omega, by simp [hct]⟩ (by exact Imp.arr (by repeat (first|exact Arr.nil|exact Arr.stop|refine Arr.cons (by repeat constructor) ?_|refine Arr.skip ?_))) ⟨rfl, trivial⟩
    · repeat (first|refine zA ?_|refine zB ?_|refine zC ?_|refine zD ?_|refine zE ?_|refine zF ?_|refine zG ?_|refine zH ?_|refine zI ?_|refine zJ ?_|refine zK ?_|refine zL ?_|refine zM rfl ?_|refine zN ?_|refine zO ?_|refine zP ?_|refine zQ ?_)
      refine Zgb ?_
      first|refine Zhg (Za0 rfl) ?_|refine Zhg (Zas rfl) ?_
      refine Zg3 ?_
      repeat (first|refine zA ?_|refine zB ?_|refine zC ?_|refine zD ?_|refine zE ?_|refine zF ?_|refine zG ?_|refine zH ?_|refine zI ?_|refine zJ ?_|refine zK ?_|refine zL ?_|refine zM rfl ?_|refine zN ?_|refine zO ?_|refine zP ?_|refine zQ ?_)
      refine rx1 (Zha rfl (Zg7)) ?_
      exact ⟨_, ⟨rfl, ⟨q, key, all ++ o.b_, ta, tc, true, false⟩, ⟨hk, fun _ => rfl, fun h => Bool.noConfusion h⟩, by simp, rfl⟩, by show Imp _ (_ :: _ :: _ :: L); exact Imp.arr (by repeat (first|exact Arr.nil|exact Arr.stop|refine Arr.cons (by repeat constructor) ?_|refine Arr.skip ?_))⟩
  · repeat (first|refine zA ?_|refine zB ?_|refine zC ?_|refine zD ?_|refine zE ?_|refine zF ?_|refine zG ?_|refine zH ?_|refine zI ?_|refine zJ ?_|refine zK ?_|refine zL ?_|refine zM rfl ?_|refine zN ?_|refine zO ?_|refine zP ?_|refine zQ ?_)
    refine Zgb ?_
    first|refine Zhg (Zmj (b := 2) rfl rfl) ?_|refine Zhg (Zbr rfl rfl) ?_
    first|refine Zhg (Za0 rfl) ?_|refine Zhg (Zas rfl) ?_
    refine Zg3 ?_
    repeat (first|refine zA ?_|refine zB ?_|refine zC ?_|refine zD ?_|refine zE ?_|refine zF ?_|refine zG ?_|refine zH ?_|refine zI ?_|refine zJ ?_|refine zK ?_|refine zL ?_|refine zM rfl ?_|refine zN ?_|refine zO ?_|refine zP ?_|refine zQ ?_)
    refine Zgg rfl (fun h2 => ?_) (fun h2 => ?_)
    · have hcl := code_len key all
      have hcs : sumS (writeS (newS key) all) = code key all := by unfold code; rfl
      have hsl : (sumS (writeS (newS key) all)).length = 16 := by rw [hcs]; exact hcl
      repeat (first|refine zA ?_|refine zB ?_|refine zC ?_|refine zD ?_|refine zE ?_|refine zF ?_|refine zG ?_|refine zH ?_|refine zI ?_|refine zJ ?_|refine zK ?_|refine zL ?_|refine zM rfl ?_|refine zN ?_|refine zO ?_|refine zP ?_|refine zQ ?_)
      refine Zgb ?_
      first|refine Zhg (Zav rfl) ?_|refine Zhg (Zar rfl) ?_
      refine Zhg (Zba rfl) ?_
      first|refine Zhg (Zl8 rfl) ?_|refine Zhg (Zce rfl) ?_
      refine Zhp rfl (by repeat constructor) (pcl_P) ?_
      refine Zh8 rfl (by kernel_rfl) (sum_c _ hok) rfl (by repeat (first|exact Take.nil|exact Take.all|(apply Take.cons; (next => (repeat constructor); done))|apply Take.skip)) ?_
      rintro _ _ ⟨rfl, rfl⟩
      refine Zg2 (by repeat (first|exact App.nil|apply App.cons|(apply App.flip; first|exact App.nil|apply App.cons)|exact App.any)) ?_
      refine Zhz (cs := ((List.replicate 16 0#8).map u8b).toArray) rfl ?_; intro b9
      first|refine Zhy rfl rfl (by repeat constructor) (by first|rfl|omega|(rw [szL]; omega)|exact Nat.le_of_ble_eq_true rfl|(simp; done)|(simp; omega)) (by first|rfl|exact oneM_u8 _|exact oneL_u8 _|(simp [oneC]; done)) (by first|rfl|omega|(rw [szL]; omega)|exact Nat.le_of_ble_eq_true rfl|(simp; done)|(simp; omega)) ?_|refine Zhx rfl rfl (by repeat constructor) (by first|rfl|omega|(rw [szL]; omega)|exact Nat.le_of_ble_eq_true rfl|(simp; done)|(simp; omega)) (by first|rfl|exact oneM_u8 _|exact oneL_u8 _|(simp [oneC]; done)) (by first|rfl|omega|(rw [szL]; omega)|exact Nat.le_of_ble_eq_true rfl|(simp; done)|(simp; omega)) rfl ?_
      refine Zg3 ?_
      repeat (first|refine zA ?_|refine zB ?_|refine zC ?_|refine zD ?_|refine zE ?_|refine zF ?_|refine zG ?_|refine zH ?_|refine zI ?_|refine zJ ?_|refine zK ?_|refine zL ?_|refine zM rfl ?_|refine zN ?_|refine zO ?_|refine zP ?_|refine zQ ?_)
      rw [hcs]
      repeat (first|refine zA ?_|refine zB ?_|refine zC ?_|refine zD ?_|refine zE ?_|refine zF ?_|refine zG ?_|refine zH ?_|refine zI ?_|refine zJ ?_|refine zK ?_|refine zL ?_|refine zM rfl ?_|refine zN ?_|refine zO ?_|refine zP ?_|refine zQ ?_)
      refine Zgb ?_
      first|refine Zhg (Zav rfl) ?_|refine Zhg (Zar rfl) ?_
      refine Zhg (Zba rfl) ?_
      first|refine Zhg (Zl8 rfl) ?_|refine Zhg (Zce rfl) ?_
      refine Zhp rfl (by repeat constructor) (pcl_nn hk) ?_
      refine Zg3 ?_
      repeat (first|refine zA ?_|refine zB ?_|refine zC ?_|refine zD ?_|refine zE ?_|refine zF ?_|refine zG ?_|refine zH ?_|refine zI ?_|refine zJ ?_|refine zK ?_|refine zL ?_|refine zM rfl ?_|refine zN ?_|refine zO ?_|refine zP ?_|refine zQ ?_)
      refine Zgf rfl ?_
      repeat (first|refine zA ?_|refine zB ?_|refine zC ?_|refine zD ?_|refine zE ?_|refine zF ?_|refine zG ?_|refine zH ?_|refine zI ?_|refine zJ ?_|refine zK ?_|refine zL ?_|refine zM rfl ?_|refine zN ?_|refine zO ?_|refine zP ?_|refine zQ ?_)
      refine Zij ([cl b9 ((code key all).map u8b).toArray 28, cl p (pcl (some ⟨q, 0, none⟩) key (.slice a all.length c) false) 42]) [0, 1, 2, 3, 4, 5, 6, 7, 8, 9] (.r 0 (.r 1 (.r 2 (.r 3 (.r 4 (.r 5 (.r 6 (.r 7 (.r 8 (.e 9 true (.q 10 (.q 11 .nil)))))))))))) (by kernel_rfl) (by kernel_rfl) (Imp.arr (by repeat (first|exact Arr.nil|exact Arr.stop|refine Arr.cons (by repeat constructor) ?_|refine Arr.skip ?_))) ?_
      first|refine Ziy rfl rfl (by repeat constructor) (by first|rfl|omega|(rw [szL]; omega)|exact Nat.le_of_ble_eq_true rfl|(simp; done)|(simp; omega)) ?_|refine Zix rfl rfl (by repeat constructor) (by first|rfl|omega|(rw [szL]; omega)|exact Nat.le_of_ble_eq_true rfl|(simp; done)|(simp; omega)) rfl ?_
      first|refine Ziz rfl (Zav rfl) ?_|refine Ziz rfl (Zar rfl) ?_
      refine Ziz rfl (Zba rfl) ?_
      first|refine Ziz rfl (Zl8 rfl) ?_|refine Ziz rfl (Zce rfl) ?_
      first|refine Ziy rfl rfl (by repeat constructor) (by first|rfl|omega|(rw [szL]; omega)|exact Nat.le_of_ble_eq_true rfl|(simp; done)|(simp; omega)) ?_|refine Zix rfl rfl (by repeat constructor) (by first|rfl|omega|(rw [szL]; omega)|exact Nat.le_of_ble_eq_true rfl|(simp; done)|(simp; omega)) (pcl_key hk) ?_
      first|refine Ziz rfl (Zav rfl) ?_|refine Ziz rfl (Zar rfl) ?_
      refine Ziz rfl (Zba rfl) ?_
      first|refine Ziz rfl (Zl8 rfl) ?_|refine Ziz rfl (Zce rfl) ?_
      refine Ziv rfl rfl (by repeat constructor) (pcl_S hk) ?_
      refine Ziq rfl ?_
      refine Zh8 rfl (by kernel_rfl) (rsum_x (L := [own 5 1 (.slice a all.length c) all.length (all.map u8b)]) key hk (Bs.own .here) (by simp at hal; omega)) rfl (by repeat (first|exact Take.nil|exact Take.all|(apply Take.cons; (next => (repeat constructor); done))|apply Take.skip)) ?_
      rintro _ _ ⟨rfl, rfl⟩
      refine Zg2 (by repeat (first|exact App.nil|apply App.cons|(apply App.flip; first|exact App.nil|apply App.cons)|exact App.any)) ?_
      refine Zg3 ⟨fun _ => Imp.arr (by repeat (first|exact Arr.nil|exact Arr.stop|refine Arr.cons (by repeat constructor) ?_|refine Arr.skip ?_)), ?_⟩
      refine Zim rfl (Zm4 (n := 16) (a := code key all) (b := code key all) hcl hcl rfl rfl) ?_
      refine Zi5 107 rfl (decide_eq_true (rfl)) ?_
      first|refine Zim rfl (Za0 rfl) ?_|refine Zim rfl (Zas rfl) ?_
      refine Zik ?_
      repeat (first|refine zA ?_|refine zB ?_|refine zC ?_|refine zD ?_|refine zE ?_|refine zF ?_|refine zG ?_|refine zH ?_|refine zI ?_|refine zJ ?_|refine zK ?_|refine zL ?_|refine zM rfl ?_|refine zN ?_|refine zO ?_|refine zP ?_|refine zQ ?_)
      refine rx1 (Zha rfl (Zg7)) ?_
      exact ⟨_, ⟨rfl, ⟨q, key, all, a, c, true, false⟩, ⟨hk, fun _ => rfl, fun h => Bool.noConfusion h⟩, by simp, rfl⟩, by show Imp _ (_ :: _ :: _ :: L); exact Imp.arr (by repeat (first|exact Arr.nil|exact Arr.stop|refine Arr.cons (by repeat constructor) ?_|refine Arr.skip ?_))⟩
    · repeat (first|refine zA ?_|refine zB ?_|refine zC ?_|refine zD ?_|refine zE ?_|refine zF ?_|refine zG ?_|refine zH ?_|refine zI ?_|refine zJ ?_|refine zK ?_|refine zL ?_|refine zM rfl ?_|refine zN ?_|refine zO ?_|refine zP ?_|refine zQ ?_)
      refine Zgb ?_
      first|refine Zhg (Zmj (b := 3) rfl rfl) ?_|refine Zhg (Zbr rfl rfl) ?_
      first|refine Zhg (Za0 rfl) ?_|refine Zhg (Zas rfl) ?_
      refine Zg3 ?_
      repeat (first|refine zA ?_|refine zB ?_|refine zC ?_|refine zD ?_|refine zE ?_|refine zF ?_|refine zG ?_|refine zH ?_|refine zI ?_|refine zJ ?_|refine zK ?_|refine zL ?_|refine zM rfl ?_|refine zN ?_|refine zO ?_|refine zP ?_|refine zQ ?_)
      refine Zgg rfl (fun h3 => ?_) (fun h3 => ?_)
      · have hsz2 := pcl_size (S := .slice a all.length c) (nn := false) (P := some ⟨q, 0, none⟩) ho
        repeat (first|refine zA ?_|refine zB ?_|refine zC ?_|refine zD ?_|refine zE ?_|refine zF ?_|refine zG ?_|refine zH ?_|refine zI ?_|refine zJ ?_|refine zK ?_|refine zL ?_|refine zM rfl ?_|refine zN ?_|refine zO ?_|refine zP ?_|refine zQ ?_)
        refine Zgb ?_
        first|refine Zhg (Zav rfl) ?_|refine Zhg (Zar rfl) ?_
        first|refine Zhg (Zl8 rfl) ?_|refine Zhg (Zce rfl) ?_
        first|refine Zhr rfl (by repeat constructor) (by first|rfl|omega|(rw [szL]; omega)|exact Nat.le_of_ble_eq_true rfl|(simp; done)|(simp; omega)) ?_|refine Zhq rfl (by repeat constructor) (by first|rfl|omega|(rw [szL]; omega)|exact Nat.le_of_ble_eq_true rfl|(simp; done)|(simp; omega)) (ocl_3 o ho) ?_
        refine Zh8 rfl (by kernel_rfl) (new_c o.key_ ho) rfl (by repeat (first|exact Take.nil|exact Take.all|(apply Take.cons; (next => (repeat constructor); done))|apply Take.skip)) ?_
        rintro _ _ ⟨q2, rfl, rfl⟩
        refine Zg2 (by repeat (first|exact App.nil|apply App.cons|(apply App.flip; first|exact App.nil|apply App.cons)|exact App.any)) ?_
        refine Zhg (Zba rfl) ?_
        first|refine Zhg (Zl8 rfl) ?_|refine Zhg (Zce rfl) ?_
        refine Zhv rfl rfl (by repeat constructor) (by first|rfl|omega|(rw [szL]; omega)|exact Nat.le_of_ble_eq_true rfl|(simp; done)|(simp; omega)) (pcl_setP) ?_
        refine Zg3 ?_
        repeat (first|refine zA ?_|refine zB ?_|refine zC ?_|refine zD ?_|refine zE ?_|refine zF ?_|refine zG ?_|refine zH ?_|refine zI ?_|refine zJ ?_|refine zK ?_|refine zL ?_|refine zM rfl ?_|refine zN ?_|refine zO ?_|refine zP ?_|refine zQ ?_)
        have hsz3 := pcl_size (S := .slice a all.length c) (nn := false) (P := some ⟨q2, 0, none⟩) hk
        repeat (first|refine zA ?_|refine zB ?_|refine zC ?_|refine zD ?_|refine zE ?_|refine zF ?_|refine zG ?_|refine zH ?_|refine zI ?_|refine zJ ?_|refine zK ?_|refine zL ?_|refine zM rfl ?_|refine zN ?_|refine zO ?_|refine zP ?_|refine zQ ?_)
        refine Zgb ?_
        first|refine Zhg (Zav rfl) ?_|refine Zhg (Zar rfl) ?_
        first|refine Zhg (Zl8 rfl) ?_|refine Zhg (Zce rfl) ?_
        first|refine Zhr rfl (by repeat constructor) (by first|rfl|omega|(rw [szL]; omega)|exact Nat.le_of_ble_eq_true rfl|(simp; done)|(simp; omega)) ?_|refine Zhq rfl (by repeat constructor) (by first|rfl|omega|(rw [szL]; omega)|exact Nat.le_of_ble_eq_true rfl|(simp; done)|(simp; omega)) (ocl_3 o ho) ?_
        refine Zhg (Zba rfl) ?_
        first|refine Zhg (Zl8 rfl) ?_|refine Zhg (Zce rfl) ?_
        first|refine Zhy rfl rfl (by repeat constructor) (by first|rfl|omega|(rw [szL]; omega)|exact Nat.le_of_ble_eq_true rfl|(simp; done)|(simp; omega)) (by first|rfl|exact oneM_u8 _|exact oneL_u8 _|(simp [oneC]; done)) (by first|rfl|omega|(rw [szL]; omega)|exact Nat.le_of_ble_eq_true rfl|(simp; done)|(simp; omega)) ?_|refine Zhx rfl rfl (by repeat constructor) (by first|rfl|omega|(rw [szL]; omega)|exact Nat.le_of_ble_eq_true rfl|(simp; done)|(simp; omega)) (by first|rfl|exact oneM_u8 _|exact oneL_u8 _|(simp [oneC]; done)) (by first|rfl|omega|(rw [szL]; omega)|exact Nat.le_of_ble_eq_true rfl|(simp; done)|(simp; omega)) (pcl_setK hk ho) ?_
        refine Zg3 ?_
        repeat (first|refine zA ?_|refine zB ?_|refine zC ?_|refine zD ?_|refine zE ?_|refine zF ?_|refine zG ?_|refine zH ?_|refine zI ?_|refine zJ ?_|refine zK ?_|refine zL ?_|refine zM rfl ?_|refine zN ?_|refine zO ?_|refine zP ?_|refine zQ ?_)
        have hsz4 := pcl_size (S := .slice a all.length c) (nn := false) (P := some ⟨q2, 0, none⟩) ho
        repeat (first|refine zA ?_|refine zB ?_|refine zC ?_|refine zD ?_|refine zE ?_|refine zF ?_|refine zG ?_|refine zH ?_|refine zI ?_|refine zJ ?_|refine zK ?_|refine zL ?_|refine zM rfl ?_|refine zN ?_|refine zO ?_|refine zP ?_|refine zQ ?_)
        refine Zgb ?_
        first|refine Zhg (Zav rfl) ?_|refine Zhg (Zar rfl) ?_
        refine Zhg (Zba rfl) ?_
        first|refine Zhg (Zl8 rfl) ?_|refine Zhg (Zce rfl) ?_
        refine Zhw rfl rfl (by repeat constructor) (by first|rfl|omega|(rw [szL]; omega)|exact Nat.le_of_ble_eq_true rfl|(simp; done)|(simp; omega)) (pcl_setS ho) ?_
        refine Zg3 ?_
        repeat (first|refine zA ?_|refine zB ?_|refine zC ?_|refine zD ?_|refine zE ?_|refine zF ?_|refine zG ?_|refine zH ?_|refine zI ?_|refine zJ ?_|refine zK ?_|refine zL ?_|refine zM rfl ?_|refine zN ?_|refine zO ?_|refine zP ?_|refine zQ ?_)
        have hsz5 := pcl_size (S := .slice none 0 0) (nn := false) (P := some ⟨q2, 0, none⟩) ho
        repeat (first|refine zA ?_|refine zB ?_|refine zC ?_|refine zD ?_|refine zE ?_|refine zF ?_|refine zG ?_|refine zH ?_|refine zI ?_|refine zJ ?_|refine zK ?_|refine zL ?_|refine zM rfl ?_|refine zN ?_|refine zO ?_|refine zP ?_|refine zQ ?_)
        refine Zgb ?_
        first|refine Zhg (Zav rfl) ?_|refine Zhg (Zar rfl) ?_
        refine Zhg (Zba rfl) ?_
        first|refine Zhg (Zl8 rfl) ?_|refine Zhg (Zce rfl) ?_
        refine Zhu rfl rfl (by repeat constructor) (by first|rfl|omega|(rw [szL]; omega)|exact Nat.le_of_ble_eq_true rfl|(simp; done)|(simp; omega)) (pcl_setN ho) ?_
        refine Zg3 ?_
        repeat (first|refine zA ?_|refine zB ?_|refine zC ?_|refine zD ?_|refine zE ?_|refine zF ?_|refine zG ?_|refine zH ?_|refine zI ?_|refine zJ ?_|refine zK ?_|refine zL ?_|refine zM rfl ?_|refine zN ?_|refine zO ?_|refine zP ?_|refine zQ ?_)
        refine Zgb ?_
        first|refine Zhg (Zav rfl) ?_|refine Zhg (Zar rfl) ?_
        refine Zhg (Zba rfl) ?_
        first|refine Zhg (Zl8 rfl) ?_|refine Zhg (Zce rfl) ?_
        refine Zhp rfl (by repeat constructor) (pcl_P) ?_
        refine Zhg (Zcb rfl rfl) ?_
        first|refine Zhg (Za0 rfl) ?_|refine Zhg (Zas rfl) ?_
        refine Zg3 ?_
        repeat (first|refine zA ?_|refine zB ?_|refine zC ?_|refine zD ?_|refine zE ?_|refine zF ?_|refine zG ?_|refine zH ?_|refine zI ?_|refine zJ ?_|refine zK ?_|refine zL ?_|refine zM rfl ?_|refine zN ?_|refine zO ?_|refine zP ?_|refine zQ ?_)
        refine rx1 (Zha rfl (Zg7)) ?_
        refine ⟨_, ⟨rfl, ⟨q2, o.key_, [], none, 0, true, false⟩, ⟨ho, fun _ => rfl, fun h => Bool.noConfusion h⟩, by simp, rfl⟩, ?_⟩
        show Imp _ (_ :: own 5 1 (.slice none 0 0) 0 [] :: cl q2 (pc (writeS (newS o.key_) [])) 74 :: L)
        rw [writeS_nil]
        refine Imp.trans (Imp.arr (N := cl p (pcl (some ⟨q2, 0, none⟩) o.key_ (.slice none 0 0) false) 42 :: cl q2 (pc (newS o.key_)) 74 :: L) (by repeat (first|exact Arr.nil|exact Arr.stop|refine Arr.cons (by repeat constructor) ?_|refine Arr.skip ?_))) (Imp.cons Imp.own_nil)
      · repeat (first|refine zA ?_|refine zB ?_|refine zC ?_|refine zD ?_|refine zE ?_|refine zF ?_|refine zG ?_|refine zH ?_|refine zI ?_|refine zJ ?_|refine zK ?_|refine zL ?_|refine zM rfl ?_|refine zN ?_|refine zO ?_|refine zP ?_|refine zQ ?_)
        refine Zgb ?_
        first|refine Zhg (Zmj (b := 4) rfl rfl) ?_|refine Zhg (Zbr rfl rfl) ?_
        first|refine Zhg (Za0 rfl) ?_|refine Zhg (Zas rfl) ?_
        refine Zg3 ?_
        repeat (first|refine zA ?_|refine zB ?_|refine zC ?_|refine zD ?_|refine zE ?_|refine zF ?_|refine zG ?_|refine zH ?_|refine zI ?_|refine zJ ?_|refine zK ?_|refine zL ?_|refine zM rfl ?_|refine zN ?_|refine zO ?_|refine zP ?_|refine zQ ?_)
        refine Zgg rfl (fun h4 => ?_) (fun h4 => ?_)
        · repeat (first|refine zA ?_|refine zB ?_|refine zC ?_|refine zD ?_|refine zE ?_|refine zF ?_|refine zG ?_|refine zH ?_|refine zI ?_|refine zJ ?_|refine zK ?_|refine zL ?_|refine zM rfl ?_|refine zN ?_|refine zO ?_|refine zP ?_|refine zQ ?_)
          refine Zgb ?_
          first|refine Zhg (Zav rfl) ?_|refine Zhg (Zar rfl) ?_
          refine Zhg (Zba rfl) ?_
          first|refine Zhg (Zl8 rfl) ?_|refine Zhg (Zce rfl) ?_
          refine Zhv rfl rfl (by repeat constructor) (by first|rfl|omega|(rw [szL]; omega)|exact Nat.le_of_ble_eq_true rfl|(simp; done)|(simp; omega)) (pcl_setP) ?_
          refine Zg3 ?_
          repeat (first|refine zA ?_|refine zB ?_|refine zC ?_|refine zD ?_|refine zE ?_|refine zF ?_|refine zG ?_|refine zH ?_|refine zI ?_|refine zJ ?_|refine zK ?_|refine zL ?_|refine zM rfl ?_|refine zN ?_|refine zO ?_|refine zP ?_|refine zQ ?_)
          have hsz4 := pcl_size (S := .slice a all.length c) (nn := false) (P := none) hk
          repeat (first|refine zA ?_|refine zB ?_|refine zC ?_|refine zD ?_|refine zE ?_|refine zF ?_|refine zG ?_|refine zH ?_|refine zI ?_|refine zJ ?_|refine zK ?_|refine zL ?_|refine zM rfl ?_|refine zN ?_|refine zO ?_|refine zP ?_|refine zQ ?_)
          refine Zgb ?_
          first|refine Zhg (Zav rfl) ?_|refine Zhg (Zar rfl) ?_
          refine Zhg (Zba rfl) ?_
          first|refine Zhg (Zl8 rfl) ?_|refine Zhg (Zce rfl) ?_
          refine Zhw rfl rfl (by repeat constructor) (by first|rfl|omega|(rw [szL]; omega)|exact Nat.le_of_ble_eq_true rfl|(simp; done)|(simp; omega)) (pcl_setS hk) ?_
          refine Zg3 ?_
          repeat (first|refine zA ?_|refine zB ?_|refine zC ?_|refine zD ?_|refine zE ?_|refine zF ?_|refine zG ?_|refine zH ?_|refine zI ?_|refine zJ ?_|refine zK ?_|refine zL ?_|refine zM rfl ?_|refine zN ?_|refine zO ?_|refine zP ?_|refine zQ ?_)
          have hsz5 := pcl_size (S := .slice none 0 0) (nn := false) (P := none) hk
          repeat (first|refine zA ?_|refine zB ?_|refine zC ?_|refine zD ?_|refine zE ?_|refine zF ?_|refine zG ?_|refine zH ?_|refine zI ?_|refine zJ ?_|refine zK ?_|refine zL ?_|refine zM rfl ?_|refine zN ?_|refine zO ?_|refine zP ?_|refine zQ ?_)
          refine Zgb ?_
          first|refine Zhg (Zav rfl) ?_|refine Zhg (Zar rfl) ?_
          refine Zhg (Zba rfl) ?_
          first|refine Zhg (Zl8 rfl) ?_|refine Zhg (Zce rfl) ?_
          refine Zhu rfl rfl (by repeat constructor) (by first|rfl|omega|(rw [szL]; omega)|exact Nat.le_of_ble_eq_true rfl|(simp; done)|(simp; omega)) (pcl_setN hk) ?_
          refine Zg3 ?_
          repeat (first|refine zA ?_|refine zB ?_|refine zC ?_|refine zD ?_|refine zE ?_|refine zF ?_|refine zG ?_|refine zH ?_|refine zI ?_|refine zJ ?_|refine zK ?_|refine zL ?_|refine zM rfl ?_|refine zN ?_|refine zO ?_|refine zP ?_|refine zQ ?_)
          refine Zgb ?_
          first|refine Zhg (Za0 rfl) ?_|refine Zhg (Zas rfl) ?_
          refine Zg3 ?_
          repeat (first|refine zA ?_|refine zB ?_|refine zC ?_|refine zD ?_|refine zE ?_|refine zF ?_|refine zG ?_|refine zH ?_|refine zI ?_|refine zJ ?_|refine zK ?_|refine zL ?_|refine zM rfl ?_|refine zN ?_|refine zO ?_|refine zP ?_|refine zQ ?_)
          refine rx1 (Zha rfl (Zg7)) ?_
          refine ⟨_, ⟨rfl, ⟨q, key, [], none, 0, false, true⟩, ⟨hk, fun h => Bool.noConfusion h, fun _ => ⟨rfl, rfl, rfl, rfl⟩⟩, by simp, rfl⟩, ?_⟩
          show Imp _ (_ :: own 5 1 (.slice none 0 0) 0 [] :: pur True :: L)
          refine Imp.trans (Imp.arr (N := cl p (pcl none key (.slice none 0 0) true) 42 :: L) (by repeat (first|exact Arr.nil|exact Arr.stop|refine Arr.cons (by repeat constructor) ?_|refine Arr.skip ?_))) (Imp.cons (Imp.own_nil.trans (Imp.cons (Imp.pur_mk trivial))))
        · repeat (first|refine zA ?_|refine zB ?_|refine zC ?_|refine zD ?_|refine zE ?_|refine zF ?_|refine zG ?_|refine zH ?_|refine zI ?_|refine zJ ?_|refine zK ?_|refine zL ?_|refine zM rfl ?_|refine zN ?_|refine zO ?_|refine zP ?_|refine zQ ?_)
          refine Zgb ?_
          first|refine Zhg (Za0 rfl) ?_|refine Zhg (Zas rfl) ?_
          refine Zg3 ?_
          repeat (first|refine zA ?_|refine zB ?_|refine zC ?_|refine zD ?_|refine zE ?_|refine zF ?_|refine zG ?_|refine zH ?_|refine zI ?_|refine zJ ?_|refine zK ?_|refine zL ?_|refine zM rfl ?_|refine zN ?_|refine zO ?_|refine zP ?_|refine zQ ?_)
          refine rx1 (Zha rfl (Zg7)) ?_
          exact ⟨_, ⟨rfl, ⟨q, key, all, a, c, true, false⟩, ⟨hk, fun _ => rfl, fun h => Bool.noConfusion h⟩, by simp, rfl⟩, by show Imp _ (_ :: _ :: _ :: L); exact Imp.arr (by repeat (first|exact Arr.nil|exact Arr.stop|refine Arr.cons (by repeat constructor) ?_|refine Arr.skip ?_))⟩
theorem step_none {L : List Asrt} {p : Nat} {key : List Byte} {nn : Bool} (hk : key.length = 32) (o : OpV) (ho : o.key_.length = 32) (hb : Bs L o.b_V o.b_) (hbl : o.b_.length ≤ 140737488351232) (oc : Array Value) (hoc : oc = o.cells.toArray) (hn : nn = true ∨ o.kind_ = 3) :
    Con Try.prog 19 [.pointer (some ⟨p, 0, none⟩), .agg oc] (cl p (pcl none key (.slice none 0 0) nn) 42 :: L)
      (fun r M => r = .bool true ∧ ∃ x, PairOk x ∧ x.all.length ≤ o.b_.length ∧ pA p x ++ L = M) := by
  subst hoc
  have hsz := pcl_size (P := none) (S := .slice none 0 0) (nn := nn) hk
  have hocl := ocl_len o ho
  refine Con.get (fun w0 w F H => (hb.imp (Imp.arr (by repeat (first|exact Arr.nil|exact Arr.stop|refine Arr.cons (by repeat constructor) ?_|refine Arr.skip ?_)))).sh _ _ _ H) ?_
  rintro ⟨oa, oca, hov, hoc1, hoc2⟩
  rw [hov] at hb
  have fin : Imp (cl p (pcl none key (.slice none 0 0) true) 42 :: L) (pA p ⟨p, key, [], none, 0, false, true⟩ ++ L) :=
    Imp.cons (Imp.own_nil.trans (Imp.cons (Imp.pur_mk trivial)))
  have okf : PairOk ⟨p, key, [], none, 0, false, true⟩ := ⟨hk, fun h => Bool.noConfusion h, fun _ => ⟨rfl, rfl, rfl, rfl⟩⟩
  refine fn_x Try.func19 rfl rfl rfl Try.mixed (by kernel_rfl) ?_
  intro w0
  repeat (first|refine zA ?_|refine zB ?_|refine zC ?_|refine zD ?_|refine zE ?_|refine zF ?_|refine zG ?_|refine zH ?_|refine zI ?_|refine zJ ?_|refine zK ?_|refine zL ?_|refine zM rfl ?_|refine zN ?_|refine zO ?_|refine zP ?_|refine zQ ?_)
  refine Zgb ?_
  refine Zh5 rfl ?_; intro b3
  first|refine Zhg (Za0 rfl) ?_|refine Zhg (Zas rfl) ?_
  refine Zg3 ?_
  repeat (first|refine zA ?_|refine zB ?_|refine zC ?_|refine zD ?_|refine zE ?_|refine zF ?_|refine zG ?_|refine zH ?_|refine zI ?_|refine zJ ?_|refine zK ?_|refine zL ?_|refine zM rfl ?_|refine zN ?_|refine zO ?_|refine zP ?_|refine zQ ?_)
  refine Zgb ?_
  first|refine Zhg (Zl8 rfl) ?_|refine Zhg (Zce rfl) ?_
  refine Zhp rfl (by repeat constructor) (ocl_0 o) ?_
  refine Zg3 ?_
  repeat (first|refine zA ?_|refine zB ?_|refine zC ?_|refine zD ?_|refine zE ?_|refine zF ?_|refine zG ?_|refine zH ?_|refine zI ?_|refine zJ ?_|refine zK ?_|refine zL ?_|refine zM rfl ?_|refine zN ?_|refine zO ?_|refine zP ?_|refine zQ ?_)
  refine Zgb ?_
  first|refine Zhg (Zmj (b := 1) rfl rfl) ?_|refine Zhg (Zbr rfl rfl) ?_
  first|refine Zhg (Za0 rfl) ?_|refine Zhg (Zas rfl) ?_
  refine Zg3 ?_
  repeat (first|refine zA ?_|refine zB ?_|refine zC ?_|refine zD ?_|refine zE ?_|refine zF ?_|refine zG ?_|refine zH ?_|refine zI ?_|refine zJ ?_|refine zK ?_|refine zL ?_|refine zM rfl ?_|refine zN ?_|refine zO ?_|refine zP ?_|refine zQ ?_)
  refine Zgg rfl (fun h1 => ?_) (fun h1 => ?_)
  · have hnt : nn = true := by
      rcases hn with h|h
      · exact h
      · exact absurd (h1.symm.trans h) (by decide)
    subst hnt
    repeat (first|refine zA ?_|refine zB ?_|refine zC ?_|refine zD ?_|refine zE ?_|refine zF ?_|refine zG ?_|refine zH ?_|refine zI ?_|refine zJ ?_|refine zK ?_|refine zL ?_|refine zM rfl ?_|refine zN ?_|refine zO ?_|refine zP ?_|refine zQ ?_)
    refine Zgb ?_
    first|refine Zhg (Zl8 rfl) ?_|refine Zhg (Zce rfl) ?_
    refine Zhp rfl (by repeat constructor) ((ocl_2 o).trans (by rw [hov])) ?_
    refine Zh8 rfl (by kernel_rfl) (spare_x (L := L) hb (by omega)) rfl (by repeat (first|exact Take.nil|exact Take.all|(apply Take.cons; (next => (repeat constructor); done))|apply Take.skip)) ?_
    rintro _ _ ⟨g, rfl, rfl⟩
    refine Zg2 (by repeat (first|exact App.nil|apply App.cons|(apply App.flip; first|exact App.nil|apply App.cons)|exact App.any)) ?_
    first|refine Zhg (Za2 rfl) ?_|refine Zhg (Zas rfl) ?_
    refine Zg3 ?_
    repeat (first|refine zA ?_|refine zB ?_|refine zC ?_|refine zD ?_|refine zE ?_|refine zF ?_|refine zG ?_|refine zH ?_|refine zI ?_|refine zJ ?_|refine zK ?_|refine zL ?_|refine zM rfl ?_|refine zN ?_|refine zO ?_|refine zP ?_|refine zQ ?_)
    have hsp := spareL_len o.b_
    repeat (first|refine zA ?_|refine zB ?_|refine zC ?_|refine zD ?_|refine zE ?_|refine zF ?_|refine zG ?_|refine zH ?_|refine zI ?_|refine zJ ?_|refine zK ?_|refine zL ?_|refine zM rfl ?_|refine zN ?_|refine zO ?_|refine zP ?_|refine zQ ?_)
    refine Zgb ?_
    first|refine Zhg (Zav rfl) ?_|refine Zhg (Zar rfl) ?_
    refine Zhg (Zba rfl) ?_
    first|refine Zhg (Zl8 rfl) ?_|refine Zhg (Zce rfl) ?_
    refine Zhp rfl (by repeat constructor) (pcl_P) ?_
    first|refine Zhg (Zaw rfl) ?_|refine Zhg (Zar rfl) ?_
    refine Zh8 rfl (by kernel_rfl) (write_nil_c _ (some ⟨g, 0, none⟩) o.b_.length (o.b_.length + 80) rfl) rfl (by repeat (first|exact Take.nil|exact Take.all|(apply Take.cons; (next => (repeat constructor); done))|apply Take.skip)) ?_
    rintro _ _ ⟨rfl, rfl⟩
    refine Zg2 (by repeat (first|exact App.nil|apply App.cons|(apply App.flip; first|exact App.nil|apply App.cons)|exact App.any)) ?_
    first|refine Zhg (Zmm rfl) ?_|refine Zhg (Zar rfl) ?_
    refine Zhg (Zco rfl rfl) ?_
    refine Zhg (Zco rfl rfl) ?_
    first|refine Zhg (Zaz rfl) ?_|refine Zhg (Zas rfl) ?_
    first|refine Zhg (Zms rfl) ?_|refine Zhg (Zas rfl) ?_
    refine Zg3 ?_
    repeat (first|refine zA ?_|refine zB ?_|refine zC ?_|refine zD ?_|refine zE ?_|refine zF ?_|refine zG ?_|refine zH ?_|refine zI ?_|refine zJ ?_|refine zK ?_|refine zL ?_|refine zM rfl ?_|refine zN ?_|refine zO ?_|refine zP ?_|refine zQ ?_)
    refine Zgb ?_
    first|refine Zhg (Zav rfl) ?_|refine Zhg (Zar rfl) ?_
    refine Zhg (Zba rfl) ?_
    first|refine Zhg (Zl8 rfl) ?_|refine Zhg (Zce rfl) ?_
    refine Zhp rfl (by repeat constructor) (pcl_nn hk) ?_
    refine Zg3 ?_
    repeat (first|refine zA ?_|refine zB ?_|refine zC ?_|refine zD ?_|refine zE ?_|refine zF ?_|refine zG ?_|refine zH ?_|refine zI ?_|refine zJ ?_|refine zK ?_|refine zL ?_|refine zM rfl ?_|refine zN ?_|refine zO ?_|refine zP ?_|refine zQ ?_)
    refine Zge rfl ?_
    repeat (first|refine zA ?_|refine zB ?_|refine zC ?_|refine zD ?_|refine zE ?_|refine zF ?_|refine zG ?_|refine zH ?_|refine zI ?_|refine zJ ?_|refine zK ?_|refine zL ?_|refine zM rfl ?_|refine zN ?_|refine zO ?_|refine zP ?_|refine zQ ?_)
    refine Zgb ?_
    first|refine Zhg (Zat rfl) ?_|refine Zhg (Zar rfl) ?_
    first|refine Zhg (Zmj (b := 0) rfl rfl) ?_|refine Zhg (Zbr rfl rfl) ?_
    refine Zhm 31 rfl (rfl) ?_
    first|refine Zhg (Zau rfl) ?_|refine Zhg (Zar rfl) ?_
    first|refine Zhi rfl ?_|refine Zhj rfl ?_|(refine Zhh rfl ?_; (first|refine Zhg (Zmp rfl) ?_|refine Zhg (Zar rfl) ?_))
    first|refine Zhi rfl ?_|refine Zhj rfl ?_|(refine Zhh rfl ?_; (refine Zhg (Zm2 rfl) ?_))
    first|refine Zhi rfl ?_|refine Zhj rfl ?_|(refine Zhh rfl ?_; (refine Zhg (pv_eql_ifc_i Try.underlying50 Try.underlying68 rfl rfl rfl rfl) ?_))
    refine Zhm 35 rfl (rfl) ?_
    first|refine Zhg (Zdz rfl rfl) ?_|refine Zhg (Zd0 rfl rfl) ?_|refine Zhg (Za8 rfl rfl) ?_|refine Zhg (Za9 rfl rfl) ?_|refine Zhg (Za6 rfl rfl) ?_|refine Zhg (Za7 rfl rfl) ?_
    first|refine Zhg (Zau rfl) ?_|refine Zhg (Zar rfl) ?_
    first|refine Zhi rfl ?_|refine Zhj rfl ?_|(refine Zhh rfl ?_; (first|refine Zhg (Zaw rfl) ?_|refine Zhg (Zar rfl) ?_))
    first|refine Zhi rfl ?_|refine Zhj rfl ?_|(refine Zhh rfl ?_; (first|refine Zhg (Zl8 rfl) ?_|refine Zhg (Zce rfl) ?_))
    first|refine Zhi rfl ?_|refine Zhj rfl ?_|(refine Zhh rfl ?_; (refine Zhp rfl (by repeat constructor) ((ocl_2 o).trans (by rw [hov])) ?_))
    first|refine Zhi rfl ?_|refine Zhj rfl ?_|(refine Zhh rfl ?_; (refine Zh8 rfl (by kernel_rfl) (kept_x (L := cl g ((spareL o.b_).map u8b).toArray 5 :: L) .here (hb.imp Imp.tail) (by omega)) rfl (by repeat (first|exact Take.nil|exact Take.all|(apply Take.cons; (next => (repeat constructor); done))|apply Take.skip)) ?_); (rintro _ _ ⟨rfl, rfl⟩); (refine Zg2 (by repeat (first|exact App.nil|apply App.cons|(apply App.flip; first|exact App.nil|apply App.cons)|exact App.any)) ?_))
    refine Zhm 41 rfl (rfl) ?_
    first|refine Zhg (Zdz rfl rfl) ?_|refine Zhg (Zd0 rfl rfl) ?_|refine Zhg (Za8 rfl rfl) ?_|refine Zhg (Za9 rfl rfl) ?_|refine Zhg (Za6 rfl rfl) ?_|refine Zhg (Za7 rfl rfl) ?_
    first|refine Zhg (Za0 rfl) ?_|refine Zhg (Zas rfl) ?_
    refine Zg3 ?_
    repeat (first|refine zA ?_|refine zB ?_|refine zC ?_|refine zD ?_|refine zE ?_|refine zF ?_|refine zG ?_|refine zH ?_|refine zI ?_|refine zJ ?_|refine zK ?_|refine zL ?_|refine zM rfl ?_|refine zN ?_|refine zO ?_|refine zP ?_|refine zQ ?_)
    refine rx1 (Zha rfl (Zg7)) ?_
    exact ⟨_, ⟨rfl, _, okf, by simp, rfl⟩, (Imp.arr (N := cl p (pcl none key (.slice none 0 0) true) 42 :: L) (by repeat (first|exact Arr.nil|exact Arr.stop|refine Arr.cons (by repeat constructor) ?_|refine Arr.skip ?_))).trans fin⟩
  · repeat (first|refine zA ?_|refine zB ?_|refine zC ?_|refine zD ?_|refine zE ?_|refine zF ?_|refine zG ?_|refine zH ?_|refine zI ?_|refine zJ ?_|refine zK ?_|refine zL ?_|refine zM rfl ?_|refine zN ?_|refine zO ?_|refine zP ?_|refine zQ ?_)
    refine Zgb ?_
    first|refine Zhg (Zmj (b := 2) rfl rfl) ?_|refine Zhg (Zbr rfl rfl) ?_
    first|refine Zhg (Za0 rfl) ?_|refine Zhg (Zas rfl) ?_
    refine Zg3 ?_
    repeat (first|refine zA ?_|refine zB ?_|refine zC ?_|refine zD ?_|refine zE ?_|refine zF ?_|refine zG ?_|refine zH ?_|refine zI ?_|refine zJ ?_|refine zK ?_|refine zL ?_|refine zM rfl ?_|refine zN ?_|refine zO ?_|refine zP ?_|refine zQ ?_)
    refine Zgg rfl (fun h2 => ?_) (fun h2 => ?_)
    · have hnt : nn = true := by
        rcases hn with h|h
        · exact h
        · exact absurd (h2.symm.trans h) (by decide)
      subst hnt
      repeat (first|refine zA ?_|refine zB ?_|refine zC ?_|refine zD ?_|refine zE ?_|refine zF ?_|refine zG ?_|refine zH ?_|refine zI ?_|refine zJ ?_|refine zK ?_|refine zL ?_|refine zM rfl ?_|refine zN ?_|refine zO ?_|refine zP ?_|refine zQ ?_)
      refine Zgb ?_
      first|refine Zhg (Zav rfl) ?_|refine Zhg (Zar rfl) ?_
      refine Zhg (Zba rfl) ?_
      first|refine Zhg (Zl8 rfl) ?_|refine Zhg (Zce rfl) ?_
      refine Zhp rfl (by repeat constructor) (pcl_P) ?_
      refine Zh8 rfl (by kernel_rfl) (sum_nil_c) rfl (by repeat (first|exact Take.nil|exact Take.all|(apply Take.cons; (next => (repeat constructor); done))|apply Take.skip)) ?_
      rintro _ _ ⟨rfl, rfl⟩
      refine Zg2 (by repeat (first|exact App.nil|apply App.cons|(apply App.flip; first|exact App.nil|apply App.cons)|exact App.any)) ?_
      refine Zhz (cs := ((List.replicate 16 0#8).map u8b).toArray) rfl ?_; intro b9
      first|refine Zhy rfl rfl (by repeat constructor) (by first|rfl|omega|(rw [szL]; omega)|exact Nat.le_of_ble_eq_true rfl|(simp; done)|(simp; omega)) (by first|rfl|exact oneM_u8 _|exact oneL_u8 _|(simp [oneC]; done)) (by first|rfl|omega|(rw [szL]; omega)|exact Nat.le_of_ble_eq_true rfl|(simp; done)|(simp; omega)) ?_|refine Zhx rfl rfl (by repeat constructor) (by first|rfl|omega|(rw [szL]; omega)|exact Nat.le_of_ble_eq_true rfl|(simp; done)|(simp; omega)) (by first|rfl|exact oneM_u8 _|exact oneL_u8 _|(simp [oneC]; done)) (by first|rfl|omega|(rw [szL]; omega)|exact Nat.le_of_ble_eq_true rfl|(simp; done)|(simp; omega)) rfl ?_
      refine Zg3 ?_
      repeat (first|refine zA ?_|refine zB ?_|refine zC ?_|refine zD ?_|refine zE ?_|refine zF ?_|refine zG ?_|refine zH ?_|refine zI ?_|refine zJ ?_|refine zK ?_|refine zL ?_|refine zM rfl ?_|refine zN ?_|refine zO ?_|refine zP ?_|refine zQ ?_)
      refine Zgb ?_
      first|refine Zhg (Zav rfl) ?_|refine Zhg (Zar rfl) ?_
      refine Zhg (Zba rfl) ?_
      first|refine Zhg (Zl8 rfl) ?_|refine Zhg (Zce rfl) ?_
      refine Zhp rfl (by repeat constructor) (pcl_nn hk) ?_
      refine Zg3 ?_
      repeat (first|refine zA ?_|refine zB ?_|refine zC ?_|refine zD ?_|refine zE ?_|refine zF ?_|refine zG ?_|refine zH ?_|refine zI ?_|refine zJ ?_|refine zK ?_|refine zL ?_|refine zM rfl ?_|refine zN ?_|refine zO ?_|refine zP ?_|refine zQ ?_)
      refine Zge rfl ?_
      repeat (first|refine zA ?_|refine zB ?_|refine zC ?_|refine zD ?_|refine zE ?_|refine zF ?_|refine zG ?_|refine zH ?_|refine zI ?_|refine zJ ?_|refine zK ?_|refine zL ?_|refine zM rfl ?_|refine zN ?_|refine zO ?_|refine zP ?_|refine zQ ?_)
      refine Zgb ?_
      first|refine Zhr rfl (by repeat constructor) (by first|rfl|omega|(rw [szL]; omega)|exact Nat.le_of_ble_eq_true rfl|(simp; done)|(simp; omega)) ?_|refine Zhq rfl (by repeat constructor) (by first|rfl|omega|(rw [szL]; omega)|exact Nat.le_of_ble_eq_true rfl|(simp; done)|(simp; omega)) rfl ?_
      refine Zhg (Zdn (cs := #[u8b 0#8, u8b 0#8, u8b 0#8, u8b 0#8, u8b 0#8, u8b 0#8, u8b 0#8, u8b 0#8, u8b 0#8, u8b 0#8, u8b 0#8, u8b 0#8, u8b 0#8, u8b 0#8, u8b 0#8, u8b 0#8]) (by kernel_rfl)) ?_
      refine Zhg (Zm4 (n := 16) (a := List.replicate 16 0#8) (b := List.replicate 16 0#8) rfl rfl rfl rfl) ?_
      refine Zhm 96 rfl (decide_eq_true (rfl)) ?_
      first|refine Zhg (Za0 rfl) ?_|refine Zhg (Zas rfl) ?_
      refine Zg3 ?_
      repeat (first|refine zA ?_|refine zB ?_|refine zC ?_|refine zD ?_|refine zE ?_|refine zF ?_|refine zG ?_|refine zH ?_|refine zI ?_|refine zJ ?_|refine zK ?_|refine zL ?_|refine zM rfl ?_|refine zN ?_|refine zO ?_|refine zP ?_|refine zQ ?_)
      refine rx1 (Zha rfl (Zg7)) ?_
      exact ⟨_, ⟨rfl, _, okf, by simp, rfl⟩, (Imp.arr (N := cl p (pcl none key (.slice none 0 0) true) 42 :: L) (by repeat (first|exact Arr.nil|exact Arr.stop|refine Arr.cons (by repeat constructor) ?_|refine Arr.skip ?_))).trans fin⟩
    · repeat (first|refine zA ?_|refine zB ?_|refine zC ?_|refine zD ?_|refine zE ?_|refine zF ?_|refine zG ?_|refine zH ?_|refine zI ?_|refine zJ ?_|refine zK ?_|refine zL ?_|refine zM rfl ?_|refine zN ?_|refine zO ?_|refine zP ?_|refine zQ ?_)
      refine Zgb ?_
      first|refine Zhg (Zmj (b := 3) rfl rfl) ?_|refine Zhg (Zbr rfl rfl) ?_
      first|refine Zhg (Za0 rfl) ?_|refine Zhg (Zas rfl) ?_
      refine Zg3 ?_
      repeat (first|refine zA ?_|refine zB ?_|refine zC ?_|refine zD ?_|refine zE ?_|refine zF ?_|refine zG ?_|refine zH ?_|refine zI ?_|refine zJ ?_|refine zK ?_|refine zL ?_|refine zM rfl ?_|refine zN ?_|refine zO ?_|refine zP ?_|refine zQ ?_)
      refine Zgg rfl (fun h3 => ?_) (fun h3 => ?_)
      · repeat (first|refine zA ?_|refine zB ?_|refine zC ?_|refine zD ?_|refine zE ?_|refine zF ?_|refine zG ?_|refine zH ?_|refine zI ?_|refine zJ ?_|refine zK ?_|refine zL ?_|refine zM rfl ?_|refine zN ?_|refine zO ?_|refine zP ?_|refine zQ ?_)
        refine Zgb ?_
        first|refine Zhg (Zav rfl) ?_|refine Zhg (Zar rfl) ?_
        first|refine Zhg (Zl8 rfl) ?_|refine Zhg (Zce rfl) ?_
        first|refine Zhr rfl (by repeat constructor) (by first|rfl|omega|(rw [szL]; omega)|exact Nat.le_of_ble_eq_true rfl|(simp; done)|(simp; omega)) ?_|refine Zhq rfl (by repeat constructor) (by first|rfl|omega|(rw [szL]; omega)|exact Nat.le_of_ble_eq_true rfl|(simp; done)|(simp; omega)) (ocl_3 o ho) ?_
        refine Zh8 rfl (by kernel_rfl) (new_c o.key_ ho) rfl (by repeat (first|exact Take.nil|exact Take.all|(apply Take.cons; (next => (repeat constructor); done))|apply Take.skip)) ?_
        rintro _ _ ⟨q2, rfl, rfl⟩
        refine Zg2 (by repeat (first|exact App.nil|apply App.cons|(apply App.flip; first|exact App.nil|apply App.cons)|exact App.any)) ?_
        refine Zhg (Zba rfl) ?_
        first|refine Zhg (Zl8 rfl) ?_|refine Zhg (Zce rfl) ?_
        refine Zhv rfl rfl (by repeat constructor) (by first|rfl|omega|(rw [szL]; omega)|exact Nat.le_of_ble_eq_true rfl|(simp; done)|(simp; omega)) (pcl_setP) ?_
        refine Zg3 ?_
        repeat (first|refine zA ?_|refine zB ?_|refine zC ?_|refine zD ?_|refine zE ?_|refine zF ?_|refine zG ?_|refine zH ?_|refine zI ?_|refine zJ ?_|refine zK ?_|refine zL ?_|refine zM rfl ?_|refine zN ?_|refine zO ?_|refine zP ?_|refine zQ ?_)
        have hsz3 := pcl_size (S := .slice none 0 0) (nn := nn) (P := some ⟨q2, 0, none⟩) hk
        repeat (first|refine zA ?_|refine zB ?_|refine zC ?_|refine zD ?_|refine zE ?_|refine zF ?_|refine zG ?_|refine zH ?_|refine zI ?_|refine zJ ?_|refine zK ?_|refine zL ?_|refine zM rfl ?_|refine zN ?_|refine zO ?_|refine zP ?_|refine zQ ?_)
        refine Zgb ?_
        first|refine Zhg (Zav rfl) ?_|refine Zhg (Zar rfl) ?_
        first|refine Zhg (Zl8 rfl) ?_|refine Zhg (Zce rfl) ?_
        first|refine Zhr rfl (by repeat constructor) (by first|rfl|omega|(rw [szL]; omega)|exact Nat.le_of_ble_eq_true rfl|(simp; done)|(simp; omega)) ?_|refine Zhq rfl (by repeat constructor) (by first|rfl|omega|(rw [szL]; omega)|exact Nat.le_of_ble_eq_true rfl|(simp; done)|(simp; omega)) (ocl_3 o ho) ?_
        refine Zhg (Zba rfl) ?_
        first|refine Zhg (Zl8 rfl) ?_|refine Zhg (Zce rfl) ?_
        first|refine Zhy rfl rfl (by repeat constructor) (by first|rfl|omega|(rw [szL]; omega)|exact Nat.le_of_ble_eq_true rfl|(simp; done)|(simp; omega)) (by first|rfl|exact oneM_u8 _|exact oneL_u8 _|(simp [oneC]; done)) (by first|rfl|omega|(rw [szL]; omega)|exact Nat.le_of_ble_eq_true rfl|(simp; done)|(simp; omega)) ?_|refine Zhx rfl rfl (by repeat constructor) (by first|rfl|omega|(rw [szL]; omega)|exact Nat.le_of_ble_eq_true rfl|(simp; done)|(simp; omega)) (by first|rfl|exact oneM_u8 _|exact oneL_u8 _|(simp [oneC]; done)) (by first|rfl|omega|(rw [szL]; omega)|exact Nat.le_of_ble_eq_true rfl|(simp; done)|(simp; omega)) (pcl_setK hk ho) ?_
        refine Zg3 ?_
        repeat (first|refine zA ?_|refine zB ?_|refine zC ?_|refine zD ?_|refine zE ?_|refine zF ?_|refine zG ?_|refine zH ?_|refine zI ?_|refine zJ ?_|refine zK ?_|refine zL ?_|refine zM rfl ?_|refine zN ?_|refine zO ?_|refine zP ?_|refine zQ ?_)
        have hsz4 := pcl_size (S := .slice none 0 0) (nn := nn) (P := some ⟨q2, 0, none⟩) ho
        repeat (first|refine zA ?_|refine zB ?_|refine zC ?_|refine zD ?_|refine zE ?_|refine zF ?_|refine zG ?_|refine zH ?_|refine zI ?_|refine zJ ?_|refine zK ?_|refine zL ?_|refine zM rfl ?_|refine zN ?_|refine zO ?_|refine zP ?_|refine zQ ?_)
        refine Zgb ?_
        first|refine Zhg (Zav rfl) ?_|refine Zhg (Zar rfl) ?_
        refine Zhg (Zba rfl) ?_
        first|refine Zhg (Zl8 rfl) ?_|refine Zhg (Zce rfl) ?_
        refine Zhw rfl rfl (by repeat constructor) (by first|rfl|omega|(rw [szL]; omega)|exact Nat.le_of_ble_eq_true rfl|(simp; done)|(simp; omega)) (pcl_setS ho) ?_
        refine Zg3 ?_
        repeat (first|refine zA ?_|refine zB ?_|refine zC ?_|refine zD ?_|refine zE ?_|refine zF ?_|refine zG ?_|refine zH ?_|refine zI ?_|refine zJ ?_|refine zK ?_|refine zL ?_|refine zM rfl ?_|refine zN ?_|refine zO ?_|refine zP ?_|refine zQ ?_)
        refine Zgb ?_
        first|refine Zhg (Zav rfl) ?_|refine Zhg (Zar rfl) ?_
        refine Zhg (Zba rfl) ?_
        first|refine Zhg (Zl8 rfl) ?_|refine Zhg (Zce rfl) ?_
        refine Zhu rfl rfl (by repeat constructor) (by first|rfl|omega|(rw [szL]; omega)|exact Nat.le_of_ble_eq_true rfl|(simp; done)|(simp; omega)) (pcl_setN ho) ?_
        refine Zg3 ?_
        repeat (first|refine zA ?_|refine zB ?_|refine zC ?_|refine zD ?_|refine zE ?_|refine zF ?_|refine zG ?_|refine zH ?_|refine zI ?_|refine zJ ?_|refine zK ?_|refine zL ?_|refine zM rfl ?_|refine zN ?_|refine zO ?_|refine zP ?_|refine zQ ?_)
        refine Zgb ?_
        first|refine Zhg (Zav rfl) ?_|refine Zhg (Zar rfl) ?_
        refine Zhg (Zba rfl) ?_
        first|refine Zhg (Zl8 rfl) ?_|refine Zhg (Zce rfl) ?_
        refine Zhp rfl (by repeat constructor) (pcl_P) ?_
        refine Zhg (Zcb rfl rfl) ?_
        first|refine Zhg (Za0 rfl) ?_|refine Zhg (Zas rfl) ?_
        refine Zg3 ?_
        repeat (first|refine zA ?_|refine zB ?_|refine zC ?_|refine zD ?_|refine zE ?_|refine zF ?_|refine zG ?_|refine zH ?_|refine zI ?_|refine zJ ?_|refine zK ?_|refine zL ?_|refine zM rfl ?_|refine zN ?_|refine zO ?_|refine zP ?_|refine zQ ?_)
        refine rx1 (Zha rfl (Zg7)) ?_
        refine ⟨_, ⟨rfl, ⟨q2, o.key_, [], none, 0, true, false⟩, ⟨ho, fun _ => rfl, fun h => Bool.noConfusion h⟩, by simp, rfl⟩, ?_⟩
        show Imp _ (_ :: own 5 1 (.slice none 0 0) 0 [] :: cl q2 (pc (writeS (newS o.key_) [])) 74 :: L)
        rw [writeS_nil]
        refine Imp.trans (Imp.arr (N := cl p (pcl (some ⟨q2, 0, none⟩) o.key_ (.slice none 0 0) false) 42 :: cl q2 (pc (newS o.key_)) 74 :: L) (by repeat (first|exact Arr.nil|exact Arr.stop|refine Arr.cons (by repeat constructor) ?_|refine Arr.skip ?_))) (Imp.cons Imp.own_nil)
      · have hnt : nn = true := by
          rcases hn with h|h
          · exact h
          · exact absurd h h3
        subst hnt
        repeat (first|refine zA ?_|refine zB ?_|refine zC ?_|refine zD ?_|refine zE ?_|refine zF ?_|refine zG ?_|refine zH ?_|refine zI ?_|refine zJ ?_|refine zK ?_|refine zL ?_|refine zM rfl ?_|refine zN ?_|refine zO ?_|refine zP ?_|refine zQ ?_)
        refine Zgb ?_
        first|refine Zhg (Zmj (b := 4) rfl rfl) ?_|refine Zhg (Zbr rfl rfl) ?_
        first|refine Zhg (Za0 rfl) ?_|refine Zhg (Zas rfl) ?_
        refine Zg3 ?_
        repeat (first|refine zA ?_|refine zB ?_|refine zC ?_|refine zD ?_|refine zE ?_|refine zF ?_|refine zG ?_|refine zH ?_|refine zI ?_|refine zJ ?_|refine zK ?_|refine zL ?_|refine zM rfl ?_|refine zN ?_|refine zO ?_|refine zP ?_|refine zQ ?_)
        refine Zgg rfl (fun h4 => ?_) (fun h4 => ?_)
        · repeat (first|refine zA ?_|refine zB ?_|refine zC ?_|refine zD ?_|refine zE ?_|refine zF ?_|refine zG ?_|refine zH ?_|refine zI ?_|refine zJ ?_|refine zK ?_|refine zL ?_|refine zM rfl ?_|refine zN ?_|refine zO ?_|refine zP ?_|refine zQ ?_)
          refine Zgb ?_
          first|refine Zhg (Zav rfl) ?_|refine Zhg (Zar rfl) ?_
          refine Zhg (Zba rfl) ?_
          first|refine Zhg (Zl8 rfl) ?_|refine Zhg (Zce rfl) ?_
          refine Zhv rfl rfl (by repeat constructor) (by first|rfl|omega|(rw [szL]; omega)|exact Nat.le_of_ble_eq_true rfl|(simp; done)|(simp; omega)) (pcl_setP) ?_
          refine Zg3 ?_
          repeat (first|refine zA ?_|refine zB ?_|refine zC ?_|refine zD ?_|refine zE ?_|refine zF ?_|refine zG ?_|refine zH ?_|refine zI ?_|refine zJ ?_|refine zK ?_|refine zL ?_|refine zM rfl ?_|refine zN ?_|refine zO ?_|refine zP ?_|refine zQ ?_)
          refine Zgb ?_
          first|refine Zhg (Zav rfl) ?_|refine Zhg (Zar rfl) ?_
          refine Zhg (Zba rfl) ?_
          first|refine Zhg (Zl8 rfl) ?_|refine Zhg (Zce rfl) ?_
          refine Zhw rfl rfl (by repeat constructor) (by first|rfl|omega|(rw [szL]; omega)|exact Nat.le_of_ble_eq_true rfl|(simp; done)|(simp; omega)) (pcl_setS hk) ?_
          refine Zg3 ?_
          repeat (first|refine zA ?_|refine zB ?_|refine zC ?_|refine zD ?_|refine zE ?_|refine zF ?_|refine zG ?_|refine zH ?_|refine zI ?_|refine zJ ?_|refine zK ?_|refine zL ?_|refine zM rfl ?_|refine zN ?_|refine zO ?_|refine zP ?_|refine zQ ?_)
          refine Zgb ?_
          first|refine Zhg (Zav rfl) ?_|refine Zhg (Zar rfl) ?_
          refine Zhg (Zba rfl) ?_
          first|refine Zhg (Zl8 rfl) ?_|refine Zhg (Zce rfl) ?_
          refine Zhu rfl rfl (by repeat constructor) (by first|rfl|omega|(rw [szL]; omega)|exact Nat.le_of_ble_eq_true rfl|(simp; done)|(simp; omega)) (pcl_setN hk) ?_
          refine Zg3 ?_
          repeat (first|refine zA ?_|refine zB ?_|refine zC ?_|refine zD ?_|refine zE ?_|refine zF ?_|refine zG ?_|refine zH ?_|refine zI ?_|refine zJ ?_|refine zK ?_|refine zL ?_|refine zM rfl ?_|refine zN ?_|refine zO ?_|refine zP ?_|refine zQ ?_)
          refine Zgb ?_
          first|refine Zhg (Za0 rfl) ?_|refine Zhg (Zas rfl) ?_
          refine Zg3 ?_
          repeat (first|refine zA ?_|refine zB ?_|refine zC ?_|refine zD ?_|refine zE ?_|refine zF ?_|refine zG ?_|refine zH ?_|refine zI ?_|refine zJ ?_|refine zK ?_|refine zL ?_|refine zM rfl ?_|refine zN ?_|refine zO ?_|refine zP ?_|refine zQ ?_)
          refine rx1 (Zha rfl (Zg7)) ?_
          exact ⟨_, ⟨rfl, _, okf, by simp, rfl⟩, (Imp.arr (N := cl p (pcl none key (.slice none 0 0) true) 42 :: L) (by repeat (first|exact Arr.nil|exact Arr.stop|refine Arr.cons (by repeat constructor) ?_|refine Arr.skip ?_))).trans fin⟩
        · repeat (first|refine zA ?_|refine zB ?_|refine zC ?_|refine zD ?_|refine zE ?_|refine zF ?_|refine zG ?_|refine zH ?_|refine zI ?_|refine zJ ?_|refine zK ?_|refine zL ?_|refine zM rfl ?_|refine zN ?_|refine zO ?_|refine zP ?_|refine zQ ?_)
          refine Zgb ?_
          first|refine Zhg (Za0 rfl) ?_|refine Zhg (Zas rfl) ?_
          refine Zg3 ?_
          repeat (first|refine zA ?_|refine zB ?_|refine zC ?_|refine zD ?_|refine zE ?_|refine zF ?_|refine zG ?_|refine zH ?_|refine zI ?_|refine zJ ?_|refine zK ?_|refine zL ?_|refine zM rfl ?_|refine zN ?_|refine zO ?_|refine zP ?_|refine zQ ?_)
          refine rx1 (Zha rfl (Zg7)) ?_
          exact ⟨_, ⟨rfl, _, okf, by simp, rfl⟩, (Imp.arr (N := cl p (pcl none key (.slice none 0 0) true) 42 :: L) (by repeat (first|exact Arr.nil|exact Arr.stop|refine Arr.cons (by repeat constructor) ?_|refine Arr.skip ?_))).trans fin⟩
/-- A step on a pair, whatever it is. -/
theorem stepped_x {L : List Asrt} {p : Nat} (x : PairS) (ok : PairOk x) (o : OpV) (ho : o.key_.length = 32) (hb : Bs L o.b_V o.b_) (hbl : o.b_.length ≤ 140737488351232) (hal : x.all.length + o.b_.length ≤ 140737488351232) (oc : Array Value) (hoc : oc = o.cells.toArray) :
    Con Try.prog 19 [.pointer (some ⟨p, 0, none⟩), .agg oc] (pA p x ++ L)
      (fun r M => r = .bool true ∧ ∃ x', PairOk x' ∧ x'.all.length ≤ x.all.length + o.b_.length ∧ pA p x' ++ L = M) := by
  obtain ⟨q, key, all, a, c, pl, nn⟩ := x
  cases pl with
  | true =>
    have h1 := ok.some rfl
    dsimp only at h1 hal
    subst h1
    exact step_some (L := L) ok.key o ho hb hbl (by simpa using hal) oc hoc
  | false =>
    have h1 := ok.none rfl
    dsimp only at h1
    obtain ⟨rfl, rfl, rfl, rfl⟩ := h1
    refine Con.pre ((step_none (L := L) (p := p) (nn := true) ok.key o ho hb hbl oc hoc (.inl rfl)).mono ?_) ?_
    · rintro v M ⟨rfl, x', h1, h2, rfl⟩
      exact ⟨_, Imp.refl _, rfl, x', h1, by dsimp only; omega, rfl⟩
    · show Imp (cl p (pcl none key (.slice none 0 0) true) 42 :: own 5 1 (.slice none 0 0) 0 [] :: pur True :: L) _
      exact Imp.arr (by repeat (first|exact Arr.nil|exact Arr.stop|refine Arr.cons (by repeat constructor) ?_|refine Arr.skip ?_))
end Go.Sl

/- cells that may be read, wherever they stand. -/
set_option linter.unusedVariables false
set_option linter.unusedSimpArgs false
namespace Go.Sl
open Go
/-- Among the pieces M the cell o of the block b is v. -/
def RdAt (M : List Asrt) (b o : Nat) (v : Value) : Prop := ∀ w0 F w, St w0 w (F :: M) → ∃ c E fr, w.heap[b]? = some (.cells c E fr) ∧ c[o]? = some v
/-- ... n cells from o on. -/
def RdAg (M : List Asrt) (b o n : Nat) (cs : Array Value) : Prop := ∀ w0 F w, St w0 w (F :: M) → ∃ c E fr, w.heap[b]? = some (.cells c E fr) ∧ o + n ≤ c.size ∧ c.extract o (o + n) = cs
section
variable {M M' : List Asrt} {b o : Nat}
theorem RdAt.imp {v : Value} (h : RdAt M b o v) (hi : Imp M' M) : RdAt M' b o v := fun _ _ _ H => h _ _ _ (H.enx hi)
theorem RdAg.imp {n : Nat} {cs : Array Value} (h : RdAg M b o n cs) (hi : Imp M' M) : RdAg M' b o n cs := fun _ _ _ H => h _ _ _ (H.enx hi)
theorem RdAt.cl {c : Array Value} {E : Nat} {v : Value} (hm : Has M (cl b c E) M') (hv : c[o]? = some v) : RdAt M b o v := fun _ _ _ H => ⟨c, E, (0, 0), (H.pick (.there hm)).cl_get, hv⟩
theorem RdAg.cl {c cs : Array Value} {E n : Nat} (hm : Has M (Sl.cl b c E) M') (hv : o + n ≤ c.size) (hc : c.extract o (o + n) = cs) : RdAg M b o n cs := fun _ _ _ H => ⟨c, E, (0, 0), (H.pick (.there hm)).cl_get, hv, hc⟩
theorem Rd.at {m k j : Nat} {xs : List Value} {v : Value} (h : Rd M 1 (.slice (some ⟨b, o, none⟩) m k) m xs) (hj : j < m) (hv : xs[j]? = some v) : RdAt M b (o + j) v := fun _ _ _ H => by
  obtain ⟨c, E, fr, hb, hc⟩ := (h _ _ _ H).cellAt hj
  exact ⟨c, E, fr, hb, hc.trans hv⟩
theorem Rd.at0 {m k j : Nat} {xs : List Value} {v : Value} (h : Rd M 1 (.slice (some ⟨b, 0, none⟩) m k) m xs) (hj : j < m) (hv : xs[j]? = some v) : RdAt M b j v := by
  have := h.at hj hv; rwa [Nat.zero_add] at this
theorem Rd.atN {α : Type} {enc : α → List Value} {l : List α} {sz k i j : Nat} {v : Value} (h : Rd M sz (.slice (some ⟨b, o, none⟩) l.length k) l.length (l.flatMap enc)) (he : ∀ a, (enc a).length = sz) (hi : i < l.length) (hj : j < sz) (hv : (enc l[i])[j]? = some v) : RdAt M b (o + i * sz + j) v := fun _ _ _ H => by
  obtain ⟨c, E, fr, hb, hc⟩ := (h _ _ _ H).cellAtN he (by omega) hi hj
  exact ⟨c, E, fr, hb, hc.trans hv⟩
theorem Rd.atN0 {α : Type} {enc : α → List Value} {l : List α} {sz k i j : Nat} {v : Value} (h : Rd M sz (.slice (some ⟨b, 0, none⟩) l.length k) l.length (l.flatMap enc)) (he : ∀ a, (enc a).length = sz) (hi : i < l.length) (hj : j < sz) (hv : (enc l[i])[j]? = some v) : RdAt M b (i * sz + j) v := by
  have := h.atN he hi hj hv; rwa [Nat.zero_add] at this
theorem Rd.atF {α : Type} {enc : α → List Value} {l : List α} {sz k i : Nat} {v : Value} (h : Rd M sz (.slice (some ⟨b, o, none⟩) l.length k) l.length (l.flatMap enc)) (he : ∀ a, (enc a).length = sz) (hi : i < l.length) (hj : 0 < sz) (hv : (enc l[i])[0]? = some v) : RdAt M b (o + i * sz) v := h.atN (j := 0) he hi hj hv
theorem Rd.agN {α : Type} {enc : α → List Value} {l : List α} {sz k i : Nat} (h : Rd M sz (.slice (some ⟨b, o, none⟩) l.length k) l.length (l.flatMap enc)) (he : ∀ a, (enc a).length = sz) (hsz : 0 < sz) (hi : i < l.length) : RdAg M b (o + i * sz) sz (enc l[i]).toArray := fun _ _ _ H => by
  obtain ⟨c, E, fr, hb, hle, hc⟩ := (h _ _ _ H).cellsAt he hsz hi
  exact ⟨c, E, fr, hb, hle, hc⟩
theorem Rd.agN0 {α : Type} {enc : α → List Value} {l : List α} {sz k i : Nat} (h : Rd M sz (.slice (some ⟨b, 0, none⟩) l.length k) l.length (l.flatMap enc)) (he : ∀ a, (enc a).length = sz) (hsz : 0 < sz) (hi : i < l.length) : RdAg M b (i * sz) sz (enc l[i]).toArray := by
  have := h.agN he hsz hi; rwa [Nat.zero_add] at this
end
section
variable {P : Program} {w0 : World} {ops : Array Oper} {dst : Option Nat} {ty T : TypeId} {pos : String} {after : Array Edge} {rest : List Oper} {ρ : Env} {K : XK} {M SM : List Asrt} {x : Operand} {b o i j n by' : Nat} {z v : Value} {cs : Array Value} {r : Ord} {t : Bool}
theorem run_ldc {oo : Oper} {w : World} [hs : TyScal P T] (hoo : oo.op = .load T x) (hx : ev ρ x = .pointer (some ⟨b, o, none⟩)) (h : RdAt SM b o v) {F : Asrt} (H : St w0 w (F :: SM)) : (execOp (ev ρ) oo).run P w = .ok (.value v) w := by
  obtain ⟨c, E, fr, hb, hc⟩ := h _ _ _ H
  have hr : (Instr.loadAt T (ev ρ x)).run P w = .ok v w := by
    rw [hx]; unfold Instr.loadAt
    rw [run_bind P _ _ w w _ rfl]; unfold loadVar
    rw [run_bind P _ _ w w _ (run_isAgg hs.h)]
    exact run_load1 hb hc
  unfold execOp; rw [hoo]
  exact op_run_value hr
theorem run_ldg {oo : Oper} {w : World} [hs : TyAggr P T] [hi : TyI P T n by' z] (hoo : oo.op = .load T x) (hx : ev ρ x = .pointer (some ⟨b, o, none⟩)) (h : RdAg SM b o n cs) {F : Asrt} (H : St w0 w (F :: SM)) : (execOp (ev ρ) oo).run P w = .ok (.value (.agg cs)) w := by
  obtain ⟨c, E, fr, hb, hv, hc⟩ := h _ _ _ H
  have hr := run_loadAgg (P := P) (ρ := ρ) (x := x) (T := T) (n := n) hb hv hx
  rw [hc] at hr
  unfold execOp; rw [hoo]
  exact op_run_value hr
theorem Zff [hs : TyScal P T] (hx : ev ρ x = .pointer (some ⟨b, o, none⟩)) (h : RdAt M b o v) (kk : xOps P w0 ops rest (put ρ dst v) M K) : xOps P w0 ops (⟨dst, .load T x, ty, pos, after, none⟩ :: rest) ρ M K := fun F w H => by
  obtain ⟨c, E, fr, hb, hc⟩ := h _ _ _ H
  exact Zfs hx hb hc (kk F w H)
theorem Zfg [hs : TyAggr P T] [hi : TyI P T n by' z] (hx : ev ρ x = .pointer (some ⟨b, o, none⟩)) (h : RdAg M b o n cs) (kk : xOps P w0 ops rest (put ρ dst (.agg cs)) M K) : xOps P w0 ops (⟨dst, .load T x, ty, pos, after, none⟩ :: rest) ρ M K := fun F w H => by
  obtain ⟨c, E, fr, hb, hv, hc⟩ := h _ _ _ H
  exact Zft hx hb hv hc (kk F w H)
theorem Zfh [hs : TyScal P T] (ho : ops[i]? = some ⟨dst, .load T x, ty, pos, after, none⟩) (hx : ev ρ x = .pointer (some ⟨b, o, none⟩)) (h : RdAt SM b o v) (k : cX P w0 ops SM r (put ρ dst v) M K) : cX P w0 ops SM (.r i r) ρ M K :=
  Zit ho (fun F w H => run_ldc rfl hx h H) k
theorem Zfi [hs : TyScal P T] (ho : ops[i]? = some ⟨dst, .load T x, ty, pos, after, some (j, t)⟩) (hg : yl ops ρ j = some t) (hx : ev ρ x = .pointer (some ⟨b, o, none⟩)) (h : RdAt SM b o v) (k : cX P w0 ops SM r (put ρ dst v) M K) : cX P w0 ops SM (.r i r) ρ M K :=
  Ziu ho hg (fun F w H => run_ldc rfl hx h H) k
theorem Zfj [hs : TyAggr P T] [hi : TyI P T n by' z] (ho : ops[i]? = some ⟨dst, .load T x, ty, pos, after, none⟩) (hx : ev ρ x = .pointer (some ⟨b, o, none⟩)) (h : RdAg SM b o n cs) (k : cX P w0 ops SM r (put ρ dst (.agg cs)) M K) : cX P w0 ops SM (.r i r) ρ M K :=
  Zit ho (fun F w H => run_ldg rfl hx h H) k
theorem Zfk [hs : TyAggr P T] [hi : TyI P T n by' z] (ho : ops[i]? = some ⟨dst, .load T x, ty, pos, after, some (j, t)⟩) (hg : yl ops ρ j = some t) (hx : ev ρ x = .pointer (some ⟨b, o, none⟩)) (h : RdAg SM b o n cs) (k : cX P w0 ops SM r (put ρ dst (.agg cs)) M K) : cX P w0 ops SM (.r i r) ρ M K :=
  Ziu ho hg (fun F w H => run_ldg rfl hx h H) k
end
end Go.Sl

/- trystlaw06: TagPlays, walked. -/
set_option maxHeartbeats 4000000
set_option maxRecDepth 10000
set_option linter.unusedVariables false
set_option linter.unusedSimpArgs false
namespace Go.Sl
open Go Go.Proofs
attribute [local irreducible] cl pt own old pur ex all den denOps denS xOps xC cX CX xthen xblk xcut xloop retX resX Calls PV Rd Con
abbrev ptrV (b : Nat) : Value := .pointer (some ⟨b, 0, none⟩)
abbrev nilP : Value := .pointer none
def pS (x : Nat × PairS) : Asrt := all (pA x.1 x.2)
abbrev pX (p : Nat) (x : PairS) (L : List Asrt) : List Asrt := cl p (pcl x.ptr x.key (.slice x.a x.all.length x.c) x.nn) 42 :: own 5 1 (.slice x.a x.all.length x.c) x.all.length (x.all.map u8b) :: pq x :: L
theorem pS_out {x : Nat × PairS} {L : List Asrt} : Imp (pS x :: L) (pX x.1 x.2 L) := Imp.unapp (L := pA x.1 x.2)
theorem pS_in {x : Nat × PairS} {L : List Asrt} : Imp (pX x.1 x.2 L) (pS x :: L) := Imp.app (L := pA x.1 x.2)
theorem ptr_set (vs : List Value) (n i : Nat) (v : Value) (h : vs.length = i) : ((vs ++ List.replicate (n + 1) nilP).toArray).setIfInBounds i v = ((vs ++ [v]) ++ List.replicate n nilP).toArray := by
  apply Array.ext'
  subst h
  simp [List.replicate_succ, List.set_append_right]
theorem stepped_y {L : List Asrt} {p : Nat} (x : PairS) (ok : PairOk x) (o : OpV) (ho : o.key_.length = 32) (hb : Bs L o.b_V o.b_) (hbl : o.b_.length ≤ 140737488351232) (hal : x.all.length + o.b_.length ≤ 140737488351232) (oc : Array Value) (hoc : oc = o.cells.toArray) :
    Con Try.prog 19 [.pointer (some ⟨p, 0, none⟩), .agg oc] (pX p x L)
      (fun r M => ∃ x', PairOk x' ∧ x'.all.length ≤ x.all.length + o.b_.length ∧ r = .bool true ∧ M = pX p x' L) := by
  refine (stepped_x (L := L) (p := p) x ok o ho hb hbl hal oc hoc).mono ?_
  rintro v M ⟨rfl, x', h1, h2, rfl⟩
  exact ⟨_, Imp.refl _, x', h1, h2, rfl, rfl⟩
theorem step_new {L : List Asrt} {p : Nat} (o : OpV) (ho : o.key_.length = 32) (hb : Bs L o.b_V o.b_) (hbl : o.b_.length ≤ 140737488351232) (oc : Array Value) (hoc : oc = o.cells.toArray) (hn : o.kind_ = 3) (cs : Array Value) (hcs : cs = pcl none (List.replicate 32 0#8) (.slice none 0 0) false) :
    Con Try.prog 19 [.pointer (some ⟨p, 0, none⟩), .agg oc] (cl p cs 42 :: L)
      (fun r M => ∃ x', PairOk x' ∧ x'.all.length ≤ o.b_.length ∧ r = .bool true ∧ M = pX p x' L) := by
  subst hcs
  refine (step_none (L := L) (p := p) (nn := false) (by simp) o ho hb hbl oc hoc (.inr hn)).mono ?_
  rintro v M ⟨rfl, x', h1, h2, rfl⟩
  exact ⟨_, Imp.refl _, x', h1, h2, rfl, rfl⟩
def opNew (y : Byte) : OpV := ⟨3, 0, .slice none 0 0, [], y :: 7#8 :: List.replicate 30 0#8⟩
def opSum : OpV := ⟨2, 0, .slice none 0 0, [], List.replicate 32 0#8⟩
theorem opNew_cells (y : Byte) : (#[.int .i64 3, .int .i64 0, .slice none 0 0, u8b y, u8b 7#8, u8b 0#8, u8b 0#8, u8b 0#8, u8b 0#8, u8b 0#8, u8b 0#8, u8b 0#8, u8b 0#8, u8b 0#8, u8b 0#8, u8b 0#8, u8b 0#8, u8b 0#8, u8b 0#8, u8b 0#8, u8b 0#8, u8b 0#8, u8b 0#8, u8b 0#8, u8b 0#8, u8b 0#8, u8b 0#8, u8b 0#8, u8b 0#8, u8b 0#8, u8b 0#8, u8b 0#8, u8b 0#8, u8b 0#8, u8b 0#8] : Array Value) = (opNew y).cells.toArray := rfl
theorem opSum_cells : (#[.int .i64 2, .int .i64 0, .slice none 0 0, u8b 0#8, u8b 0#8, u8b 0#8, u8b 0#8, u8b 0#8, u8b 0#8, u8b 0#8, u8b 0#8, u8b 0#8, u8b 0#8, u8b 0#8, u8b 0#8, u8b 0#8, u8b 0#8, u8b 0#8, u8b 0#8, u8b 0#8, u8b 0#8, u8b 0#8, u8b 0#8, u8b 0#8, u8b 0#8, u8b 0#8, u8b 0#8, u8b 0#8, u8b 0#8, u8b 0#8, u8b 0#8, u8b 0#8, u8b 0#8, u8b 0#8, u8b 0#8] : Array Value) = opSum.cells.toArray := rfl
theorem pair_zero : (#[.pointer none, u8b 0#8, u8b 0#8, u8b 0#8, u8b 0#8, u8b 0#8, u8b 0#8, u8b 0#8, u8b 0#8, u8b 0#8, u8b 0#8, u8b 0#8, u8b 0#8, u8b 0#8, u8b 0#8, u8b 0#8, u8b 0#8, u8b 0#8, u8b 0#8, u8b 0#8, u8b 0#8, u8b 0#8, u8b 0#8, u8b 0#8, u8b 0#8, u8b 0#8, u8b 0#8, u8b 0#8, u8b 0#8, u8b 0#8, u8b 0#8, u8b 0#8, u8b 0#8, .slice none 0 0, .bool false] : Array Value) = pcl none (List.replicate 32 0#8) (.slice none 0 0) false := rfl
def sumL (l : List OpV) : Nat := (l.map (·.b_.length)).sum
theorem sumL_take (l : List OpV) (i : Nat) (h : i < l.length) : sumL (l.take (i + 1)) = sumL (l.take i) + l[i].b_.length := by
  unfold sumL; rw [List.take_succ_eq_append_getElem h]; simp only [List.map_append, List.sum_append, List.map_cons, List.map_nil, List.sum_cons, List.sum_nil, Nat.add_zero]
theorem sumL_le (l : List OpV) (i : Nat) : sumL (l.take i) ≤ sumL l := by
  have : sumL l = sumL (l.take i) + sumL (l.drop i) := by unfold sumL; rw [← List.sum_append, ← List.map_append, List.take_append_drop]
  omega
attribute [local irreducible] pcl OpV.cells pS pq
theorem plays_x (W : World) (v : Value) (l : List OpV) (hin : InOpV W v l) (hsum : sumL l + l.length ≤ 2097152) :
    Con Try.prog 6 [v] [old W] (fun r M => r = .bool true ∧ [old W] = M) := by
  obtain ⟨va, vc, rfl, hvl, hvc⟩ := hin.sh
  obtain ⟨l2, hl2, hsl⟩ := hin.sub
  have hll : l2.length = l.length := by rw [← hl2]; simp
  rw [hll] at hsl
  refine fn_x Try.func6 rfl rfl rfl Try.mixed (by kernel_rfl) ?_
  intro w0
  repeat (first|refine zA ?_|refine zB ?_|refine zC ?_|refine zD ?_|refine zE ?_|refine zF ?_|refine zG ?_|refine zH ?_|refine zI ?_|refine zJ ?_|refine zK ?_|refine zL ?_|refine zM rfl ?_|refine zN ?_|refine zO ?_|refine zP ?_|refine zQ ?_)
  refine Zgb ?_
  first|refine Zhg (Za0 rfl) ?_|refine Zhg (Zas rfl) ?_
  refine Zg3 ?_
  repeat (first|refine zA ?_|refine zB ?_|refine zC ?_|refine zD ?_|refine zE ?_|refine zF ?_|refine zG ?_|refine zH ?_|refine zI ?_|refine zJ ?_|refine zK ?_|refine zL ?_|refine zM rfl ?_|refine zN ?_|refine zO ?_|refine zP ?_|refine zQ ?_)
  refine Zgb ?_
  refine Zhz (cs := #[.pointer none, .pointer none, .pointer none]) rfl ?_; intro b3
  refine Zg3 ?_
  repeat (first|refine zA ?_|refine zB ?_|refine zC ?_|refine zD ?_|refine zE ?_|refine zF ?_|refine zG ?_|refine zH ?_|refine zI ?_|refine zJ ?_|refine zK ?_|refine zL ?_|refine zM rfl ?_|refine zN ?_|refine zO ?_|refine zP ?_|refine zQ ?_)
  refine Zgb ?_
  first|refine Zhg (Zaz rfl) ?_|refine Zhg (Zas rfl) ?_
  refine Zg3 ?_
  repeat (first|refine zA ?_|refine zB ?_|refine zC ?_|refine zD ?_|refine zE ?_|refine zF ?_|refine zG ?_|refine zH ?_|refine zI ?_|refine zJ ?_|refine zK ?_|refine zL ?_|refine zM rfl ?_|refine zN ?_|refine zO ?_|refine zP ?_|refine zQ ?_)
  refine Zgo [(2, 2), (4, 4), (7, 24)] (by kernel_rfl) (fun s : List (Nat × PairS) => s.length ≤ 3 ∧ ∀ x ∈ s, PairOk x.2 ∧ x.2.all.length = 0)
    (fun s => cl b3 (s.map (fun x => ptrV x.1) ++ List.replicate (3 - s.length) nilP).toArray 39 :: star pS s :: [old W])
    (fun s => [(4, nv s.length)]) (fun s => 3 - s.length) [] ⟨by simp, by simp⟩ ((Imp.arr (N := cl b3 #[nilP, nilP, nilP] 39 :: [old W]) (by repeat (first|exact Arr.nil|exact Arr.stop|refine Arr.cons (by repeat constructor) ?_|refine Arr.skip ?_))).trans (Imp.cons star_nil)) ⟨rfl, trivial⟩ ?_
  rintro s u ⟨hs, hsok⟩
  obtain ⟨i, hi⟩ : ∃ i, i = s.length := ⟨_, rfl⟩
  rw [← hi] at hs ⊢
  have hml : (s.map (fun x => ptrV x.1)).length = i := by simp [hi]
  repeat (first|refine zA ?_|refine zB ?_|refine zC ?_|refine zD ?_|refine zE ?_|refine zF ?_|refine zG ?_|refine zH ?_|refine zI ?_|refine zJ ?_|refine zK ?_|refine zL ?_|refine zM rfl ?_|refine zN ?_|refine zO ?_|refine zP ?_|refine zQ ?_)
  refine Zgb ?_
  first|refine Zhg (Zat rfl) ?_|refine Zhg (Zar rfl) ?_
  first|refine Zhg (Zmf (b := 3) rfl rfl) ?_|refine Zhg (Zbn rfl rfl) ?_
  refine Zg3 ?_
  repeat (first|refine zA ?_|refine zB ?_|refine zC ?_|refine zD ?_|refine zE ?_|refine zF ?_|refine zG ?_|refine zH ?_|refine zI ?_|refine zJ ?_|refine zK ?_|refine zL ?_|refine zM rfl ?_|refine zN ?_|refine zO ?_|refine zP ?_|refine zQ ?_)
  refine Zgg rfl (fun hA => ?_) (fun hA => ?_)
  · have hrep : 3 - i = (3 - (i + 1)) + 1 := by omega
    rw [hrep]
    have hsz : ((s.map (fun x => ptrV x.1) ++ List.replicate (3 - (i + 1) + 1) nilP).toArray).size = 3 := by
      rw [List.size_toArray, List.length_append, hml, List.length_replicate]; omega
    repeat (first|refine zA ?_|refine zB ?_|refine zC ?_|refine zD ?_|refine zE ?_|refine zF ?_|refine zG ?_|refine zH ?_|refine zI ?_|refine zJ ?_|refine zK ?_|refine zL ?_|refine zM rfl ?_|refine zN ?_|refine zO ?_|refine zP ?_|refine zQ ?_)
    refine Zgb ?_
    first|refine Zhg (Zat rfl) ?_|refine Zhg (Zar rfl) ?_
    refine Zhg (Zdm (cs := #[.pointer none, u8b 0#8, u8b 0#8, u8b 0#8, u8b 0#8, u8b 0#8, u8b 0#8, u8b 0#8, u8b 0#8, u8b 0#8, u8b 0#8, u8b 0#8, u8b 0#8, u8b 0#8, u8b 0#8, u8b 0#8, u8b 0#8, u8b 0#8, u8b 0#8, u8b 0#8, u8b 0#8, u8b 0#8, u8b 0#8, u8b 0#8, u8b 0#8, u8b 0#8, u8b 0#8, u8b 0#8, u8b 0#8, u8b 0#8, u8b 0#8, u8b 0#8, u8b 0#8, .slice none 0 0, .bool false]) (by kernel_rfl)) ?_
    refine Zh5 rfl ?_; intro b13
    first|refine Zhg (Zl5 rfl rfl) ?_|refine Zhg (Zl3 rfl rfl) ?_
    refine Zhv rfl rfl (by repeat constructor) (by first|rfl|omega|(rw [szL]; omega)|exact Nat.le_of_ble_eq_true rfl|(simp; done)|(simp; omega)) (ptr_set _ _ i _ hml) ?_
    refine Zg3 ?_
    repeat (first|refine zA ?_|refine zB ?_|refine zC ?_|refine zD ?_|refine zE ?_|refine zF ?_|refine zG ?_|refine zH ?_|refine zI ?_|refine zJ ?_|refine zK ?_|refine zL ?_|refine zM rfl ?_|refine zN ?_|refine zO ?_|refine zP ?_|refine zQ ?_)
    have hget : ((s.map (fun x => ptrV x.1) ++ [ptrV b13] ++ List.replicate (3 - (i + 1)) nilP).toArray)[i]? = some (ptrV b13) := by
      rw [List.getElem?_toArray, List.append_assoc, List.getElem?_append_right (by omega), hml, Nat.sub_self]; rfl
    repeat (first|refine zA ?_|refine zB ?_|refine zC ?_|refine zD ?_|refine zE ?_|refine zF ?_|refine zG ?_|refine zH ?_|refine zI ?_|refine zJ ?_|refine zK ?_|refine zL ?_|refine zM rfl ?_|refine zN ?_|refine zO ?_|refine zP ?_|refine zQ ?_)
    refine Zgb ?_
    first|refine Zhg (Zat rfl) ?_|refine Zhg (Zar rfl) ?_
    first|refine Zhg (Zl5 rfl rfl) ?_|refine Zhg (Zl3 rfl rfl) ?_
    refine Zhp rfl (by repeat constructor) (hget) ?_
    first|refine Zhg (Zat rfl) ?_|refine Zhg (Zar rfl) ?_
    first|refine Zhg (Zma (b := 1) rfl rfl) ?_|refine Zhg (Zbg rfl rfl) ?_
    refine Zhg (Zjs rfl) ?_
    refine Zhg (Zdn (cs := #[u8b (BitVec.ofInt 8 ((i + 1 : Nat) : Int)), u8b 7#8, u8b 0#8, u8b 0#8, u8b 0#8, u8b 0#8, u8b 0#8, u8b 0#8, u8b 0#8, u8b 0#8, u8b 0#8, u8b 0#8, u8b 0#8, u8b 0#8, u8b 0#8, u8b 0#8, u8b 0#8, u8b 0#8, u8b 0#8, u8b 0#8, u8b 0#8, u8b 0#8, u8b 0#8, u8b 0#8, u8b 0#8, u8b 0#8, u8b 0#8, u8b 0#8, u8b 0#8, u8b 0#8, u8b 0#8, u8b 0#8]) (by kernel_rfl)) ?_
    refine Zhg (Zdm (cs := #[.int .i64 3, .int .i64 0, .slice none 0 0, u8b (BitVec.ofInt 8 ((i + 1 : Nat) : Int)), u8b 7#8, u8b 0#8, u8b 0#8, u8b 0#8, u8b 0#8, u8b 0#8, u8b 0#8, u8b 0#8, u8b 0#8, u8b 0#8, u8b 0#8, u8b 0#8, u8b 0#8, u8b 0#8, u8b 0#8, u8b 0#8, u8b 0#8, u8b 0#8, u8b 0#8, u8b 0#8, u8b 0#8, u8b 0#8, u8b 0#8, u8b 0#8, u8b 0#8, u8b 0#8, u8b 0#8, u8b 0#8, u8b 0#8, u8b 0#8, u8b 0#8]) (by kernel_rfl)) ?_
    refine Zh8 rfl (by kernel_rfl) (step_new (L := []) (opNew (BitVec.ofInt 8 ((i + 1 : Nat) : Int))) rfl Bs.nil (by show 0 ≤ _; omega) _ (opNew_cells _) rfl _ pair_zero) rfl (by repeat (first|exact Take.nil|exact Take.all|(apply Take.cons; (next => (repeat constructor); done))|apply Take.skip)) ?_
    rintro _ _ ⟨x', hx1, hx2, rfl, rfl⟩
    refine Zg2 (by repeat (first|exact App.nil|apply App.cons|(apply App.flip; first|exact App.nil|apply App.cons)|exact App.any)) ?_
    first|refine Zhg (Zb1 rfl) ?_|refine Zhg (Zb0 rfl) ?_
    refine Zhn 24 rfl (rfl) ?_
    refine Zg3 ?_
    repeat (first|refine zA ?_|refine zB ?_|refine zC ?_|refine zD ?_|refine zE ?_|refine zF ?_|refine zG ?_|refine zH ?_|refine zI ?_|refine zJ ?_|refine zK ?_|refine zL ?_|refine zM rfl ?_|refine zN ?_|refine zO ?_|refine zP ?_|refine zQ ?_)
    refine Zgf rfl ?_
    repeat (first|refine zA ?_|refine zB ?_|refine zC ?_|refine zD ?_|refine zE ?_|refine zF ?_|refine zG ?_|refine zH ?_|refine zI ?_|refine zJ ?_|refine zK ?_|refine zL ?_|refine zM rfl ?_|refine zN ?_|refine zO ?_|refine zP ?_|refine zQ ?_)
    refine Zgb ?_
    first|refine Zhg (Zat rfl) ?_|refine Zhg (Zar rfl) ?_
    first|refine Zhg (Zma (b := 1) rfl rfl) ?_|refine Zhg (Zbg rfl rfl) ?_
    first|refine Zhg (Zaz rfl) ?_|refine Zhg (Zas rfl) ?_
    refine Zg3 ?_
    repeat (first|refine zA ?_|refine zB ?_|refine zC ?_|refine zD ?_|refine zE ?_|refine zF ?_|refine zG ?_|refine zH ?_|refine zI ?_|refine zJ ?_|refine zK ?_|refine zL ?_|refine zM rfl ?_|refine zN ?_|refine zO ?_|refine zP ?_|refine zQ ?_)
    refine Zgl (s ++ [(b13, x')]) (by simp; omega) ⟨by simp; omega, ?_⟩ ?_ ⟨by rw [List.length_append, ← hi]; rfl, trivial⟩
    · intro x hx
      rcases List.mem_append.1 hx with h|h
      · exact hsok x h
      · simp only [List.mem_singleton] at h; subst h
        exact ⟨hx1, Nat.le_zero.1 hx2⟩
    · rw [List.length_append, ← hi, List.map_append]
      refine Imp.trans (Imp.arr (N := pX b13 x' (star pS s :: cl b3 (s.map (fun x => ptrV x.1) ++ [ptrV b13] ++ List.replicate (3 - (i + 1)) nilP).toArray 39 :: [old W])) (by repeat (first|exact Arr.nil|exact Arr.stop|refine Arr.cons (by repeat constructor) ?_|refine Arr.skip ?_))) ?_
      refine Imp.trans (pS_in (x := (b13, x'))) ?_
      exact star_snoc.trans (Imp.arr (by repeat (first|exact Arr.nil|exact Arr.stop|refine Arr.cons (by repeat constructor) ?_|refine Arr.skip ?_)))
  · have h3 : i = 3 := by omega
    subst h3
    rw [Nat.sub_self, List.replicate_zero, List.append_nil]
    obtain ⟨ids, hids⟩ : ∃ ids, ids = s.map (fun x => ptrV x.1) := ⟨_, rfl⟩
    rw [← hids]
    have hidl : ids.length = 3 := by rw [hids]; exact hml
    have hidv : ∀ (s2 : List (Nat × PairS)) (w : Nat) (h : w < s2.length), s2.map (fun x => ptrV x.1) = ids → ids.toArray[w]? = some (ptrV s2[w].1) := fun s2 w h e => by
      rw [List.getElem?_toArray, ← e, List.getElem?_map, List.getElem?_eq_getElem h]; rfl
    have hidb : ∀ (s2 : List (Nat × PairS)) (w : Nat) (h : w < s2.length) (x' : PairS), s2.map (fun x => ptrV x.1) = ids → (s2.set w (s2[w].1, x')).map (fun x => ptrV x.1) = ids := fun s2 w h x' e => by
      rw [List.map_set, ← e]
      have : ptrV s2[w].1 = (s2.map (fun x => ptrV x.1))[w]'(by simpa using h) := by simp
      rw [this, List.set_getElem_self]
    have hsn : s.length = 3 := hi.symm
    repeat (first|refine zA ?_|refine zB ?_|refine zC ?_|refine zD ?_|refine zE ?_|refine zF ?_|refine zG ?_|refine zH ?_|refine zI ?_|refine zJ ?_|refine zK ?_|refine zL ?_|refine zM rfl ?_|refine zN ?_|refine zO ?_|refine zP ?_|refine zQ ?_)
    refine Zgb ?_
    first|refine Zhg (Zaz rfl) ?_|refine Zhg (Zas rfl) ?_
    refine Zg3 ?_
    repeat (first|refine zA ?_|refine zB ?_|refine zC ?_|refine zD ?_|refine zE ?_|refine zF ?_|refine zG ?_|refine zH ?_|refine zI ?_|refine zJ ?_|refine zK ?_|refine zL ?_|refine zM rfl ?_|refine zN ?_|refine zO ?_|refine zP ?_|refine zQ ?_)
    refine Zgo [(2, 2), (5, 5), (25, 44)] (by kernel_rfl) (fun t : Nat × List (Nat × PairS) => t.1 ≤ l.length ∧ t.2.length = 3 ∧ t.2.map (fun x => ptrV x.1) = ids ∧ ∀ x ∈ t.2, PairOk x.2 ∧ x.2.all.length ≤ sumL (l.take t.1))
      (fun t => cl b3 ids.toArray 39 :: star pS t.2 :: [old W]) (fun t => [(5, nv t.1)]) (fun t => l.length - t.1) (0, s) ⟨by simp, hsn, hids.symm, fun x hx => ⟨(hsok x hx).1, by have := (hsok x hx).2; omega⟩⟩ (by exact Imp.arr (by repeat (first|exact Arr.nil|exact Arr.stop|refine Arr.cons (by repeat constructor) ?_|refine Arr.skip ?_))) ⟨rfl, trivial⟩ ?_
    rintro ⟨i, s2⟩ u2 ⟨hi2, hs2, he2, hok2⟩
    dsimp only at hi2 hs2 he2 hok2 ⊢
    repeat (first|refine zA ?_|refine zB ?_|refine zC ?_|refine zD ?_|refine zE ?_|refine zF ?_|refine zG ?_|refine zH ?_|refine zI ?_|refine zJ ?_|refine zK ?_|refine zL ?_|refine zM rfl ?_|refine zN ?_|refine zO ?_|refine zP ?_|refine zQ ?_)
    refine Zgb ?_
    first|refine Zhg (Zat rfl) ?_|refine Zhg (Zar rfl) ?_
    first|refine Zhg (Zaw rfl) ?_|refine Zhg (Zar rfl) ?_
    first|refine Zhg (Zcr rfl) ?_|refine Zhg (Zct) ?_|refine Zhg (Zcu rfl) ?_
    first|refine Zhg (Zmf rfl rfl) ?_|refine Zhg (Zbn rfl rfl) ?_
    refine Zg3 ?_
    repeat (first|refine zA ?_|refine zB ?_|refine zC ?_|refine zD ?_|refine zE ?_|refine zF ?_|refine zG ?_|refine zH ?_|refine zI ?_|refine zJ ?_|refine zK ?_|refine zL ?_|refine zM rfl ?_|refine zN ?_|refine zO ?_|refine zP ?_|refine zQ ?_)
    refine Zgg rfl (fun hB => ?_) (fun hB => ?_)
    · have hB2 : i < l2.length := by omega
      have hox : l2[i].1 = l[i] := by simp only [← hl2, List.getElem_map]
      obtain ⟨b0, o0, rfl⟩ := hsl.isSome (by omega)
      have hrd : Rd [cl b3 ids.toArray 39, old W] 35 (.slice (some ⟨b0, o0, none⟩) l2.length vc) l2.length (l2.flatMap fun x => x.1.cells) := Rd.old (by repeat constructor) (by rw [hll]; exact hsl)
      have hok := l2[i].2
      have hsl1 := sumL_take l i hB
      have hsl2 := sumL_le l (i + 1)
      have hv1 : (l2[i].1.cells)[1]? = some (.int .i64 l2[i].1.which_) := by have := ocl_1 l2[i].1; rwa [List.getElem?_toArray] at this
      have hb := hok.b_.bs (M := [old W]) .here
      rw [hox] at hok hv1 hb
      have hag := hrd.agN (fun x => OpV.len x.2) (by omega) hB2
      rw [hox] at hag
      obtain ⟨w, hw⟩ : ∃ w, w = (l[i].which_ % (3 : Nat)).toNat := ⟨_, rfl⟩
      have hw3 : w < 3 := by have := Int.emod_nonneg l[i].which_ (show ((3 : Nat) : Int) ≠ 0 by omega); have := Int.emod_lt_of_pos l[i].which_ (show (0 : Int) < (3 : Nat) by omega); omega
      have hws : w < s2.length := by omega
      have hx2 := hok2 _ (List.getElem_mem hws)
      have hwi := within_n l[i].which_ 3 (by omega) (by omega) hok.which_
      rw [← hw] at hwi
      refine Zgp (Imp.trans (Imp.swap.trans (star_at hws)) (pS_out)) ?_
      repeat (first|refine zA ?_|refine zB ?_|refine zC ?_|refine zD ?_|refine zE ?_|refine zF ?_|refine zG ?_|refine zH ?_|refine zI ?_|refine zJ ?_|refine zK ?_|refine zL ?_|refine zM rfl ?_|refine zN ?_|refine zO ?_|refine zP ?_|refine zQ ?_)
      refine Zij ([cl b3 ids.toArray 39, old W]) [0, 1, 2, 3, 4, 5, 6, 7, 8, 9, 10, 11] (.r 0 (.r 1 (.r 2 (.r 3 (.r 4 (.r 8 (.r 9 (.r 10 (.r 11 (.e 5 true (.r 6 (.r 7 (.e 12 false (.q 13 .nil)))))))))))))) (by kernel_rfl) (by kernel_rfl) (Imp.arr (by repeat (first|exact Arr.nil|exact Arr.stop|refine Arr.cons (by repeat constructor) ?_|refine Arr.skip ?_))) ?_
      first|refine Ziz rfl (Zaw rfl) ?_|refine Ziz rfl (Zar rfl) ?_
      first|refine Ziz rfl (Zat rfl) ?_|refine Ziz rfl (Zar rfl) ?_
      first|refine Ziz rfl (Zl6 rfl rfl) ?_|refine Ziz rfl (Zcg rfl rfl) ?_
      first|refine Ziz rfl (Zl8 rfl) ?_|refine Ziz rfl (Zce rfl) ?_
      refine Zfh rfl rfl ((hrd.atN (fun x => OpV.len x.2) hB2 (by omega) (by rw [hox]; exact hv1))) ?_
      first|refine Ziz rfl (Zaw rfl) ?_|refine Ziz rfl (Zar rfl) ?_
      first|refine Ziz rfl (Zat rfl) ?_|refine Ziz rfl (Zar rfl) ?_
      first|refine Ziz rfl (Zl6 rfl rfl) ?_|refine Ziz rfl (Zcg rfl rfl) ?_
      refine Zfj rfl rfl (hag) ?_
      refine Ziq rfl ?_
      refine Zh8 rfl (by kernel_rfl) (hwi) rfl (by repeat (first|exact Take.nil|exact Take.all|(apply Take.cons; (next => (repeat constructor); done))|apply Take.skip)) ?_
      rintro _ _ ⟨rfl, rfl⟩
      refine Zg2 (by repeat (first|exact App.nil|apply App.cons|(apply App.flip; first|exact App.nil|apply App.cons)|exact App.any)) ?_
      refine Zg3 ⟨fun _ => Imp.arr (by repeat (first|exact Arr.nil|exact Arr.stop|refine Arr.cons (by repeat constructor) ?_|refine Arr.skip ?_)), ?_⟩
      first|refine Ziz rfl (Zl5 rfl rfl) ?_|refine Ziz rfl (Zl3 rfl rfl) ?_
      refine Zfh rfl rfl ((RdAt.cl (by repeat constructor) (hidv s2 w hws he2))) ?_
      refine Ziq rfl ?_
      refine Zh8 rfl (by kernel_rfl) (stepped_y (L := [old W]) s2[w].2 hx2.1 l[i] hok.key_ hb (by have := hok.b_.len; omega) (by omega) _ rfl) rfl (by repeat (first|exact Take.nil|exact Take.all|(apply Take.cons; (next => (repeat constructor); done))|apply Take.skip)) ?_
      rintro _ _ ⟨x', hx1', hx2', rfl, rfl⟩
      refine Zg2 (by repeat (first|exact App.nil|apply App.cons|(apply App.flip; first|exact App.nil|apply App.cons)|exact App.any)) ?_
      refine Zg3 ⟨(fun hh => Bool.noConfusion hh), ?_⟩
      first|refine Zim rfl (Zb1 rfl) ?_|refine Zim rfl (Zb0 rfl) ?_
      refine Zi6 44 rfl (rfl) ?_
      refine Zik ?_
      repeat (first|refine zA ?_|refine zB ?_|refine zC ?_|refine zD ?_|refine zE ?_|refine zF ?_|refine zG ?_|refine zH ?_|refine zI ?_|refine zJ ?_|refine zK ?_|refine zL ?_|refine zM rfl ?_|refine zN ?_|refine zO ?_|refine zP ?_|refine zQ ?_)
      refine Zgf rfl ?_
      repeat (first|refine zA ?_|refine zB ?_|refine zC ?_|refine zD ?_|refine zE ?_|refine zF ?_|refine zG ?_|refine zH ?_|refine zI ?_|refine zJ ?_|refine zK ?_|refine zL ?_|refine zM rfl ?_|refine zN ?_|refine zO ?_|refine zP ?_|refine zQ ?_)
      refine Zgb ?_
      first|refine Zhg (Zat rfl) ?_|refine Zhg (Zar rfl) ?_
      first|refine Zhg (Zma (b := 1) rfl rfl) ?_|refine Zhg (Zbg rfl rfl) ?_
      first|refine Zhg (Zaz rfl) ?_|refine Zhg (Zas rfl) ?_
      refine Zg3 ?_
      repeat (first|refine zA ?_|refine zB ?_|refine zC ?_|refine zD ?_|refine zE ?_|refine zF ?_|refine zG ?_|refine zH ?_|refine zI ?_|refine zJ ?_|refine zK ?_|refine zL ?_|refine zM rfl ?_|refine zN ?_|refine zO ?_|refine zP ?_|refine zQ ?_)
      refine Zgl (i + 1, s2.set w (s2[w].1, x')) (by first|omega|(dsimp only; omega)|(simp only []; omega)) ⟨by dsimp only; omega, by simp [hs2], hidb s2 w hws x' he2, ?_⟩ ?_ ⟨rfl, trivial⟩
      · intro x hx
        rcases List.mem_or_eq_of_mem_set hx with h|h
        · have := hok2 x h
          exact ⟨this.1, by first|omega|(dsimp only; omega)|(simp only []; omega)⟩
        · subst h
          exact ⟨hx1', by first|omega|(dsimp only; omega)|(simp only []; omega)⟩
      · dsimp only
        refine Imp.trans (Imp.arr (N := pX s2[w].1 x' (star pS (s2.eraseIdx w) :: cl b3 ids.toArray 39 :: [old W])) (by repeat (first|exact Arr.nil|exact Arr.stop|refine Arr.cons (by repeat constructor) ?_|refine Arr.skip ?_))) ?_
        exact (pS_in (x := (s2[w].1, x'))).trans ((star_back hws (s2[w].1, x')).trans Imp.swap)
    · repeat (first|refine zA ?_|refine zB ?_|refine zC ?_|refine zD ?_|refine zE ?_|refine zF ?_|refine zG ?_|refine zH ?_|refine zI ?_|refine zJ ?_|refine zK ?_|refine zL ?_|refine zM rfl ?_|refine zN ?_|refine zO ?_|refine zP ?_|refine zQ ?_)
      refine Zgb ?_
      first|refine Zhg (Zaz rfl) ?_|refine Zhg (Zas rfl) ?_
      refine Zg3 ?_
      repeat (first|refine zA ?_|refine zB ?_|refine zC ?_|refine zD ?_|refine zE ?_|refine zF ?_|refine zG ?_|refine zH ?_|refine zI ?_|refine zJ ?_|refine zK ?_|refine zL ?_|refine zM rfl ?_|refine zN ?_|refine zO ?_|refine zP ?_|refine zQ ?_)
      have hsl3 := sumL_le l i
      refine Zgo [(2, 2), (6, 6), (45, 54)] (by kernel_rfl) (fun t : Nat × List (Nat × PairS) => t.1 ≤ 3 ∧ t.2.length = 3 ∧ t.2.map (fun x => ptrV x.1) = ids ∧ ∀ x ∈ t.2, PairOk x.2 ∧ x.2.all.length ≤ sumL l)
        (fun t => cl b3 ids.toArray 39 :: star pS t.2 :: [old W]) (fun t => [(6, nv t.1)]) (fun t => 3 - t.1) (0, s2) ⟨by simp, hs2, he2, fun x hx => ⟨(hok2 x hx).1, by have := (hok2 x hx).2; omega⟩⟩ (by exact Imp.arr (by repeat (first|exact Arr.nil|exact Arr.stop|refine Arr.cons (by repeat constructor) ?_|refine Arr.skip ?_))) ⟨rfl, trivial⟩ ?_
      rintro ⟨w, s2⟩ u3 ⟨hw3, hs2, he2, hok2⟩
      dsimp only at hw3 hs2 he2 hok2 ⊢
      repeat (first|refine zA ?_|refine zB ?_|refine zC ?_|refine zD ?_|refine zE ?_|refine zF ?_|refine zG ?_|refine zH ?_|refine zI ?_|refine zJ ?_|refine zK ?_|refine zL ?_|refine zM rfl ?_|refine zN ?_|refine zO ?_|refine zP ?_|refine zQ ?_)
      refine Zgb ?_
      first|refine Zhg (Zat rfl) ?_|refine Zhg (Zar rfl) ?_
      first|refine Zhg (Zmf (b := 3) rfl rfl) ?_|refine Zhg (Zbn rfl rfl) ?_
      refine Zg3 ?_
      repeat (first|refine zA ?_|refine zB ?_|refine zC ?_|refine zD ?_|refine zE ?_|refine zF ?_|refine zG ?_|refine zH ?_|refine zI ?_|refine zJ ?_|refine zK ?_|refine zL ?_|refine zM rfl ?_|refine zN ?_|refine zO ?_|refine zP ?_|refine zQ ?_)
      refine Zgg rfl (fun hC => ?_) (fun hC => ?_)
      · have hws : w < s2.length := by omega
        have hx2 := hok2 _ (List.getElem_mem hws)
        refine Zgp (Imp.trans (Imp.swap.trans (star_at hws)) (pS_out)) ?_
        repeat (first|refine zA ?_|refine zB ?_|refine zC ?_|refine zD ?_|refine zE ?_|refine zF ?_|refine zG ?_|refine zH ?_|refine zI ?_|refine zJ ?_|refine zK ?_|refine zL ?_|refine zM rfl ?_|refine zN ?_|refine zO ?_|refine zP ?_|refine zQ ?_)
        refine Zgb ?_
        first|refine Zhg (Zat rfl) ?_|refine Zhg (Zar rfl) ?_
        first|refine Zhg (Zl5 rfl rfl) ?_|refine Zhg (Zl3 rfl rfl) ?_
        refine Zhp rfl (by repeat constructor) (hidv s2 w hws he2) ?_
        refine Zhg (Zdm (cs := #[.int .i64 2, .int .i64 0, .slice none 0 0, u8b 0#8, u8b 0#8, u8b 0#8, u8b 0#8, u8b 0#8, u8b 0#8, u8b 0#8, u8b 0#8, u8b 0#8, u8b 0#8, u8b 0#8, u8b 0#8, u8b 0#8, u8b 0#8, u8b 0#8, u8b 0#8, u8b 0#8, u8b 0#8, u8b 0#8, u8b 0#8, u8b 0#8, u8b 0#8, u8b 0#8, u8b 0#8, u8b 0#8, u8b 0#8, u8b 0#8, u8b 0#8, u8b 0#8, u8b 0#8, u8b 0#8, u8b 0#8]) (by kernel_rfl)) ?_
        refine Zh8 rfl (by kernel_rfl) (stepped_y (L := []) s2[w].2 hx2.1 opSum rfl Bs.nil (by show 0 ≤ _; omega) (by show _ + 0 ≤ _; omega) _ opSum_cells) rfl (by repeat (first|exact Take.nil|exact Take.all|(apply Take.cons; (next => (repeat constructor); done))|apply Take.skip)) ?_
        rintro _ _ ⟨x', hx1', hx2', rfl, rfl⟩
        refine Zg2 (by repeat (first|exact App.nil|apply App.cons|(apply App.flip; first|exact App.nil|apply App.cons)|exact App.any)) ?_
        first|refine Zhg (Zb1 rfl) ?_|refine Zhg (Zb0 rfl) ?_
        refine Zhn 54 rfl (rfl) ?_
        refine Zg3 ?_
        repeat (first|refine zA ?_|refine zB ?_|refine zC ?_|refine zD ?_|refine zE ?_|refine zF ?_|refine zG ?_|refine zH ?_|refine zI ?_|refine zJ ?_|refine zK ?_|refine zL ?_|refine zM rfl ?_|refine zN ?_|refine zO ?_|refine zP ?_|refine zQ ?_)
        refine Zgf rfl ?_
        repeat (first|refine zA ?_|refine zB ?_|refine zC ?_|refine zD ?_|refine zE ?_|refine zF ?_|refine zG ?_|refine zH ?_|refine zI ?_|refine zJ ?_|refine zK ?_|refine zL ?_|refine zM rfl ?_|refine zN ?_|refine zO ?_|refine zP ?_|refine zQ ?_)
        refine Zgb ?_
        first|refine Zhg (Zat rfl) ?_|refine Zhg (Zar rfl) ?_
        first|refine Zhg (Zma (b := 1) rfl rfl) ?_|refine Zhg (Zbg rfl rfl) ?_
        first|refine Zhg (Zaz rfl) ?_|refine Zhg (Zas rfl) ?_
        refine Zg3 ?_
        repeat (first|refine zA ?_|refine zB ?_|refine zC ?_|refine zD ?_|refine zE ?_|refine zF ?_|refine zG ?_|refine zH ?_|refine zI ?_|refine zJ ?_|refine zK ?_|refine zL ?_|refine zM rfl ?_|refine zN ?_|refine zO ?_|refine zP ?_|refine zQ ?_)
        refine Zgl (w + 1, s2.set w (s2[w].1, x')) (by first|omega|(dsimp only; omega)|(simp only []; omega)) ⟨by dsimp only; omega, by simp [hs2], hidb s2 w hws x' he2, ?_⟩ ?_ ⟨rfl, trivial⟩
        · intro x hx
          rcases List.mem_or_eq_of_mem_set hx with h|h
          · exact hok2 x h
          · subst h
            exact ⟨hx1', by dsimp only; have : x'.all.length ≤ s2[w].2.all.length + 0 := hx2'; omega⟩
        · dsimp only
          refine Imp.trans (Imp.arr (N := pX s2[w].1 x' (star pS (s2.eraseIdx w) :: cl b3 ids.toArray 39 :: [old W])) (by repeat (first|exact Arr.nil|exact Arr.stop|refine Arr.cons (by repeat constructor) ?_|refine Arr.skip ?_))) ?_
          exact (pS_in (x := (s2[w].1, x'))).trans ((star_back hws (s2[w].1, x')).trans Imp.swap)
      · repeat (first|refine zA ?_|refine zB ?_|refine zC ?_|refine zD ?_|refine zE ?_|refine zF ?_|refine zG ?_|refine zH ?_|refine zI ?_|refine zJ ?_|refine zK ?_|refine zL ?_|refine zM rfl ?_|refine zN ?_|refine zO ?_|refine zP ?_|refine zQ ?_)
        refine Zgb ?_
        refine Zh8 rfl (by kernel_rfl) (works_x) rfl (by repeat (first|exact Take.nil|exact Take.all|(apply Take.cons; (next => (repeat constructor); done))|apply Take.skip)) ?_
        rintro _ _ ⟨rfl, rfl⟩
        refine Zg2 (by repeat (first|exact App.nil|apply App.cons|(apply App.flip; first|exact App.nil|apply App.cons)|exact App.any)) ?_
        first|refine Zhg (Za0 rfl) ?_|refine Zhg (Zas rfl) ?_
        refine Zg3 ?_
        repeat (first|refine zA ?_|refine zB ?_|refine zC ?_|refine zD ?_|refine zE ?_|refine zF ?_|refine zG ?_|refine zH ?_|refine zI ?_|refine zJ ?_|refine zK ?_|refine zL ?_|refine zM rfl ?_|refine zN ?_|refine zO ?_|refine zP ?_|refine zQ ?_)
        refine rx1 (Zha rfl (Zg7)) ?_
        exact ⟨_, ⟨rfl, rfl⟩, by exact Imp.arr (by repeat (first|exact Arr.nil|exact Arr.stop|refine Arr.cons (by repeat constructor) ?_|refine Arr.skip ?_))⟩
end Go.Sl
