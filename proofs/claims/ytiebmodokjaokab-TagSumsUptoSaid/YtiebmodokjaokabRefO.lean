/- lists of lists with marked room behind them: as slices that are read, and kept. -/
import Derived.Test.YtiebmodokjaokabRefE
set_option maxHeartbeats 4000000
set_option maxRecDepth 10000
set_option linter.unusedVariables false
set_option linter.unusedSimpArgs false
namespace Go.Sl
open Go Go.Proofs
attribute [local irreducible] cl pt own old pur ex all den denOps denS xOps xC cX CX xthen xblk xcut xloop retX resX Calls PV Rd Con
def spQ (rows : List (List Byte)) (gs : List Nat) : List (Value × List Byte) := (gs.zipIdx.take rows.length).map fun x => (rowV rows x, rows.getD x.2 [])
theorem spQ_len {rows : List (List Byte)} {gs : List Nat} (h : gs.length = rows.length + 3) : (spQ rows gs).length = rows.length := by simp [spQ]; omega
theorem spQ_get {rows : List (List Byte)} {gs : List Nat} (h : gs.length = rows.length + 3) (i : Nat) (hi : i < rows.length) : (spQ rows gs)[i]'(by rw [spQ_len h]; exact hi) = (rowV rows (gs[i]'(by omega), i), rows[i]) := by
  have hg : i < gs.length := by omega
  simp only [spQ, List.getElem_map, List.getElem_take, List.getElem_zipIdx, Nat.zero_add]
  rw [List.getD_eq_getElem?_getD, List.getElem?_eq_getElem hi]; rfl
theorem spQ_rows {rows : List (List Byte)} {gs : List Nat} (h : gs.length = rows.length + 3) : (spQ rows gs).map (·.2) = rows := by
  apply List.ext_getElem (by simp [spQ_len h])
  intro i h1 h2
  rw [List.getElem_map, spQ_get h i h2]
theorem spQ_join {rows : List (List Byte)} {gs : List Nat} (h : gs.length = rows.length + 3) : joinB (spQ rows gs) = rows.flatten := by unfold joinB; rw [spQ_rows h]
theorem join_rows (ps : List (Value × List Byte)) : joinB ps = (ps.map (·.2)).flatten := rfl
theorem rs_spares {M M1 M2 : List Asrt} {g : Nat} {rows : List (List Byte)} {gs : List Nat} (hm : Has M (cl g ((gs.zipIdx).map (rowV rows)).toArray 31) M1) (hs : Has M (star (blkA rows) gs.zipIdx) M2)
    (hgl : gs.length = rows.length + 3) (hel : ∀ r ∈ rows, r.length ≤ 140737488355328) (hl : rows.length ≤ 2097152) : Rs M (.slice (some ⟨g, 0, none⟩) rows.length (rows.length + 3)) (spQ rows gs) := by
  have hq := spQ_len hgl
  have hzl : (gs.zipIdx).length = rows.length + 3 := by simp [hgl]
  have h := Rs.cl (M := M) (o := 0) (c := rows.length + 3) (ps := spQ rows gs) hm (by simp [hq, hzl]) (by
      simp only [Array.toList_extract, List.extract_eq_take_drop, Nat.zero_add, Nat.sub_zero, List.drop_zero]
      rw [hq, ← List.map_take]; simp only [spQ, List.map_map]; rfl) (by omega) (by omega) ?_
  · rwa [hq] at h
  · intro x hx
    obtain ⟨i, hi, rfl⟩ := List.getElem_of_mem hx
    have hi2 : i < rows.length := by rwa [hq] at hi
    have hgi : i < gs.length := by omega
    have hmem : (gs[i], i) ∈ gs.zipIdx := by
      rw [List.mem_iff_getElem]; exact ⟨i, by simpa using hgi, by simp⟩
    obtain ⟨R, hR⟩ := star_has (A := blkA rows) hmem hs
    rw [spQ_get hgl i hi2]
    have e1 : rowV rows (gs[i], i) = .slice (some ⟨gs[i], 0, none⟩) rows[i].length (rows[i].length + 80) := by
      unfold rowV; rw [if_pos hi2, List.getD_eq_getElem?_getD, List.getElem?_eq_getElem hi2]; rfl
    have e2 : rowB rows i = spareL rows[i] := by unfold rowB; rw [if_pos hi2, List.getD_eq_getElem?_getD, List.getElem?_eq_getElem hi2]; rfl
    have e3 : blkA rows (gs[i], i) = cl gs[i] ((spareL rows[i]).map u8b).toArray 5 := by show cl gs[i] ((rowB rows i).map u8b).toArray _ = _; rw [e2]
    rw [e3] at hR
    rw [e1]
    exact (bs_spare .here (hel _ (List.getElem_mem hi2))).imp hR
theorem spareRows_y {L : List Asrt} {v : Value} {ps : List (Value × List Byte)} (rows : List (List Byte)) (hrows : ps.map (·.2) = rows) (h : Rs L v ps) (hl : ps.length ≤ 2097152) (hel : ∀ x ∈ ps, x.2.length ≤ 140737488355328) :
    Con Try.prog 12 [v] L (fun r M => ∃ (g : Nat) (gs : List Nat), gs.length = rows.length + 3 ∧ r = .slice (some ⟨g, 0, none⟩) rows.length (rows.length + 3) ∧ M = cl g ((gs.zipIdx).map (rowV rows)).toArray 31 :: star (blkA rows) gs.zipIdx :: L) := by
  have hrl : ps.length = rows.length := by rw [← hrows]; simp
  refine (spareRows_x h hl hel).mono ?_
  rintro v M ⟨g, gs, h1, rfl, rfl⟩
  exact ⟨_, Imp.refl _, g, gs, by omega, by rw [hrl], by rw [hrows]; rfl⟩
theorem kept_spares {L L1 L2 : List Asrt} {g : Nat} {gs : List Nat} {vw : Value} {ps : List (Value × List Byte)} (rows : List (List Byte)) (hrows : ps.map (·.2) = rows) (hgl : gs.length = rows.length + 3) (hw : Rs L vw ps) (hl : ps.length ≤ 2097152) (hel : ∀ x ∈ ps, x.2.length ≤ 140737488355328)
    (hm : Has L (cl g ((gs.zipIdx).map (rowV rows)).toArray 31) L1) (hs : Has L (star (blkA rows) gs.zipIdx) L2) :
    Con Try.prog 16 [.slice (some ⟨g, 0, none⟩) rows.length (rows.length + 3), vw] L (fun r M => r = .bool true ∧ L = M) := by
  have hrl : ps.length = rows.length := by rw [← hrows]; simp
  have hzl : (gs.zipIdx).length = rows.length + 3 := by simp [hgl]
  rw [← hrl]
  refine keptRows_x (gs := gs) rows hrows (by omega) hw hl hel ?_ ?_
  · refine Rd.cl (o := 0) hm (by simp [hgl, hrl]) (by simp [hgl, hrl]) ?_
    simp only [Array.toList_extract, List.extract_eq_take_drop, Nat.zero_add, Nat.sub_zero, List.drop_zero, Nat.mul_one]
    exact List.take_of_length_le (by rw [List.length_map, hzl]; omega)
  · intro x hx
    obtain ⟨i, hi, rfl⟩ := List.getElem_of_mem hx
    exact star_has (A := blkA rows) (List.getElem_mem hi) hs
end Go.Sl
