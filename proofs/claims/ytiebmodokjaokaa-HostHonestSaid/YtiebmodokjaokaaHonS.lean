/- HostHonest: what a host without faults does, in plain Lean. -/
import Derived.Test.YtiebmodokjaokaaHostL
import Derived.Test.YtiebmodokjaokaaHostV
set_option linter.unusedVariables false
namespace Go.Sl
open HostS
/-- What the law keeps: the writes, the log, the register. -/
structure Hon where
  rows : List StepV
  log : List HostS.Touch
  reg : Int
def thereB (pages page : Int) : Prop := 0 ≤ page ∧ page < pages
instance (pages page : Int) : Decidable (thereB pages page) := inferInstanceAs (Decidable (_ ∧ _))
def laid (rows : List StepV) (page : Int) : List Bytes := (rows.filter fun r => r.1.page == page).map (·.1.data)
def lastB (size : Nat) (rows : List StepV) (page : Int) : Bytes := ((laid rows page).getLast?).getD (List.replicate size 0)
def zeros12 : List Int := List.replicate 12 0
def hs (pages : Int) (size : Nat) (m : Hon) : HS := ⟨pages, size, laid m.rows, m.reg, fun _ => [], m.log.length, m.log, false⟩
def wantB (pages : Int) (size : Nat) (m : Hon) (t : HostS.Step) : Bytes × Int × Int :=
  if t.do_ = 1 then (if thereB pages t.page then (lastB size m.rows t.page, 0, 0) else ([], 0, 2))
  else if t.do_ = 2 then (if thereB pages t.page then (if t.data.length = size then ([], 0, 0) else ([], 0, 4)) else ([], 0, 2))
  else if t.do_ = 3 then ([], m.reg, 0)
  else if t.do_ = 4 then (if t.v ≤ m.reg then ([], 0, 111) else ([], 0, 0))
  else if t.do_ = 5 then ([], 0, 0)
  else if t.do_ = 7 then (if thereB pages t.page then (lastB size m.rows t.page, 0, 0) else ([], 0, 0))
  else ([], 0, 0)
def nextH (pages : Int) (size : Nat) (m : Hon) (x : StepV) : Hon :=
  if x.1.do_ = 1 then (if thereB pages x.1.page then { m with log := m.log ++ [⟨0, x.1.page, size, zeros12⟩] } else m)
  else if x.1.do_ = 2 then (if thereB pages x.1.page then (if x.1.data.length = size then { m with rows := m.rows ++ [x], log := m.log ++ [⟨1, x.1.page, size, headOf x.1.data⟩] } else m) else m)
  else if x.1.do_ = 3 then { m with log := m.log ++ [⟨2, 0, 8, zeros12⟩] }
  else if x.1.do_ = 4 then { m with reg := max m.reg x.1.v, log := m.log ++ [⟨3, 0, 8, zeros12⟩] }
  else m
theorem does_hs (pages : Int) (size : Nat) (m : Hon) (op page : Int) (b : Bytes) (act : HS → HS) (ha : ∀ s, (act s).down = s.down) :
    does (hs pages size m) op page b act = (act (logged (hs pages size m) op page b), 0) := by
  simp [does, hs, before, behind]
theorem setF_nil {α : Type} (k : Int) : setF (fun _ => ([] : List α)) k [] = fun _ => [] := by
  funext i; simp [setF]
theorem logged_hs (pages : Int) (size : Nat) (m : Hon) (op page : Int) (b : Bytes) : logged (hs pages size m) op page b = hs pages size { m with log := m.log ++ [touchOf (hs pages size m) op page b] } := by
  simp [logged, taken, hs, setF_nil, touchOf]
theorem laid_add (rows : List StepV) (x : StepV) : laid (rows ++ [x]) = setF (laid rows) x.1.page (laid rows x.1.page ++ [x.1.data]) := by
  funext p
  simp only [laid, setF, List.filter_append, List.map_append]
  by_cases h : p = x.1.page
  · subst h; simp
  · have h2 : (x.1.page == p) = false := by simp; omega
    simp [h, h2]
theorem back_last (s : HS) (page : Int) : back s page 0 = ((s.lay page).getLast?).getD (List.replicate s.size 0) := by
  unfold back
  rw [List.getLast?_eq_getElem?]
  generalize s.lay page = l
  simp only []
  by_cases h : l.length = 0
  · have e : l = [] := List.eq_nil_of_length_eq_zero h
    subst e; simp
  · rw [if_pos (by omega)]
    have e : (((l.length : Nat) : Int) - 1 - max 0 0).toNat = l.length - 1 := by omega
    rw [e, List.getD_eq_getElem?_getD, List.getElem?_eq_getElem (by omega)]
    rfl
theorem back_hs (pages : Int) (size : Nat) (m : Hon) (page : Int) : back (hs pages size m) page 0 = lastB size m.rows page := back_last _ _
theorem there_hs (pages : Int) (size : Nat) (m : Hon) (page : Int) : there (hs pages size m) page ↔ thereB pages page := Iff.rfl
theorem told_hs (pages : Int) (size : Nat) (m : Hon) (x : StepV) : toldR (hs pages size m) x.1 = (wantB pages size m x.1, hs pages size (nextH pages size m x)) := by
  unfold toldR wantB nextH
  by_cases h1 : x.1.do_ = 1
  · simp only [if_pos h1, readR, there_hs]
    by_cases ht : thereB pages x.1.page
    · simp only [if_pos ht]
      rw [does_hs pages size m _ _ _ id (fun _ => rfl)]
      simp only [if_true, id, logged_hs]
      have e : spoilt (hs pages size m) x.1.page ((hs pages size m).coming (hs pages size m).ops) = lastB size m.rows x.1.page := back_hs pages size m x.1.page
      rw [e]; rfl
    · simp only [if_neg ht]
  · simp only [if_neg h1]
    by_cases h2 : x.1.do_ = 2
    · simp only [if_pos h2, writeR, there_hs]
      by_cases ht : thereB pages x.1.page
      · simp only [if_pos ht]
        by_cases hl : x.1.data.length = size
        · have hl' : x.1.data.length = (hs pages size m).size := hl
          simp only [if_pos hl, if_pos hl']
          rw [does_hs pages size m _ _ _ (wrote x.1.page x.1.data) (fun _ => rfl), logged_hs]
          simp [wrote, hs, laid_add, touchOf]
        · have hl' : ¬ x.1.data.length = (hs pages size m).size := hl
          simp only [if_neg hl, if_neg hl']
      · simp only [if_neg ht]
    · simp only [if_neg h2]
      by_cases h3 : x.1.do_ = 3
      · simp only [if_pos h3, askR]
        rw [does_hs pages size m _ _ _ id (fun _ => rfl)]
        simp only [if_true, id, logged_hs]
        rfl
      · simp only [if_neg h3]
        by_cases h4 : x.1.do_ = 4
        · simp only [if_pos h4, raiseR]
          rw [does_hs pages size m _ _ _ (HostS.raised x.1.v) (fun _ => rfl), logged_hs]
          by_cases hv : x.1.v ≤ m.reg
          · have : ¬ x.1.v > (hs pages size m).reg := by show ¬ x.1.v > m.reg; omega
            simp only [if_pos hv, this, not_false_eq_true, and_self, if_true]
            rfl
          · have : x.1.v > (hs pages size m).reg := by show x.1.v > m.reg; omega
            simp only [if_neg hv, this, not_true_eq_false, and_false, if_false]
            rfl
        · simp only [if_neg h4]
          by_cases h5 : x.1.do_ = 5
          · simp only [if_pos h5]; rfl
          · simp only [if_neg h5]
            by_cases h7 : x.1.do_ = 7
            · simp only [if_pos h7, liesR, there_hs]
              by_cases ht : thereB pages x.1.page
              · simp only [if_pos ht, back_hs]
              · simp only [if_neg ht]
            · simp only [if_neg h7]
theorem fresh_hs (pages : Int) (size : Nat) : fresh pages size [] = hs pages size ⟨[], [], 0⟩ := rfl
def runH (pages : Int) (size : Nat) (l : List StepV) : Hon := l.foldl (nextH pages size) ⟨[], [], 0⟩
theorem runH_take (pages : Int) (size : Nat) (l : List StepV) (i : Nat) (hi : i < l.length) : runH pages size (l.take (i + 1)) = nextH pages size (runH pages size (l.take i)) l[i] := by
  unfold runH; rw [List.take_succ_eq_append_getElem hi, List.foldl_append]; rfl
/-- What holds of the law's own lists. -/
structure HonOk (W : World) (n : Nat) (m : Hon) : Prop where
  rows : ∀ x ∈ m.rows, StepOk W x
  log : ∀ t ∈ m.log, TOk t
  nr : m.rows.length ≤ n
  nl : m.log.length ≤ n
  reg : (Lit.int .u64 m.reg).wf = true
end Go.Sl
