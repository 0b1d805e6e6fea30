/- Parts of the proof. -/
import Derived.Test.YtkifhflakdkemaaGreatLawSorterBackM0
import Derived.Test.YtkifhflakdkemaaGreatLawSorterBackM1
import Derived.Test.YtkifhflakdkemaaGreatLawSorterBackM2
import Derived.Test.YtkifhflakdkemaaGreatLawSorterBackM3
import Derived.RangeFuncRecord
import Derived.RangeFuncLeaves
set_option maxHeartbeats 4000000
set_option maxRecDepth 10000
set_option linter.unusedVariables false
set_option linter.unusedSimpArgs false
namespace Go.Sl.NetS
def gAt (k j i : Nat) : List (Nat × Nat) := if i / j % 2 = 1 then [] else [if i / k % 2 = 1 then (i + j, i) else (i, i + j)]
def gRow (n k j : Nat) : List (Nat × Nat) := (List.range n).flatMap (gAt k j)
def gStage (n k : Nat) : Nat → List (Nat × Nat)
  | 0 => gRow n k 1
  | q + 1 => gRow n k (2 ^ (q + 1)) ++ gStage n k q
def gTo (n : Nat) : Nat → List (Nat × Nat)
  | 0 => []
  | p + 1 => gTo n p ++ gStage n (2 ^ (p + 1)) p
def gates (m : Nat) : List (Nat × Nat) := gTo (2 ^ m) m
-- on bits
def gb (s : Nat → Bool) (g : Nat × Nat) : Nat → Bool := fun x => if x = g.1 then s g.1 && s g.2 else if x = g.2 then s g.1 || s g.2 else s x
def rowB (k j : Nat) (s : Nat → Bool) (x : Nat) : Bool :=
  if x / j % 2 = 1 then (if x / k % 2 = 1 then s (x - j) && s x else s (x - j) || s x)
  else (if x / k % 2 = 1 then s x || s (x + j) else s x && s (x + j))
def done (j m x : Nat) : Prop := (x / j % 2 = 1 ∧ x - j < m) ∨ (¬ x / j % 2 = 1 ∧ x < m)
instance (j m x : Nat) : Decidable (done j m x) := by unfold done; infer_instance
theorem div_succ {j x : Nat} (hj : 0 < j) : (x + j) / j = x / j + 1 := Nat.add_div_right x hj
theorem sub_div {j x : Nat} (hj : 0 < j) (h : x / j % 2 = 1) : j ≤ x ∧ (x - j) / j + 1 = x / j := by
  have h1 : j ≤ x := by
    apply Nat.le_of_not_lt
    intro hh
    rw [Nat.div_eq_of_lt hh] at h
    cases h
  refine ⟨h1, ?_⟩
  have := div_succ (x := x - j) hj
  rw [Nat.sub_add_cancel h1] at this
  exact this.symm
theorem same_block {j k x : Nat} (hj : 0 < j) (hk : 2 * j ∣ k) (h : ¬ x / j % 2 = 1) : (x + j) / k = x / k := by
  obtain ⟨c, rfl⟩ := hk
  have e1 : ∀ y, y / (2 * j * c) = y / j / (2 * c) := fun y => by rw [Nat.div_div_eq_div_mul]; congr 1; rw [Nat.mul_comm 2 j, Nat.mul_assoc]
  rw [e1, e1, div_succ hj]
  have e2 : ∀ z, z / (2 * c) = z / 2 / c := fun z => (Nat.div_div_eq_div_mul z 2 c).symm
  rw [e2, e2]
  congr 1
  omega
theorem row_to {k j : Nat} (hj : 0 < j) (hk : 2 * j ∣ k) (s : Nat → Bool) : ∀ m x, (((List.range m).flatMap (gAt k j)).foldl gb s) x = if done j m x then rowB k j s x else s x
  | 0, x => by
    have : ¬ done j 0 x := by
      rintro (⟨h, h2⟩|⟨h, h2⟩)
      · exact absurd h2 (Nat.not_lt_zero _)
      · exact absurd h2 (Nat.not_lt_zero _)
    rw [if_neg this]; rfl
  | m + 1, x => by
    rw [List.range_succ, List.flatMap_append, List.foldl_append]
    generalize hs' : ((List.range m).flatMap (gAt k j)).foldl gb s = s'
    have ih : ∀ x, s' x = if done j m x then rowB k j s x else s x := fun x => by rw [← hs']; exact row_to hj hk s m x
    have e0 : (List.flatMap (gAt k j) [m]) = gAt k j m := by simp
    rw [e0]
    by_cases hm : m / j % 2 = 1
    · have e : gAt k j m = [] := by unfold gAt; rw [if_pos hm]
      rw [e, List.foldl_nil, ih]
      have : done j (m + 1) x ↔ done j m x := by
        constructor
        · rintro (⟨h, h2⟩|⟨h, h2⟩)
          · by_cases hx : x - j = m
            · exfalso
              have := sub_div hj h
              rw [hx] at this
              omega
            · exact .inl ⟨h, by omega⟩
          · by_cases hx : x = m
            · subst hx; exact absurd hm h
            · exact .inr ⟨h, by omega⟩
        · rintro (⟨h, h2⟩|⟨h, h2⟩)
          · exact .inl ⟨h, by omega⟩
          · exact .inr ⟨h, by omega⟩
      by_cases hd : done j m x
      · rw [if_pos hd, if_pos (this.2 hd)]
      · rw [if_neg hd, if_neg (fun hh => hd (this.1 hh))]
    · have hm1 : ((m + j) / j) % 2 = 1 := by rw [div_succ hj]; omega
      have hsb := same_block hj hk hm
      have n1 : ¬ done j m m := by
        rintro (⟨h, h2⟩|⟨h, h2⟩)
        · exact hm h
        · omega
      have n2 : ¬ done j m (m + j) := by
        rintro (⟨h, h2⟩|⟨h, h2⟩)
        · omega
        · exact h hm1
      have v1 : s' m = s m := by rw [ih, if_neg n1]
      have v2 : s' (m + j) = s (m + j) := by rw [ih, if_neg n2]
      have d1 : done j (m + 1) m := .inr ⟨hm, by omega⟩
      have d2 : done j (m + 1) (m + j) := .inl ⟨hm1, by omega⟩
      have other : x ≠ m → x ≠ m + j → s' x = if done j (m + 1) x then rowB k j s x else s x := fun h1 h2 => by
        rw [ih]
        have : done j (m + 1) x ↔ done j m x := by
          constructor
          · rintro (⟨h, h3⟩|⟨h, h3⟩)
            · have := sub_div hj h
              exact .inl ⟨h, by omega⟩
            · exact .inr ⟨h, by omega⟩
          · rintro (⟨h, h2⟩|⟨h, h2⟩)
            · exact .inl ⟨h, by omega⟩
            · exact .inr ⟨h, by omega⟩
        by_cases hd : done j m x
        · rw [if_pos hd, if_pos (this.2 hd)]
        · rw [if_neg hd, if_neg (fun hh => hd (this.1 hh))]
      have hne : m ≠ m + j := by omega
      unfold gAt
      rw [if_neg hm]
      by_cases hd : m / k % 2 = 1
      · rw [if_pos hd]
        simp only [List.foldl_cons, List.foldl_nil, gb]
        by_cases hx : x = m + j
        · subst hx
          rw [if_pos rfl, v1, v2, if_pos d2]
          unfold rowB
          rw [if_pos hm1, hsb, if_pos hd, Nat.add_sub_cancel]
          exact Bool.and_comm _ _
        · rw [if_neg hx]
          by_cases hx2 : x = m
          · subst hx2
            rw [if_pos rfl, v1, v2, if_pos d1]
            unfold rowB
            rw [if_neg hm, if_pos hd]
            exact Bool.or_comm _ _
          · rw [if_neg hx2]; exact other hx2 hx
      · rw [if_neg hd]
        simp only [List.foldl_cons, List.foldl_nil, gb]
        by_cases hx2 : x = m
        · subst hx2
          rw [if_pos rfl, v1, v2, if_pos d1]
          unfold rowB
          rw [if_neg hm, if_neg hd]
        · rw [if_neg hx2]
          by_cases hx : x = m + j
          · subst hx
            rw [if_pos rfl, v1, v2, if_pos d2]
            unfold rowB
            rw [if_pos hm1, hsb, if_neg hd, Nat.add_sub_cancel]
          · rw [if_neg hx]; exact other hx2 hx
theorem row_is {n k j : Nat} (hj : 0 < j) (hk : 2 * j ∣ k) (hn : 2 * j ∣ n) (s : Nat → Bool) {x : Nat} (hx : x < n) : ((gRow n k j).foldl gb s) x = rowB k j s x := by
  unfold gRow
  rw [row_to hj hk, if_pos]
  by_cases h : x / j % 2 = 1
  · exact .inl ⟨h, by omega⟩
  · exact .inr ⟨h, hx⟩
-- blocks
def bito (s : Nat → Bool) (a n : Nat) : Prop := ∃ (c : Bool) (l r : Nat), l ≤ r ∧ r ≤ n ∧ ∀ y, y < n → s (a + y) = (c ^^ decide (l ≤ y ∧ y < r))
def srt (s : Nat → Bool) (a n : Nat) : Prop := ∃ t, t ≤ n ∧ ∀ y, y < n → s (a + y) = decide (t ≤ y)
def konst (c : Bool) (s : Nat → Bool) (a n : Nat) : Prop := ∀ y, y < n → s (a + y) = c
section half
variable {k j a : Nat} {d : Bool} {s : Nat → Bool}
def dir (k : Nat) (d : Bool) (a n : Nat) : Prop := ∀ y, y < n → ((a + y) / k % 2 = 1 ↔ d = true)
theorem low_at (hj : 0 < j) (ha : 2 * j ∣ a) (hd : dir k d a (2 * j)) {y : Nat} (hy : y < j) : (d ^^ rowB k j s (a + y)) = ((d ^^ s (a + y)) && (d ^^ s (a + (j + y)))) := by
  obtain ⟨e, rfl⟩ := ha
  have h1 : ¬ (2 * j * e + y) / j % 2 = 1 := by
    have : 2 * j * e + y = j * (2 * e) + y := by rw [Nat.mul_comm 2 j, Nat.mul_assoc]
    rw [this, Nat.mul_add_div hj, Nat.div_eq_of_lt hy]; omega
  have h2 := hd y (by omega)
  unfold rowB
  rw [if_neg h1, show 2 * j * e + y + j = 2 * j * e + (j + y) by omega]
  cases d with
  | false => rw [if_neg (by rw [h2]; simp)]; simp
  | true => rw [if_pos (h2.2 rfl)]; cases s (2 * j * e + y) <;> cases s (2 * j * e + (j + y)) <;> rfl
theorem high_at (hj : 0 < j) (ha : 2 * j ∣ a) (hd : dir k d a (2 * j)) {y : Nat} (hy : y < j) : (d ^^ rowB k j s (a + (j + y))) = ((d ^^ s (a + y)) || (d ^^ s (a + (j + y)))) := by
  obtain ⟨e, rfl⟩ := ha
  have h1 : (2 * j * e + (j + y)) / j % 2 = 1 := by
    have : 2 * j * e + (j + y) = j * (2 * e + 1) + y := by rw [Nat.mul_add, Nat.mul_comm 2 j, Nat.mul_assoc]; omega
    rw [this, Nat.mul_add_div hj, Nat.div_eq_of_lt hy]; omega
  have h2 := hd (j + y) (by omega)
  unfold rowB
  rw [if_pos h1, show 2 * j * e + (j + y) - j = 2 * j * e + y by omega]
  cases d with
  | false => rw [if_neg (by rw [h2]; simp)]; simp
  | true => rw [if_pos (h2.2 rfl)]; cases s (2 * j * e + y) <;> cases s (2 * j * e + (j + y)) <;> rfl
end half
theorem half_clean {v v' : Nat → Bool} {a j : Nat} (hb : bito v a (2 * j)) (h1 : ∀ y, y < j → v' (a + y) = (v (a + y) && v (a + (j + y)))) (h2 : ∀ y, y < j → v' (a + (j + y)) = (v (a + y) || v (a + (j + y)))) :
    (konst false v' a j ∧ bito v' (a + j) j) ∨ (bito v' a j ∧ konst true v' (a + j) j) := by
  obtain ⟨c, l, r, hlr, hr, hv⟩ := hb
  have e1 : ∀ y, y < j → v (a + y) = (c ^^ decide (l ≤ y ∧ y < r)) := fun y hy => hv y (by omega)
  have e2 : ∀ y, y < j → v (a + (j + y)) = (c ^^ decide (l ≤ j + y ∧ j + y < r)) := fun y hy => hv (j + y) (by omega)
  have g1 : ∀ y, y < j → v' (a + y) = ((c ^^ decide (l ≤ y ∧ y < r)) && (c ^^ decide (l ≤ j + y ∧ j + y < r))) := fun y hy => by rw [h1 y hy, e1 y hy, e2 y hy]
  have g2 : ∀ y, y < j → v' (a + j + y) = ((c ^^ decide (l ≤ y ∧ y < r)) || (c ^^ decide (l ≤ j + y ∧ j + y < r))) := fun y hy => by rw [Nat.add_assoc, h2 y hy, e1 y hy, e2 y hy]
  -- the shorter one, as a cut of a half
  have short : ∃ (c' : Bool) (l' r' : Nat), l' ≤ r' ∧ r' ≤ j ∧ ∀ y, y < j → ((r ≤ l + j → (c' = (decide (l' ≤ y ∧ y < r') ^^ (decide (l ≤ y ∧ y < r) || decide (l ≤ j + y ∧ j + y < r))))) ∧ (l + j < r → (c' = (decide (l' ≤ y ∧ y < r') ^^ (decide (l ≤ y ∧ y < r) && decide (l ≤ j + y ∧ j + y < r)))))) := by
    by_cases hs : r ≤ l + j
    · by_cases hr1 : r ≤ j
      · refine ⟨false, l, r, hlr, hr1, fun y hy => ⟨fun _ => ?_, fun hh => by omega⟩⟩
        have : ¬ (l ≤ j + y ∧ j + y < r) := by omega
        simp [this]
      · by_cases hl1 : j ≤ l
        · refine ⟨false, l - j, r - j, by omega, by omega, fun y hy => ⟨fun _ => ?_, fun hh => by omega⟩⟩
          have e : (l - j ≤ y ∧ y < r - j) ↔ (l ≤ j + y ∧ j + y < r) := by omega
          have e' : ¬ (l ≤ y ∧ y < r) := by omega
          simp only [e, e']; simp
        · refine ⟨true, r - j, l, by omega, by omega, fun y hy => ⟨fun _ => ?_, fun hh => by omega⟩⟩
          by_cases q1 : l ≤ y
          · have a1 : ¬ (r - j ≤ y ∧ y < l) := by omega
            have a2 : l ≤ y ∧ y < r := by omega
            simp only [a1, a2]; simp
          · by_cases q2 : j + y < r
            · have a1 : ¬ (r - j ≤ y ∧ y < l) := by omega
              have a2 : ¬ (l ≤ y ∧ y < r) := by omega
              have a3 : l ≤ j + y ∧ j + y < r := by omega
              simp only [a1, a2, a3]; simp
            · have a1 : r - j ≤ y ∧ y < l := by omega
              have a2 : ¬ (l ≤ y ∧ y < r) := by omega
              have a3 : ¬ (l ≤ j + y ∧ j + y < r) := by omega
              simp only [a1, a2, a3]; simp
    · refine ⟨false, l, r - j, by omega, by omega, fun y hy => ⟨fun hh => by omega, fun _ => ?_⟩⟩
      have e : (l ≤ y ∧ y < r - j) ↔ ((l ≤ y ∧ y < r) ∧ (l ≤ j + y ∧ j + y < r)) := by omega
      simp only [e, Bool.decide_and]; simp
  obtain ⟨c', l', r', hlr', hr', hc'⟩ := short
  by_cases hs : r ≤ l + j
  · have both : ∀ y, y < j → ¬ ((l ≤ y ∧ y < r) ∧ (l ≤ j + y ∧ j + y < r)) := fun y hy => by omega
    cases c with
    | false =>
      left
      refine ⟨fun y hy => ?_, c', l', r', hlr', hr', fun y hy => ?_⟩
      · rw [g1 y hy]
        have := both y hy
        by_cases q : l ≤ y ∧ y < r <;> by_cases q' : l ≤ j + y ∧ j + y < r <;> simp [q, q'] at this ⊢
      · rw [g2 y hy, (hc' y hy).1 hs]
        cases decide (l' ≤ y ∧ y < r') <;> simp
    | true =>
      right
      refine ⟨⟨!c', l', r', hlr', hr', fun y hy => ?_⟩, fun y hy => ?_⟩
      · rw [g1 y hy, (hc' y hy).1 hs]
        cases decide (l' ≤ y ∧ y < r') <;> cases decide (l ≤ y ∧ y < r) <;> cases decide (l ≤ j + y ∧ j + y < r) <;> rfl
      · rw [g2 y hy]
        have := both y hy
        by_cases q : l ≤ y ∧ y < r <;> by_cases q' : l ≤ j + y ∧ j + y < r <;> simp [q, q'] at this ⊢
  · have one : ∀ y, y < j → ((l ≤ y ∧ y < r) ∨ (l ≤ j + y ∧ j + y < r)) := fun y hy => by omega
    have hs2 : l + j < r := by omega
    cases c with
    | false =>
      right
      refine ⟨⟨c', l', r', hlr', hr', fun y hy => ?_⟩, fun y hy => ?_⟩
      · rw [g1 y hy, (hc' y hy).2 hs2]
        cases decide (l' ≤ y ∧ y < r') <;> simp
      · rw [g2 y hy]
        have := one y hy
        by_cases q : l ≤ y ∧ y < r <;> by_cases q' : l ≤ j + y ∧ j + y < r <;> simp [q, q'] at this ⊢
    | true =>
      left
      refine ⟨fun y hy => ?_, !c', l', r', hlr', hr', fun y hy => ?_⟩
      · rw [g1 y hy]
        have := one y hy
        by_cases q : l ≤ y ∧ y < r <;> by_cases q' : l ≤ j + y ∧ j + y < r <;> simp [q, q'] at this ⊢
      · rw [g2 y hy, (hc' y hy).2 hs2]
        cases decide (l' ≤ y ∧ y < r') <;> cases decide (l ≤ y ∧ y < r) <;> cases decide (l ≤ j + y ∧ j + y < r) <;> rfl
theorem pow_pos2 (q : Nat) : 0 < 2 ^ q := Nat.pow_pos (by omega)
theorem dvd_succ {q m : Nat} (h : 2 ^ (q + 1) ∣ m) : 2 ^ q ∣ m := Nat.dvd_trans ⟨2, Nat.pow_succ 2 q⟩ h
theorem dir_low {k : Nat} {d : Bool} {a j : Nat} (h : dir k d a (2 * j)) : dir k d a j := fun y hy => h y (by omega)
theorem dir_high {k : Nat} {d : Bool} {a j : Nat} (h : dir k d a (2 * j)) : dir k d (a + j) j := fun y hy => by rw [Nat.add_assoc]; exact h (j + y) (by omega)
theorem merge {n k : Nat} {d : Bool} : ∀ (q : Nat) (s : Nat → Bool) (a : Nat), 2 ^ (q + 1) ∣ k → 2 ^ (q + 1) ∣ n → 2 ^ (q + 1) ∣ a → a + 2 ^ (q + 1) ≤ n → dir k d a (2 ^ (q + 1)) →
    (bito (fun x => d ^^ s x) a (2 ^ (q + 1)) → srt (fun x => d ^^ ((gStage n k q).foldl gb s) x) a (2 ^ (q + 1))) ∧
    (∀ c, konst c (fun x => d ^^ s x) a (2 ^ (q + 1)) → konst c (fun x => d ^^ ((gStage n k q).foldl gb s) x) a (2 ^ (q + 1))) := by
  intro q
  induction q with
  | zero =>
    intro s a hk hn ha hle hd
    have hr : ∀ x, x < n → ((gRow n k 1).foldl gb s) x = rowB k 1 s x := fun x hx => row_is (by omega) hk hn s hx
    have l1 := low_at (k := k) (j := 1) (a := a) (d := d) (s := s) (by omega) ha hd (y := 0) (by omega)
    have l2 := high_at (k := k) (j := 1) (a := a) (d := d) (s := s) (by omega) ha hd (y := 0) (by omega)
    have hle' : a + 2 ≤ n := hle
    rw [← hr _ (by omega)] at l1 l2
    show (_ → srt (fun x => d ^^ ((gRow n k 1).foldl gb s) x) a 2) ∧ (∀ c, _ → konst c (fun x => d ^^ ((gRow n k 1).foldl gb s) x) a 2)
    generalize hv : (fun x => d ^^ ((gRow n k 1).foldl gb s) x) = v' at *
    have m1 : v' (a + 0) = ((d ^^ s (a + 0)) && (d ^^ s (a + (1 + 0)))) := by rw [← hv]; exact l1
    have m2 : v' (a + (1 + 0)) = ((d ^^ s (a + 0)) || (d ^^ s (a + (1 + 0)))) := by rw [← hv]; exact l2
    have two : ∀ y, y < 2 → y = 0 ∨ y = 1 := fun y hy => by omega
    constructor
    · intro _
      refine ⟨if v' (a + 0) then 0 else if v' (a + (1 + 0)) then 1 else 2, ?_, ?_⟩
      · split
        · omega
        · split <;> omega
      · intro y hy
        rcases two y hy with rfl|rfl
        · cases h1 : v' (a + 0) <;> cases h2 : v' (a + (1 + 0)) <;> simp
        · have e : a + 1 = a + (1 + 0) := rfl
          rw [e]
          have himp : v' (a + 0) = true → v' (a + (1 + 0)) = true := by
            rw [m1, m2]
            cases (d ^^ s (a + 0)) <;> cases (d ^^ s (a + (1 + 0))) <;> simp
          cases h1 : v' (a + 0) <;> cases h2 : v' (a + (1 + 0)) <;> simp
          rw [h2] at himp; exact absurd (himp h1) (by simp)
    · intro c hc y hy
      have c0 := hc 0 (by omega)
      have c1 := hc 1 (by omega)
      rcases two y hy with rfl|rfl
      · rw [m1]
        have c0 : (d ^^ s (a + 0)) = c := c0
        have c1 : (d ^^ s (a + (1 + 0))) = c := c1
        rw [c0, c1]; simp
      · show v' (a + (1 + 0)) = c
        rw [m2]
        have c0 : (d ^^ s (a + 0)) = c := c0
        have c1 : (d ^^ s (a + (1 + 0))) = c := c1
        rw [c0, c1]; simp
  | succ q ih =>
    intro s a hk hn ha hle hd
    have hj : 0 < 2 ^ (q + 1) := pow_pos2 _
    have e2 : 2 ^ (q + 1 + 1) = 2 * 2 ^ (q + 1) := by rw [Nat.pow_succ, Nat.mul_comm]
    have hr : ∀ x, x < n → ((gRow n k (2 ^ (q + 1))).foldl gb s) x = rowB k (2 ^ (q + 1)) s x := fun x hx => row_is hj (by rw [← e2]; exact hk) (by rw [← e2]; exact hn) s hx
    have ha1 : 2 * 2 ^ (q + 1) ∣ a := by rw [← e2]; exact ha
    have hd1 : dir k d a (2 * 2 ^ (q + 1)) := by rw [← e2]; exact hd
    have hle1 : a + 2 * 2 ^ (q + 1) ≤ n := by rw [← e2]; exact hle
    have l1 : ∀ y, y < 2 ^ (q + 1) → (d ^^ ((gRow n k (2 ^ (q + 1))).foldl gb s) (a + y)) = ((d ^^ s (a + y)) && (d ^^ s (a + (2 ^ (q + 1) + y)))) := fun y hy => by rw [hr _ (by omega)]; exact low_at hj ha1 hd1 hy
    have l2 : ∀ y, y < 2 ^ (q + 1) → (d ^^ ((gRow n k (2 ^ (q + 1))).foldl gb s) (a + (2 ^ (q + 1) + y))) = ((d ^^ s (a + y)) || (d ^^ s (a + (2 ^ (q + 1) + y)))) := fun y hy => by rw [hr _ (by omega)]; exact high_at hj ha1 hd1 hy
    have eS : (gStage n k (q + 1)).foldl gb s = (gStage n k q).foldl gb ((gRow n k (2 ^ (q + 1))).foldl gb s) := by show (gRow n k (2 ^ (q + 1)) ++ gStage n k q).foldl gb s = _; rw [List.foldl_append]
    rw [eS, e2]
    generalize hs1 : (gRow n k (2 ^ (q + 1))).foldl gb s = s1 at *
    generalize hjj : 2 ^ (q + 1) = j at *
    have ha2 : j ∣ a := Nat.dvd_trans ⟨2, Nat.mul_comm 2 j⟩ ha1
    have hk2 : j ∣ k := Nat.dvd_trans ⟨2, by rw [e2, Nat.mul_comm]⟩ hk
    have hn2 : j ∣ n := Nat.dvd_trans ⟨2, by rw [e2, Nat.mul_comm]⟩ hn
    obtain ⟨i1, i2⟩ := ih s1 a hk2 hn2 ha2 (by omega) (dir_low hd1)
    obtain ⟨i3, i4⟩ := ih s1 (a + j) hk2 hn2 (Nat.dvd_add ha2 (Nat.dvd_refl j)) (by omega) (dir_high hd1)
    generalize hs2 : (gStage n k q).foldl gb s1 = s2 at *
    constructor
    · intro hb
      rcases half_clean (v := fun x => d ^^ s x) (v' := fun x => d ^^ s1 x) hb l1 l2 with ⟨k1, b1⟩|⟨b1, k1⟩
      · obtain ⟨t, ht, hv⟩ := i3 b1
        have hc := i2 false k1
        refine ⟨j + t, by omega, fun y hy => ?_⟩
        dsimp only
        by_cases hy1 : y < j
        · rw [show (d ^^ s2 (a + y)) = false from hc y hy1]
          symm; simp; omega
        · have := hv (y - j) (by omega)
          have e : a + j + (y - j) = a + y := by omega
          dsimp only at this
          rw [e] at this
          rw [this]
          by_cases hh : t ≤ y - j
          · rw [decide_eq_true hh, decide_eq_true (by omega)]
          · rw [decide_eq_false hh, decide_eq_false (by omega)]
      · obtain ⟨t, ht, hv⟩ := i1 b1
        have hc := i4 true k1
        refine ⟨t, by omega, fun y hy => ?_⟩
        dsimp only
        by_cases hy1 : y < j
        · exact hv y hy1
        · have := hc (y - j) (by omega)
          have e : a + j + (y - j) = a + y := by omega
          dsimp only at this
          rw [e] at this
          rw [this]
          symm; simp; omega
    · intro c hc y hy
      have c1 : konst c (fun x => d ^^ s1 x) a j := fun y hy => by
        have h1 := hc y (by omega)
        have h2 := hc (j + y) (by omega)
        dsimp only at h1 h2 ⊢
        rw [l1 y hy, h1, h2]; simp
      have c2 : konst c (fun x => d ^^ s1 x) (a + j) j := fun y hy => by
        have h1 := hc y (by omega)
        have h2 := hc (j + y) (by omega)
        dsimp only at h1 h2 ⊢
        rw [Nat.add_assoc, l2 y hy, h1, h2]; simp
      by_cases hy1 : y < j
      · exact i2 c c1 y hy1
      · have := i4 c c2 (y - j) (by omega)
        have e : a + j + (y - j) = a + y := by omega
        dsimp only at this
        rw [e] at this
        exact this
theorem to_sorted {n m : Nat} (hn : n = 2 ^ m) (s : Nat → Bool) : ∀ p, p ≤ m → ∀ c, (c + 1) * 2 ^ p ≤ n → srt (fun x => decide (c % 2 = 1) ^^ ((gTo n p).foldl gb s) x) (c * 2 ^ p) (2 ^ p) := by
  intro p
  induction p with
  | zero =>
    intro hp c hc
    cases hv : (decide (c % 2 = 1) ^^ ((gTo n 0).foldl gb s) (c * 2 ^ 0 + 0)) with
    | false => exact ⟨1, Nat.le_refl _, fun y hy => by
        have : y < 1 := hy
        obtain rfl : y = 0 := by omega
        dsimp only; rw [hv]; rfl⟩
    | true => exact ⟨0, Nat.zero_le _, fun y hy => by
        have : y < 1 := hy
        obtain rfl : y = 0 := by omega
        dsimp only; rw [hv]; rfl⟩
  | succ p ih =>
    intro hp c hc
    have eS : (gTo n (p + 1)).foldl gb s = (gStage n (2 ^ (p + 1)) p).foldl gb ((gTo n p).foldl gb s) := by show (gTo n p ++ _).foldl gb s = _; rw [List.foldl_append]
    have e2 : 2 ^ (p + 1) = 2 * 2 ^ p := by rw [Nat.pow_succ, Nat.mul_comm]
    have hm1 : c * 2 ^ (p + 1) = 2 * c * 2 ^ p := by rw [e2, ← Nat.mul_assoc, Nat.mul_comm c 2]
    have hc2 : (2 * c + 2) * 2 ^ p ≤ n := by
      have : (c + 1) * 2 ^ (p + 1) = (2 * c + 2) * 2 ^ p := by rw [e2, ← Nat.mul_assoc, Nat.mul_comm (c + 1) 2, Nat.mul_add]
      rw [← this]; exact hc
    have hx : (2 * c + 1 + 1) * 2 ^ p ≤ n := hc2
    obtain ⟨t, ht, h1⟩ := ih (by omega) (2 * c) (Nat.le_trans (Nat.mul_le_mul_right _ (by omega)) hc2)
    obtain ⟨t', ht', h2⟩ := ih (by omega) (2 * c + 1) hx
    have hpos := pow_pos2 p
    have hs3 : (2 * c + 1) * 2 ^ p = 2 * c * 2 ^ p + 2 ^ p := by rw [Nat.add_mul, Nat.one_mul]
    have hs4 : (2 * c + 2) * 2 ^ p = 2 * c * 2 ^ p + 2 * 2 ^ p := by rw [Nat.add_mul]
    rw [hs3] at h2
    rw [hs4] at hc2
    rw [eS]
    generalize (gTo n p).foldl gb s = s1 at *
    have hbit : bito (fun x => s1 x) (c * 2 ^ (p + 1)) (2 ^ (p + 1)) := by
      refine ⟨false, t, 2 ^ p + t', by omega, by omega, fun y hy => ?_⟩
      rw [hm1]
      dsimp only
      by_cases hy1 : y < 2 ^ p
      · have := h1 y hy1
        have h0 : ¬ (2 * c % 2 = 1) := by omega
        simp only [h0, decide_false, Bool.false_xor] at this
        rw [this]
        simp only [Bool.false_xor]
        by_cases q : t ≤ y
        · rw [decide_eq_true q, decide_eq_true (by omega)]
        · rw [decide_eq_false q, decide_eq_false (by omega)]
      · have := h2 (y - 2 ^ p) (by omega)
        have h0 : (2 * c + 1) % 2 = 1 := by omega
        have e : 2 * c * 2 ^ p + 2 ^ p + (y - 2 ^ p) = 2 * c * 2 ^ p + y := by omega
        rw [e] at this
        simp only [h0, decide_true, Bool.true_xor] at this
        simp only [Bool.false_xor]
        by_cases q : t' ≤ y - 2 ^ p
        · rw [decide_eq_true q] at this
          rw [decide_eq_false (by omega)]
          simpa using this
        · rw [decide_eq_false q] at this
          rw [decide_eq_true (by omega)]
          simpa using this
    have hbd : ∀ d : Bool, bito (fun x => d ^^ s1 x) (c * 2 ^ (p + 1)) (2 ^ (p + 1)) := fun d => by
      obtain ⟨c0, l, r, a1, a2, a3⟩ := hbit
      exact ⟨d ^^ c0, l, r, a1, a2, fun y hy => by dsimp only at a3 ⊢; rw [a3 y hy, Bool.xor_assoc]⟩
    refine (merge (n := n) (k := 2 ^ (p + 1)) (d := decide (c % 2 = 1)) p s1 (c * 2 ^ (p + 1)) (Nat.dvd_refl _) (by rw [hn]; exact Nat.pow_dvd_pow 2 hp) ⟨c, Nat.mul_comm _ _⟩ (by rw [hm1, e2]; exact hc2) ?_).1 (hbd _)
    intro y hy
    rw [Nat.mul_comm, Nat.mul_add_div (pow_pos2 _), Nat.div_eq_of_lt hy, Nat.add_zero]
    simp
theorem bits_sorted (m : Nat) (s : Nat → Bool) {x y : Nat} (hxy : x ≤ y) (hy : y < 2 ^ m) (h : ((gates m).foldl gb s) x = true) : ((gates m).foldl gb s) y = true := by
  obtain ⟨t, ht, hv⟩ := to_sorted (n := 2 ^ m) (m := m) rfl s m (Nat.le_refl _) 0 (by omega)
  simp only [Nat.zero_mul, Nat.zero_add, Nat.zero_mod] at hv
  have h1 := hv x (by omega)
  have h2 := hv y hy
  simp only [show ¬ (0 = 1) by omega, decide_false, Bool.false_xor] at h1 h2
  have h' : ((gTo (2 ^ m) m).foldl gb s) x = true := h
  show ((gTo (2 ^ m) m).foldl gb s) y = true
  rw [h1] at h'
  rw [h2]
  simp at h' ⊢
  omega
end Go.Sl.NetS
namespace Go.Sl.NetS
abbrev Row := List (BitVec 8)
def sw (c : Row → Row → Bool) (l : List Row) (g : Nat × Nat) : List Row := if c (l.getD g.2 []) (l.getD g.1 []) then (l.set g.1 (l.getD g.2 [])).set g.2 (l.getD g.1 []) else l
def okG (n : Nat) (g : Nat × Nat) : Prop := g.1 < n ∧ g.2 < n ∧ g.1 ≠ g.2
section
variable {c : Row → Row → Bool} {l : List Row} {g : Nat × Nat} {n : Nat}
theorem sw_len : (sw c l g).length = l.length := by unfold sw; split <;> simp
theorem getD_set {l : List Row} {i x : Nat} {a : Row} (hi : i < l.length) : (l.set i a).getD x [] = if x = i then a else l.getD x [] := by
  rw [List.getD_eq_getElem?_getD, List.getElem?_set, List.getD_eq_getElem?_getD]
  by_cases h : i = x
  · subst h; simp [hi]
  · rw [if_neg h, if_neg (Ne.symm h)]
theorem sw_get (h : okG l.length g) (x : Nat) : (sw c l g).getD x [] = if c (l.getD g.2 []) (l.getD g.1 []) then (if x = g.2 then l.getD g.1 [] else if x = g.1 then l.getD g.2 [] else l.getD x []) else l.getD x [] := by
  unfold sw
  split
  · rw [getD_set (by simpa using h.2.1), getD_set h.1]
  · rfl
theorem sw_count (h : okG l.length g) (p : Row → Bool) : (sw c l g).countP p = l.countP p := by
  unfold sw
  split
  · obtain ⟨h1, h2, h3⟩ := h
    have e1 : l.getD g.1 [] = l[g.1] := by rw [List.getD_eq_getElem?_getD, List.getElem?_eq_getElem h1]; rfl
    have e2 : l.getD g.2 [] = l[g.2] := by rw [List.getD_eq_getElem?_getD, List.getElem?_eq_getElem h2]; rfl
    rw [e1, e2]
    rw [List.countP_set (by simpa using h2), List.countP_set h1, List.getElem_set_ne h3]
    have hp1 : p l[g.1] = true → 0 < l.countP p := fun hh => List.countP_pos_iff.2 ⟨_, List.getElem_mem h1, hh⟩
    have hp2 : p l[g.2] = true → 0 < l.countP p := fun hh => List.countP_pos_iff.2 ⟨_, List.getElem_mem h2, hh⟩
    cases q1 : p l[g.1] <;> cases q2 : p l[g.2]
    · simp
    · have := hp2 q2
      simp <;> omega
    · have := hp1 q1
      simp <;> omega
    · have := hp1 q1
      simp <;> omega
  · rfl
theorem sw_take (h : okG n g) (hn : n ≤ l.length) : (sw c l g).take n = sw c (l.take n) g ∧ (sw c l g).drop n = l.drop n := by
  have e : ∀ x, x < n → (l.take n).getD x [] = l.getD x [] := fun x hx => by rw [List.getD_eq_getElem?_getD, List.getElem?_take_of_lt hx, List.getD_eq_getElem?_getD]
  unfold sw
  rw [e _ h.1, e _ h.2.1]
  split
  · exact ⟨by rw [List.take_set, List.take_set], by rw [List.drop_set_of_lt h.2.1, List.drop_set_of_lt h.1]⟩
  · exact ⟨rfl, rfl⟩
end
section
variable {c : Row → Row → Bool} {n : Nat}
theorem sws_len : ∀ (gs : List (Nat × Nat)) (l : List Row), (gs.foldl (sw c) l).length = l.length
  | [], _ => rfl
  | g :: gs, l => by rw [List.foldl_cons, sws_len gs, sw_len]
theorem sws_count (p : Row → Bool) : ∀ (gs : List (Nat × Nat)) (l : List Row), (∀ g ∈ gs, okG l.length g) → (gs.foldl (sw c) l).countP p = l.countP p
  | [], _, _ => rfl
  | g :: gs, l, h => by rw [List.foldl_cons, sws_count p gs _ (fun g hg => by rw [sw_len]; exact h g (List.mem_cons_of_mem _ hg)), sw_count (h g List.mem_cons_self)]
theorem sws_take : ∀ (gs : List (Nat × Nat)) (l : List Row), (∀ g ∈ gs, okG n g) → n ≤ l.length → (gs.foldl (sw c) l).take n = gs.foldl (sw c) (l.take n) ∧ (gs.foldl (sw c) l).drop n = l.drop n
  | [], _, _, _ => ⟨rfl, rfl⟩
  | g :: gs, l, h, hn => by
    rw [List.foldl_cons, List.foldl_cons]
    obtain ⟨a, b⟩ := sw_take (c := c) (h g List.mem_cons_self) hn
    obtain ⟨a', b'⟩ := sws_take gs (sw c l g) (fun g hg => h g (List.mem_cons_of_mem _ hg)) (by rw [sw_len]; exact hn)
    rw [a', b', a, b]
    exact ⟨rfl, rfl⟩
def bt (key : Row → Nat) (t : Nat) (l : List Row) : Nat → Bool := fun x => decide (t ≤ key (l.getD x []))
theorem bt_sw {key : Row → Nat} (hc : ∀ a b, c a b = decide (key a < key b)) (t : Nat) {l : List Row} {g : Nat × Nat} (h : okG l.length g) : bt key t (sw c l g) = gb (bt key t l) g := by
  funext x
  unfold bt gb
  rw [sw_get h, hc]
  obtain ⟨h1, h2, h3⟩ := h
  by_cases hk : key (l.getD g.2 []) < key (l.getD g.1 [])
  · rw [if_pos (decide_eq_true hk)]
    by_cases x2 : x = g.2
    · subst x2
      rw [if_pos rfl, if_neg (Ne.symm h3), if_pos rfl]
      by_cases q1 : t ≤ key (l.getD g.1 []) <;> by_cases q2 : t ≤ key (l.getD g.2 []) <;> simp only [q1, q2, decide_true, decide_false] <;> first|rfl|omega
    · rw [if_neg x2]
      by_cases x1 : x = g.1
      · subst x1
        rw [if_pos rfl, if_pos rfl]
        by_cases q1 : t ≤ key (l.getD g.1 []) <;> by_cases q2 : t ≤ key (l.getD g.2 []) <;> simp only [q1, q2, decide_true, decide_false] <;> first|rfl|omega
      · rw [if_neg x1, if_neg x1, if_neg x2]
  · rw [if_neg (by simp only [hk, decide_false]; exact Bool.false_ne_true)]
    by_cases x1 : x = g.1
    · subst x1
      rw [if_pos rfl]
      by_cases q1 : t ≤ key (l.getD g.1 []) <;> by_cases q2 : t ≤ key (l.getD g.2 []) <;> simp only [q1, q2, decide_true, decide_false] <;> first|rfl|omega
    · rw [if_neg x1]
      by_cases x2 : x = g.2
      · subst x2
        rw [if_pos rfl]
        by_cases q1 : t ≤ key (l.getD g.1 []) <;> by_cases q2 : t ≤ key (l.getD g.2 []) <;> simp only [q1, q2, decide_true, decide_false] <;> first|rfl|omega
      · rw [if_neg x2]
theorem bt_sws {key : Row → Nat} (hc : ∀ a b, c a b = decide (key a < key b)) (t : Nat) : ∀ (gs : List (Nat × Nat)) (l : List Row), (∀ g ∈ gs, okG l.length g) → bt key t (gs.foldl (sw c) l) = gs.foldl gb (bt key t l)
  | [], _, _ => rfl
  | g :: gs, l, h => by rw [List.foldl_cons, bt_sws hc t gs _ (fun g hg => by rw [sw_len]; exact h g (List.mem_cons_of_mem _ hg)), bt_sw hc t (h g List.mem_cons_self), List.foldl_cons]
end
-- the gates' places
theorem gAt_ok {n k j i : Nat} (hj : 0 < j) (hn : 2 * j ∣ n) (hi : i < n) : ∀ g ∈ gAt k j i, okG n g := by
  intro g hg
  unfold gAt at hg
  split at hg
  · cases hg
  · rename_i h
    have hlt : i + j < n := by
      obtain ⟨e, rfl⟩ := hn
      have e1 : i / j < 2 * e := by
        apply Nat.div_lt_of_lt_mul
        rw [← Nat.mul_assoc, Nat.mul_comm j 2]; exact hi
      have e2 : i / j + 1 < 2 * e := by omega
      have e3 : (i + j) / j < 2 * e := by rw [div_succ hj]; exact e2
      have e4 := (Nat.div_lt_iff_lt_mul hj).1 e3
      have e5 : 2 * e * j = 2 * j * e := by rw [Nat.mul_assoc, Nat.mul_assoc, Nat.mul_comm e j]
      omega
    rw [List.mem_singleton] at hg
    subst hg
    split
    · exact ⟨hlt, hi, by simp only; omega⟩
    · exact ⟨hi, hlt, by simp only; omega⟩
theorem gRow_ok {n k j : Nat} (hj : 0 < j) (hn : 2 * j ∣ n) : ∀ g ∈ gRow n k j, okG n g := by
  intro g hg
  obtain ⟨i, hi, hg⟩ := List.mem_flatMap.1 hg
  exact gAt_ok hj hn (List.mem_range.1 hi) g hg
theorem gStage_ok {n k : Nat} : ∀ q, 2 ^ (q + 1) ∣ n → ∀ g ∈ gStage n k q, okG n g
  | 0, hn, g, hg => gRow_ok (j := 1) (by omega) hn g hg
  | q + 1, hn, g, hg => by
    rcases List.mem_append.1 hg with hg|hg
    · exact gRow_ok (pow_pos2 _) (by rw [Nat.mul_comm, ← Nat.pow_succ]; exact hn) g hg
    · exact gStage_ok q (dvd_succ hn) g hg
theorem gTo_ok {m : Nat} : ∀ p, p ≤ m → ∀ g ∈ gTo (2 ^ m) p, okG (2 ^ m) g
  | 0, _, g, hg => by cases hg
  | p + 1, hp, g, hg => by
    rcases List.mem_append.1 hg with hg|hg
    · exact gTo_ok p (by omega) g hg
    · exact gStage_ok p (Nat.pow_dvd_pow 2 hp) g hg
theorem gates_ok (m : Nat) : ∀ g ∈ gates m, okG (2 ^ m) g := gTo_ok m (Nat.le_refl _)
theorem sorts {key : Row → Nat} {c : Row → Row → Bool} (hc : ∀ a b, c a b = decide (key a < key b)) {m : Nat} {l : List Row} (hl : l.length = 2 ^ m) {x y : Nat} (hxy : x ≤ y) (hy : y < 2 ^ m) :
    key (((gates m).foldl (sw c) l).getD x []) ≤ key (((gates m).foldl (sw c) l).getD y []) := by
  have hok : ∀ g ∈ gates m, okG l.length g := fun g hg => by rw [hl]; exact gates_ok m g hg
  have h := bt_sws hc (key (((gates m).foldl (sw c) l).getD x [])) (gates m) l hok
  have h2 := bits_sorted m (bt key (key (((gates m).foldl (sw c) l).getD x [])) l) hxy hy
  rw [← h] at h2
  unfold bt at h2
  simpa using h2
theorem sorted_unique {key : Row → Nat} : ∀ (l l' : List Row), (∀ p : Row → Bool, l.countP p = l'.countP p) → l.Pairwise (fun a b => key a < key b) → l'.Pairwise (fun a b => key a < key b) → l = l'
  | [], l', h, _, _ => by
    have := h (fun _ => true)
    rw [List.countP_nil, List.countP_true] at this
    exact (List.eq_nil_of_length_eq_zero this.symm).symm
  | a :: l, [], h, _, _ => by
    have := h (fun _ => true)
    simp at this
  | a :: l, b :: l', h, h1, h2 => by
    rw [List.pairwise_cons] at h1 h2
    have m1 : a ∈ b :: l' := by
      have e := h (fun x => decide (x = a))
      have : 0 < (b :: l').countP (fun x => decide (x = a)) := by rw [← e]; exact List.countP_pos_iff.2 ⟨a, List.mem_cons_self, by simp⟩
      obtain ⟨x, hx, hxa⟩ := List.countP_pos_iff.1 this
      simp at hxa; subst hxa; exact hx
    have m2 : b ∈ a :: l := by
      have e := h (fun x => decide (x = b))
      have : 0 < (a :: l).countP (fun x => decide (x = b)) := by rw [e]; exact List.countP_pos_iff.2 ⟨b, List.mem_cons_self, by simp⟩
      obtain ⟨x, hx, hxa⟩ := List.countP_pos_iff.1 this
      simp at hxa; subst hxa; exact hx
    have hab : a = b := by
      rcases List.mem_cons.1 m1 with e|m1
      · exact e
      · rcases List.mem_cons.1 m2 with e|m2
        · exact e.symm
        · have := h1.1 _ m2; have := h2.1 _ m1; omega
    subst hab
    congr 1
    refine sorted_unique l l' (fun p => ?_) h1.2 h2.2
    have := h p
    rw [List.countP_cons, List.countP_cons] at this
    omega
end Go.Sl.NetS
namespace Go.Sl.NetS
theorem and_pow (x q : Nat) : (x &&& 2 ^ q = 0) ↔ ¬ x / 2 ^ q % 2 = 1 := by
  have ht : x.testBit q = decide (x / 2 ^ q % 2 = 1) := Nat.testBit_eq_decide_div_mod_eq
  constructor
  · intro h hh
    have := congrArg (fun z => z.testBit q) h
    simp only [Nat.testBit_and, Nat.testBit_two_pow_self, Nat.zero_testBit, Bool.and_true] at this
    rw [ht, decide_eq_true hh] at this
    cases this
  · intro hh
    apply Nat.eq_of_testBit_eq
    intro j
    rw [Nat.testBit_and, Nat.zero_testBit, Nat.testBit_two_pow]
    by_cases e : q = j
    · subst e; rw [ht, decide_eq_false hh]; rfl
    · simp [e]
theorem or_pow {x q : Nat} (h : ¬ x / 2 ^ q % 2 = 1) : x ||| 2 ^ q = x + 2 ^ q := by
  have hq := pow_pos2 q
  have e1 := Nat.div_add_mod x (2 ^ q)
  have hr := Nat.mod_lt x hq
  obtain ⟨e, he⟩ : ∃ e, x / 2 ^ q = 2 * e := ⟨x / 2 ^ q / 2, by omega⟩
  rw [he] at e1
  generalize x % 2 ^ q = r at *
  subst e1
  have h1 : 2 ^ q * (2 * e) + r = 2 ^ q * (2 * e) ||| r := Nat.two_pow_add_eq_or_of_lt hr _
  have h2 : 2 ^ q * (2 * e + 1) + r = 2 ^ q * (2 * e + 1) ||| r := Nat.two_pow_add_eq_or_of_lt hr _
  have h3 : 2 ^ q * (2 * e + 1) = 2 ^ q * (2 * e) ||| 2 ^ q := by
    have a1 : ∀ z, 2 ^ q * z = z <<< q := fun z => by rw [Nat.shiftLeft_eq, Nat.mul_comm]
    have a2 : 2 ^ q = 1 <<< q := by rw [Nat.shiftLeft_eq, Nat.one_mul]
    have a3 : 2 * e + 1 = 2 * e ||| 1 := by
      have := Nat.two_pow_add_eq_or_of_lt (i := 1) (b := 1) (by omega) e
      simpa using this
    rw [a1, a1, a3, Nat.shiftLeft_or_distrib, ← a2]
  have h4 : 2 ^ q * (2 * e) + r + 2 ^ q = 2 ^ q * (2 * e + 1) + r := by rw [Nat.mul_add, Nat.mul_one]; omega
  rw [h4, h2, h1, h3, Nat.or_assoc, Nat.or_assoc, Nat.or_comm r]
def gPre (n k p : Nat) : Nat → List (Nat × Nat)
  | 0 => []
  | r + 1 => gPre n k p r ++ gRow n k (2 ^ (p - r))
theorem gStage_split (n k p : Nat) : ∀ r, r ≤ p → gStage n k p = gPre n k p r ++ gStage n k (p - r)
  | 0, _ => rfl
  | r + 1, h => by
    rw [gStage_split n k p r (by omega)]
    obtain ⟨d, hd⟩ : ∃ d, p - r = d + 1 := ⟨p - r - 1, by omega⟩
    have e : p - (r + 1) = d := by omega
    show gPre n k p r ++ gStage n k (p - r) = (gPre n k p r ++ gRow n k (2 ^ (p - r))) ++ gStage n k (p - (r + 1))
    rw [hd, e, List.append_assoc]
    rfl
theorem gPre_all (n k p : Nat) : gPre n k p (p + 1) = gStage n k p := by
  rw [gStage_split n k p p (Nat.le_refl _)]
  show gPre n k p p ++ gRow n k (2 ^ (p - p)) = _
  rw [Nat.sub_self]
  rfl
theorem gTo_pre {n p : Nat} : ∀ {m : Nat}, p ≤ m → gTo n p <+: gTo n m
  | 0, h => by
    obtain rfl : p = 0 := by omega
    exact List.prefix_refl _
  | m + 1, h => by
    by_cases e : p = m + 1
    · subst e; exact List.prefix_refl _
    · exact (gTo_pre (show p ≤ m by omega)).trans (List.prefix_append _ _)
def come (n p r i : Nat) : List (Nat × Nat) := gTo n p ++ (gPre n (2 ^ (p + 1)) p r ++ (List.range i).flatMap (gAt (2 ^ (p + 1)) (2 ^ (p - r))))
theorem come_pre {m p r i : Nat} (hp : p < m) (hr : r ≤ p) (hi : i ≤ 2 ^ m) : come (2 ^ m) p r i <+: gates m := by
  have h1 : gTo (2 ^ m) (p + 1) <+: gates m := gTo_pre (show p + 1 ≤ m by omega)
  refine List.IsPrefix.trans ?_ h1
  show _ <+: gTo (2 ^ m) p ++ gStage (2 ^ m) (2 ^ (p + 1)) p
  rw [gStage_split (2 ^ m) (2 ^ (p + 1)) p r hr]
  unfold come
  refine (List.prefix_append_right_inj _).2 ((List.prefix_append_right_inj _).2 ?_)
  have hrow : (List.range i).flatMap (gAt (2 ^ (p + 1)) (2 ^ (p - r))) <+: gRow (2 ^ m) (2 ^ (p + 1)) (2 ^ (p - r)) := by
    unfold gRow
    obtain ⟨d, hd⟩ : ∃ d, 2 ^ m = i + d := ⟨2 ^ m - i, by omega⟩
    rw [hd, List.range_add, List.flatMap_append]
    exact List.prefix_append _ _
  refine hrow.trans ?_
  cases hpr : p - r with
  | zero => exact List.prefix_refl _
  | succ d => exact List.prefix_append _ _
theorem come_succ (n p r i : Nat) : come n p r (i + 1) = come n p r i ++ gAt (2 ^ (p + 1)) (2 ^ (p - r)) i := by
  unfold come
  rw [List.range_succ, List.flatMap_append, List.append_assoc, List.append_assoc]
  simp
theorem come_row (n p r : Nat) : come n p r n = gTo n p ++ gPre n (2 ^ (p + 1)) p (r + 1) := rfl
theorem come_0 (n p r : Nat) : come n p r 0 = gTo n p ++ gPre n (2 ^ (p + 1)) p r := by unfold come; simp
theorem come_stage (n p : Nat) : gTo n p ++ gPre n (2 ^ (p + 1)) p (p + 1) = gTo n (p + 1) := by rw [gPre_all]; rfl
theorem pre_at {α : Type} {l : List α} {d : List α} {x : α} (h : d ++ [x] <+: l) : ∃ hk : d.length < l.length, l[d.length] = x := by
  obtain ⟨t, rfl⟩ := h
  exact ⟨by simp, by simp⟩
end Go.Sl.NetS
namespace Go.Sl
open Go
def Yield (P : Program) (l : Nat) (vs : List Value) (A B C : Asrt) : Prop :=
  ∀ w0 F w, St w0 w [F, A] → ∃ fn tmps assign body, (Instr.yield l vs.toArray).run P w = .ok (.round l fn tmps assign body) w ∧
    RoundIn Fence.wide 0 P l fn tmps assign body w (Ret fun r w' => (r = .bool true ∧ St w0 w' [F, B]) ∨ (r = .bool false ∧ St w0 w' [F, C]))
def Gives (P : Program) (F : FuncId) (lb : List Value) (Mi : List Asrt) (xs : List (List Value)) : Prop :=
  ∀ (l : Nat) (J : Nat → Asrt) (E : Asrt), (∀ k (h : k < xs.length), Yield P l xs[k] (J k) (J (k + 1)) E) →
    Con P F (.func (.yield l) #[] #[] :: lb) (J 0 :: Mi) (fun r N => N = J xs.length :: Mi ∨ N = E :: Mi)

section ops
variable {P : Program} {w0 : World} {ops : Array Oper} {rest : List Oper} {ρ : Env} {M R : List Asrt} {K : XK} {dst : Option Nat} {ty : TypeId} {pos : String} {after : Array Edge}
theorem Zox {f : Operand} {ars : Array Operand} {ts : Array TypeId} {l : Nat} {vs : List Value} {A B C : Asrt} (hf : ev ρ f = .func (.yield l) #[] #[]) (hy : Yield P l vs A B C) (ha : argL ρ #[] ars #[] = vs) (hs : Has M A R)
    (k1 : xOps P w0 ops rest (put ρ dst (.bool true)) (B :: R) K) (k2 : xOps P w0 ops rest (put ρ dst (.bool false)) (C :: R) K) :
    xOps P w0 ops (⟨dst, .call { callee := .value f, args := ars, argTypes := ts }, ty, pos, after, none⟩ :: rest) ρ M K := by
  intro F w H
  have H1 : St w0 w [all (F :: R), A] := by
    have h1 : Imp (F :: M) (A :: (F :: R)) := (Imp.cons (Imp.has hs)).trans Imp.swap
    have h2 : Imp (A :: (F :: R)) ((F :: R) ++ [A]) := Imp.comm (L := [A]) (M := F :: R)
    exact H.ent (h1.trans (h2.trans Imp.app))
  obtain ⟨fn, tmps, assign, body, hrun, hround⟩ := hy w0 _ w H1
  refine Zcy ?_
  have e : (execOp (ev ρ) ⟨dst, .call { callee := .value f, args := ars, argTypes := ts }, ty, pos, after, none⟩).run P w = .ok (.round l fn tmps assign body) w := by
    unfold execOp
    simp only [resolve, hf, Deferred.ofValue, pure_bind, invoke]
    have : #[] ++ Array.map (ev ρ) ars = vs.toArray := by
      apply Array.ext'
      simp [← ha, argL]
    rw [this]
    exact hrun
  rw [e]
  have back : ∀ (B : Asrt) (w' : World), St w0 w' [all (F :: R), B] → St w0 w' (F :: (B :: R)) := fun B w' h => by
    have h1 : Imp [all (F :: R), B] ((F :: R) ++ [B]) := Imp.unapp
    have h2 : Imp ((F :: R) ++ [B]) (B :: (F :: R)) := Imp.comm (L := F :: R) (M := [B])
    exact h.ent (h1.trans (h2.trans Imp.swap))
  refine RoundIn.mono hround (Ret.mono ?_)
  rintro r w' (⟨rfl, H'⟩|⟨rfl, H'⟩)
  · exact k1 F w' (back _ _ H')
  · exact k2 F w' (back _ _ H')
end ops

theorem enters_x {P : Program} {F : FuncId} (hb : callable P F = true) (args : Array Value) (w : World) : (callFunc F args).run P w = .ok (.enter F args) w := by
  unfold callFunc
  unfold callable at hb
  show ((program >>= _) : Sem Next).run P w = _
  rw [run_bind P _ _ w w P rfl]
  split at hb
  · rename_i fn hfn
    simp only [hfn]
    simp only [Bool.and_eq_true, bne_iff_ne, ne_eq, Option.isSome_iff_ne_none] at hb
    rw [if_neg (by simp [hb.1]), if_neg (by simp [hb.2])]
    rfl
  · cases hb
def mksD (ds : List Nat) : List Deferred := ds.map fun D => { target := .collected D, args := #[] }
def mksP (ds : List Nat) : List Asrt := ds.map fun D => pt D (.deferred (some []))
def leaveX (w0 : World) (F : Asrt) (Φ : Value → List Asrt → Prop) : Ending → World → Prop := Ret fun v w' => ∃ M', St w0 w' (F :: M') ∧ Φ v M'
def xS (P : Program) (fn : Func) (n : Nat) (ds : List Nat) (w0 : World) (c : Code) (ρ : Env) (M : List Asrt) (Φ : Value → List Asrt → Prop) : Prop :=
  ∀ F w, St w0 w (F :: (mksP ds ++ M)) → ∀ a, Fr (mksD ds) n a ρ → c.wpIn Fence.wide 0 P (bodyPostM Fence.wide 0 P fn (leaveX w0 F Φ)) a w
def xT (P : Program) (fn : Func) (n : Nat) (ds : List Nat) (w0 : World) (b y : Code) (ρ : Env) (M : List Asrt) (Φ : Value → List Asrt → Prop) : Prop :=
  ∀ F w, St w0 w (F :: (mksP ds ++ M)) → ∀ a, Fr (mksD ds) n a ρ → b.wpIn Fence.wide 0 P (Exit.then (y.wpIn Fence.wide 0 P (bodyPostM Fence.wide 0 P fn (leaveX w0 F Φ))) (bodyPostM Fence.wide 0 P fn (leaveX w0 F Φ))) a w
section spine
variable {P : Program} {fn : Func} {n : Nat} {ds : List Nat} {w0 : World} {c x y : Code} {ρ : Env} {M R : List Asrt} {Φ : Value → List Asrt → Prop} {rs : List ResultVar}
theorem leaves_x (hr : fn.results.toList = rs) {dd : List Deferred} {a : Act} (hfr : Fr dd n a ρ) (hq : retX P w0 rs Φ .ret ρ M) : ∀ (ds : List Nat) (F : Asrt) (w : World), St w0 w (F :: (mksP ds ++ M)) → LeavesInM Fence.wide 0 P fn a.tmps (leaveX w0 F Φ) (mksD ds) .returning w
  | [], F, w, H => by
    obtain ⟨vs, N, h1, h2, h3⟩ := hq
    have H : St w0 w (F :: M) := H
    exact ⟨packV vs, results_run hfr (by rw [hr]; exact h1 F w H), _, rfl, N, H.enx h3, h2⟩
  | D :: ds, F, w, H => by
    have H : St w0 w (F :: (pt D (.deferred (some [])) :: (mksP ds ++ M))) := H
    have H2 : St w0 (w.putObj D (.deferred none)) (pt D (.deferred none) :: (F :: (mksP ds ++ M))) := H.swap.set (.deferred none)
    exact ⟨fun hh => (by cases hh), .inl ⟨D, _, rfl, run_takeDeferred H.swap.pt_get, leaves_x hr hfr hq ds F _ H2.drop⟩⟩
theorem xS_c (hm : P.follows .mixedOrders = true) (hr : fn.results.toList = rs) (hc : cfits n c = true) (h : xC P w0 c ρ M (retX P w0 rs Φ)) : xS P fn n ds w0 c ρ M Φ := by
  intro F w H a hfr
  have H' : St w0 w (all (F :: mksP ds) :: M) := St.ent (N := all (F :: mksP ds) :: M) H (Imp.app (L := F :: mksP ds) (M := M))
  refine wpIn_mono (Zow (r := none) (k := 0) hm c ρ w _ a (.inl rfl) hfr hc (h _ w H')) ?_
  rintro e a' w' ⟨ρ', hfr', M', H'', hq⟩
  have H3 : St w0 w' (F :: (mksP ds ++ M')) := H''.ent (Imp.unapp (L := F :: mksP ds) (M := M'))
  cases e <;> first
    | (show LeavesInM _ _ _ _ _ _ _ _ _
       rw [hfr'.defs]
       exact leaves_x hr hfr' hq ds F w' H3)
    | exact hq.elim
theorem xS_seq (hm : P.follows .mixedOrders = true) (hr : fn.results.toList = rs) (hc : cfits n x = true) (h : xC P w0 x ρ M (xthen (fun ρ' M' => xS P fn n ds w0 y ρ' M' Φ) (retX P w0 rs Φ))) : xS P fn n ds w0 (.seq x y) ρ M Φ := by
  intro F w H a hfr
  have H' : St w0 w (all (F :: mksP ds) :: M) := St.ent (N := all (F :: mksP ds) :: M) H (Imp.app (L := F :: mksP ds) (M := M))
  refine wpIn_seq (wpIn_mono (Zow (r := none) (k := 0) hm x ρ w _ a (.inl rfl) hfr hc (h _ w H')) ?_)
  rintro e a' w' ⟨ρ', hfr', M', H'', hq⟩
  have H3 : St w0 w' (F :: (mksP ds ++ M')) := H''.ent (Imp.unapp (L := F :: mksP ds) (M := M'))
  cases e <;> first
    | exact hq F w' H3 a' hfr'
    | (show LeavesInM _ _ _ _ _ _ _ _ _
       rw [hfr'.defs]
       exact leaves_x hr hfr' hq ds F w' H3)
    | exact hq.elim
theorem xS_t {b : Code} (h : xT P fn n ds w0 b y ρ M Φ) : xS P fn n ds w0 (.seq b y) ρ M Φ := fun F w H a hfr => wpIn_seq (h F w H a hfr)
theorem xT_seq {b : Code} (hm : P.follows .mixedOrders = true) (hr : fn.results.toList = rs) (hc : cfits n x = true) (h : xC P w0 x ρ M (xthen (fun ρ' M' => xT P fn n ds w0 b y ρ' M' Φ) (retX P w0 rs Φ))) : xT P fn n ds w0 (.seq x b) y ρ M Φ := by
  intro F w H a hfr
  have H' : St w0 w (all (F :: mksP ds) :: M) := St.ent (N := all (F :: mksP ds) :: M) H (Imp.app (L := F :: mksP ds) (M := M))
  refine wpIn_seq (wpIn_mono (Zow (r := none) (k := 0) hm x ρ w _ a (.inl rfl) hfr hc (h _ w H')) ?_)
  rintro e a' w' ⟨ρ', hfr', M', H'', hq⟩
  have H3 : St w0 w' (F :: (mksP ds ++ M')) := H''.ent (Imp.unapp (L := F :: mksP ds) (M := M'))
  cases e <;> first
    | exact hq F w' H3 a' hfr'
    | (show LeavesInM _ _ _ _ _ _ _ _ _
       rw [hfr'.defs]
       exact leaves_x hr hfr' hq ds F w' H3)
    | exact hq.elim
theorem fn_s {f : FuncId} {args : List Value} (hf : P.funcs[f]? = some fn) (hb : fn.body = some c) (hn : fn.ntmps = n) (hfit : Nat.ble args.length n = true)
    (h : ∀ w0, xS P fn n [] w0 c (nth args) M Φ) : Con P f args M Φ := by
  intro w0 F w H
  have hlen : args.length ≤ n := Nat.le_of_ble_eq_true hfit
  refine (callsIn_wide (n := 0)).1 (callsIn_of_wp_marks (R := leaveX w0 F Φ) hf hb trivial (h w0 F w H _ ?_))
  refine ⟨fun t => ?_, ?_, rfl⟩
  · rw [nth_eq]
    simp only [Array.getD_eq_getD_getElem?, List.getD_eq_getElem?_getD]
    by_cases ht : t < args.length
    · rw [Array.getElem?_append_left (by simpa using ht)]
      simp
    · rw [Array.getElem?_append_right (by simpa using ht), List.getElem?_eq_none (by omega)]
      simp only [Array.getElem?_replicate]
      split <;> rfl
  · simp [hn]; omega
def putl (ρ : Env) (ps : List Tmp) (vs : List Value) : Env := (ps.zip vs).foldl (fun ρ (p, v) => put ρ (some p) v) ρ
theorem fr_putl {dd : List Deferred} : ∀ (l : List (Tmp × Value)) (a : Array Value) (ρ : Env), (∀ t, a.getD t undef = ρ t) → a.size = n → (∀ p ∈ l, p.1 < n) → Fr [] n { tmps := l.foldl (fun (t : Array Value) (x : Tmp × Value) => t.setIfInBounds x.1 x.2) a, defers := [] } (l.foldl (fun ρ (x : Tmp × Value) => put ρ (some x.1) x.2) ρ)
  | [], a, ρ, h1, h2, _ => ⟨h1, h2, rfl⟩
  | (p, v) :: l, a, ρ, h1, h2, h3 => by
    have hfr : Fr [] n { tmps := a, defers := [] } ρ := ⟨h1, h2, rfl⟩
    have hp := hfr.put (d := some p) (fun k hk => by cases hk; exact h3 (p, v) List.mem_cons_self) v
    exact fr_putl (dd := dd) l _ _ hp.val hp.size fun q hq => h3 q (List.mem_cons_of_mem _ hq)
def xround {S T : Type} (I : S → Prop) (Mf : S → List Asrt) (Mt : T → List Asrt) : XQ := fun e _ M => match e with|.normal => ∃ s, I s ∧ Imp M (Mf s)|.ret => ∃ t, Imp M (Mt t)|_ => False
theorem Zoy {S T : Type} {I : S → Prop} {Mf : S → List Asrt} {Mt : T → List Asrt} (s : S) (hI : I s) (hM : Imp M (Mf s)) : xround I Mf Mt .normal ρ M := ⟨s, hI, hM⟩
set_option maxHeartbeats 1000000 in
theorem xT_rf {bid : Nat} {g : Operand} {ps : Array Tmp} {assign body : Code} {gf : FuncId} {lb : Array Value} {Mi N : List Asrt} {xs : List (List Value)} (hm : P.follows .mixedOrders = true) (hr : fn.results.toList = rs)
    (hg : ev ρ g = .func (.func gf) #[] lb) (hcal : callable P gf = true) (hit : Gives P gf lb.toList Mi xs) (hs : Imp M (Mi ++ N))
    (hc : (cfits n assign && cfits n body && plainC assign && plainC body && ps.toList.all (fun p => Nat.blt p n)) = true) (hps : ∀ v ∈ xs, v.length = ps.size)
    {S T : Type} (I : Nat → S → Prop) (Mf : S → List Asrt) (Mt : T → List Asrt) (s0 : S) (h0 : I 0 s0) (hM : Imp N (Mf s0))
    (round : ∀ k (hk : k < xs.length) s w0, I k s → xC P w0 assign (putl ρ ps.toList xs[k]) (Mf s) (xthen (fun ρ' M' => xC P w0 body ρ' M' (xround (I (k + 1)) Mf Mt)) (fun _ _ _ => False)))
    (done : ∀ s D, I xs.length s → xS P fn n (D :: ds) w0 y ρ (Mf s ++ Mi) Φ) (stop : ∀ t, retX P w0 rs Φ .ret ρ (Mt t ++ Mi)) : xT P fn n ds w0 (.block bid (.rangeFunc g ps assign body)) y ρ M Φ := by
  intro F w H a hfr
  simp only [Bool.and_eq_true] at hc
  obtain ⟨⟨⟨⟨hc1, hc2⟩, hc3⟩, hc4⟩, hc5⟩ := hc
  refine wpIn_block (wpIn_rangeFunc ?_)
  intro id _
  obtain ⟨rec, hrec⟩ : ∃ rec : LoopState → Option Code → Loop, rec = fun st pe => { state := st, pending := pe, fn := id, tmps := a.tmps, params := ps, assign, body, defers := w.heap.size } := ⟨_, rfl⟩
  obtain ⟨L, hL⟩ : ∃ L, L = w.heap.size + 1 := ⟨_, rfl⟩
  obtain ⟨W1, hW1⟩ : ∃ W1, (w.alloc (.deferred (some []))).alloc (.loop (rec .ready none)) = W1 := ⟨_, rfl⟩
  have H1 : St w0 W1 (pt L (.loop (rec .ready none)) :: pt w.heap.size (.deferred (some [])) :: (F :: (mksP ds ++ M))) := by
    have h1 := (H.alloc (.deferred (some []))).alloc (.loop (rec .ready none))
    have e : ({ w with heap := w.heap.push (.deferred (some [])) } : World).heap.size = L := by rw [hL]; simp
    rw [e] at h1
    rw [← hW1]
    exact h1
  -- the pieces that stand by
  generalize hD : w.heap.size = D at *
  have himp : Imp (pt L (.loop (rec .ready none)) :: pt D (.deferred (some [])) :: (F :: (mksP ds ++ M))) (all (F :: mksP (D :: ds)) :: (all (pt L (.loop (rec .ready none)) :: Mf s0) :: Mi)) := by
    have a1 : Imp (mksP ds ++ M) (mksP ds ++ (Mi ++ Mf s0)) := Imp.left (hs.trans (Imp.left hM))
    have a2 : Imp (pt L (.loop (rec .ready none)) :: pt D (.deferred (some [])) :: (F :: (mksP ds ++ M))) (pt L (.loop (rec .ready none)) :: pt D (.deferred (some [])) :: (F :: (mksP ds ++ (Mi ++ Mf s0)))) := Imp.cons (Imp.cons (Imp.cons a1))
    have a3 : Imp (pt D (.deferred (some [])) :: (F :: (mksP ds ++ (Mi ++ Mf s0)))) (F :: (mksP (D :: ds) ++ (Mi ++ Mf s0))) := Imp.swap
    have a4 : Imp (F :: (mksP (D :: ds) ++ (Mi ++ Mf s0))) (all (F :: mksP (D :: ds)) :: (Mi ++ Mf s0)) := Imp.app (L := F :: mksP (D :: ds))
    have a5 : Imp (Mi ++ Mf s0) (Mf s0 ++ Mi) := Imp.comm
    refine a2.trans ((Imp.cons (a3.trans (a4.trans (Imp.cons a5)))).trans (Imp.swap.trans (Imp.cons ?_)))
    exact Imp.app (L := pt L (.loop (rec .ready none)) :: Mf s0) (M := Mi)
  let J : Nat → Asrt := fun k => ex fun s : { s : S // I k s } => all (pt L (.loop (rec .ready none)) :: Mf s.1)
  let E : Asrt := ex fun t : T => all (pt L (.loop (rec .done (some .ret))) :: Mt t)
  have H2 : St w0 W1 (all (F :: mksP (D :: ds)) :: (J 0 :: Mi)) := (H1.ent himp).enx (Imp.head fun f hf => ⟨⟨s0, h0⟩, hf⟩)
  have hY : ∀ k (h : k < xs.length), Yield P L xs[k] (J k) (J (k + 1)) E := by
    intro k hk w0' F' w1 K1
    obtain ⟨⟨s, hI⟩, K1⟩ := K1.swap.ex_get
    have K2 : St w0' w1 (pt L (.loop (rec .ready none)) :: (Mf s ++ [F'])) := K1.all_get
    have hrun := run_yield (P := P) (args := (xs[k]).toArray) K2.pt_get (by rw [hrec]; simp [hps _ (List.getElem_mem hk)])
    rw [hrec] at hrun
    refine ⟨_, _, _, _, hrun, roundIn_of_wpIn trivial ?_⟩
    have hfr0 : Fr [] n { tmps := (ps.zip (xs[k]).toArray).foldl (fun tmps (t, a) => tmps.setIfInBounds t a) a.tmps, defers := [] } (putl ρ ps.toList xs[k]) := by
      have := fr_putl (dd := []) (n := n) (ps.toList.zip xs[k]) a.tmps ρ hfr.val hfr.size (fun p hp => by
        have := List.all_eq_true.1 hc5 p.1 (List.of_mem_zip hp).1
        exact Nat.le_of_ble_eq_true this)
      rw [← Array.foldl_toList, Array.toList_zip]
      exact this
    have K3 : St w0' w1 (all [F', pt L (.loop (rec .ready none))] :: Mf s) := by
      refine K2.ent ?_
      have b1 : Imp (pt L (.loop (rec .ready none)) :: (Mf s ++ [F'])) (pt L (.loop (rec .ready none)) :: ([F'] ++ Mf s)) := Imp.cons Imp.comm
      exact b1.trans (Imp.swap.trans (Imp.app (L := [F', pt L (.loop (rec .ready none))]) (M := Mf s)))
    refine wpIn_mono (Zow (r := some L) (k := 0) hm assign _ w1 _ _ (.inr hc3) hfr0 hc1 (round k hk s w0' hI _ w1 K3)) ?_
    rintro e a2 w2 ⟨ρ2, hfr2, M2, K4, hq⟩
    cases e with
    | normal =>
      have hq : xC P w0' body ρ2 M2 (xround (I (k + 1)) Mf Mt) := hq
      have K5 : St w0' w2 (pt L (.loop (rec .ready none)) :: (F' :: M2)) := K4.ent ((Imp.unapp (L := [F', pt L (.loop (rec .ready none))]) (M := M2)).trans Imp.swap)
      have hbr := run_beginRound (P := P) K5.pt_get (by rw [hrec])
      refine ⟨_, hbr, ?_⟩
      have K6 : St w0' (w2.putObj L (.loop { rec .ready none with state := .busy })) (all [F', pt L (.loop (rec .busy none))] :: M2) := by
        have := K5.set (.loop { rec .ready none with state := .busy })
        rw [hrec] at this ⊢
        exact this.ent (Imp.swap.trans (Imp.app (L := [F', _]) (M := M2)))
      refine wpIn_mono (Zow (r := some L) (k := 0) hm body ρ2 _ _ a2 (.inr hc4) hfr2 hc2 (hq _ _ K6)) ?_
      rintro e a3 w3 ⟨ρ3, hfr3, M3, K7, hp⟩
      have K8 : St w0' w3 (pt L (.loop (rec .busy none)) :: (F' :: M3)) := K7.ent ((Imp.unapp (L := [F', pt L (.loop (rec .busy none))]) (M := M3)).trans Imp.swap)
      cases e with
      | normal =>
        obtain ⟨s', hI', hM'⟩ := hp
        refine ⟨_, _, run_endRound none K8.pt_get, _, rfl, .inl ⟨rfl, ?_⟩⟩
        have := K8.set (.loop { rec .busy none with state := .ready, pending := none })
        rw [hrec] at this ⊢
        refine St.ent (N := [F', J (k + 1)]) this (Imp.swap.trans (Imp.cons ?_))
        have c1 := (Imp.cons (A := pt L (.loop (rec .ready none))) hM').trans (by have := Imp.app (L := pt L (.loop (rec .ready none)) :: Mf s') (M := []); rwa [List.append_nil] at this)
        rw [hrec] at c1
        refine c1.trans (Imp.head fun f hf => ⟨⟨s', hI'⟩, ?_⟩)
        rw [hrec]; exact hf
      | ret =>
        obtain ⟨t, hM'⟩ := hp
        refine ⟨_, _, run_endRound (some .ret) K8.pt_get, _, rfl, .inr ⟨rfl, ?_⟩⟩
        have := K8.set (.loop { rec .busy none with state := .done, pending := some .ret })
        rw [hrec] at this ⊢
        refine St.ent (N := [F', E]) this (Imp.swap.trans (Imp.cons ?_))
        have c1 := (Imp.cons (A := pt L (.loop (rec .done (some .ret)))) hM').trans (by have := Imp.app (L := pt L (.loop (rec .done (some .ret))) :: Mt t) (M := []); rwa [List.append_nil] at this)
        rw [hrec] at c1
        refine c1.trans (Imp.head fun f hf => ⟨t, ?_⟩)
        rw [hrec]; exact hf
      | exit id => exact hp.elim
      | goto t => exact hp.elim
      | panic ch => exact hp.elim
      | outgrown => exact hp.elim
    | exit id => exact hq.elim
    | goto t => exact hq.elim
    | ret => exact hq.elim
    | panic ch => exact hq.elim
    | outgrown => exact hq.elim
  have hcall := (callsIn_wide (n := 0 - 1)).2 (hit L J E hY w0 _ W1 H2)
  refine ⟨L, [{ target := .collected D, args := #[] }], W1, { target := .fn (.func gf) lb, args := #[.func (.yield L) #[] #[]] }, W1, gf, (.func (.yield L) #[] #[] :: lb.toList).toArray, W1, ?_, ?_, fun _ _ => trivial, ?_, wide_dep (r := none), ?_⟩
  · rw [← hW1, hrec, hL]
    have := run_enterLoop_outer (P := P) (w := w) id a.tmps ps assign body
    rw [hD] at this
    exact this
  · have hev : a.eval g = .func (.func gf) #[] lb := by rw [hfr.eval]; exact hg
    simp only [resolve, hev]
    simp [go_sem]
  · have := enters_x hcal (.func (.yield L) #[] #[] :: lb.toList).toArray W1
    simp only [invoke]
    rw [show #[Value.func (.yield L) #[] #[]] ++ lb = (.func (.yield L) #[] #[] :: lb.toList).toArray by apply Array.ext'; simp]
    exact this
  · refine CallsIn.mono hcall ?_
    rintro e w3 ⟨v, rfl, N', H3, rfl|rfl⟩
    · have H4 := H3.enx (M := J xs.length :: Mi) (N := J xs.length :: Mi) (Imp.refl _)
      obtain ⟨⟨s, hI⟩, H5⟩ := H4.swap.ex_get
      have H6 : St w0 w3 (pt L (.loop (rec .ready none)) :: (Mf s ++ (all (F :: mksP (D :: ds)) :: Mi))) := H5.all_get
      obtain ⟨w4, hw4⟩ : ∃ w4, w4 = w3.putObj L (.loop { rec .ready none with state := .exhausted }) := ⟨_, rfl⟩
      refine ⟨_, w4, by rw [hw4]; exact run_endLoop H6.pt_get (by rw [hrec]; simp), ?_⟩
      have H7 : St w0 w4 (F :: (mksP (D :: ds) ++ (Mf s ++ Mi))) := by
        rw [hw4]
        refine (H6.set (.loop { rec .ready none with state := .exhausted })).drop.ent ?_
        have d1 : Imp (Mf s ++ (all (F :: mksP (D :: ds)) :: Mi)) ((all (F :: mksP (D :: ds)) :: Mi) ++ Mf s) := Imp.comm
        have d2 : Imp ((all (F :: mksP (D :: ds)) :: Mi) ++ Mf s) (all (F :: mksP (D :: ds)) :: (Mf s ++ Mi)) := Imp.cons Imp.comm
        exact d1.trans (d2.trans (Imp.unapp (L := F :: mksP (D :: ds)) (M := Mf s ++ Mi)))
      have hpe : (rec .ready none).pending = none := by rw [hrec]
      rw [hpe]
      have hfr' : Fr (mksD (D :: ds)) n { a with defers := [{ target := .collected D, args := #[] }] ++ a.defers } ρ := ⟨hfr.val, hfr.size, by show _ :: a.defers = _; rw [hfr.defs]; rfl⟩
      exact done s D hI F _ H7 _ hfr'
    · have H4 := H3.enx (M := E :: Mi) (N := E :: Mi) (Imp.refl _)
      obtain ⟨t, H5⟩ := H4.swap.ex_get
      have H6 : St w0 w3 (pt L (.loop (rec .done (some .ret))) :: (Mt t ++ (all (F :: mksP (D :: ds)) :: Mi))) := H5.all_get
      obtain ⟨w4, hw4⟩ : ∃ w4, w4 = w3.putObj L (.loop { rec .done (some .ret) with state := .exhausted }) := ⟨_, rfl⟩
      refine ⟨_, w4, by rw [hw4]; exact run_endLoop H6.pt_get (by rw [hrec]; simp), ?_⟩
      have H7 : St w0 w4 (F :: (mksP (D :: ds) ++ (Mt t ++ Mi))) := by
        rw [hw4]
        refine (H6.set (.loop { rec .done (some .ret) with state := .exhausted })).drop.ent ?_
        have d1 : Imp (Mt t ++ (all (F :: mksP (D :: ds)) :: Mi)) ((all (F :: mksP (D :: ds)) :: Mi) ++ Mt t) := Imp.comm
        have d2 : Imp ((all (F :: mksP (D :: ds)) :: Mi) ++ Mt t) (all (F :: mksP (D :: ds)) :: (Mt t ++ Mi)) := Imp.cons Imp.comm
        exact d1.trans (d2.trans (Imp.unapp (L := F :: mksP (D :: ds)) (M := Mt t ++ Mi)))
      have hpe : (rec .done (some .ret)).pending = some .ret := by rw [hrec]
      rw [hpe]
      refine wpIn_ret ?_
      have hfr' : Fr (mksD (D :: ds)) n { a with defers := [{ target := .collected D, args := #[] }] ++ a.defers } ρ := ⟨hfr.val, hfr.size, by show _ :: a.defers = _; rw [hfr.defs]; rfl⟩
      show LeavesInM _ _ _ _ _ _ _ _ _
      rw [hfr'.defs]
      exact leaves_x hr hfr' (stop t) (D :: ds) F _ H7
end spine
end Go.Sl
namespace Go.Sl
open Go
theorem Znr {P : Program} {ρ : Env} {x y : Operand} {S i : Nat} {k : IntKind} {s : ByteArray} {b : Byte} (hS : P.underlying S = some .string) (hx : ev ρ x = .string s) (hy : ev ρ y = .int k (i : Int)) (hb : s[i]? = some (UInt8.ofBitVec b)) : PV P (.index S x y) ρ (u8b b) := by
  intro oo w ho; unfold execOp; rw [ho]; refine op_run_value ?_; rw [hx, hy]
  unfold Instr.index
  simp only [asIntOf, pure_bind]
  rw [run_bind P _ _ w w _ (run_under hS)]
  simp only []
  rw [if_pos (by omega), Int.toNat_natCast, hb]
  rfl
end Go.Sl
namespace Go.Sl
open Go
theorem Imp.snd : ∀ {A B : List Asrt}, Imp (A ++ B) B
  | [], B => Imp.refl B
  | _ :: A, B => Imp.tail.trans (Imp.snd (A := A) (B := B))
theorem Imp.fst {A B : List Asrt} : Imp (A ++ B) A := Imp.comm.trans Imp.snd
section
variable {P : Program} {ρ : Env} {T T' : Nat} {x y : Operand} {a b : Nat}
theorem ofInt_natB (a : Nat) : (BitVec.ofInt 64 (a : Int)) = BitVec.ofNat 64 a := by
  apply BitVec.eq_of_toNat_eq
  rw [BitVec.toNat_ofInt, BitVec.toNat_ofNat]
  omega
theorem Zo0 (hx : ev ρ x = .int .i64 (a : Int)) (hy : ev ρ y = .int .i64 (b : Int)) (ha : a ≤ 9223372036854775807 := by first|omega|exact Nat.le_of_ble_eq_true rfl|(simp; done)|(simp; omega)|decide) (hb : b ≤ 9223372036854775807 := by first|omega|exact Nat.le_of_ble_eq_true rfl|(simp; done)|(simp; omega)|decide) : PV P (.binOp .and T x y T') ρ (.int .i64 ((a &&& b : Nat) : Int)) := by
  have := Zbu (P := P) (T := T) (T' := T') hx hy
  have e : (BitVec.ofInt IntKind.i64.bits (a : Int) &&& BitVec.ofInt IntKind.i64.bits (b : Int)).toNat = a &&& b := by
    show (BitVec.ofInt 64 (a : Int) &&& BitVec.ofInt 64 (b : Int)).toNat = _
    rw [ofInt_natB, ofInt_natB, BitVec.toNat_and, BitVec.toNat_ofNat, BitVec.toNat_ofNat, Nat.mod_eq_of_lt (by omega), Nat.mod_eq_of_lt (by omega)]
  have hle : a &&& b ≤ a := Nat.and_le_left
  rw [e, IntWalk.i64_in _ ⟨by omega, by omega⟩] at this
  exact this
theorem Zo1 (hx : ev ρ x = .int .i64 (a : Int)) (hy : ev ρ y = .int .i64 (b : Int)) (ha : a < 4611686018427387904 := by first|omega|exact Nat.le_of_ble_eq_true rfl|(simp; done)|(simp; omega)|decide) (hb : b < 4611686018427387904 := by first|omega|exact Nat.le_of_ble_eq_true rfl|(simp; done)|(simp; omega)|decide) : PV P (.binOp .or T x y T') ρ (.int .i64 ((a ||| b : Nat) : Int)) := by
  have := Zbv (P := P) (T := T) (T' := T') hx hy
  have e : (BitVec.ofInt IntKind.i64.bits (a : Int) ||| BitVec.ofInt IntKind.i64.bits (b : Int)).toNat = a ||| b := by
    show (BitVec.ofInt 64 (a : Int) ||| BitVec.ofInt 64 (b : Int)).toNat = _
    rw [ofInt_natB, ofInt_natB, BitVec.toNat_or, BitVec.toNat_ofNat, BitVec.toNat_ofNat, Nat.mod_eq_of_lt (by omega), Nat.mod_eq_of_lt (by omega)]
  have hlt : a ||| b < 2 ^ 62 := Nat.or_lt_two_pow (by omega) (by omega)
  rw [e, IntWalk.i64_in _ ⟨by omega, by omega⟩] at this
  exact this
theorem Zo2 {k' : IntKind} (hx : ev ρ x = .int .i64 (a : Int)) (hy : ev ρ y = .int k' (b : Int)) (hb : b < 64) (h : a * 2 ^ b ≤ 9223372036854775807) : PV P (.binOp .shl T x y T') ρ (.int .i64 ((a * 2 ^ b : Nat) : Int)) := by
  have := Zby (P := P) (T := T) (T' := T') hx hy (by omega)
  have e : min ((b : Int)).toNat IntKind.i64.bits = b := by show min b 64 = b; omega
  have e2 : ((a : Int) * 2 ^ b) = ((a * 2 ^ b : Nat) : Int) := by push_cast; rfl
  rw [e, e2, IntWalk.i64_in _ ⟨by omega, by omega⟩] at this
  exact this
theorem Zo3 {k' : IntKind} (hx : ev ρ x = .int .i64 (a : Int)) (hy : ev ρ y = .int k' (b : Int)) (hb : b < 64) : PV P (.binOp .shr T x y T') ρ (.int .i64 ((a / 2 ^ b : Nat) : Int)) := by
  have := Zbz (P := P) (T := T) (T' := T') hx hy (by omega)
  have e : min ((b : Int)).toNat IntKind.i64.bits = b := by show min b 64 = b; omega
  rw [e] at this
  have e2 : (a : Int).fdiv (2 ^ b) = ((a / 2 ^ b : Nat) : Int) := by
    rw [Int.fdiv_eq_ediv_of_nonneg _ (Int.pow_nonneg (by omega))]
    push_cast
    rfl
  rw [e2] at this
  exact this
end
section
variable {P : Program} {w0 : World} {ops : Array Oper} {rest : List Oper} {ρ : Env} {M R : List Asrt} {K : XK} {dst : Option Nat} {ty : TypeId} {pos : String} {after : Array Edge}
theorem Zo4 {f : Operand} {ars : Array Operand} {ts : Array TypeId} {l : Nat} {vs : List Value} {A B C : Asrt} (hf : ev ρ f = .func (.yield l) #[] #[]) (hy : Yield P l vs A B C) (ha : argL ρ #[] ars #[] = vs) (hs : Has M A R)
    (k : ∀ t : Bool, xOps P w0 ops rest (put ρ dst (.bool t)) ((if t then B else C) :: R) K) :
    xOps P w0 ops (⟨dst, .call { callee := .value f, args := ars, argTypes := ts }, ty, pos, after, none⟩ :: rest) ρ M K := Zox hf hy ha hs (k true) (k false)
end
end Go.Sl
namespace Go.Sl
open Go Go.Proofs
attribute [local irreducible] pt own old pur ex all den denOps denS xOps xC cX CX xthen xblk xcut xloop xng retX resX Calls PV Rd Con
open NetS (gates gTo gPre gRow gAt come)
attribute [local irreducible] NetS.gates NetS.gTo NetS.gPre NetS.gRow NetS.come
def lenN (n : Nat) : Nat := if n = 0 then 0 else n.log2 + 1
def padN (n : Nat) : Nat := if n = 0 then 0 else 2 ^ lenN (n - 1)
theorem lenN_le : ∀ n : Fin 256, lenN n.val ≤ 8 := by decide
theorem padN_pow : ∀ m : Fin 9, padN (2 ^ m.val) = 2 ^ m.val := by decide
theorem padN_le {n : Nat} (h : n ≤ 256) : padN n ≤ 256 := by
  unfold padN
  split
  · omega
  · have := lenN_le ⟨n - 1, by omega⟩
    exact Nat.pow_le_pow_right (by omega) this
theorem pv_len8 {P : Program} {ρ : Env} {x y : Operand} {S i : Nat} {k : IntKind} {s : ByteArray} [hs : TyStr P S] (hx : ev ρ x = .string s) (hy : ev ρ y = .int k (i : Int)) (hi : i < 256) (ht : ((List.range 256).map fun i => s[i]?) = ((List.range 256).map fun i => some (UInt8.ofBitVec (BitVec.ofNat 8 (lenN i))))) : PV P (.index S x y) ρ (.int .u8 (lenN i : Int)) := by
  have h : s[i]? = some (UInt8.ofBitVec (BitVec.ofNat 8 (lenN i))) := by
    have := congrArg (fun l => l[i]?) ht
    rw [List.getElem?_map, List.getElem?_map, List.getElem?_range hi] at this
    exact Option.some.inj this
  have h2 := Znr (P := P) (S := S) hs.h hx hy h
  have h3 : lenN i ≤ 8 := lenN_le ⟨i, hi⟩
  have e : (BitVec.ofNat 8 (lenN i)).toNat = lenN i := by rw [BitVec.toNat_ofNat]; omega
  have e2 : u8b (BitVec.ofNat 8 (lenN i)) = .int .u8 (lenN i : Int) := by
    show Value.int .u8 ((BitVec.ofNat 8 (lenN i)).toNat : Int) = _
    rw [e]
  rw [e2] at h2
  exact h2
theorem len64_x (n : Nat) (h : n < 256) : Con Tryz.prog 162 [u64b (BitVec.ofNat 64 n)] [] (fun r M => r = nvv (lenN n) ∧ M = []) := by
  have hl := lenN_le ⟨n, h⟩
  have hl : lenN n ≤ 8 := hl
  have e1 : (BitVec.ofNat 64 n).toNat = n := by rw [BitVec.toNat_ofNat]; omega
  have e2 : ((BitVec.ofNat 64 n).setWidth 8).toNat = n := by rw [BitVec.toNat_setWidth, e1]; omega
  refine fn_y Tryz.func162 Tryz.mixed ?_
  intro w0
  refine Y5 ?_
  refine Zhg (Zls (y := 4294967296#64) rfl rfl) ?_
  refine Zot 4 rfl ((by rw [e1]; show ¬ 4294967296 ≤ n; omega)) ?_
  refine Y4 ?_
  refine Zhg (Zls (y := 65536#64) rfl rfl) ?_
  refine Zot 8 rfl ((by rw [e1]; show ¬ 65536 ≤ n; omega)) ?_
  refine Y4 ?_
  refine Zhg (Zls (y := 256#64) rfl rfl) ?_
  refine Zot 14 rfl ((by rw [e1]; show ¬ 256 ≤ n; omega)) ?_
  refine Y5 ?_
  refine Zhg (Zlx rfl) ?_
  refine Zhg (pv_len8 (i := n) rfl (by exact congrArg (fun z : Nat => Value.int .u8 (z : Int)) e2) h (by kernel_rfl)) ?_
  refine Zhg (Zb5 rfl (by rw [IntWalk.i64_in _ ⟨by omega, by omega⟩])) ?_
  refine Zhg (Zma (a := 0) (b := lenN n) rfl rfl) ?_
  refine V2 ?_
  refine rx1 (Zg9 rfl (Zg7)) ?_
  exact ⟨_, ⟨by rw [Nat.zero_add], rfl⟩, qI⟩
theorem len_x (n : Nat) (h : n < 256) : Con Tryz.prog 126 [u64b (BitVec.ofNat 64 n)] [] (fun r M => r = nvv (lenN n) ∧ M = []) := by
  refine fn_y Tryz.func126 Tryz.mixed ?_
  intro w0
  refine Y6 ?_
  refine Zor (c := len64_x n h) (k := ?_)
  rintro _ _ ⟨rfl, rfl⟩
  refine V3 ?_
  refine rx1 (Zg9 rfl (Zg7)) ?_
  exact ⟨_, ⟨rfl, rfl⟩, qI⟩
theorem pad_x (n : Nat) (h : n ≤ 256) : Con Tryz.prog 92 [nvv n] [] (fun r M => r = nvv (padN n) ∧ M = []) := by
  by_cases h0 : n = 0
  · subst h0
    refine fn_y Tryz.func92 Tryz.mixed ?_
    intro w0
    refine Y6 ?_
    refine Zos 4 rfl ((by omega)) ?_
    refine V9 ?_
    refine rx1 (Zg9 rfl (Zg7)) ?_
    exact ⟨_, ⟨rfl, rfl⟩, qI⟩
  · have e : padN n = 1 * 2 ^ lenN (n - 1) := by unfold padN; rw [if_neg h0, Nat.one_mul]
    have hl := lenN_le ⟨n - 1, by omega⟩
    have hl : lenN (n - 1) ≤ 8 := hl
    have hp := padN_le h
    rw [e] at hp ⊢
    refine fn_y Tryz.func92 Tryz.mixed ?_
    intro w0
    refine Y6 ?_
    refine Zot 4 rfl ((by omega)) ?_
    refine Y3 ?_
    refine Zot 7 rfl ((by omega)) ?_
    refine Y5 ?_
    refine Zhg (Zmb (a := n) (b := 1) rfl rfl (by omega) (by omega)) ?_
    refine Zhg (Zlv rfl) ?_
    refine Zor (c := len_x (n - 1) (by omega)) (k := ?_)
    rintro _ _ ⟨rfl, rfl⟩
    refine Y1 ?_
    refine Zhg (Zo2 (a := 1) (b := lenN (n - 1)) rfl rfl (by omega) (by omega)) ?_
    refine V2 ?_
    refine rx1 (Zg9 rfl (Zg7)) ?_
    exact ⟨_, ⟨rfl, rfl⟩, qI⟩
theorem size_pow_x (m : Nat) (h : m ≤ 16) : Con Tryz.prog 128 [nvv (2 ^ m)] [] (fun r M => r = .bool true ∧ M = []) := by
  have h1 := NetS.pow_pos2 m
  have h2 : 2 ^ m ≤ 2 ^ 16 := Nat.pow_le_pow_right (by omega) h
  have e : (2 ^ m) &&& (2 ^ m - 1) = 0 := by rw [Nat.and_two_pow_sub_one_eq_mod, Nat.mod_self]
  refine fn_y Tryz.func128 Tryz.mixed ?_
  intro w0
  refine Y6 ?_
  refine Zos 4 rfl ((by omega)) ?_
  refine Y3 ?_
  refine Zos 7 rfl ((by omega)) ?_
  refine Y4 ?_
  first|refine Y0 ?_|(refine Zhh rfl ?_; (refine Zhg (Zmb (a := 2 ^ m) (b := 1) rfl rfl (by omega) (by omega)) ?_))
  first|refine Y0 ?_|(refine Zhh rfl ?_; (refine Zhg (Zo0 (a := 2 ^ m) (b := 2 ^ m - 1) rfl rfl (by omega) (by omega)) ?_))
  first|refine Y0 ?_|(refine Zhh rfl ?_; (refine Zhg (Zmj (a := 2 ^ m &&& (2 ^ m - 1)) (b := 0) rfl rfl) ?_))
  refine Zos 14 rfl (e) ?_
  refine V3 ?_
  refine rx1 (Zha rfl (Zg7)) ?_
  exact ⟨_, ⟨rfl, rfl⟩, qI⟩
theorem size_0_x : Con Tryz.prog 128 [nvv 0] [] (fun r M => r = .bool false ∧ M = []) := by
  refine fn_y Tryz.func128 Tryz.mixed ?_
  intro w0
  refine Y6 ?_
  refine Zot 4 rfl ((by omega)) ?_
  refine V13 ?_
  refine rx1 (Zha rfl (Zg7)) ?_
  exact ⟨_, ⟨rfl, rfl⟩, qI⟩
end Go.Sl
namespace Go.Sl
open Go Go.Proofs
attribute [local irreducible] pt own old pur ex all den denOps denS xOps xC cX CX xthen xblk xcut xloop xng retX resX Calls PV Rd Con
open NetS (gates gTo gPre gRow gAt come)
attribute [local irreducible] NetS.gates NetS.gTo NetS.gPre NetS.gRow NetS.come
def encG (g : Nat × Nat) : List Value := [.agg #[nvv g.1, nvv g.2]]
theorem come_hit {m p r i : Nat} (hp : p < m) (hr : r ≤ p) (hi : i < 2 ^ m) (h : ¬ i / 2 ^ (p - r) % 2 = 1) : ∃ hk : (come (2 ^ m) p r i).length < (gates m).length, (gates m)[(come (2 ^ m) p r i).length] = (if i / 2 ^ (p + 1) % 2 = 1 then (i + 2 ^ (p - r), i) else (i, i + 2 ^ (p - r))) ∧ (come (2 ^ m) p r (i + 1)).length = (come (2 ^ m) p r i).length + 1 := by
  have h1 := NetS.come_pre hp hr (i := i + 1) (by omega)
  rw [NetS.come_succ] at h1 ⊢
  have e : gAt (2 ^ (p + 1)) (2 ^ (p - r)) i = [if i / 2 ^ (p + 1) % 2 = 1 then (i + 2 ^ (p - r), i) else (i, i + 2 ^ (p - r))] := by unfold NetS.gAt; rw [if_neg h]
  rw [e] at h1 ⊢
  obtain ⟨hk, hx⟩ := NetS.pre_at h1
  exact ⟨hk, hx, by simp⟩
theorem come_miss {m p r i : Nat} (h : i / 2 ^ (p - r) % 2 = 1) : come (2 ^ m) p r (i + 1) = come (2 ^ m) p r i := by
  rw [NetS.come_succ]
  have e : gAt (2 ^ (p + 1)) (2 ^ (p - r)) i = [] := by unfold NetS.gAt; rw [if_pos h]
  rw [e, List.append_nil]
theorem bitonic0_g {b : Nat} : Gives Tryz.prog 127 [.pointer (some ⟨b, 0, none⟩)] [cl b #[nvv 0] 3] [] := by
  intro l J E hy
  refine fn_y Tryz.func127 Tryz.mixed ?_
  intro w0
  refine Zno Tryz.mixed ?_
  refine Y2 ?_
  refine Zor (c := size_0_x) (k := ?_)
  rintro _ _ ⟨rfl, rfl⟩
  refine Y1 ?_
  refine Zhg (Zb0 rfl) ?_
  refine Zhm 9 rfl (rfl) ?_
  refine V2 ?_
  first|refine rx0 ?_|refine rx0n ?_
  exact ⟨_, .inl rfl, qI⟩
theorem bitonic_g {b m : Nat} (hm : m ≤ 16) : Gives Tryz.prog 127 [.pointer (some ⟨b, 0, none⟩)] [cl b #[nvv (2 ^ m)] 3] ((gates m).map encG) := by
  intro l J E hy
  have hN : 2 ^ m ≤ 2 ^ 16 := Nat.pow_le_pow_right (by omega) hm
  have hlen : ((gates m).map encG).length = (gates m).length := by simp
  have hy2 : ∀ k (hk : k < (gates m).length), Yield Tryz.prog l (encG (gates m)[k]) (J k) (J (k + 1)) E := fun k hk => by
    have := hy k (by rw [hlen]; exact hk)
    simpa using this
  rw [hlen]
  refine fn_y Tryz.func127 Tryz.mixed ?_
  intro w0
  refine Zno Tryz.mixed ?_
  refine Y2 ?_
  refine Zor (c := size_pow_x m hm) (k := ?_)
  rintro _ _ ⟨rfl, rfl⟩
  refine Y1 ?_
  refine Zhg (Zb0 rfl) ?_
  refine Zhn 9 rfl (rfl) ?_
  refine V5 ?_
  refine Zgo [(3, 6), (10, 48)] (by kernel_rfl) (fun p : Nat => p ≤ m) (fun p => J (gTo (2 ^ m) p).length :: [cl b #[nvv (2 ^ m)] 3]) (fun p => [(3, nvv (2 ^ (p + 1)))]) (fun p => m + 1 - p) 0 (Nat.zero_le _) (by with_unfolding_all exact qI) ⟨rfl, trivial⟩ ?_
  intro p u0 hp
  have hp1 : 2 ^ (p + 1) ≤ 2 ^ 17 := Nat.pow_le_pow_right (by omega) (by omega)
  by_cases hpm : p < m
  · have hle : 2 ^ (p + 1) ≤ 2 ^ m := Nat.pow_le_pow_right (by omega) hpm
    have hhalf : 2 ^ (p + 1) / 2 ^ 1 = 2 ^ (p - 0) := by rw [Nat.pow_div (by omega) (by omega)]; congr 1
    refine Y3 ?_
    refine Zhg (Zmg (a := 2 ^ (p + 1)) (b := 2 ^ m) rfl rfl) ?_
    refine Zos 12 rfl (hle) ?_
    refine Y4 ?_
    refine Zhg (Zo3 (a := 2 ^ (p + 1)) (b := 1) rfl rfl (by omega)) ?_
    refine V2 ?_
    rw [hhalf]
    refine Zgo [(4, 6), (17, 48)] (by kernel_rfl) (fun r : Nat => r ≤ p + 1) (fun r => J (gTo (2 ^ m) p ++ gPre (2 ^ m) (2 ^ (p + 1)) p r).length :: [cl b #[nvv (2 ^ m)] 3]) (fun r => [(4, nvv (if r ≤ p then 2 ^ (p - r) else 0))]) (fun r => p + 2 - r) 0 (Nat.zero_le _) (by with_unfolding_all (rw [show gTo (2 ^ m) p ++ gPre (2 ^ m) (2 ^ (p + 1)) p 0 = gTo (2 ^ m) p from List.append_nil _]; exact qI)) ⟨by rw [if_pos (Nat.zero_le _)]; rfl, trivial⟩ ?_
    intro r u1 hr
    by_cases hrp : r ≤ p
    · have hj1 := NetS.pow_pos2 (p - r)
      have hj2 : 2 ^ (p - r) ≤ 2 ^ 16 := Nat.pow_le_pow_right (by omega) (by omega)
      rw [if_pos hrp]
      refine Y2 ?_
      refine Zhg (Zmh (a := 2 ^ (p - r)) (b := 0) rfl rfl) ?_
      refine Zos 18 rfl (hj1) ?_
      refine V6 ?_
      refine Zgo [(5, 6), (22, 48)] (by kernel_rfl) (fun i : Nat => i ≤ 2 ^ m) (fun i => J (come (2 ^ m) p r i).length :: [cl b #[nvv (2 ^ m)] 3]) (fun i => [(22, nvv i)]) (fun i => 2 ^ m - i) 0 (Nat.zero_le _) (by rw [NetS.come_0]; exact qI) ⟨rfl, trivial⟩ ?_
      intro i u2 hi
      refine V3 ?_
      refine Zgg rfl (fun hB => ?_) (fun hB => ?_)
      · refine V4 ?_
        by_cases hb : i / 2 ^ (p - r) % 2 = 1
        · have e1 : i &&& 2 ^ (p - r) ≠ 0 := fun hh => (NetS.and_pow i (p - r)).1 hh hb
          refine Y3 ?_
          refine Zhg (Zo0 (a := i) (b := 2 ^ (p - r)) rfl rfl (by omega) (by omega)) ?_
          refine Zhg (Zmk (a := i &&& 2 ^ (p - r)) (b := 0) rfl rfl) ?_
          refine Zos 28 rfl (e1) ?_
          refine V6 ?_
          rw [← come_miss (m := m) hb]
          exact Zgl (i + 1) qO (by omega) qI ⟨rfl, trivial⟩
        · have e1 := (NetS.and_pow i (p - r)).2 hb
          have e2 := NetS.or_pow hb
          obtain ⟨hk, hx, hl⟩ := come_hit hpm hrp hB hb
          have hyk := hy2 _ hk
          rw [hx, ← hl] at hyk
          refine Y3 ?_
          refine Zhg (Zo0 (a := i) (b := 2 ^ (p - r)) rfl rfl (by omega) (by omega)) ?_
          refine Zhg (Zmk (a := i &&& 2 ^ (p - r)) (b := 0) rfl rfl) ?_
          refine Zot 28 rfl ((fun hh => hh e1)) ?_
          refine Y6 ?_
          refine Zhg (Zo1 (a := i) (b := 2 ^ (p - r)) rfl rfl (by omega) (by omega)) ?_
          refine Zhg (Zdm (cs := #[nvv i, nvv (i ||| 2 ^ (p - r))]) rfl) ?_
          refine Zhz (cs := #[.int .i64 0, .int .i64 0]) rfl ?_; intro b6
          first|refine Zhy rfl rfl qR qZ (by first|rfl|assumption|(simp [oneC]; done)) qZ ?_|refine Zhx rfl rfl qR qZ (by first|rfl|assumption|(simp [oneC]; done)) qZ rfl ?_
          refine V1 ?_
          rw [e2]
          by_cases hd : i / 2 ^ (p + 1) % 2 = 1
          · have e3 : i &&& 2 ^ (p + 1) ≠ 0 := fun hh => (NetS.and_pow i (p + 1)).1 hh hd
            rw [if_pos hd] at hyk
            refine Y3 ?_
            refine Zhg (Zo0 (a := i) (b := 2 ^ (p + 1)) rfl rfl (by omega) (by omega)) ?_
            refine Zhg (Zmk (a := i &&& 2 ^ (p + 1)) (b := 0) rfl rfl) ?_
            refine Zos 37 rfl (e3) ?_
            refine Y15 ?_
            refine Zo4 rfl hyk rfl qH ?_; intro tb
            refine Zhg (Zb0 rfl) ?_
            refine V1 ?_
            refine Zgh rfl (fun ht => ?_) (fun ht => ?_)
            · obtain rfl : tb = false := by simpa using ht
              refine Ct.o ?_
              first|refine rx0 ?_|refine rx0n ?_
              exact ⟨_, .inr rfl, qI⟩
            · obtain rfl : tb = true := by simpa using ht
              refine V4 ?_
              exact Zgl (i + 1) qO (by omega) qI ⟨rfl, trivial⟩
          · have e3 := (NetS.and_pow i (p + 1)).2 hd
            rw [if_neg hd] at hyk
            refine Y3 ?_
            refine Zhg (Zo0 (a := i) (b := 2 ^ (p + 1)) rfl rfl (by omega) (by omega)) ?_
            refine Zhg (Zmk (a := i &&& 2 ^ (p + 1)) (b := 0) rfl rfl) ?_
            refine Zot 37 rfl ((fun hh => hh e3)) ?_
            refine Y5 ?_
            refine Zo4 rfl hyk rfl qH ?_; intro tb
            refine Zhg (Zb0 rfl) ?_
            refine V1 ?_
            refine Zgh rfl (fun ht => ?_) (fun ht => ?_)
            · obtain rfl : tb = false := by simpa using ht
              refine Ct.o ?_
              first|refine rx0 ?_|refine rx0n ?_
              exact ⟨_, .inr rfl, qI⟩
            · obtain rfl : tb = true := by simpa using ht
              refine V4 ?_
              exact Zgl (i + 1) qO (by omega) qI ⟨rfl, trivial⟩
      · have hie : i = 2 ^ m := by omega
        subst hie
        rw [NetS.come_row]
        have hnext : (2 ^ (p - r)) / 2 ^ 1 = if r + 1 ≤ p then 2 ^ (p - (r + 1)) else 0 := by
          by_cases h : r + 1 ≤ p
          · rw [if_pos h, Nat.pow_div (by omega) (by omega)]; congr 1
          · rw [if_neg h, show p - r = 0 by omega]
        refine Y2 ?_
        refine Zhg (Zo3 (a := 2 ^ (p - r)) (b := 1) rfl rfl (by omega)) ?_
        refine V2 ?_
        rw [hnext]
        exact Zgl (r + 1) qO (by omega) qI ⟨rfl, trivial⟩
    · obtain rfl : r = p + 1 := by omega
      rw [if_neg hrp, NetS.come_stage]
      refine Y2 ?_
      refine Zhg (Zmh (a := 0) (b := 0) rfl rfl) ?_
      refine Zot 18 rfl ((by omega)) ?_
      refine Y4 ?_
      refine Zhg (Zo2 (a := 2 ^ (p + 1)) (b := 1) rfl rfl (by omega) (by omega)) ?_
      refine V2 ?_
      rw [← Nat.pow_succ]
      exact Zgl (p + 1) qO (by omega) qI ⟨rfl, trivial⟩
  · obtain rfl : p = m := by omega
    have hgt : ¬ 2 ^ (p + 1) ≤ 2 ^ p := by
      have := NetS.pow_pos2 p
      rw [Nat.pow_succ]; omega
    refine Y3 ?_
    refine Zhg (Zmg (a := 2 ^ (p + 1)) (b := 2 ^ p) rfl rfl) ?_
    refine Zot 12 rfl (hgt) ?_
    refine V2 ?_
    first|refine rx0 ?_|refine rx0n ?_
    exact ⟨_, .inl rfl, by with_unfolding_all exact qI⟩
theorem bitonic_x (n : Nat) : Con Tryz.prog 93 [nvv n] [] (fun r M => ∃ b, r = .func (.func 127) #[] #[.pointer (some ⟨b, 0, none⟩)] ∧ M = [cl b #[nvv n] 3]) := by
  refine fn_y Tryz.func93 Tryz.mixed ?_
  intro w0
  refine Y1 ?_
  refine Zh1 rfl ?_; intro b1
  refine V6 ?_
  refine rx1 (Zg8 rfl (Zg7)) ?_
  exact ⟨_, ⟨b1, rfl, rfl⟩, qI⟩
end Go.Sl
namespace Go.Sl
open Go
def yesM (b : Bool) : BitVec 64 := if b then 18446744073709551615#64 else 0#64
theorem yesM_and (a b : Bool) : yesM a &&& yesM b = yesM (a && b) := by cases a <;> cases b <;> decide
theorem yesM_or (a b : Bool) : yesM a ||| yesM b = yesM (a || b) := by cases a <;> cases b <;> decide
theorem yesM_xor (a b : Bool) : yesM a ^^^ yesM b = yesM (a ^^ b) := by cases a <;> cases b <;> decide
theorem yesM_eq0 (a : Bool) : yesM a = 0#64 ↔ a = false := by cases a <;> decide
theorem shr63 (v : BitVec 64) : v >>> 63 = if v.msb then 1#64 else 0#64 := by
  apply BitVec.eq_of_toNat_eq
  rw [BitVec.toNat_ushiftRight, Nat.shiftRight_eq_div_pow, BitVec.msb_eq_decide]
  have := v.isLt
  by_cases h : 2 ^ (64 - 1) ≤ v.toNat
  · rw [decide_eq_true h]
    show _ = 1
    omega
  · rw [decide_eq_false h]
    show _ = 0
    omega
theorem bitM (b : Bool) : 0#64 - ((if b then 1#64 else 0#64) &&& 1#64) = yesM b := by cases b <;> decide
theorem bitN (b : Bool) : 0#64 - (((if b then 1#64 else 0#64) ^^^ 1#64) &&& 1#64) = yesM (!b) := by cases b <;> decide
theorem zeroB_is (x : BitVec 64) : zeroB x = yesM (decide (x = 0#64)) := by
  unfold zeroB
  rw [shr63, bitN]
  congr 1
  rw [BitVec.msb_or, BitVec.msb_eq_decide, BitVec.msb_eq_decide, BitVec.toNat_sub]
  have := x.isLt
  by_cases h : x = 0#64
  · subst h; decide
  · have h0 : x.toNat ≠ 0 := fun hh => h (BitVec.eq_of_toNat_eq hh)
    rw [decide_eq_false h]
    have e0 : (0#64 : BitVec 64).toNat = 0 := rfl
    rw [e0]
    by_cases h1 : 2 ^ (64 - 1) ≤ x.toNat
    · rw [decide_eq_true h1]; rfl
    · rw [decide_eq_false h1, decide_eq_true (by omega)]; rfl
def lessB (x y : BitVec 64) : BitVec 64 := 0#64 - ((((~~~ x &&& y) ||| ((~~~ x ||| y) &&& (x - y))) >>> 63) &&& 1#64)
theorem lessB_is {x y : BitVec 64} (hx : x.toNat < 9223372036854775808) (hy : y.toNat < 9223372036854775808) : lessB x y = yesM (decide (x.toNat < y.toNat)) := by
  unfold lessB
  rw [shr63, bitM]
  congr 1
  have mx : x.msb = false := by rw [BitVec.msb_eq_decide]; exact decide_eq_false (by omega)
  have my : y.msb = false := by rw [BitVec.msb_eq_decide]; exact decide_eq_false (by omega)
  have md : (x - y).msb = decide (x.toNat < y.toNat) := by
    rw [BitVec.msb_eq_decide, BitVec.toNat_sub]
    have := x.isLt
    by_cases h : x.toNat < y.toNat
    · rw [decide_eq_true h]; exact decide_eq_true (by omega)
    · rw [decide_eq_false h]; exact decide_eq_false (by omega)
  have mn : (~~~ x).msb = true := by rw [BitVec.msb_not, mx]; rfl
  rw [BitVec.msb_or, BitVec.msb_and, BitVec.msb_and, BitVec.msb_or, mn, my, md]
  simp
theorem pickB (b : Bool) (x y : BitVec 64) : y ^^^ (yesM b &&& (x ^^^ y)) = if b then x else y := by
  cases b with
  | false => show y ^^^ (0#64 &&& _) = y; simp
  | true =>
    show y ^^^ (18446744073709551615#64 &&& (x ^^^ y)) = x
    have : (18446744073709551615#64 : BitVec 64) = BitVec.allOnes 64 := by decide
    rw [this, BitVec.allOnes_and, BitVec.xor_comm x y, ← BitVec.xor_assoc, BitVec.xor_self, BitVec.zero_xor]
def ltB : List Byte → List Byte → Bool
  | [], [] => false
  | [], _ :: _ => true
  | _ :: _, [] => false
  | x :: a, y :: b => if x = y then ltB a b else decide (x.toNat < y.toNat)
theorem ltB_rest : ∀ (l r a b : List Byte), l.length = r.length → ltB (l ++ a) (r ++ b) = (ltB l r || (decide (l = r) && ltB a b))
  | [], [], a, b, _ => by simp [ltB]
  | x :: l, y :: r, a, b, h => by
    have ih := ltB_rest l r a b (by simpa using h)
    simp only [List.cons_append, ltB]
    by_cases e : x = y
    · subst e
      rw [if_pos rfl, if_pos rfl, ih]
      simp
    · rw [if_neg e, if_neg e]
      simp [e]
  | [], _ :: _, _, _, h => by simp at h
  | _ :: _, [], _, _, h => by simp at h
theorem ltB_one (x y : Byte) : ltB [x] [y] = decide (x.toNat < y.toNat) := by
  unfold ltB
  by_cases e : x = y
  · subst e; rw [if_pos rfl]; simp [ltB]
  · rw [if_neg e]
theorem ltB_step {a b : List Byte} {i : Nat} (ha : i < a.length) (hb : i < b.length) : ltB (a.take (i + 1)) (b.take (i + 1)) = (ltB (a.take i) (b.take i) || (decide (a.take i = b.take i) && decide (a[i].toNat < b[i].toNat))) := by
  rw [List.take_succ_eq_append_getElem ha, List.take_succ_eq_append_getElem hb, ltB_rest _ _ _ _ (by rw [List.length_take, List.length_take]; omega), ltB_one]
theorem eqT_step {a b : List Byte} {i : Nat} (ha : i < a.length) (hb : i < b.length) : decide (a.take (i + 1) = b.take (i + 1)) = (decide (a.take i = b.take i) && decide (a[i] = b[i])) := by
  rw [List.take_succ_eq_append_getElem ha, List.take_succ_eq_append_getElem hb, ← Bool.decide_and]
  apply decide_eq_decide.2
  constructor
  · intro h
    have h1 := List.append_inj h (by rw [List.length_take, List.length_take]; omega)
    exact ⟨h1.1, by simpa using h1.2⟩
  · rintro ⟨h1, h2⟩; rw [h1, h2]
theorem ltB_end (a b : List Byte) : ltB a b = (ltB (a.take (min a.length b.length)) (b.take (min a.length b.length)) || (decide (a.take (min a.length b.length) = b.take (min a.length b.length)) && decide (a.length < b.length))) := by
  have h := ltB_rest (a.take (min a.length b.length)) (b.take (min a.length b.length)) (a.drop (min a.length b.length)) (b.drop (min a.length b.length)) (by rw [List.length_take, List.length_take]; omega)
  rw [List.take_append_drop, List.take_append_drop] at h
  rw [h]
  congr 2
  by_cases hl : a.length < b.length
  · rw [Nat.min_eq_left (by omega), List.drop_length, decide_eq_true hl]
    cases hd : b.drop a.length with
    | nil => have := congrArg List.length hd; simp at this; omega
    | cons y r => rfl
  · rw [Nat.min_eq_right (by omega), List.drop_length, decide_eq_false hl]
    cases a.drop b.length <;> rfl
def trd (m : Byte) (x y : Byte) : Byte := m &&& (x ^^^ y)
def tradeT (m : Byte) (A B : List Byte) (i : Nat) : List Byte × List Byte :=
  ((List.range A.length).map fun k => if k < i then A.getD k 0#8 ^^^ trd m (A.getD k 0#8) (B.getD k 0#8) else A.getD k 0#8, (List.range B.length).map fun k => if k < i then B.getD k 0#8 ^^^ trd m (A.getD k 0#8) (B.getD k 0#8) else B.getD k 0#8)
def tradeB (m : BitVec 64) (A B : List Byte) : List Byte × List Byte := tradeT (m.setWidth 8) A B A.length
theorem tradeT_len (m : Byte) (A B : List Byte) (i : Nat) : (tradeT m A B i).1.length = A.length ∧ (tradeT m A B i).2.length = B.length := by simp [tradeT]
theorem range_self (A : List Byte) : (List.range A.length).map (fun k => A.getD k 0#8) = A := by
  apply List.ext_getElem (by simp)
  intro j h1 h2
  simp [h2]
theorem tradeT_zero (m : Byte) (A B : List Byte) : tradeT m A B 0 = (A, B) := by
  unfold tradeT
  simp only [Nat.not_lt_zero, if_false, range_self]
theorem tradeT_at (m : Byte) {A B : List Byte} {i : Nat} (ha : i < A.length) (hb : i < B.length) : (tradeT m A B i).1[i]'(by rw [(tradeT_len m A B i).1]; exact ha) = A[i] ∧ (tradeT m A B i).2[i]'(by rw [(tradeT_len m A B i).2]; exact hb) = B[i] := by
  simp [tradeT, ha, hb]
theorem tradeT_set1 (m : Byte) {A B : List Byte} {i : Nat} (ha : i < A.length) (hb : i < B.length) : (tradeT m A B i).1.set i (A[i] ^^^ trd m A[i] B[i]) = (tradeT m A B (i + 1)).1 := by
  apply List.ext_getElem (by simp [tradeT])
  intro j h1 h2
  rw [List.getElem_set]
  simp only [tradeT, List.getElem_map, List.getElem_range]
  by_cases e : i = j
  · subst e
    rw [if_pos rfl, if_pos (by omega)]; simp only [List.getD_eq_getElem?_getD, List.getElem?_eq_getElem ha, List.getElem?_eq_getElem hb, Option.getD_some]
  · rw [if_neg e]
    by_cases e2 : j < i
    · rw [if_pos e2, if_pos (by omega)]
    · rw [if_neg e2, if_neg (by omega)]
theorem tradeT_set2 (m : Byte) {A B : List Byte} {i : Nat} (ha : i < A.length) (hb : i < B.length) : (tradeT m A B i).2.set i (B[i] ^^^ trd m A[i] B[i]) = (tradeT m A B (i + 1)).2 := by
  apply List.ext_getElem (by simp [tradeT])
  intro j h1 h2
  rw [List.getElem_set]
  simp only [tradeT, List.getElem_map, List.getElem_range]
  by_cases e : i = j
  · subst e
    rw [if_pos rfl, if_pos (by omega)]; simp only [List.getD_eq_getElem?_getD, List.getElem?_eq_getElem ha, List.getElem?_eq_getElem hb, Option.getD_some]
  · rw [if_neg e]
    by_cases e2 : j < i
    · rw [if_pos e2, if_pos (by omega)]
    · rw [if_neg e2, if_neg (by omega)]
theorem tradeB_len (m : BitVec 64) (A B : List Byte) : (tradeB m A B).1.length = A.length ∧ (tradeB m A B).2.length = B.length := tradeT_len _ _ _ _
theorem tradeB_yes (t : Bool) {A B : List Byte} (h : A.length = B.length) : tradeB (yesM t) A B = if t then (B, A) else (A, B) := by
  have e1 : ∀ (x y : Byte), x ^^^ trd 255#8 x y = y := fun x y => by
    unfold trd
    rw [show (255#8 : Byte) = BitVec.allOnes 8 by decide, BitVec.allOnes_and, ← BitVec.xor_assoc, BitVec.xor_self, BitVec.zero_xor]
  have e2 : ∀ (x y : Byte), y ^^^ trd 255#8 x y = x := fun x y => by
    unfold trd
    rw [show (255#8 : Byte) = BitVec.allOnes 8 by decide, BitVec.allOnes_and, BitVec.xor_comm x y, ← BitVec.xor_assoc, BitVec.xor_self, BitVec.zero_xor]
  have e3 : ∀ (x y : Byte), trd 0#8 x y = 0#8 := fun x y => by unfold trd; exact BitVec.zero_and
  unfold tradeB tradeT
  cases t with
  | true =>
    have em : (yesM true).setWidth 8 = 255#8 := by decide
    rw [em]
    simp only [e1, e2, if_true]
    congr 1
    · apply List.ext_getElem (by simp [h])
      intro j h1 h2
      have hj : j < A.length := by rw [h]; exact h2
      simp [hj, h2]
    · apply List.ext_getElem (by simp [h])
      intro j h1 h2
      have hj : j < B.length := by rw [← h]; exact h2
      simp [hj, h2]
  | false =>
    have em : (yesM false).setWidth 8 = 0#8 := by decide
    rw [em]
    simp only [e3, BitVec.xor_zero, ite_self, range_self]
    rfl
-- records
def isR (r : List Byte) : Bool := decide (26 ≤ r.length) && decide ((r.getD 0 0#8).toNat < 2) && decide ((r.getD 1 0#8).toNat < 2)
def liveR (r : List Byte) : Bool := isR r && decide (r.getD 0 0#8 = 1#8)
def num4 (r : List Byte) (k : Nat) : BitVec 32 := lowB 32 ((r.drop k).take 4)
def grpR (r : List Byte) : List Byte := (r.drop 10).take 16
def byIdx (a b : List Byte) : Bool := (isR a && isR b) && decide ((num4 a 2).toNat < (num4 b 2).toNat)
def byGrp (a b : List Byte) : Bool :=
  (isR a && isR b) && (if liveR a ^^ liveR b then liveR a else if liveR a then (if ltB (grpR a) (grpR b) || ltB (grpR b) (grpR a) then ltB (grpR a) (grpR b) else byIdx a b) else byIdx a b)
end Go.Sl
namespace Go.Sl
open Go Go.Proofs
attribute [local irreducible] pt own old pur ex all den denOps denS xOps xC cX CX xthen xblk xcut xloop xng retX resX Calls PV Rd Con
theorem less_x (x y : BitVec 64) (hx : x.toNat < 9223372036854775808) (hy : y.toNat < 9223372036854775808) : Con Tryz.prog 89 [u64b x, u64b y] [] (fun r M => r = u64b (yesM (decide (x.toNat < y.toNat))) ∧ M = []) := by
  rw [← lessB_is hx hy]
  refine fn_y Tryz.func89 Tryz.mixed ?_
  intro w0
  refine Y5 ?_
  refine Zhg (Zll rfl) ?_
  refine Y3 ?_
  refine Zhg (Zll rfl) ?_
  refine Y4 ?_
  refine Zhg (Zld rfl rfl) ?_
  refine Y2 ?_
  refine Zhg (Zlk (m := 63) rfl rfl) ?_
  refine Zor (c := bit_x _) (k := ?_)
  rintro _ _ ⟨rfl, rfl⟩
  refine V3 ?_
  refine rx1 (Zg9 rfl (Zg7)) ?_
  exact ⟨_, ⟨rfl, rfl⟩, by exact Imp.arr (by repeat (first|exact Arr.nil|exact Arr.stop|refine Arr.cons (by repeat constructor) ?_|refine Arr.skip ?_))⟩
theorem equal_x (x y : BitVec 64) : Con Tryz.prog 123 [u64b x, u64b y] [] (fun r M => r = u64b (yesM (decide (x = y))) ∧ M = []) := by
  have e : zeroB (x ^^^ y) = yesM (decide (x = y)) := by
    rw [zeroB_is]
    congr 1
    apply decide_eq_decide.2
    exact ⟨fun h => by have := congrArg (fun z => z ^^^ y) h; simpa [BitVec.xor_assoc] using this, fun h => by rw [h, BitVec.xor_self]⟩
  rw [← e]
  refine fn_y Tryz.func123 Tryz.mixed ?_
  intro w0
  refine Y7 ?_
  refine Zor (c := zero_x _) (k := ?_)
  rintro _ _ ⟨rfl, rfl⟩
  refine V3 ?_
  refine rx1 (Zg9 rfl (Zg7)) ?_
  exact ⟨_, ⟨rfl, rfl⟩, by exact Imp.arr (by repeat (first|exact Arr.nil|exact Arr.stop|refine Arr.cons (by repeat constructor) ?_|refine Arr.skip ?_))⟩
theorem pick_x (b : Bool) (x y : BitVec 64) : Con Tryz.prog 88 [u64b (yesM b), u64b x, u64b y] [] (fun r M => r = u64b (if b then x else y) ∧ M = []) := by
  rw [← pickB b x y]
  refine fn_y Tryz.func88 Tryz.mixed ?_
  intro w0
  refine V13 ?_
  refine rx1 (Zg9 rfl (Zg7)) ?_
  exact ⟨_, ⟨rfl, rfl⟩, by exact Imp.arr (by repeat (first|exact Arr.nil|exact Arr.stop|refine Arr.cons (by repeat constructor) ?_|refine Arr.skip ?_))⟩
theorem byte64 (x : Byte) : (x.setWidth 64).toNat = x.toNat := by
  have := x.isLt
  rw [BitVec.toNat_setWidth]
  omega
theorem byte64_eq (x y : Byte) : decide (x.setWidth 64 = y.setWidth 64) = decide (x = y) := by
  apply decide_eq_decide.2
  constructor
  · intro h
    have := congrArg BitVec.toNat h
    rw [byte64, byte64] at this
    exact BitVec.eq_of_toNat_eq this
  · intro h; rw [h]
theorem before_x {L : List Asrt} {va vb : Value} {a b : List Byte} (ha : Bs L va a) (hb : Bs L vb b) : Con Tryz.prog 87 [va, vb] L (fun r M => r = u64b (yesM (ltB a b)) ∧ L = M) := by
  refine Con.get (fun w0 w F H => ha.sh _ _ _ H) ?_
  rintro ⟨aa, ac, rfl, hac, hacm⟩
  refine Con.get (fun w0 w F H => hb.sh _ _ _ H) ?_
  rintro ⟨ba, bc, rfl, hbc, hbcm⟩
  have hmin : (min (a.length : Int) (b.length : Int)) = ((min a.length b.length : Nat) : Int) := by omega
  refine fn_y Tryz.func87 Tryz.mixed ?_
  intro w0
  refine V11 ?_
  rw [hmin]
  refine V10 ?_
  refine Zgo [(6, 10), (17, 42)] (by kernel_rfl) (fun i : Nat => i ≤ min a.length b.length) (fun _ => L) (fun i => [(6, u64b (yesM (decide (a.take i = b.take i)))), (7, u64b (yesM (ltB (a.take i) (b.take i)))), (17, nvv i)]) (fun i => min a.length b.length - i) 0 (by omega) qI ⟨by rw [List.take_zero, List.take_zero]; rfl, by rw [List.take_zero, List.take_zero]; rfl, rfl, trivial⟩ ?_
  intro i u hi
  refine V3 ?_
  refine Zgg rfl (fun hB => ?_) (fun hB => ?_)
  · have hB1 : i < a.length := by omega
    have hB2 : i < b.length := by omega
    refine Zgt (fun F w H => ha.some (by omega) H) ?_
    rintro ⟨a1, a2, rfl⟩
    refine Zgt (fun F w H => hb.some (by omega) H) ?_
    rintro ⟨a3, a4, rfl⟩
    have l1 := less_x (a[i].setWidth 64) (b[i].setWidth 64) (by rw [byte64]; omega) (by rw [byte64]; omega)
    have l2 := equal_x (a[i].setWidth 64) (b[i].setWidth 64)
    rw [byte64, byte64] at l1
    rw [byte64_eq] at l2
    refine V4 ?_
    refine Zij (L) [8, 9] (.q 0 (.q 1 (.q 2 (.q 5 (.q 6 (.q 7 (.r 3 (.q 4 (.q 10 (.r 8 (.r 9 (.q 11 .nil)))))))))))) (by kernel_rfl) (by kernel_rfl) (Imp.arr qV) ?_
    refine W6 ?_
    refine Zfh rfl rfl (ha.rd.at hB1 (getM hB1)) ?_
    refine Zim rfl (Zjx rfl) ?_
    refine W1 ?_
    refine Zfh rfl rfl (hb.rd.at hB2 (getM hB2)) ?_
    refine Ziz rfl (Zjx rfl) ?_
    refine W2 ?_
    refine Y5 ?_
    refine Zor (c := l1) (k := ?_)
    rintro _ _ ⟨rfl, rfl⟩
    refine Y9 ?_
    refine Zor (c := l2) (k := ?_)
    rintro _ _ ⟨rfl, rfl⟩
    refine V8 ?_
    exact Zgl (i + 1) qO (by omega) qI ⟨by rw [eqT_step hB1 hB2, ← yesM_and]; rfl, by rw [ltB_step hB1 hB2, ← yesM_or, ← yesM_and]; rfl, rfl, trivial⟩
  · have hie : i = min a.length b.length := by omega
    have l1 := less_x (BitVec.ofNat 64 a.length) (BitVec.ofNat 64 b.length) (by rw [BitVec.toNat_ofNat]; omega) (by rw [BitVec.toNat_ofNat]; omega)
    rw [BitVec.toNat_ofNat, BitVec.toNat_ofNat, Nat.mod_eq_of_lt (by omega), Nat.mod_eq_of_lt (by omega)] at l1
    have e9 := ltB_end a b
    rw [← hie] at e9
    refine Y5 ?_
    refine Zhg (Zlv rfl) ?_
    refine Y2 ?_
    refine Zhg (Zlv rfl) ?_
    refine Zor (c := l1) (k := ?_)
    rintro _ _ ⟨rfl, rfl⟩
    refine V5 ?_
    refine rx1 (Zg9 rfl (Zg7)) ?_
    exact ⟨_, ⟨by rw [e9, ← yesM_or, ← yesM_and], rfl⟩, qI⟩
theorem trade_x {L : List Asrt} {a b n : Nat} (m : BitVec 64) {A B : List Byte} (hA : A.length = n) (hB : B.length = n) (hn : n ≤ 4096) : Con Tryz.prog 95 [u64b m, fsl a n, fsl b n] (blk a A :: blk b B :: L) (fun r M => r = nvv 0 ∧ blk a (tradeB m A B).1 :: blk b (tradeB m A B).2 :: L = M) := by
  refine fn_y Tryz.func95 Tryz.mixed ?_
  intro w0
  refine Y9 ?_
  refine Zot 13 rfl ((fun hh => hh rfl)) ?_
  refine V7 ?_
  refine Zgo [(7, 8), (16, 45)] (by kernel_rfl) (fun i : Nat => i ≤ n) (fun i => blk a (tradeT (m.setWidth 8) A B i).1 :: blk b (tradeT (m.setWidth 8) A B i).2 :: L) (fun i => [(16, nvv i)]) (fun i => n - i) 0 (Nat.zero_le _) (by rw [tradeT_zero]; exact qI) ⟨rfl, trivial⟩ ?_
  intro i u hi
  obtain ⟨hl1, hl2⟩ := tradeT_len (m.setWidth 8) A B i
  refine V3 ?_
  refine Zgg rfl (fun hC => ?_) (fun hC => ?_)
  · obtain ⟨g1, g2⟩ := tradeT_at (m.setWidth 8) (A := A) (B := B) (i := i) (by omega) (by omega)
    refine V4 ?_
    refine Zij ((blk a (tradeT (m.setWidth 8) A B i).1 :: blk b (tradeT (m.setWidth 8) A B i).2 :: L)) [9] (.q 0 (.q 1 (.q 2 (.q 3 (.q 4 (.q 6 (.q 7 (.q 8 (.r 5 (.r 9 (.q 10 (.q 11 (.q 12 .nil))))))))))))) (by kernel_rfl) (by kernel_rfl) (Imp.arr qV) ?_
    refine W1 ?_
    refine Zim rfl (Zlx rfl) ?_
    refine W6 ?_
    refine Ziv rfl rfl qH ((getL (f := u8b) (l := (tradeT (m.setWidth 8) A B i).1) (by omega)).trans (by rw [g1])) ?_
    refine Ziv rfl rfl qH ((getL (f := u8b) (l := (tradeT (m.setWidth 8) A B i).2) (by omega)).trans (by rw [g2])) ?_
    refine Zim rfl (Zje (x := A[i]) (y := B[i]) rfl rfl) ?_
    refine Zim rfl (Zjc (x := m.setWidth 8) (y := A[i] ^^^ B[i]) rfl rfl) ?_
    refine W2 ?_
    refine Y4 ?_
    refine Zhp rfl qH ((getL (f := u8b) (l := (tradeT (m.setWidth 8) A B i).1) (by omega)).trans (by rw [g1])) ?_
    refine Y1 ?_
    refine Zhg (Zje (x := A[i]) (y := trd (m.setWidth 8) A[i] B[i]) rfl rfl) ?_
    refine Y1 ?_
    refine Zht rfl rfl qR qZ (setL (f := u8b) (l := (tradeT (m.setWidth 8) A B i).1)) ?_
    refine Y5 ?_
    refine Zhp rfl qH ((getL (f := u8b) (l := (tradeT (m.setWidth 8) A B i).2) (by omega)).trans (by rw [g2])) ?_
    refine Y1 ?_
    refine Zhg (Zje (x := B[i]) (y := trd (m.setWidth 8) A[i] B[i]) rfl rfl) ?_
    refine Y1 ?_
    refine Zht rfl rfl qR qZ (setL (f := u8b) (l := (tradeT (m.setWidth 8) A B i).2)) ?_
    refine V1 ?_
    rw [tradeT_set1 _ (by omega) (by omega), tradeT_set2 _ (by omega) (by omega)]
    refine V4 ?_
    exact Zgl (i + 1) qO (by omega) qI ⟨rfl, trivial⟩
  · have hie : i = A.length := by omega
    subst hie
    refine V3 ?_
    refine rx1 (Zg9 rfl (Zg7)) ?_
    exact ⟨_, ⟨rfl, rfl⟩, qI⟩
end Go.Sl
namespace Go.Sl
open Go Go.Proofs
attribute [local irreducible] pt own old pur ex all den denOps denS xOps xC cX CX xthen xblk xcut xloop xng retX resX Calls PV Rd Con
attribute [local irreducible] lowB
section
variable {L : List Asrt} {v vb : Value} {r b : List Byte}
theorem r_get {l : List Byte} {k : Nat} (hk : k < l.length) : (l.map u8b)[k]? = some (u8b (l.getD k 0#8)) := by
  rw [List.getElem?_map, List.getElem?_eq_getElem hk, List.getD_eq_getElem?_getD, List.getElem?_eq_getElem hk]; rfl
theorem rcIs_x (h : Bs L v r) : Con Tryz.prog 84 [v] L (fun x M => x = u64b (yesM (isR r)) ∧ L = M) := by
  refine Con.get (fun w0 w F H => h.sh _ _ _ H) ?_
  rintro ⟨a, c, rfl, hac, hacm⟩
  by_cases h26 : r.length < 26
  · have e : isR r = false := by unfold isR; rw [decide_eq_false (by omega)]; rfl
    rw [e]
    refine fn_y Tryz.func84 Tryz.mixed ?_
    intro w0
    refine Y7 ?_
    refine Zos 5 rfl (h26) ?_
    refine V5 ?_
    refine rx1 (Zg9 rfl (Zg7)) ?_
    exact ⟨_, ⟨rfl, rfl⟩, qI⟩
  · have e : isR r = (decide ((r.getD 0 0#8).toNat < 2) && decide ((r.getD 1 0#8).toNat < 2)) := by unfold isR; rw [decide_eq_true (by omega)]; rfl
    rw [e, ← yesM_and]
    refine Con.get (fun w0 w F H => h.some (by omega) H) ?_
    rintro ⟨g, o, rfl⟩
    have l1 := less_x ((r.getD 0 0#8).setWidth 64) 2#64 (by rw [byte64]; omega) (by decide)
    have l2 := less_x ((r.getD 1 0#8).setWidth 64) 2#64 (by rw [byte64]; omega) (by decide)
    rw [byte64] at l1 l2
    have k1 := h.rd.at (j := 0) (by omega) (r_get (by omega))
    rw [Nat.add_zero] at k1
    refine fn_y Tryz.func84 Tryz.mixed ?_
    intro w0
    refine Y7 ?_
    refine Zot 5 rfl (h26) ?_
    refine V2 ?_
    refine Zij (L) [4, 7, 8] (.q 0 (.q 1 (.q 5 (.q 6 (.r 2 (.q 3 (.r 7 (.r 8 (.e 4 true (.e 9 false (.q 10 (.q 11 .nil)))))))))))) (by kernel_rfl) (by kernel_rfl) (Imp.arr qV) ?_
    refine W1 ?_
    first|refine Zim rfl (Zl4 (n := 0) rfl rfl) ?_|refine Zim rfl (Zl1 (n := 0) rfl rfl) ?_
    refine W1 ?_
    first|refine Zim rfl (Zl4 (n := 1) rfl rfl) ?_|refine Zim rfl (Zl1 (n := 1) rfl rfl) ?_
    refine Zfh rfl rfl (k1) ?_
    refine Zim rfl (Zjx rfl) ?_
    refine Zfh rfl rfl (h.rd.at (j := 1) (by omega) (r_get (by omega))) ?_
    refine Ziz rfl (Zjx rfl) ?_
    refine Ziq rfl ?_
    refine Zor (c := l1) (k := ?_)
    rintro _ _ ⟨rfl, rfl⟩
    refine Y1 ?_
    refine Zg3 ⟨fun _ => Imp.arr qV, ?_⟩
    refine Ziq rfl ?_
    refine Zor (c := l2) (k := ?_)
    rintro _ _ ⟨rfl, rfl⟩
    refine Y1 ?_
    refine Zg3 ⟨(fun hh => Bool.noConfusion hh), ?_⟩
    refine W3 ?_
    refine Ct.o ?_
    refine rx1 (Zg9 rfl (Zg7)) ?_
    exact ⟨_, ⟨rfl, rfl⟩, qI⟩
theorem bs_cut {g o c l n : Nat} (h : Bs L (.slice (some ⟨g, o, none⟩) r.length c) r) (hc : r.length ≤ c) (hl : l + n ≤ r.length) (hn : 0 < n) : Bs L (.slice (some ⟨g, o + l, none⟩) n (c - l)) ((r.drop l).take n) := by
  have h1 := bs_drop h (k := l) (by omega) (by omega)
  have e : r.length - l = (r.drop l).length := by simp
  rw [e] at h1
  exact h1.take (by rw [List.length_drop]; omega)
theorem number_x (h : Bs L v r) (k : Nat) (hk : k + 4 ≤ r.length) (hk2 : k ≤ 1000) : Con Tryz.prog 90 [v, nvv k] L (fun x M => x = u32b (num4 r k) ∧ L = M) := by
  refine Con.get (fun w0 w F H => h.sh _ _ _ H) ?_
  rintro ⟨a, c, rfl, hac, hacm⟩
  refine Con.get (fun w0 w F H => h.some (by omega) H) ?_
  rintro ⟨g, o, rfl⟩
  have hb := bs_cut h hac (l := k) (n := 4) hk (by omega)
  have hlen : ((r.drop k).take 4).length = 4 := by rw [List.length_take, List.length_drop]; omega
  have hln := little32_x hb hlen
  have e4 : k + 4 - k = 4 := by omega
  unfold num4
  refine fn_y Tryz.func90 Tryz.mixed ?_
  intro w0
  refine Y8 ?_
  refine Zhg (Zmz (l := k) (h := k + 4) rfl rfl rfl (by omega) (by omega) (by omega)) ?_
  rw [e4]; refine Zor (c := hln) (k := ?_); rintro _ _ ⟨rfl, rfl⟩; refine Zg2 qA ?_
  refine V10 ?_
  refine rx1 (Zg9 rfl (Zg7)) ?_
  exact ⟨_, ⟨rfl, rfl⟩, qI⟩
theorem live_x (h : Bs L v r) : Con Tryz.prog 85 [v] L (fun x M => x = u64b (yesM (liveR r)) ∧ L = M) := by
  refine Con.get (fun w0 w F H => h.sh _ _ _ H) ?_
  rintro ⟨a, c, rfl, hac, hacm⟩
  by_cases hi : isR r = true
  · have h26 : 26 ≤ r.length := by unfold isR at hi; simp at hi; omega
    have e : liveR r = decide (r.getD 0 0#8 = 1#8) := by unfold liveR; rw [hi]; rfl
    rw [e]
    refine Con.get (fun w0 w F H => h.some (by omega) H) ?_
    rintro ⟨g, o, rfl⟩
    have l1 := equal_x ((r.getD 0 0#8).setWidth 64) 1#64
    rw [show (1#64 : BitVec 64) = (1#8 : Byte).setWidth 64 by decide, byte64_eq] at l1
    have l1 : Con Tryz.prog 123 [u64b ((r.getD 0 0#8).setWidth 64), u64b 1#64] [] (fun x M => x = u64b (yesM (decide (r.getD 0 0#8 = 1#8))) ∧ M = []) := l1
    have k1 := h.rd.at (j := 0) (by omega) (r_get (by omega))
    rw [Nat.add_zero] at k1
    refine fn_y Tryz.func85 Tryz.mixed ?_
    intro w0
    refine Y5 ?_
    refine Zor (c := rcIs_x h) (k := ?_)
    rintro _ _ ⟨rfl, rfl⟩
    refine Y1 ?_
    refine Zhg (Zln (x := yesM (isR r)) (y := 0#64) rfl rfl) ?_
    refine Zot 5 rfl ((fun hh => by rw [yesM_eq0, hi] at hh; cases hh)) ?_
    refine Y4 ?_
    first|refine Zhg (Zl4 (n := 0) rfl rfl) ?_|refine Zhg (Zl1 (n := 0) rfl rfl) ?_
    refine Zff rfl (k1) ?_
    refine Zhg (Zjx rfl) ?_
    refine Zor (c := l1) (k := ?_)
    rintro _ _ ⟨rfl, rfl⟩
    refine V3 ?_
    refine rx1 (Zg9 rfl (Zg7)) ?_
    exact ⟨_, ⟨rfl, rfl⟩, qI⟩
  · have e : liveR r = false := by unfold liveR; rw [Bool.not_eq_true] at hi; rw [hi]; rfl
    rw [e]
    refine fn_y Tryz.func85 Tryz.mixed ?_
    intro w0
    refine Y5 ?_
    refine Zor (c := rcIs_x h) (k := ?_)
    rintro _ _ ⟨rfl, rfl⟩
    refine Y1 ?_
    refine Zhg (Zln (x := yesM (isR r)) (y := 0#64) rfl rfl) ?_
    refine Zos 5 rfl ((by rw [yesM_eq0]; simpa using hi)) ?_
    refine V5 ?_
    refine rx1 (Zg9 rfl (Zg7)) ?_
    exact ⟨_, ⟨rfl, rfl⟩, qI⟩
theorem u32_64 (x : BitVec 32) : (x.setWidth 64).toNat = x.toNat := by
  have := x.isLt
  rw [BitVec.toNat_setWidth]
  omega
theorem isR_len {r : List Byte} (hi : isR r = true) : 26 ≤ r.length := by unfold isR at hi; simp at hi; omega
theorem byIdx_x (h : Bs L v r) (hb : Bs L vb b) : Con Tryz.prog 47 [v, vb] L (fun x M => x = u64b (yesM (byIdx r b)) ∧ L = M) := by
  by_cases hi : (isR r && isR b) = true
  · have e : byIdx r b = decide ((num4 r 2).toNat < (num4 b 2).toNat) := by unfold byIdx; rw [hi]; rfl
    rw [e]
    have h1 : isR r = true := (Bool.and_eq_true _ _ ▸ hi).1
    have h2 : isR b = true := (Bool.and_eq_true _ _ ▸ hi).2
    have i1 := isR_len h1
    have i2 := isR_len h2
    have l1 := less_x ((num4 r 2).setWidth 64) ((num4 b 2).setWidth 64) (by rw [u32_64]; omega) (by rw [u32_64]; omega)
    rw [u32_64, u32_64] at l1
    refine fn_y Tryz.func47 Tryz.mixed ?_
    intro w0
    refine Y5 ?_
    refine Zor (c := rcIs_x h) (k := ?_)
    rintro _ _ ⟨rfl, rfl⟩
    refine Y2 ?_
    refine Zor (c := rcIs_x hb) (k := ?_)
    rintro _ _ ⟨rfl, rfl⟩
    refine Y1 ?_
    refine Zhg (Zlf (x := yesM (isR r)) (y := yesM (isR b)) rfl rfl) ?_
    refine Zhg (Zln (x := yesM (isR r) &&& yesM (isR b)) (y := 0#64) rfl rfl) ?_
    refine Zot 10 rfl ((fun hh => by rw [yesM_and, yesM_eq0, hi] at hh; cases hh)) ?_
    refine Y4 ?_
    refine Zor (c := number_x h 2 (by omega) (by omega)) (k := ?_)
    rintro _ _ ⟨rfl, rfl⟩
    refine Y1 ?_
    refine Zhg (Zlb rfl) ?_
    refine Y1 ?_
    refine Zor (c := number_x hb 2 (by omega) (by omega)) (k := ?_)
    rintro _ _ ⟨rfl, rfl⟩
    refine Y1 ?_
    refine Zhg (Zlb rfl) ?_
    refine Zor (c := l1) (k := ?_)
    rintro _ _ ⟨rfl, rfl⟩
    refine V3 ?_
    refine rx1 (Zg9 rfl (Zg7)) ?_
    exact ⟨_, ⟨rfl, rfl⟩, qI⟩
  · have e : byIdx r b = false := by unfold byIdx; rw [Bool.not_eq_true] at hi; rw [hi]; rfl
    rw [e]
    refine fn_y Tryz.func47 Tryz.mixed ?_
    intro w0
    refine Y5 ?_
    refine Zor (c := rcIs_x h) (k := ?_)
    rintro _ _ ⟨rfl, rfl⟩
    refine Y2 ?_
    refine Zor (c := rcIs_x hb) (k := ?_)
    rintro _ _ ⟨rfl, rfl⟩
    refine Y1 ?_
    refine Zhg (Zlf (x := yesM (isR r)) (y := yesM (isR b)) rfl rfl) ?_
    refine Zhg (Zln (x := yesM (isR r) &&& yesM (isR b)) (y := 0#64) rfl rfl) ?_
    refine Zos 10 rfl ((by rw [yesM_and, yesM_eq0]; simpa using hi)) ?_
    refine V5 ?_
    refine rx1 (Zg9 rfl (Zg7)) ?_
    exact ⟨_, ⟨rfl, rfl⟩, qI⟩
end
end Go.Sl
namespace Go.Sl
open Go Go.Proofs
attribute [local irreducible] pt own old pur ex all den denOps denS xOps xC cX CX xthen xblk xcut xloop xng retX resX Calls PV Rd Con
attribute [local irreducible] lowB
theorem Rd.ag {M : List Asrt} {b o m k : Nat} {xs : List Value} (h : Rd M 1 (.slice (some ⟨b, o, none⟩) m k) m xs) (hm : 0 < m) : RdAg M b o m xs.toArray := by
  unfold Rd at h
  unfold RdAg
  intro _ _ _ H
  obtain ⟨hx, h2⟩ := h _ _ _ H
  rcases h2 with ⟨a, k', _, h0⟩|⟨b', o', k', c, E, fr, hv, hb, hle, he⟩
  · omega
  · simp only [Value.slice.injEq, Option.some.injEq, Addr.mk.injEq] at hv
    obtain ⟨⟨rfl, rfl, _⟩, _, rfl⟩ := hv
    refine ⟨c, E, fr, hb, by omega, ?_⟩
    apply Array.ext'
    rw [← he, Nat.mul_one]
section
variable {L : List Asrt} {v vb : Value} {r b : List Byte}
theorem group_x (h : Bs L v r) (hr : 26 ≤ r.length) : Con Tryz.prog 86 [v] L (fun x M => x = .agg ((grpR r).map u8b).toArray ∧ L = M) := by
  refine Con.get (fun w0 w F H => h.sh _ _ _ H) ?_
  rintro ⟨a, c, rfl, hac, hacm⟩
  refine Con.get (fun w0 w F H => h.some (by omega) H) ?_
  rintro ⟨g, o, rfl⟩
  have hb := bs_cut h hac (l := 10) (n := 16) (by omega) (by omega)
  have hlen : (grpR r).length = 16 := by unfold grpR; rw [List.length_take, List.length_drop]; omega
  have hag := hb.rd
  have e16 : ((r.drop 10).take 16).length = 16 := hlen
  rw [e16] at hag
  have hag2 := Rd.ag hag (by omega)
  have hag3 : RdAg L g (o + 10) 16 ((grpR r).map u8b).toArray := hag2
  have hsz : ((grpR r).map u8b).toArray.size = 16 := by simp [hlen]
  refine fn_y Tryz.func86 Tryz.mixed ?_
  intro w0
  refine Y1 ?_
  refine Zhz (cs := ((List.replicate 16 0#8).map u8b).toArray) rfl ?_; intro b2
  refine Y3 ?_
  refine Zhg (Zmz (l := 10) (h := 26) rfl rfl rfl (by omega) (by omega) (by omega)) ?_
  refine Zhg (Zl9 rfl) ?_
  refine Zfg rfl ((hag3.imp qI)) ?_
  first|refine Zhy rfl rfl qR qZ (by first|rfl|exact oneM_u8 _|exact oneL_u8 _|assumption|(simp [oneC]; done)) qZ ?_|refine Zhx rfl rfl qR qZ (by first|rfl|exact oneM_u8 _|exact oneL_u8 _|assumption|(simp [oneC]; done)) qZ rfl ?_
  refine V1 ?_
  refine rx1 (Zhe rfl qH qZ (Zg7)) ?_
  exact ⟨_, ⟨rfl, rfl⟩, qI⟩
theorem byGrp_x (h : Bs L v r) (hb : Bs L vb b) : Con Tryz.prog 46 [v, vb] L (fun x M => x = u64b (yesM (byGrp r b)) ∧ L = M) := by
  by_cases hi : (isR r && isR b) = true
  · have e : byGrp r b = (if liveR r ^^ liveR b then liveR r else if liveR r then (if ltB (grpR r) (grpR b) || ltB (grpR b) (grpR r) then ltB (grpR r) (grpR b) else byIdx r b) else byIdx r b) := by unfold byGrp; rw [hi]; rfl
    have h1 : isR r = true := (Bool.and_eq_true _ _ ▸ hi).1
    have h2 : isR b = true := (Bool.and_eq_true _ _ ▸ hi).2
    have i1 := isR_len h1
    have i2 := isR_len h2
    have s1 : ((grpR r).map u8b).toArray.size = 16 := by unfold grpR; simp; omega
    have s2 : ((grpR b).map u8b).toArray.size = 16 := by unfold grpR; simp; omega
    have l1 : (grpR r).length = 16 := by simpa using s1
    have l2 : (grpR b).length = 16 := by simpa using s2
    have p1 := pick_x (ltB (grpR r) (grpR b) || ltB (grpR b) (grpR r)) (yesM (ltB (grpR r) (grpR b))) (yesM (byIdx r b))
    have e1 : (if ltB (grpR r) (grpR b) || ltB (grpR b) (grpR r) then yesM (ltB (grpR r) (grpR b)) else yesM (byIdx r b)) = yesM (if ltB (grpR r) (grpR b) || ltB (grpR b) (grpR r) then ltB (grpR r) (grpR b) else byIdx r b) := by split <;> rfl
    rw [e1] at p1
    generalize hal : (if ltB (grpR r) (grpR b) || ltB (grpR b) (grpR r) then ltB (grpR r) (grpR b) else byIdx r b) = al at *
    have p2 := pick_x (liveR r) (yesM al) (yesM (byIdx r b))
    have e2 : (if liveR r then yesM al else yesM (byIdx r b)) = yesM (if liveR r then al else byIdx r b) := by split <;> rfl
    rw [e2] at p2
    have p3 := pick_x (liveR r ^^ liveR b) (yesM (liveR r)) (yesM (if liveR r then al else byIdx r b))
    have e3 : (if liveR r ^^ liveR b then yesM (liveR r) else yesM (if liveR r then al else byIdx r b)) = yesM (if liveR r ^^ liveR b then liveR r else if liveR r then al else byIdx r b) := by split <;> rfl
    rw [e3] at p3
    rw [e]
    rw [← yesM_or] at p1
    rw [← yesM_xor] at p3
    refine fn_y Tryz.func46 Tryz.mixed ?_
    intro w0
    refine Y5 ?_
    refine Zor (c := rcIs_x h) (k := ?_)
    rintro _ _ ⟨rfl, rfl⟩
    refine Y2 ?_
    refine Zor (c := rcIs_x hb) (k := ?_)
    rintro _ _ ⟨rfl, rfl⟩
    refine Y1 ?_
    refine Zhg (Zlf (x := yesM (isR r)) (y := yesM (isR b)) rfl rfl) ?_
    refine Y4 ?_
    refine Zhg (Zln (x := yesM (isR r) &&& yesM (isR b)) (y := 0#64) rfl rfl) ?_
    refine Zot 20 rfl ((fun hh => by rw [yesM_and, yesM_eq0, hi] at hh; cases hh)) ?_
    refine Y4 ?_
    refine Zor (c := live_x h) (k := ?_)
    rintro _ _ ⟨rfl, rfl⟩
    refine Y2 ?_
    refine Zor (c := live_x hb) (k := ?_)
    rintro _ _ ⟨rfl, rfl⟩
    refine Y6 ?_
    refine Zor (c := group_x h i1) (k := ?_)
    rintro _ _ ⟨rfl, rfl⟩
    refine Y2 ?_
    refine Zor (c := group_x hb i2) (k := ?_)
    rintro _ _ ⟨rfl, rfl⟩
    refine Y1 ?_
    refine Zhz (cs := ((List.replicate 16 0#8).map u8b).toArray) rfl ?_; intro b8
    refine Zhz (cs := ((List.replicate 16 0#8).map u8b).toArray) rfl ?_; intro b9
    first|refine Zhy rfl rfl qR qZ (by first|rfl|exact oneM_u8 _|exact oneL_u8 _|assumption|(simp [oneC]; done)) qZ ?_|refine Zhx rfl rfl qR qZ (by first|rfl|exact oneM_u8 _|exact oneL_u8 _|assumption|(simp [oneC]; done)) qZ rfl ?_
    first|refine Zhy rfl rfl qR qZ (by first|rfl|exact oneM_u8 _|exact oneL_u8 _|assumption|(simp [oneC]; done)) qZ ?_|refine Zhx rfl rfl qR qZ (by first|rfl|exact oneM_u8 _|exact oneL_u8 _|assumption|(simp [oneC]; done)) qZ rfl ?_
    refine V1 ?_
    have q1 : Bs [cl b8 ((grpR r).map u8b).toArray 161, cl b9 ((grpR b).map u8b).toArray 161] (.slice (some ⟨b8, 0, none⟩) 16 16) (grpR r) := bs_full qH l1 (by omega)
    have q2 : Bs [cl b8 ((grpR r).map u8b).toArray 161, cl b9 ((grpR b).map u8b).toArray 161] (.slice (some ⟨b9, 0, none⟩) 16 16) (grpR b) := bs_full qH l2 (by omega)
    refine Ct.o ?_
    refine Zij ([]) [] (.q 0 (.q 1 (.e 2 false (.q 3 .nil)))) (by kernel_rfl) (by kernel_rfl) (Imp.arr Arr.stop) ?_
    refine Zim rfl (Zmy (h := 16) rfl rfl) ?_
    refine Zim rfl (Zmy (h := 16) rfl rfl) ?_
    refine Ziq rfl ?_
    refine Zor (c := before_x q1 q2) (k := ?_)
    rintro _ _ ⟨rfl, rfl⟩
    refine Y1 ?_
    refine Zg3 ⟨(fun hh => Bool.noConfusion hh), ?_⟩
    refine W2 ?_
    refine Ct.o ?_
    refine Zij ([]) [] (.q 0 (.q 1 (.e 2 false (.q 3 .nil)))) (by kernel_rfl) (by kernel_rfl) (Imp.arr Arr.stop) ?_
    refine Zim rfl (Zmy (h := 16) rfl rfl) ?_
    refine Zim rfl (Zmy (h := 16) rfl rfl) ?_
    refine Ziq rfl ?_
    refine Zor (c := before_x q2 q1) (k := ?_)
    rintro _ _ ⟨rfl, rfl⟩
    refine Y1 ?_
    refine Zg3 ⟨(fun hh => Bool.noConfusion hh), ?_⟩
    refine W2 ?_
    refine Y3 ?_
    refine Zor (c := byIdx_x h hb) (k := ?_)
    rintro _ _ ⟨rfl, rfl⟩
    refine Y6 ?_
    refine Zhg (Zlg (x := yesM (ltB (grpR r) (grpR b))) (y := yesM (ltB (grpR b) (grpR r))) rfl rfl) ?_
    refine Y2 ?_
    refine Zor (c := p1) (k := ?_)
    rintro _ _ ⟨rfl, rfl⟩
    refine Y6 ?_
    refine Zhg (Zlh (x := yesM (liveR r)) (y := yesM (liveR b)) rfl rfl) ?_
    refine Y4 ?_
    refine Zor (c := p2) (k := ?_)
    rintro _ _ ⟨rfl, rfl⟩
    refine Y1 ?_
    refine Zor (c := p3) (k := ?_)
    rintro _ _ ⟨rfl, rfl⟩
    refine V3 ?_
    refine rx1 (Zg9 rfl (Zg7)) ?_
    exact ⟨_, ⟨rfl, rfl⟩, qI⟩
  · have e : byGrp r b = false := by unfold byGrp; rw [Bool.not_eq_true] at hi; rw [hi]; rfl
    rw [e]
    refine fn_y Tryz.func46 Tryz.mixed ?_
    intro w0
    refine Y5 ?_
    refine Zor (c := rcIs_x h) (k := ?_)
    rintro _ _ ⟨rfl, rfl⟩
    refine Y2 ?_
    refine Zor (c := rcIs_x hb) (k := ?_)
    rintro _ _ ⟨rfl, rfl⟩
    refine Y1 ?_
    refine Zhg (Zlf (x := yesM (isR r)) (y := yesM (isR b)) rfl rfl) ?_
    refine Y4 ?_
    refine Zhg (Zln (x := yesM (isR r) &&& yesM (isR b)) (y := 0#64) rfl rfl) ?_
    refine Zos 20 rfl ((by rw [yesM_and, yesM_eq0]; simpa using hi)) ?_
    refine V5 ?_
    refine rx1 (Zg9 rfl (Zg7)) ?_
    exact ⟨_, ⟨rfl, rfl⟩, qI⟩
end
end Go.Sl
namespace Go.Sl.NetS
theorem gAt_len (k j i : Nat) : (gAt k j i).length ≤ 1 := by unfold gAt; split <;> simp
theorem flat_len {α β : Type} (f : α → List β) (h : ∀ a, (f a).length ≤ 1) : ∀ l : List α, (l.flatMap f).length ≤ l.length
  | [] => by simp
  | a :: l => by
    have := flat_len f h l
    have := h a
    rw [List.flatMap_cons, List.length_append, List.length_cons]
    omega
theorem gRow_len (n k j : Nat) : (gRow n k j).length ≤ n := by
  have := flat_len (gAt k j) (gAt_len k j) (List.range n)
  rwa [List.length_range] at this
theorem gStage_len (n k : Nat) : ∀ q, (gStage n k q).length ≤ n * (q + 1)
  | 0 => by show (gRow n k 1).length ≤ _; have := gRow_len n k 1; omega
  | q + 1 => by
    show (gRow n k _ ++ gStage n k q).length ≤ _
    have h1 := gRow_len n k (2 ^ (q + 1))
    have h2 := gStage_len n k q
    rw [List.length_append, Nat.mul_succ]
    omega
theorem gTo_len (n : Nat) : ∀ p, (gTo n p).length ≤ n * (p * p)
  | 0 => by show 0 ≤ _; omega
  | p + 1 => by
    show (gTo n p ++ gStage n _ p).length ≤ _
    have h1 := gTo_len n p
    have h2 := gStage_len n (2 ^ (p + 1)) p
    have e : n * ((p + 1) * (p + 1)) = n * (p * p) + (n * (p + 1) + n * p) := by
      have : (p + 1) * (p + 1) = p * p + ((p + 1) + p) := by rw [Nat.add_mul, Nat.mul_add]; omega
      rw [this, Nat.mul_add, Nat.mul_add]
    rw [List.length_append, e]
    omega
theorem gates_len {m : Nat} (h : m ≤ 8) : (gates m).length ≤ 16384 := by
  have h1 := gTo_len (2 ^ m) m
  have h2 : 2 ^ m ≤ 2 ^ 8 := Nat.pow_le_pow_right (by omega) h
  have h3 : m * m ≤ 8 * 8 := Nat.mul_le_mul h h
  have h4 : 2 ^ m * (m * m) ≤ 2 ^ 8 * (8 * 8) := Nat.mul_le_mul h2 h3
  unfold gates
  omega
def pairG (μ : Row → Row → BitVec 64) (rows : List Row) (g : Nat × Nat) : List Row :=
  (rows.set g.1 (Go.Sl.tradeB (μ (rows.getD g.2 []) (rows.getD g.1 [])) (rows.getD g.1 []) (rows.getD g.2 [])).1).set g.2 (Go.Sl.tradeB (μ (rows.getD g.2 []) (rows.getD g.1 [])) (rows.getD g.1 []) (rows.getD g.2 [])).2
theorem set_getD {l : List Row} {i : Nat} : l.set i (l.getD i []) = l := by
  apply List.ext_getElem?
  intro j
  rw [List.getElem?_set]
  by_cases e : i = j
  · subst e
    rw [if_pos rfl]
    by_cases h : i < l.length
    · rw [if_pos h, List.getD_eq_getElem?_getD, List.getElem?_eq_getElem h]; rfl
    · rw [if_neg h, List.getElem?_eq_none (by omega)]
  · rw [if_neg e]
theorem pairG_sw {μ : Row → Row → BitVec 64} {c : Row → Row → Bool} {rows : List Row} {g : Nat × Nat} {n : Nat} (hg : okG rows.length g) (hn : ∀ k, k < rows.length → (rows.getD k []).length = n)
    (hμ : μ (rows.getD g.2 []) (rows.getD g.1 []) = Go.Sl.yesM (c (rows.getD g.2 []) (rows.getD g.1 []))) : pairG μ rows g = sw c rows g := by
  obtain ⟨h1, h2, h3⟩ := hg
  unfold pairG sw
  rw [hμ, Go.Sl.tradeB_yes _ (by rw [hn _ h1, hn _ h2])]
  split
  · rfl
  · show (rows.set g.1 (rows.getD g.1 [])).set g.2 (rows.getD g.2 []) = rows
    rw [set_getD, set_getD]
theorem sw_all {c : Row → Row → Bool} {l : List Row} {g : Nat × Nat} (hg : okG l.length g) {R : Row → Prop} (h : ∀ k, k < l.length → R (l.getD k [])) : ∀ k, k < (sw c l g).length → R ((sw c l g).getD k []) := by
  intro k hk
  rw [sw_len] at hk
  rw [sw_get hg]
  obtain ⟨h1, h2, h3⟩ := hg
  split
  · split
    · exact h _ h1
    · split
      · exact h _ h2
      · exact h _ hk
  · exact h _ hk
theorem pairs_sws {μ : Row → Row → BitVec 64} {c : Row → Row → Bool} {R : Row → Prop} {n : Nat} (hμ : ∀ a b, R a → R b → μ a b = Go.Sl.yesM (c a b)) (hR : ∀ a, R a → a.length = n) : ∀ (gs : List (Nat × Nat)) (rows : List Row), (∀ g ∈ gs, okG rows.length g) → (∀ k, k < rows.length → R (rows.getD k [])) →
    gs.foldl (pairG μ) rows = gs.foldl (sw c) rows ∧ ∀ k, k < rows.length → R ((gs.foldl (sw c) rows).getD k [])
  | [], rows, _, hr => ⟨rfl, hr⟩
  | g :: gs, rows, hg, hr => by
    have h0 := hg g List.mem_cons_self
    have e := pairG_sw (μ := μ) (c := c) (n := n) h0 (fun k hk => hR _ (hr k hk)) (hμ _ _ (hr _ h0.2.1) (hr _ h0.1))
    have hr2 := sw_all (c := c) h0 hr
    obtain ⟨i1, i2⟩ := pairs_sws hμ hR gs (sw c rows g) (fun g' hg' => by rw [sw_len]; exact hg g' (List.mem_cons_of_mem _ hg')) hr2
    rw [List.foldl_cons, List.foldl_cons, e]
    exact ⟨i1, fun k hk => i2 k (by rw [sw_len]; exact hk)⟩
end Go.Sl.NetS
namespace Go.Sl
open Go Go.Proofs
attribute [local irreducible] pt own old pur ex all den denOps denS xOps xC cX CX xthen xblk xcut xloop xng retX resX Calls PV Rd Con
attribute [local irreducible] hostA pgA qsA NetS.gates xS xT xround
open SlotS (SL Acc Fit QI slv)
open PagerS (PS Over)
open NetS (gates pairG)
theorem twin_x {L : List Asrt} {v : Value} {l : List Byte} (h : Bs L v l) (hl : l.length ≤ 1000000) : Con Tryz.prog 96 [v] L (fun r M => ∃ a c, r = .slice a l.length c ∧ M = ownB a c l :: L) := by
  refine Con.get (fun w0 w F H => h.sh _ _ _ H) ?_
  rintro ⟨va, vc, rfl, hvc, hvcm⟩
  refine fn_y Tryz.func96 Tryz.mixed ?_
  intro w0
  refine Y1 ?_
  refine Zhg (Za2 rfl) ?_; refine Zgw (Imp.own_nil (E := 5) (size := 1)) ?_
  refine Y3 ?_
  refine Zia rfl rfl qH ((h.rd.imp Imp.tail)) (by first|rfl|exact oneM_u8 _|exact oneL_u8 _|exact acc_one _|exact acc_ones _|assumption|(simp [oneC]; done)) (by omega) qS ?_; intro a3 c3
  refine V2 ?_
  refine rx1 (Zhc rfl (Zg7)) ?_
  refine ⟨_, ⟨a3, c3, by rw [Nat.zero_add], rfl⟩, ?_⟩
  unfold ownB
  rw [Nat.zero_add, List.nil_append]
  exact qI
structure BCon (F : FuncId) (fi ca : Array Value) (n : Nat) (X : List Asrt) (μ : List Byte → List Byte → BitVec 64) : Prop where
  callable : callable Tryz.prog F = true
  con : ∀ (a1 a2 : Option Addr) (c1 c2 : Nat) A B, A.length = n → B.length = n → Con Tryz.prog F (fi.toList ++ [.slice a1 n c1, .slice a2 n c2] ++ ca.toList) (ownB a1 c1 A :: ownB a2 c2 B :: X) (fun r M => r = u64b (μ A B) ∧ M = X)
section
variable {F : FuncId} {fi ca : Array Value} {X : List Asrt} {μ : List Byte → List Byte → BitVec 64} {n g a b : Nat} {A B : List Byte}
theorem soOne_x (hc : BCon F fi ca n X μ) (hA : A.length = n) (hB : B.length = n) (hn : n ≤ 4096) :
    Con Tryz.prog 94 [fsl a n, fsl b n, .pointer (some ⟨g, 0, none⟩)] (blk a A :: blk b B :: cl g #[.func (.func F) fi ca] 92 :: X) (fun r M => M = blk a (tradeB (μ B A) A B).1 :: blk b (tradeB (μ B A) A B).2 :: cl g #[.func (.func F) fi ca] 92 :: X) := by
  have t1 := twin_x (L := [blk b B]) (v := fsl b n) (bs_full (l := B) .here hB (by omega)) (by omega)
  have t2 := twin_x (L := [blk a A]) (v := fsl a n) (bs_full (l := A) .here hA (by omega)) (by omega)
  rw [hB] at t1
  rw [hA] at t2
  have tr := trade_x (L := []) (a := a) (b := b) (μ B A) hA hB hn
  refine fn_y Tryz.func94 Tryz.mixed ?_
  intro w0
  refine Ct.o ?_
  refine Zij ([cl g #[.func (.func F) fi ca] 92]) [2, 4] (.q 1 (.q 3 (.q 6 (.q 7 (.r 0 (.e 2 true (.e 4 true (.e 5 false (.e 8 false .nil))))))))) (by kernel_rfl) (by kernel_rfl) (Imp.arr qV) ?_
  refine W5 ?_
  refine Ziq rfl ?_
  refine Zor (c := t1) (k := ?_)
  rintro _ _ ⟨a1, c1, rfl, rfl⟩
  refine Y1 ?_
  refine Zg3 ⟨fun _ => Imp.arr qV, ?_⟩
  refine Ziq rfl ?_
  refine Zor (c := t2) (k := ?_)
  rintro _ _ ⟨a2, c2, rfl, rfl⟩
  refine Y1 ?_
  refine Zg3 ⟨fun _ => Imp.arr qV, ?_⟩
  refine Ziq rfl ?_; refine Zh8 rfl hc.callable (hc.con a1 a2 c1 c2 B A hB hA) rfl qT ?_; rintro _ _ ⟨rfl, rfl⟩; refine Zg2 qA ?_; refine Zg3 ⟨(fun hh => Bool.noConfusion hh), ?_⟩
  refine Ziq rfl ?_
  refine Zor (c := tr) (k := ?_)
  rintro _ _ ⟨rfl, rfl⟩
  refine Y1 ?_
  refine Zg3 ⟨(fun hh => Bool.noConfusion hh), ?_⟩
  refine Zik ?_
  refine Ct.o ?_
  all_goals
    first|refine rx0 ?_|refine rx0n ?_
    exact ⟨_, rfl, qI⟩
theorem soOne_con (hc : BCon F fi ca n X μ) (hn : n ≤ 4096) : FCon 94 #[] #[.pointer (some ⟨g, 0, none⟩)] n (cl g #[.func (.func F) fi ca] 92 :: X) (fun A B => tradeB (μ B A) A B) (fun _ _ _ _ Z => Z = cl g #[.func (.func F) fi ca] 92 :: X) :=
  ⟨by kernel_rfl, fun A B hA hB => ⟨(tradeB_len _ A B).1.trans hA, (tradeB_len _ A B).2.trans hB⟩, fun a b A B hA hB => (soOne_x hc hA hB hn).mono fun r M hM => ⟨M, Imp.refl _, _, rfl, hM⟩⟩
end
section
variable {q pp ph : Nat} {s0 : SL} {tg : PS × HostS.HS} {rows : List (List Byte)} {log : List Acc} {L : List Asrt} {F : FuncId} {fi ca : Array Value} {μ : List Byte → List Byte → BitVec 64}
theorem sfits_x (n : Nat) (h : n ≤ s0.n) : Con Tryz.prog 91 [hp q, nvv n] [qsA q pp ph s0 tg rows log] (fun r M => r = nvv 0 ∧ M = [qsA q pp ph s0 tg rows log]) := by
  refine fn_y Tryz.func91 Tryz.mixed ?_
  intro w0
  refine Y6 ?_
  refine Zhn 6 rfl (rfl) ?_
  refine Y5 ?_
  refine Zot 8 rfl ((by omega)) ?_
  refine Y3 ?_
  first|refine Y0 ?_|(refine Zhh rfl ?_; (refine Zor (c := qlen_x) (k := ?_)); (rintro _ _ ⟨rfl, rfl⟩); (refine Zg2 qA ?_))
  first|refine Y0 ?_|(refine Zhh rfl ?_; (refine Zhg (Zmh (a := n) (b := s0.n) rfl rfl) ?_))
  refine Zot 13 rfl ((by omega)) ?_
  refine V6 ?_
  refine rx1 (Zg9 rfl (Zg7)) ?_
  exact ⟨_, ⟨rfl, rfl⟩, qI⟩
def accG (g : Nat × Nat) : Acc := (2, (g.1 : Int), (g.2 : Int))
theorem soSort_x {n m : Nat} {gs : List (Nat × Nat)} (hn : n ≤ 256) (hns : n ≤ s0.n) (hpad : padN n = n) (hgs : ∀ b, Gives Tryz.prog 127 [.pointer (some ⟨b, 0, none⟩)] [cl b #[nvv n] 3] (gs.map encG)) (hok : ∀ g ∈ gs, NetS.okG s0.n g) (hlog : log.length + gs.length ≤ 2000000) (hz : s0.size ≤ 4096) (hc : BCon F fi ca s0.size L μ) :
    Con Tryz.prog 50 [hp q, nvv n, .func (.func F) fi ca] (qsA q pp ph s0 tg rows log :: L) (fun r M => r = nvv 0 ∧ M = qsA q pp ph s0 tg (gs.foldl (pairG μ) rows) (log ++ gs.map accG) :: L) := by
  refine fn_s (n := 33) Tryz.func50 rfl rfl (by kernel_rfl) ?_
  intro w0
  refine xS_seq Tryz.mixed rfl (by kernel_rfl) ?_
  refine Y1 ?_
  refine Zh3 rfl ?_; intro b3
  refine Zh0 (v := .func (.func F) fi ca) (cs := #[.func (.func F) fi ca]) rfl rfl ?_; intro b5
  refine Zhz (cs := #[.int .i64 0]) rfl ?_; intro b6
  refine V1 ?_
  refine xS_seq Tryz.mixed rfl (by kernel_rfl) ?_
  refine Y3 ?_
  refine Zor (c := sfits_x (q := q) (pp := pp) (ph := ph) (s0 := s0) (tg := tg) (rows := rows) (log := log) n hns) (k := ?_)
  rintro _ _ ⟨rfl, rfl⟩
  refine Y6 ?_
  refine Zot 14 rfl ((fun hh => hh rfl)) ?_
  refine V2 ?_
  refine xS_seq Tryz.mixed rfl (by kernel_rfl) ?_
  refine Y3 ?_
  refine Zor (c := pad_x n hn) (k := ?_)
  rintro _ _ ⟨rfl, rfl⟩
  refine Y1 ?_
  refine Zhg (Zmk (a := n) (b := padN n) rfl rfl) ?_
  refine Zot 19 rfl ((fun hh => hh hpad.symm)) ?_
  refine V2 ?_
  refine xS_t ?_
  refine xT_seq Tryz.mixed rfl (by kernel_rfl) ?_
  refine Y2 ?_
  refine Zor (c := bitonic_x n) (k := ?_)
  rintro _ _ ⟨bn, rfl, rfl⟩
  refine V2 ?_
  refine xT_rf Tryz.mixed rfl (gf := 127) (lb := #[.pointer (some ⟨bn, 0, none⟩)]) (Mi := [cl bn #[nvv n] 3]) (N := qsA q pp ph s0 tg rows log :: cl b6 #[.int .i64 0] 22 :: cl b5 #[.func (.func F) fi ca] 92 :: cl b3 #[hp q] 28 :: L) (xs := gs.map encG) rfl (by kernel_rfl) (hgs bn) (by exact Imp.refl _) (by kernel_rfl) (fun v hv => by obtain ⟨g, _, rfl⟩ := List.mem_map.1 hv; rfl)
    (S := Nat) (T := Empty) (fun k s => s = k) (fun k => qsA q pp ph s0 tg ((gs.take k).foldl (pairG μ) rows) (log ++ (gs.take k).map accG) :: cl b6 #[.int .i64 0] 22 :: cl b5 #[.func (.func F) fi ca] 92 :: cl b3 #[hp q] 28 :: L) (fun e => e.elim) 0 rfl (by rw [List.take_zero]; show Imp _ (qsA q pp ph s0 tg rows (log ++ []) :: _); rw [List.append_nil]; exact Imp.refl _) ?round ?done (fun t => t.elim)
  case round =>
    rintro k hk s w0 hs
    obtain rfl : k = s := (show s = k from hs).symm
    have hk2 : k < gs.length := by simpa using hk
    have ek : (gs.map encG)[k] = encG gs[k] := by simp
    rw [ek]
    show xC _ _ _ (put _ (some 22) (.agg #[nvv gs[k].1, nvv gs[k].2])) _ _
    obtain ⟨h1, h2, h3⟩ := hok _ (List.getElem_mem hk2)
    have hlk : (log ++ (gs.take k).map accG).length ≤ 2000000 := by simp; omega
    have hp2 := qpair_x (q := q) (pp := pp) (ph := ph) (tg := tg) (rows := (gs.take k).foldl (pairG μ) rows) (log := log ++ (gs.take k).map accG) hlk h1 h2 h3 (soOne_con (g := b5) hc hz)
    have e1 : pairR (fun A B => tradeB (μ B A) A B) ((gs.take k).foldl (pairG μ) rows) gs[k].1 gs[k].2 = (gs.take (k + 1)).foldl (pairG μ) rows := by
      rw [List.take_succ_eq_append_getElem hk2, List.foldl_append]
      rfl
    have e2 : (log ++ (gs.take k).map accG) ++ [(2, (gs[k].1 : Int), (gs[k].2 : Int))] = log ++ (gs.take (k + 1)).map accG := by
      rw [List.take_succ_eq_append_getElem hk2, List.map_append, List.append_assoc]
      rfl
    rw [e1, e2] at hp2
    generalize gs[k] = gk at *
    refine Y1 ?_
    refine Zhz (cs := #[.int .i64 0, .int .i64 0]) rfl ?_; intro b8
    first|refine Zhy rfl rfl qR qZ (by first|rfl|exact oneM_u8 _|exact oneL_u8 _|exact acc_one _|exact acc_ones _|assumption|(simp [oneC]; done)) qZ ?_|refine Zhx rfl rfl qR qZ (by first|rfl|exact oneM_u8 _|exact oneL_u8 _|exact acc_one _|exact acc_ones _|assumption|(simp [oneC]; done)) qZ rfl ?_
    refine Y8 ?_
    refine Zor (c := hp2) (k := ?_)
    rintro _ _ ⟨rfl, a1, a2, Z, rfl, rfl⟩
    refine Y6 ?_
    refine Zot 31 rfl ((fun hh => hh rfl)) ?_
    refine V2 ?_
    exact Zoy (k + 1) rfl qI
  case done =>
    rintro s D hs
    obtain rfl : s = gs.length := (show s = _ from hs).trans (by simp)
    rw [List.take_length]
    refine xS_c (rs := [.cell 6 22]) Tryz.mixed rfl (by kernel_rfl) ?_
    refine Zgp Imp.fst ?_
    refine V3 ?_
    refine rx1 (Zhf rfl qH (Zg7)) ?_
    exact ⟨_, ⟨rfl, rfl⟩, qI⟩
end
end Go.Sl
namespace Go.Sl
open Go Go.Proofs
attribute [local irreducible] pt own old pur ex all den denOps denS xOps xC cX CX xthen xblk xcut xloop xng retX resX Calls PV Rd Con
attribute [local irreducible] hostA pgA qsA NetS.gates xS xT xround
open SlotS (SL Acc Fit QI slv)
open PagerS (PS Over)
open NetS (gates pairG)
theorem drop2 {A B : Asrt} {L : List Asrt} : Imp (A :: B :: L) L := Imp.tail.trans Imp.tail
theorem byIdx_con {n : Nat} {L : List Asrt} : BCon 47 #[] #[] n L (fun a b => yesM (byIdx a b)) :=
  ⟨by kernel_rfl, fun a1 a2 c1 c2 A B hA hB => by
    subst hA
    have h1 : Bs (ownB a1 c1 A :: ownB a2 c2 B :: L) (.slice a1 A.length c1) A := Bs.own .here
    have h2 : Bs (ownB a1 c1 A :: ownB a2 c2 B :: L) (.slice a2 A.length c2) B := by rw [← hB]; exact Bs.own (.there .here)
    refine (byIdx_x h1 h2).mono ?_
    rintro r M ⟨h3, h4⟩
    subst h4
    exact ⟨_, drop2, h3, rfl⟩⟩
theorem byGrp_con {n : Nat} {L : List Asrt} : BCon 46 #[] #[] n L (fun a b => yesM (byGrp a b)) :=
  ⟨by kernel_rfl, fun a1 a2 c1 c2 A B hA hB => by
    subst hA
    have h1 : Bs (ownB a1 c1 A :: ownB a2 c2 B :: L) (.slice a1 A.length c1) A := Bs.own .here
    have h2 : Bs (ownB a1 c1 A :: ownB a2 c2 B :: L) (.slice a2 A.length c2) B := by rw [← hB]; exact Bs.own (.there .here)
    refine (byGrp_x h1 h2).mono ?_
    rintro r M ⟨h3, h4⟩
    subst h4
    exact ⟨_, drop2, h3, rfl⟩⟩
def orW (μ : List Byte → List Byte → BitVec 64) (rows : List (List Byte)) : Nat → BitVec 64
  | 0 => 0#64
  | i + 1 => if 0 < i then orW μ rows i ||| μ (rows.getD i []) (rows.getD (i - 1) []) else orW μ rows i
def getsL (i : Nat) : List Acc := (List.range i).map fun k : Nat => ((0, (k : Int), 0) : Acc)
theorem getsL_succ (i : Nat) : getsL (i + 1) = getsL i ++ [(0, (i : Int), 0)] := by unfold getsL; rw [List.range_succ, List.map_append]; rfl
theorem getsL_len (i : Nat) : (getsL i).length = i := by unfold getsL; simp
def lastR (rows : List (List Byte)) (i : Nat) : List Byte := if 0 < i then rows.getD (i - 1) [] else []
section
variable {q pp ph : Nat} {s0 : SL} {tg : PS × HostS.HS} {rows : List (List Byte)} {log : List Acc} {L : List Asrt} {F : FuncId} {fi ca : Array Value} {μ : List Byte → List Byte → BitVec 64}
theorem soSorted_x {n : Nat} (hns : n ≤ s0.n) (hn : n ≤ 1000) (hlog : log.length + n ≤ 2000000) (hz : s0.size ≤ 4096) (hrl : ∀ k, k < s0.n → (rows.getD k []).length = s0.size) (hc : BCon F fi ca s0.size L μ) :
    Con Tryz.prog 51 [hp q, nvv n, .func (.func F) fi ca] (qsA q pp ph s0 tg rows log :: L) (fun r M => r = .tuple #[.bool (decide (orW μ rows n = 0#64)), nvv 0] ∧ M = qsA q pp ph s0 tg rows (log ++ getsL n) :: L) := by
  refine fn_y Tryz.func51 Tryz.mixed ?_
  intro w0
  refine Y7 ?_
  refine Zor (c := sfits_x (q := q) (pp := pp) (ph := ph) (s0 := s0) (tg := tg) (rows := rows) (log := log) n hns) (k := ?_)
  rintro _ _ ⟨rfl, rfl⟩
  refine Y6 ?_
  refine Zot 18 rfl ((fun hh => hh rfl)) ?_
  refine V12 ?_
  refine Zgo [(6, 7), (9, 13), (21, 43)] (by kernel_rfl) (fun s : Nat × Option Addr × Nat => s.1 ≤ n) (fun s => qsA q pp ph s0 tg rows (log ++ getsL s.1) :: ownB s.2.1 s.2.2 (lastR rows s.1) :: L) (fun s => [(9, .slice s.2.1 (lastR rows s.1).length s.2.2), (10, u64b (orW μ rows s.1)), (21, nvv s.1)]) (fun s => n - s.1) (0, none, 0) (Nat.zero_le _) (by show Imp _ (qsA q pp ph s0 tg rows (log ++ []) :: ownB none 0 [] :: L); rw [List.append_nil]; exact (Imp.cons Imp.own_nil)) ⟨rfl, rfl, rfl, trivial⟩ ?_
  rintro ⟨i, la, lc⟩ u hi
  dsimp only at hi ⊢
  refine V3 ?_
  refine Zgg rfl (fun hB => ?_) (fun hB => ?_)
  · have hgt := qget_x (q := q) (pp := pp) (ph := ph) (s0 := s0) (tg := tg) (rows := rows) (log := log ++ getsL i) (by rw [List.length_append, getsL_len]; omega) (m := i) (by omega)
    have hri := hrl i (by omega)
    have e1 : lastR rows (i + 1) = rows.getD i [] := by unfold lastR; rw [if_pos (by omega), Nat.add_sub_cancel]
    have e2 : log ++ getsL i ++ [(0, (i : Int), 0)] = log ++ getsL (i + 1) := by rw [getsL_succ, List.append_assoc]
    rw [e2] at hgt
    by_cases h0 : 0 < i
    · have hrj := hrl (i - 1) (by omega)
      have e3 : lastR rows i = rows.getD (i - 1) [] := by unfold lastR; rw [if_pos h0]
      have e4 : orW μ rows (i + 1) = orW μ rows i ||| μ (rows.getD i []) (rows.getD (i - 1) []) := by show (if 0 < i then _ else _) = _; rw [if_pos h0]
      have htw := fun ga gc => twin_x (L := [ownB ga gc (rows.getD i [])]) (v := .slice ga (rows.getD i []).length gc) (Bs.own .here) (by omega)
      have hbe := fun a1 c1 a2 c2 => hc.con a1 a2 c1 c2 (rows.getD i []) (rows.getD (i - 1) []) hri hrj
      rw [hri] at hgt htw
      rw [e3, hrj]
      refine Y7 ?_
      refine Zor (c := hgt) (k := ?_)
      rintro _ _ ⟨ga, gc, rfl, rfl⟩
      refine Y10 ?_
      refine Zot 31 rfl ((fun hh => hh rfl)) ?_
      refine Y4 ?_
      refine Zhg (Zmh (a := i) (b := 0) rfl rfl) ?_
      refine Zos 34 rfl (h0) ?_
      refine Y6 ?_
      refine Zor (c := htw ga gc) (k := ?_)
      rintro _ _ ⟨ta, tc, rfl, rfl⟩
      refine Y2 ?_
      refine Zh8 rfl hc.callable (hbe ta tc la lc) rfl qT ?_; rintro _ _ ⟨rfl, rfl⟩; refine Zg2 qA ?_
      refine Zhg (Zlg (x := orW μ rows i) (y := μ (rows.getD i []) (rows.getD (i - 1) [])) rfl rfl) ?_
      refine V10 ?_
      exact Zgl (i + 1, ga, gc) qO (by dsimp only; omega) (by dsimp only; rw [e1]; exact qI) ⟨by dsimp only; rw [e1, hri]; rfl, by dsimp only; rw [e4]; rfl, rfl, trivial⟩
    · have e4 : orW μ rows (i + 1) = orW μ rows i := by show (if 0 < i then _ else _) = _; rw [if_neg h0]
      refine Y7 ?_
      refine Zor (c := hgt) (k := ?_)
      rintro _ _ ⟨ga, gc, rfl, rfl⟩
      refine Y10 ?_
      refine Zot 31 rfl ((fun hh => hh rfl)) ?_
      refine Y4 ?_
      refine Zhg (Zmh (a := i) (b := 0) rfl rfl) ?_
      refine Zot 34 rfl (h0) ?_
      refine V10 ?_
      exact Zgl (i + 1, ga, gc) qO (by dsimp only; omega) (by dsimp only; rw [e1]; exact qI) ⟨by dsimp only; rw [e1]; rfl, by dsimp only; rw [e4]; rfl, rfl, trivial⟩
  · obtain rfl : i = n := by omega
    refine Y2 ?_
    refine Zhg (Zln (x := orW μ rows i) (y := 0#64) rfl rfl) ?_
    refine V3 ?_
    refine rx2 (Zha rfl (Zg9 rfl (Zg7))) ?_
    exact ⟨_, ⟨rfl, rfl⟩, qI⟩
theorem soBack_x {n : Nat} {gs : List (Nat × Nat)} (hn : n ≤ 256) (hns : n ≤ s0.n) (hpad : padN n = n) (hgs : ∀ b, Gives Tryz.prog 127 [.pointer (some ⟨b, 0, none⟩)] [cl b #[nvv n] 3] (gs.map encG)) (hok : ∀ g ∈ gs, NetS.okG s0.n g) (hlog : log.length + gs.length ≤ 2000000) (hz : s0.size ≤ 4096) :
    Con Tryz.prog 56 [hp q, nvv n] (qsA q pp ph s0 tg rows log :: L) (fun r M => r = nvv 0 ∧ M = qsA q pp ph s0 tg (gs.foldl (pairG fun a b => yesM (byIdx a b)) rows) (log ++ gs.map accG) :: L) := by
  have hs := soSort_x (m := 0) (q := q) (pp := pp) (ph := ph) (s0 := s0) (tg := tg) (rows := rows) (log := log) hn hns hpad hgs hok hlog hz (byIdx_con (L := L))
  refine fn_y Tryz.func56 Tryz.mixed ?_
  intro w0
  refine Y6 ?_
  refine Zor (c := hs) (k := ?_)
  rintro _ _ ⟨rfl, rfl⟩
  refine V3 ?_
  refine rx1 (Zg9 rfl (Zg7)) ?_
  exact ⟨_, ⟨rfl, rfl⟩, qI⟩
end
end Go.Sl
namespace Go.Sl
open Go Go.Proofs
attribute [local irreducible] pt own old pur ex all den denOps denS xOps xC cX CX xthen xblk xcut xloop xng retX resX Calls PV Rd Con
abbrev Part := Option Addr × Nat × List Byte
def vP (p : Part) : Value := .slice p.1 p.2.2.length p.2.1
def ownP (p : Part) : Asrt := own 5 1 (vP p) p.2.2.length (p.2.2.map u8b)
theorem ownP_bs {M M' : List Asrt} {p : Part} (hm : Has M (ownP p) M') : Bs M (vP p) p.2.2 := Bs.own (E := 5) hm
theorem star_bs {α : Type} {A : α → Asrt} {l : List α} {x : α} {v : Value} {b : List Byte} (hx : x ∈ l) (h : ∀ R, Bs (A x :: R) v b) {M M' : List Asrt} (hm : Has M (star A l) M') : Bs M v b := by
  obtain ⟨R, hR⟩ := star_has (A := A) hx hm
  exact (h R).imp hR
end Go.Sl
namespace Go.Sl
open Go Go.Proofs
attribute [local irreducible] pt own old pur ex all den denOps denS xOps xC cX CX xthen xblk xcut xloop xng retX resX Calls PV Rd Con
abbrev rowS (a : Option Addr) (c : Nat) (ps : List Part) : Asrt := own 66 1 (.slice a ps.length c) ps.length (ps.map vP)
theorem rowS_snoc {a : Option Addr} {c : Nat} {ps : List Part} {p : Part} {M : List Asrt} : Imp (own 66 1 (.slice a (ps.length + 1) c) (ps.length + 1) (ps.map vP ++ [vP p]) :: ownP p :: star ownP ps :: M) (rowS a c (ps ++ [p]) :: star ownP (ps ++ [p]) :: M) := by
  unfold rowS
  rw [List.map_append, List.length_append]
  exact Imp.cons star_snoc
theorem own_part {g n : Nat} {l : List Byte} (hl : l.length = n) (hn : n ≤ 4096) {M : List Asrt} : Imp (blk g l :: M) (ownP (some ⟨g, 0, none⟩, n, l) :: M) := by
  have e : ownP (some ⟨g, 0, none⟩, n, l) = ownB (some ⟨g, 0, none⟩) n l := by unfold ownP vP; rfl
  rw [e]
  exact own_block hl (by omega)
end Go.Sl
namespace Go.Sl
open Go Go.Proofs
attribute [local irreducible] pt own old pur ex all den denOps denS xOps xC cX CX xthen xblk xcut xloop xng retX resX Calls PV Rd Con
theorem eqRows_x {L : List Asrt} {va vb : Value} {ps qs : List Part} (ha : Rd L 1 va ps.length (ps.map vP)) (hb : Rd L 1 vb qs.length (qs.map vP)) (hp : ∀ p ∈ ps, Bs L (vP p) p.2.2) (hq : ∀ p ∈ qs, Bs L (vP p) p.2.2) (h : ps.map (·.2.2) = qs.map (·.2.2)) (hl : ps.length ≤ 1073741824) :
    Con Tryz.prog 52 [va, vb] L (fun r M => r = .bool true ∧ L = M) := by
  refine Con.get (fun w0 w F H => ha.len H) ?_
  rintro ⟨aa, ac, rfl⟩
  refine Con.get (fun w0 w F H => hb.len H) ?_
  rintro ⟨ba, bc, rfl⟩
  have hlen : ps.length = qs.length := by simpa using congrArg List.length h
  refine fn_y Tryz.func52 Tryz.mixed ?_
  intro w0
  refine Y9 ?_
  refine Zot 10 rfl ((fun hh => hh hlen)) ?_
  refine V5 ?_
  refine Zgo [(4, 5), (11, 26)] (by kernel_rfl) (fun i : Nat => i ≤ ps.length) (fun _ => L) (fun i => [(5, nvv i)]) (fun i => ps.length - i) 0 (Nat.zero_le _) qI ⟨rfl, trivial⟩ ?_
  intro i u hi
  refine V6 ?_
  refine Zgg rfl (fun hB => ?_) (fun hB => ?_)
  · have hib : i < qs.length := by omega
    refine Zgt (fun F w H => ha.someAt (by omega) H) ?_
    rintro ⟨a1, a2, rfl⟩
    refine Zgt (fun F w H => hb.someAt (by omega) H) ?_
    rintro ⟨b1, b2, rfl⟩
    have hpi := hp _ (List.getElem_mem hB)
    have hqi := hq _ (List.getElem_mem hib)
    have heq : ps[i].2.2 = qs[i].2.2 := by
      have h2 : (ps.map (·.2.2))[i]? = (qs.map (·.2.2))[i]? := by rw [h]
      rw [List.getElem?_map, List.getElem?_map, List.getElem?_eq_getElem hB, List.getElem?_eq_getElem hib] at h2
      exact Option.some.inj h2
    refine Ct.o ?_
    refine Zij (L) [7] (.q 0 (.q 1 (.q 2 (.q 4 (.q 5 (.q 6 (.r 3 (.r 7 (.e 8 false (.q 9 .nil)))))))))) (by kernel_rfl) (by kernel_rfl) (Imp.arr qV) ?_
    refine W6 ?_
    refine Zfh rfl rfl ((ha.at hB (getM (f := vP) hB))) ?_
    refine Zfh rfl rfl ((hb.at hib (getM (f := vP) hib))) ?_
    refine Ziq rfl ?_
    refine Zor (c := eqBytes_x hpi hqi) (k := ?_)
    rintro _ _ ⟨rfl, rfl⟩
    refine Y1 ?_
    refine Zg3 ⟨(fun hh => Bool.noConfusion hh), ?_⟩
    refine Zou 25 rfl (heq) ?_
    refine Zim rfl (Zb0 rfl) ?_
    refine Zi6 26 rfl (rfl) ?_
    refine Zik ?_
    refine V6 ?_
    exact Zgl (i + 1) qO (by omega) qI ⟨rfl, trivial⟩
  · refine V3 ?_
    refine rx1 (Zha rfl (Zg7)) ?_
    exact ⟨_, ⟨rfl, rfl⟩, qI⟩
end Go.Sl
namespace Go.Sl
open Go Go.Proofs
attribute [local irreducible] pt own old pur ex all den denOps denS xOps xC cX CX xthen xblk xcut xloop xng retX resX Calls PV Rd Con
attribute [local irreducible] hostA pgA qsA PagerS.loadP PagerS.saveP withinN wso
open SlotS (SL Acc Fit QI slv zb)
open PagerS (PS Over)
abbrev oPs (x : SoWorldV) : PS := psN x.key_ x.round_ (oWn x) (oPg x) (oTx x)
abbrev oHs (x : SoWorldV) (fl : List HostS.Fault) : HostS.HS := HostS.fresh (oPg x : Int) (oTx x + 28) fl
abbrev oSl (x : SoWorldV) : SL := ⟨0, oNn x, oSz x, oTx x / oSz x, []⟩
abbrev oTg (x : SoWorldV) : PS × HostS.HS := (psN (zb 32) x.round_ (oWn x) (oPg x) (oTx x), hsN (oPg x) (oTx x))
theorem oNew (x : SoWorldV) (key : List Byte) : SlotS.newS 0 (oNn x) (oSz x) (psN key x.round_ (oWn x) (oPg x) (oTx x)) = 0 := by
  have h := onum x
  have h1 := h.sz; have h2 := h.tx
  unfold SlotS.newS
  have e1 : (psN key x.round_ (oWn x) (oPg x) (oTx x)).text = oTx x := rfl
  have e2 : (psN key x.round_ (oWn x) (oPg x) (oTx x)).pages = (oPg x : Int) := rfl
  have e3 : SlotS.takeN (oNn x) (oTx x / oSz x) = oPg x := rfl
  rw [e1, e2]
  simp only [Int.toNat_natCast]
  rw [if_neg (by omega), if_neg (by omega), if_neg (by rw [e3]; omega)]
theorem oQi {x : SoWorldV} (hk : x.key_.length = 32) : QI (oSl x) (oTg x) (List.replicate (oNn x) (zb (oSz x))) [] (oPs x) (hsN (oPg x) (oTx x)) (fun _ => List.replicate (oTx x) 0#8) := by
  have h := onum x
  have h1 := h.sz; have h2 := h.tx; have h3 := h.pg; have h4 := h.wn
  exact SlotS.qi_fresh (pages := (oPg x : Int)) (text := oTx x) hk h4 ⟨by omega, by omega⟩ ⟨by omega, by omega⟩ (oNew x x.key_)
theorem begun_x {L : List Asrt} {x : SoWorldV} (hi : SoIn x) {fv : Value} {fl : List HostS.Fault} (hfl : fl.length ≤ 1000000) (hfo : ∀ f ∈ fl, HostS.FOk f) (hf : Rd L 6 fv fl.length (fl.flatMap fcells)) (hkd : fl.all HostS.kindly = true) : Con Tryz.prog 57 [.agg (wso x), fv] L (fun r M => ∃ q pp ph, r = .tuple #[hp ph, hp q, .bool true] ∧ M = slA q pp (oSl x) :: pgA pp ph (oPs x) :: hostA ph (oHs x fl) :: L) := by
  have hk := hi.key
  have hlen := wso_len hk
  have h := onum x
  have h1 := h.sz; have h2 := h.tx; have h3 := h.pg; have h4 := h.wn; have h5 := h.n
  have hsh := shape_x hi
  have hnw := new_ok (L := L) (oPg x : Int) ((oTx x + 28 : Nat) : Int) (by omega) hfo hf ⟨⟨by omega, by omega, by omega, by omega⟩, hkd⟩
  rw [Int.toNat_natCast] at hnw
  have hnw : Con Tryz.prog 19 [nvv (oPg x), nvv (oTx x + 28), fv] L (fun v M => ∃ p, v = .tuple #[hp p, nvv 0] ∧ M = hostA p (oHs x fl) :: L) := hnw
  have hz : newR (oHs x fl) (oWn x : Int) = 0 := by
    unfold newR
    rw [if_neg (by omega), if_neg (show ¬ (oHs x fl).size ≤ 28 by show ¬ oTx x + 28 ≤ 28; omega)]
  have hpn := fun ph => pnew_ok (ph := ph) (h := oHs x fl) hk x.round_ hz
  have hpe : PagerS.freshP x.key_ x.round_ ((oWn x : Int)).toNat (oHs x fl).pages ((oHs x fl).size - 28) = oPs x := by
    show PagerS.freshP x.key_ x.round_ (oWn x) (oPg x : Int) (oTx x + 28 - 28) = _
    rw [Nat.add_sub_cancel]
  rw [hpe] at hpn
  have hok : PagerS.Ok (oPs x) := PagerS.ok_fresh hk h4 ⟨by omega, by omega⟩ ⟨by omega, by omega⟩
  have hsn := fun pp ph => slnew_ok (pp := pp) (ph := ph) hok (first := 0) (n := (oNn x : Int)) (size := (oSz x : Int)) (by omega) (by omega) (by omega) (oNew x x.key_)
  have hs0 : SlotS.freshS 0 (oNn x : Int) (oSz x : Int) (oPs x) = oSl x := rfl
  rw [hs0] at hsn
  generalize hH0 : oHs x fl = H0 at *
  refine fn_y Tryz.func57 Tryz.mixed ?_
  intro w0
  refine Y1 ?_
  refine Zh5 rfl ?_; intro b2
  refine Y6 ?_
  refine Zor (c := hsh) (k := ?_)
  rintro _ _ ⟨rfl, rfl⟩
  refine Y1 ?_
  refine Zhz (cs := #[.int .i64 0, .int .i64 0, .int .i64 0, .int .i64 0, .int .i64 0]) rfl ?_; intro b7
  first|refine Zhy rfl rfl qR qZ (by first|rfl|exact oneM_u8 _|exact oneL_u8 _|exact acc_one _|exact acc_ones _|assumption|(simp [oneC]; done)) qZ ?_|refine Zhx rfl rfl qR qZ (by first|rfl|exact oneM_u8 _|exact oneL_u8 _|exact acc_one _|exact acc_ones _|assumption|(simp [oneC]; done)) qZ rfl ?_
  refine Y8 ?_
  refine Zor (c := hnw) (k := ?_)
  rintro _ _ ⟨ph, rfl, rfl⟩
  refine Y10 ?_
  refine Zot 27 rfl ((fun hh => hh rfl)) ?_
  refine Y3 ?_
  refine Zhn 30 rfl (rfl) ?_
  refine Y5 ?_
  refine Zhg (Zol rfl) ?_
  refine Y1 ?_
  refine Zhq (n := 32) rfl qH qZ (wso_key_ hk) ?_
  refine Y1 ?_
  refine Zhp rfl qH (wso_round_ hk) ?_
  refine Y2 ?_
  refine Zor (c := hpn ph) (k := ?_)
  rintro _ _ ⟨pp, rfl, rfl⟩
  refine Y10 ?_
  refine Zot 45 rfl ((fun hh => hh rfl)) ?_
  refine Y3 ?_
  refine Zhn 48 rfl (rfl) ?_
  refine Y9 ?_
  refine Zor (c := hsn pp ph) (k := ?_)
  rintro _ _ ⟨q, rfl, rfl⟩
  refine Y12 ?_
  refine Zos 62 rfl (rfl) ?_
  refine Y3 ?_
  refine Zhm 65 rfl (rfl) ?_
  refine V5 ?_
  refine rx3 (Zhb rfl (Zhb rfl (Zha rfl (Zg7)))) ?_
  exact ⟨_, ⟨q, pp, ph, rfl, rfl⟩, qI⟩
theorem begunQ_x {L : List Asrt} {x : SoWorldV} (hi : SoIn x) : Con Tryz.prog 57 [.agg (wso x), nilF] L (fun r M => ∃ q pp ph, r = .tuple #[hp ph, hp q, .bool true] ∧ M = qsA q pp ph (oSl x) (oTg x) (List.replicate (oNn x) (zb (oSz x))) [] :: L) :=
  (begun_x (L := L) hi (fv := nilF) (fl := []) (by simp) (by simp) Rd.nil rfl).mono fun r M hh => by
    obtain ⟨q, pp, ph, h1, rfl⟩ := hh
    exact ⟨_, qsA_mk (s0 := oSl x) (log := []) (oQi hi.key), q, pp, ph, h1, rfl⟩
def powN (n : Nat) : Nat := if n = 0 then 0 else 2 ^ n.log2
theorem power_x (n : Nat) (hn : n ≤ 40) : Con Tryz.prog 45 [nvv n] [] (fun r M => r = nvv (powN n) ∧ M = []) := by
  refine fn_y Tryz.func45 Tryz.mixed ?_
  intro w0
  refine V9 ?_
  refine Zgo [(3, 10)] (by kernel_rfl) (fun i : Nat => i ≤ 6 ∧ (i = 0 ∨ 2 ^ (i - 1) ≤ n)) (fun _ => []) (fun i => [(3, nvv (if i = 0 then 0 else 2 ^ (i - 1))), (4, nvv (2 ^ i))]) (fun i => 7 - i) 0 ⟨by omega, .inl rfl⟩ qI ⟨rfl, rfl, trivial⟩ ?_
  rintro i u ⟨hi, hi2⟩
  have hp : 2 ^ i ≤ 2 ^ 6 := Nat.pow_le_pow_right (by omega) hi
  by_cases hB : 2 ^ i ≤ n
  · have hi6 : i < 6 := by
      apply Nat.lt_of_not_le
      intro hh
      obtain rfl : i = 6 := by omega
      omega
    have e : 2 * 2 ^ i = 2 ^ (i + 1) := by rw [Nat.pow_succ, Nat.mul_comm]
    refine Y3 ?_
    refine Zhg (Zmg (a := 2 ^ i) (b := n) rfl rfl) ?_
    refine Zos 7 rfl (hB) ?_
    refine Y8 ?_
    refine Zhg (Zmc (a := 2) (b := 2 ^ i) rfl rfl (by omega)) ?_
    refine V2 ?_
    rw [e]
    exact Zgl (i + 1) qO ⟨by omega, .inr hB⟩ qI ⟨rfl, rfl, trivial⟩
  · have e : (if i = 0 then 0 else 2 ^ (i - 1)) = powN n := by
      unfold powN
      by_cases h0 : i = 0
      · subst h0
        have : n = 0 := by
          have : ¬ 1 ≤ n := hB
          omega
        rw [if_pos rfl, if_pos this]
      · have h2 := hi2.resolve_left h0
        have hpos := NetS.pow_pos2 (i - 1)
        have hn0 : n ≠ 0 := by omega
        rw [if_neg h0, if_neg hn0]
        congr 1
        have e1 : 2 ^ (i - 1) * 2 = 2 ^ i := by rw [← Nat.pow_succ]; congr 1; omega
        exact ((Nat.log2_eq_iff hn0).2 ⟨h2, by rw [show i - 1 + 1 = i by omega]; omega⟩).symm
    rw [e]
    refine Y3 ?_
    refine Zhg (Zmg (a := 2 ^ i) (b := n) rfl rfl) ?_
    refine Zot 7 rfl (hB) ?_
    refine V6 ?_
    refine rx1 (Zg9 rfl (Zg7)) ?_
    exact ⟨_, ⟨rfl, rfl⟩, qI⟩
theorem powN_le (n : Nat) : powN n ≤ n := by
  unfold powN
  split
  · omega
  · rename_i h; exact Nat.log2_self_le h
theorem powN_pad {n : Nat} (hn : n ≤ 256) : padN (powN n) = powN n := by
  unfold powN
  by_cases h : n = 0
  · rw [if_pos h]; rfl
  · rw [if_neg h]
    have : n.log2 < 9 := (Nat.log2_lt h).2 (by omega)
    exact padN_pow ⟨_, this⟩
def gatesN (n : Nat) : List (Nat × Nat) := if n = 0 then [] else NetS.gates n.log2
theorem gatesN_g {n : Nat} (hn : n ≤ 256) (b : Nat) : Gives Tryz.prog 127 [.pointer (some ⟨b, 0, none⟩)] [cl b #[nvv (powN n)] 3] ((gatesN n).map encG) := by
  unfold powN gatesN
  by_cases h : n = 0
  · rw [if_pos h, if_pos h]; exact bitonic0_g
  · rw [if_neg h, if_neg h]
    have : n.log2 < 9 := (Nat.log2_lt h).2 (by omega)
    exact bitonic_g (by omega)
theorem gatesN_ok {n N : Nat} (hN : n ≤ N) : ∀ g ∈ gatesN n, NetS.okG N g := by
  intro g hg
  unfold gatesN at hg
  split at hg
  · cases hg
  · rename_i h
    obtain ⟨h1, h2, h3⟩ := NetS.gates_ok _ g hg
    have := Nat.log2_self_le h
    exact ⟨by omega, by omega, h3⟩
theorem gatesN_len {n : Nat} (hn : n ≤ 256) : (gatesN n).length ≤ 16384 := by
  unfold gatesN
  split
  · show 0 ≤ _; omega
  · rename_i h
    have : n.log2 < 9 := (Nat.log2_lt h).2 (by omega)
    exact NetS.gates_len (by omega)
end Go.Sl
namespace Go.Sl
open Go Go.Proofs
attribute [local irreducible] pt own old pur ex all den denOps denS xOps xC cX CX xthen xblk xcut xloop xng retX resX Calls PV Rd Con
attribute [local irreducible] hostA pgA qsA PagerS.loadP PagerS.saveP withinN wso sizedB
open SlotS (SL Acc Fit QI slv zb)
open PagerS (PS Over)
def fillT (bs : List (List Byte)) (sz n i : Nat) : List (List Byte) := (List.range n).map fun k => if k < i then sizedB (bs.getD k []) sz else zb sz
theorem fillT_zero (bs : List (List Byte)) (sz n : Nat) : fillT bs sz n 0 = List.replicate n (zb sz) := by
  apply List.ext_getElem (by simp [fillT])
  intro j h1 h2
  simp [fillT]
theorem fillT_set {bs : List (List Byte)} {sz n i : Nat} (hi : i < n) : (fillT bs sz n i).set i (sizedB (bs.getD i []) sz) = fillT bs sz n (i + 1) := by
  apply List.ext_getElem (by simp [fillT])
  intro j h1 h2
  rw [List.getElem_set]
  simp only [fillT, List.getElem_map, List.getElem_range]
  by_cases e : i = j
  · subst e; rw [if_pos rfl, if_pos (by omega)]
  · rw [if_neg e]
    by_cases e2 : j < i
    · rw [if_pos e2, if_pos (by omega)]
    · rw [if_neg e2, if_neg (by omega)]
def setsL (i : Nat) : List Acc := (List.range i).map fun k : Nat => ((1, (k : Int), 0) : Acc)
theorem setsL_succ (i : Nat) : setsL (i + 1) = setsL i ++ [(1, (i : Int), 0)] := by unfold setsL; rw [List.range_succ, List.map_append]; rfl
theorem setsL_len (i : Nat) : (setsL i).length = i := by unfold setsL; simp
def rowsF (bs : List (List Byte)) (sz n : Nat) : List (List Byte) := fillT bs sz n n
theorem rowsF_get {bs : List (List Byte)} {sz n k : Nat} (hk : k < n) : (rowsF bs sz n).getD k [] = sizedB (bs.getD k []) sz := by
  unfold rowsF fillT
  rw [List.getD_eq_getElem?_getD, List.getElem?_map, List.getElem?_range hk]
  simp [hk]
theorem rowsF_len {bs : List (List Byte)} {sz n : Nat} : (rowsF bs sz n).length = n := by simp [rowsF, fillT]
abbrev bsOf (ps : List (Value × List Byte)) : List (List Byte) := ps.map (·.2)
theorem bsOf_at {ps : List (Value × List Byte)} {i : Nat} (h : i < ps.length) : (bsOf ps).getD i [] = ps[i].2 := by
  rw [List.getD_eq_getElem?_getD, List.getElem?_map, List.getElem?_eq_getElem h]; rfl
section
variable {L : List Asrt} {x : SoWorldV} {v : Value} {ps : List (Value × List Byte)}
theorem filled_x (hi : SoIn x) (hr : Rs L v ps) (hl : oNn x ≤ ps.length) : Con Tryz.prog 43 [.agg (wso x), v] L (fun r M => ∃ q pp ph, r = .tuple #[hp ph, hp q, .bool true] ∧ M = qsA q pp ph (oSl x) (oTg x) (rowsF (bsOf ps) (oSz x) (oNn x)) (setsL (oNn x)) :: L) := by
  refine Con.get (fun w0 w F H => hr.sh _ _ _ H) ?_
  rintro ⟨va, vc, rfl, hvc, hvcm⟩
  have hk := hi.key
  have hlen := wso_len hk
  have h := onum x
  have h1 := h.sz; have h2 := h.tx; have h3 := h.pg; have h4 := h.wn; have h5 := h.n
  have hsh := shape_x hi
  have hbg := begunQ_x (L := []) hi
  unfold rowsF
  have es : (oSl x).size = oSz x := rfl
  have en : (oSl x).n = oNn x := rfl
  generalize oSl x = S0 at *
  generalize oTg x = T0 at *
  refine fn_y Tryz.func43 Tryz.mixed ?_
  intro w0
  refine Y1 ?_
  refine Zh5 rfl ?_; intro b2
  refine Y6 ?_
  refine Zor (c := hbg) (k := ?_)
  rintro _ _ ⟨q, pp, ph, rfl, rfl⟩
  refine Y11 ?_
  refine Zhg (Zb0 rfl) ?_
  refine Zhn 19 rfl (rfl) ?_
  refine Y4 ?_
  refine Zor (c := hsh) (k := ?_)
  rintro _ _ ⟨rfl, rfl⟩
  refine Y1 ?_
  refine Zhz (cs := #[.int .i64 0, .int .i64 0, .int .i64 0, .int .i64 0, .int .i64 0]) rfl ?_; intro b10
  first|refine Zhy rfl rfl qR qZ (by first|rfl|exact oneM_u8 _|exact oneL_u8 _|exact acc_one _|exact acc_ones _|assumption|(simp [oneC]; done)) qZ ?_|refine Zhx rfl rfl qR qZ (by first|rfl|exact oneM_u8 _|exact oneL_u8 _|exact acc_one _|exact acc_ones _|assumption|(simp [oneC]; done)) qZ rfl ?_
  refine V4 ?_
  refine Zgo [(4, 6), (11, 11), (22, 38)] (by kernel_rfl) (fun i : Nat => i ≤ oNn x) (fun i => qsA q pp ph S0 T0 (fillT (bsOf ps) (oSz x) (oNn x) i) (setsL i) :: cl b10 (shV x) 86 :: cl b2 (wso x) 84 :: L) (fun i => [(11, nvv i)]) (fun i => oNn x - i) 0 (Nat.zero_le _) (by rw [fillT_zero]; show Imp _ (qsA q pp ph S0 T0 _ [] :: _); exact qI) ⟨rfl, trivial⟩ ?_
  intro i u hi9
  refine V6 ?_
  refine Zgg rfl (fun hB => ?_) (fun hB => ?_)
  · have hib : i < ps.length := by omega
    refine Zgt (fun F w H => (hr.rd.imp qI).someAt (by omega) H) ?_
    rintro ⟨g, o, rfl⟩
    have hbi := hr.el _ (List.getElem_mem hib)
    have hsz := sized_x hbi (oSz x) (by omega)
    have hq2 := fun gb => qset_x (q := q) (pp := pp) (ph := ph) (s0 := S0) (tg := T0) (rows := fillT (bsOf ps) (oSz x) (oNn x) i) (log := setsL i) (by rw [setsL_len]; omega) (m := i) (by omega) (v := sizedB ps[i].2 (oSz x)) (by rw [sizedB_len, es]) (L := [blk gb (sizedB ps[i].2 (oSz x))]) (bs_full (n := oSz x) .here (sizedB_len _ _) (by omega))
    have e1 : (fillT (bsOf ps) (oSz x) (oNn x) i).set i (sizedB ps[i].2 (oSz x)) = fillT (bsOf ps) (oSz x) (oNn x) (i + 1) := by rw [← bsOf_at hib]; exact fillT_set hB
    rw [e1, ← setsL_succ] at hq2
    refine Ct.o ?_
    refine Zij ((cl b10 (shV x) 86 :: L)) [7] (.q 0 (.q 1 (.q 2 (.q 3 (.q 4 (.q 6 (.r 5 (.r 7 (.e 8 false (.e 9 false (.q 10 .nil))))))))))) (by kernel_rfl) (by kernel_rfl) (Imp.arr qV) ?_
    refine W6 ?_
    refine Zfh rfl rfl (((hr.imp qI).rd.at hib (getM (f := Prod.fst) hib))) ?_
    refine W1 ?_
    refine Ziq rfl ?_
    refine Zor (c := hsz) (k := ?_)
    rintro _ _ ⟨gb, rfl, rfl⟩
    refine Y1 ?_
    refine Zg3 ⟨(fun hh => Bool.noConfusion hh), ?_⟩
    refine Ziq rfl ?_
    refine Zor (c := hq2 gb) (k := ?_)
    rintro _ _ ⟨rfl, rfl⟩
    refine Y1 ?_
    refine Zg3 ⟨(fun hh => Bool.noConfusion hh), ?_⟩
    refine W1 ?_
    refine Zov 38 rfl ((fun hh => hh rfl)) ?_
    refine Zik ?_
    refine V6 ?_
    exact Zgl (i + 1) qO (by omega) qI ⟨rfl, trivial⟩
  · obtain rfl : i = oNn x := by omega
    refine V7 ?_
    refine rx3 (Zhb rfl (Zhb rfl (Zha rfl (Zg7)))) ?_
    exact ⟨_, ⟨q, pp, ph, rfl, rfl⟩, qI⟩
end
section
variable {q pp ph : Nat} {s0 : SL} {tg : PS × HostS.HS} {rows : List (List Byte)} {log : List Acc}
theorem all_x {n : Nat} (hn : n ≤ s0.n) (hn2 : n ≤ 1000) (hlog : log.length + n ≤ 2000000) (hrows : rows.length = s0.n) : Con Tryz.prog 49 [hp q, nvv n] [qsA q pp ph s0 tg rows log] (fun r M => ∃ a c ps, ps.map (·.2.2) = rows.take n ∧ r = .tuple #[.slice a ps.length c, .bool true] ∧ M = [rowS a c ps, star ownP ps, qsA q pp ph s0 tg rows (log ++ getsL n)]) := by
  refine fn_y Tryz.func49 Tryz.mixed ?_
  intro w0
  refine V10 ?_
  refine Zgo [(4, 26)] (by kernel_rfl) (fun s : Nat × Option Addr × Nat × List Part => s.1 ≤ n ∧ s.2.2.2.map (·.2.2) = rows.take s.1) (fun s => rowS s.2.1 s.2.2.1 s.2.2.2 :: star ownP s.2.2.2 :: [qsA q pp ph s0 tg rows (log ++ getsL s.1)]) (fun s => [(6, .slice s.2.1 s.2.2.2.length s.2.2.1), (7, nvv s.1)]) (fun s => n - s.1) (0, none, 0, []) ⟨Nat.zero_le _, rfl⟩ (by show Imp _ (own 66 1 (.slice none 0 0) 0 [] :: star ownP [] :: [qsA q pp ph s0 tg rows (log ++ [])]); rw [List.append_nil]; exact star_nil.trans (Imp.own_nil)) ⟨rfl, rfl, trivial⟩ ?_
  rintro ⟨i, a, c, ps⟩ u ⟨hi, hps⟩
  dsimp only at hi hps ⊢
  have hpl : ps.length = i := by
    have := congrArg List.length hps
    simpa [Nat.min_eq_left (show i ≤ rows.length by omega)] using this
  refine V5 ?_
  refine Zgg rfl (fun hB => ?_) (fun hB => ?_)
  · have hgt := qget_x (q := q) (pp := pp) (ph := ph) (s0 := s0) (tg := tg) (rows := rows) (log := log ++ getsL i) (by rw [List.length_append, getsL_len]; omega) (m := i) (by omega)
    have e2 : log ++ getsL i ++ [(0, (i : Int), 0)] = log ++ getsL (i + 1) := by rw [getsL_succ, List.append_assoc]
    rw [e2] at hgt
    have e3 : ps.map (·.2.2) ++ [rows.getD i []] = rows.take (i + 1) := by
      rw [hps, List.take_succ_eq_append_getElem (by omega), List.getD_eq_getElem?_getD, List.getElem?_eq_getElem (by omega)]; rfl
    generalize rows.getD i [] = ri at *
    refine Y3 ?_
    refine Zor (c := hgt) (k := ?_)
    rintro _ _ ⟨ga, gc, rfl, rfl⟩
    refine Y10 ?_
    refine Zot 22 rfl ((fun hh => hh rfl)) ?_
    refine Y5 ?_
    refine Zh7 (cs := #[.slice _ _ _]) (by omega) (by omega) rfl ?_; intro b25
    refine Zia rfl rfl qH (Rd.cl (xs := [vP (ga, gc, ri)]) qH rfl qZ rfl) (by first|rfl|exact oneM_u8 _|exact oneL_u8 _|exact acc_one _|exact acc_ones _|assumption|(simp [oneC]; done)) (by omega) qS ?_; intro a3 c3
    refine V7 ?_
    refine Zgl (i + 1, a3, c3, ps ++ [(ga, gc, ri)]) qO ⟨by dsimp only; omega, by dsimp only; rw [List.map_append]; exact e3⟩ ?_ ⟨by dsimp only; rw [List.length_append]; rfl, rfl, trivial⟩
    exact (Imp.arr (N := own 66 1 (.slice a3 (ps.length + 1) c3) (ps.length + 1) (ps.map vP ++ [vP (ga, gc, ri)]) :: ownP (ga, gc, ri) :: star ownP ps :: [qsA q pp ph s0 tg rows (log ++ getsL (i + 1))]) qV).trans rowS_snoc
  · obtain rfl : i = n := by omega
    refine V5 ?_
    refine rx2 (Zhc rfl (Zha rfl (Zg7))) ?_
    exact ⟨_, ⟨a, c, ps, hps, rfl, rfl⟩, qI⟩
end
abbrev prt (ps : List Part) : List (Value × List Byte) := ps.map fun p => (vP p, p.2.2)
theorem prt_rs {a : Option Addr} {c : Nat} {ps : List Part} {L M' M2 : List Asrt} (h1 : Has L (rowS a c ps) M') (h2 : Has L (star ownP ps) M2) : Rs L (.slice a ps.length c) (prt ps) := by
  have e : (prt ps).length = ps.length := by simp
  have e2 : (prt ps).map (·.1) = ps.map vP := by simp [Function.comp_def]
  have := Rs.own (E := 66) (v := .slice a ps.length c) (ps := prt ps) (M := L) (M' := M') (by rw [e, e2]; exact h1) (fun y hy => by
    obtain ⟨p, hp, rfl⟩ := List.mem_map.1 hy
    exact star_bs (A := ownP) hp (fun R => ownP_bs .here) h2)
  exact this
theorem prt_bs {ps : List Part} : bsOf (prt ps) = ps.map (·.2.2) := by simp [bsOf, Function.comp_def]
end Go.Sl
namespace Go.Sl
open Go Go.Proofs
attribute [local irreducible] pt own old pur ex all den denOps denS xOps xC cX CX xthen xblk xcut xloop xng retX resX Calls PV Rd Con
attribute [local irreducible] lowB leB
def hdV (live flag : Byte) (index rank : BitVec 32) (grp : List Byte) : Array Value := #[u8b live, u8b flag, u32b index, u32b rank] ++ (grp.map u8b).toArray
def mkR (live flag : Byte) (index rank : BitVec 32) (grp body : List Byte) : List Byte := (([live, flag] ++ leB index 4) ++ leB rank 4) ++ grp ++ body
theorem mkR_len {live flag : Byte} {index rank : BitVec 32} {grp body : List Byte} (hg : grp.length = 16) : (mkR live flag index rank grp body).length = 26 + body.length := by unfold mkR; simp only [List.length_append, leB_len, hg, List.length_cons, List.length_nil]
theorem hdV_len {live flag : Byte} {index rank : BitVec 32} {grp : List Byte} (hg : grp.length = 16) : (hdV live flag index rank grp).size = 20 := by unfold hdV; simp [hg]
section
variable {live flag : Byte} {index rank : BitVec 32} {grp : List Byte}
theorem hdV_0 : (hdV live flag index rank grp)[0]? = some (u8b live) := by unfold hdV; simp
theorem hdV_1 : (hdV live flag index rank grp)[1]? = some (u8b flag) := by unfold hdV; simp
theorem hdV_2 : (hdV live flag index rank grp)[2]? = some (u32b index) := by unfold hdV; simp
theorem hdV_3 : (hdV live flag index rank grp)[3]? = some (u32b rank) := by unfold hdV; simp
theorem hdV_g (hg : grp.length = 16) : (hdV live flag index rank grp).extract 4 (4 + 16 * 1) = (grp.map u8b).toArray := by
  unfold hdV
  apply Array.ext'
  simp [List.extract_eq_take_drop, List.take_of_length_le, hg]
attribute [local irreducible] hdV
theorem head_x (hg : grp.length = 16) : Con Tryz.prog 122 [.agg (hdV live flag index rank grp)] [] (fun r M => ∃ a c, r = .slice a (mkR live flag index rank grp []).length c ∧ M = [ownB a c (mkR live flag index rank grp [])]) := by
  have hlen := hdV_len (live := live) (flag := flag) (index := index) (rank := rank) hg
  have p1 := fun b => put32_x (L := [cl b #[u8b live, u8b flag] 5]) (v := .slice (some ⟨b, 0, none⟩) 2 2) (b := [live, flag]) index (bs_full (n := 2) .here rfl (by omega)) (by show 2 ≤ _; omega)
  have l1 : ([live, flag] ++ leB index 4).length = 6 := by simp [leB_len]
  have p2 := fun a c => put32_x (L := [own 5 1 (.slice a ([live, flag] ++ leB index 4).length c) ([live, flag] ++ leB index 4).length (([live, flag] ++ leB index 4).map u8b)]) (b := [live, flag] ++ leB index 4) rank (Bs.own .here) (by omega)
  have l2 : (([live, flag] ++ leB index 4) ++ leB rank 4).length = 10 := by simp [leB_len]
  have e9 : mkR live flag index rank grp [] = (([live, flag] ++ leB index 4) ++ leB rank 4) ++ grp := by unfold mkR; rw [List.append_nil]
  rw [e9]
  generalize ([live, flag] ++ leB index 4) ++ leB rank 4 = l10 at *
  generalize [live, flag] ++ leB index 4 = l6 at *
  refine fn_y Tryz.func122 Tryz.mixed ?_
  intro w0
  refine Y1 ?_
  refine Zh5 rfl ?_; intro b1
  refine Y4 ?_
  refine Zhp rfl qH (hdV_0) ?_
  refine Y1 ?_
  refine Zhp rfl qH (hdV_1) ?_
  refine Zh7 (cs := #[.int .u8 _, .int .u8 _]) (by omega) (by omega) rfl ?_; intro b8
  refine Y1 ?_
  refine Zhp rfl qH (hdV_2) ?_
  refine Zor (c := p1 b8) (k := ?_)
  rintro _ _ ⟨a1, c1, rfl, rfl⟩
  refine Y6 ?_
  refine Zhp rfl qH (hdV_3) ?_
  refine Zor (c := p2 a1 c1) (k := ?_)
  rintro _ _ ⟨a2, c2, rfl, rfl⟩
  refine Y6 ?_
  refine Zhg (Zmy (h := 16) rfl rfl) ?_
  refine Zia rfl rfl qH (Rd.cl (xs := grp.map u8b) qH (by rw [List.length_map, hg]) (by omega) (by rw [hdV_g hg])) (by first|rfl|exact oneM_u8 _|exact oneL_u8 _|assumption|(simp [oneC]; done)) (by omega) qS ?_; intro a3 c3
  refine V2 ?_
  refine rx1 (Zhc rfl (Zg7)) ?_
  refine ⟨_, ⟨a3, c3, ?_, rfl⟩, ?_⟩
  · rw [List.length_append, hg]
  · unfold ownB
    rw [List.length_append, hg, List.map_append]
    exact qI
theorem make_x {L : List Asrt} {vb : Value} {body : List Byte} (hg : grp.length = 16) (hb : Bs L vb body) (hbl : body.length ≤ 1000000) : Con Tryz.prog 83 [.agg (hdV live flag index rank grp), vb] L (fun r M => ∃ a c, r = .slice a (mkR live flag index rank grp body).length c ∧ M = ownB a c (mkR live flag index rank grp body) :: L) := by
  refine Con.get (fun w0 w F H => hb.sh _ _ _ H) ?_
  rintro ⟨va, vc, rfl, hvc, hvcm⟩
  have hlen := hdV_len (live := live) (flag := flag) (index := index) (rank := rank) hg
  have hh := head_x (live := live) (flag := flag) (index := index) (rank := rank) hg
  have hl := mkR_len (live := live) (flag := flag) (index := index) (rank := rank) (body := []) hg
  have e9 : mkR live flag index rank grp body = mkR live flag index rank grp [] ++ body := by unfold mkR; rw [List.append_nil]
  rw [e9]
  generalize mkR live flag index rank grp [] = l26 at *
  have hl : l26.length = 26 := hl
  refine fn_y Tryz.func83 Tryz.mixed ?_
  intro w0
  refine Y1 ?_
  refine Zh5 rfl ?_; intro b2
  refine Y4 ?_
  refine Zor (c := hh) (k := ?_)
  rintro _ _ ⟨a1, c1, rfl, rfl⟩
  refine Y2 ?_
  refine Zia rfl rfl qH ((hb.rd.imp qI)) (by first|rfl|exact oneM_u8 _|exact oneL_u8 _|assumption|(simp [oneC]; done)) (by omega) qS ?_; intro a3 c3
  refine V2 ?_
  refine rx1 (Zhc rfl (Zg7)) ?_
  refine ⟨_, ⟨a3, c3, by rw [List.length_append], rfl⟩, ?_⟩
  unfold ownB
  rw [List.length_append, List.map_append]
  exact qI
end
end Go.Sl
namespace Go.Sl
open Go Go.Proofs
attribute [local irreducible] pt own old pur ex all den denOps denS xOps xC cX CX xthen xblk xcut xloop xng retX resX Calls PV Rd Con
attribute [local irreducible] hostA pgA qsA PagerS.loadP PagerS.saveP withinN wso sizedB
open SlotS (SL Acc Fit QI slv zb)
open PagerS (PS Over)
open NetS (pairG)
def fstB (a b : List Byte) : Bool := decide ((a.getD 0 0#8).toNat < (b.getD 0 0#8).toNat)
theorem first_x {L : List Asrt} {v vb : Value} {r b : List Byte} (h : Bs L v r) (hb : Bs L vb b) (h1 : 0 < r.length) (h2 : 0 < b.length) : Con Tryz.prog 48 [v, vb] L (fun x M => x = u64b (yesM (fstB r b)) ∧ L = M) := by
  refine Con.get (fun w0 w F H => h.sh _ _ _ H) ?_
  rintro ⟨va, vc, rfl, hvc, hvcm⟩
  refine Con.get (fun w0 w F H => hb.sh _ _ _ H) ?_
  rintro ⟨wa, wc, rfl, hwc, hwcm⟩
  refine Con.get (fun w0 w F H => h.some (by omega) H) ?_
  rintro ⟨g, o, rfl⟩
  refine Con.get (fun w0 w F H => hb.some (by omega) H) ?_
  rintro ⟨g2, o2, rfl⟩
  have k1 := h.rd.at (j := 0) (by omega) (r_get (by omega))
  have k2 := hb.rd.at (j := 0) (by omega) (r_get (by omega))
  rw [Nat.add_zero] at k1 k2
  unfold fstB
  by_cases hlt : (r.getD 0 0#8).toNat < (b.getD 0 0#8).toNat
  · rw [decide_eq_true hlt]
    refine fn_y Tryz.func48 Tryz.mixed ?_
    intro w0
    refine V3 ?_
    refine Zij (L) [5] (.q 0 (.q 1 (.q 3 (.q 4 (.r 2 (.r 5 (.q 6 .nil))))))) (by kernel_rfl) (by kernel_rfl) (Imp.arr qV) ?_
    refine W1 ?_
    first|refine Zim rfl (Zl4 (n := 0) rfl rfl) ?_|refine Zim rfl (Zl1 (n := 0) rfl rfl) ?_
    refine W1 ?_
    first|refine Zim rfl (Zl4 (n := 0) rfl rfl) ?_|refine Zim rfl (Zl1 (n := 0) rfl rfl) ?_
    refine Zfh rfl rfl (k1) ?_
    refine Zfh rfl rfl (k2) ?_
    refine Zim rfl (Zjm (x := r.getD 0 0#8) (y := b.getD 0 0#8) rfl rfl) ?_
    refine Zou 11 rfl (hlt) ?_
    refine Zik ?_
    refine V4 ?_
    refine rx1 (Zg9 rfl (Zg7)) ?_
    exact ⟨_, ⟨rfl, rfl⟩, qI⟩
  · rw [decide_eq_false hlt]
    refine fn_y Tryz.func48 Tryz.mixed ?_
    intro w0
    refine V3 ?_
    refine Zij (L) [5] (.q 0 (.q 1 (.q 3 (.q 4 (.r 2 (.r 5 (.q 6 .nil))))))) (by kernel_rfl) (by kernel_rfl) (Imp.arr qV) ?_
    refine W1 ?_
    first|refine Zim rfl (Zl4 (n := 0) rfl rfl) ?_|refine Zim rfl (Zl1 (n := 0) rfl rfl) ?_
    refine W1 ?_
    first|refine Zim rfl (Zl4 (n := 0) rfl rfl) ?_|refine Zim rfl (Zl1 (n := 0) rfl rfl) ?_
    refine Zfh rfl rfl (k1) ?_
    refine Zfh rfl rfl (k2) ?_
    refine Zim rfl (Zjm (x := r.getD 0 0#8) (y := b.getD 0 0#8) rfl rfl) ?_
    refine Zov 11 rfl (hlt) ?_
    refine Zik ?_
    refine V4 ?_
    refine rx1 (Zg9 rfl (Zg7)) ?_
    exact ⟨_, ⟨rfl, rfl⟩, qI⟩
theorem first_con {n : Nat} (hn : 1 ≤ n) {L : List Asrt} : BCon 48 #[] #[] n L (fun a b => yesM (fstB a b)) :=
  ⟨by kernel_rfl, fun a1 a2 c1 c2 A B hA hB => by
    subst hA
    have h1 : Bs (ownB a1 c1 A :: ownB a2 c2 B :: L) (.slice a1 A.length c1) A := Bs.own .here
    have h2 : Bs (ownB a1 c1 A :: ownB a2 c2 B :: L) (.slice a2 A.length c2) B := by rw [← hB]; exact Bs.own (.there .here)
    refine (first_x h1 h2 (by omega) (by omega)).mono ?_
    rintro r M ⟨h3, h4⟩
    subst h4
    exact ⟨_, drop2, h3, rfl⟩⟩
theorem hd_fill {pl : Nat → Option (Nat × Nat)} {live : Byte} {index : BitVec 32} {grp : List Byte} (hg : grp.length = 16) (h0 : pl 0 = some (0, 1)) (h2 : pl 2 = some (2, 1)) (h4 : pl 4 = some (4, 16)) :
    Instr.fill pl ([] ++ ([Value.int .u8 0] ++ ([Value.int .u8 0, .int .u32 0, .int .u32 0] ++ List.replicate 16 (Value.int .u8 0)))).toArray [(0, u8b live), (2, u32b index), (4, .agg (grp.map u8b).toArray)] = some (hdV live 0#8 index 0#32 grp) := by
  refine fill_seg (V := [u8b live]) h0 rfl rfl rfl rfl ?_
  show Instr.fill pl ([u8b live, Value.int .u8 0] ++ ([Value.int .u32 0] ++ (Value.int .u32 0 :: List.replicate 16 (Value.int .u8 0)))).toArray _ = _
  refine fill_seg (V := [u32b index]) h2 rfl rfl rfl rfl ?_
  show Instr.fill pl ([u8b live, Value.int .u8 0, u32b index, Value.int .u32 0] ++ (List.replicate 16 (Value.int .u8 0) ++ [])).toArray _ = _
  refine fill_seg (V := grp.map u8b) h4 rfl (by simp) (by simp [Value.cells]) (by simp [hg]) ?_
  rw [fill_end]
  congr 1
  unfold hdV
  apply Array.ext'
  simp
-- works
namespace SoW
def x0 (b : Nat) : SoWorldV := ⟨26, 60, 2, List.replicate 32 0#8, 0#64, .slice none 0 0, [], .slice (some ⟨b, 0, none⟩) 4 4, List.replicate 4 (.slice none 0 0, []), .slice none 0 0, []⟩
def grp (i : Nat) : Byte := [2#8, 1#8, 0#8, 1#8].getD i 0#8
def lv (i : Nat) : Byte := if (grp i).toNat = 0 then 0#8 else 1#8
def rec (i : Nat) : List Byte := mkR (lv i) 0#8 (BitVec.ofInt 32 (i : Int)) 0#32 (grp i :: List.replicate 15 0#8) []
def rowsW (i : Nat) : List (List Byte) := (List.range 4).map fun k => if k < i then rec k else zb 26
def rows2 : List (List Byte) := (gatesN 4).foldl (pairG fun a b => yesM (byGrp a b)) (rowsW 4)
theorem sz0 (b : Nat) : oSz (x0 b) = 26 := by with_unfolding_all rfl
theorem n0 (b : Nat) : oNn (x0 b) = 4 := by with_unfolding_all rfl
theorem was : orW (fun a b => yesM (byGrp a b)) (rowsW 4) 4 ≠ 0#64 := by decide +kernel
theorem is : orW (fun a b => yesM (byGrp a b)) rows2 4 = 0#64 := by decide +kernel
theorem r0 : (rows2.getD 0 []).length = 26 ∧ (rows2.getD 0 [])[2]? = some 1#8 := by decide +kernel
theorem lens : ∀ k : Fin 4, ((rowsW 4).getD k []).length = 26 ∧ (rows2.getD k []).length = 26 := by decide +kernel
theorem glen : (gatesN 4).length = 6 := by decide +kernel
theorem rset : ∀ i : Fin 4, (rowsW i).set i (rec i) = rowsW (i + 1) := by decide +kernel
theorem rlen : ∀ i : Fin 4, (rec i).length = 26 := by decide +kernel
theorem lvN : ∀ i : Fin 4, min (grp i).toNat 1 = (lv i).toNat := by decide
theorem pw : powN 4 = 4 := by decide +kernel
end SoW
attribute [local irreducible] SoW.rowsW SoW.rows2 SoW.rec hdV mkR
namespace SoW
theorem grpAt : ∀ i : Nat, i < 4 → (#[u8b 2#8, u8b 1#8, u8b 0#8, u8b 1#8])[i]? = some (u8b (grp i))
  | 0, _ => rfl
  | 1, _ => rfl
  | 2, _ => rfl
  | 3, _ => rfl
theorem pv_lv {ρ : Env} {x : Operand} {i : Nat} (hi : i < 4) (hx : ev ρ x = .int .i64 (min ((grp i).toNat : Int) 1)) : PV Tryz.prog (.convert 3 5 x) ρ (u8b (lv i)) := by
  have e := lvN ⟨i, hi⟩
  have e2 : (min ((grp i).toNat : Int) 1) = ((lv i).toNat : Int) := by
    have e : min (grp i).toNat 1 = (lv i).toNat := e
    omega
  rw [e2] at hx
  have := Zjs (P := Tryz.prog) (S := 3) (D := 5) hx
  have e3 : BitVec.ofInt 8 ((lv i).toNat : Int) = lv i := by
    apply BitVec.eq_of_toNat_eq
    rw [BitVec.toNat_ofInt]
    have := (lv i).isLt
    omega
  rwa [e3] at this
end SoW
attribute [local irreducible] SoW.lv SoW.grp
open SoW in
theorem soWorks_x : Con Tryz.prog 41 [] [] (fun r M => r = .bool true ∧ M = []) := by
  have hbg := fun b => begunQ_x (L := []) (x := x0 b) ⟨rfl, ⟨_, _, rfl⟩, by show Big 26; omega, by show Big 60; omega, by show Big 2; omega⟩
  have en := fun b => show (oSl (x0 b)).n = 4 from n0 b
  have es := fun b => show (oSl (x0 b)).size = 26 from sz0 b
  have e0 : ∀ b, List.replicate (oNn (x0 b)) (zb (oSz (x0 b))) = rowsW 0 := fun b => by rw [n0, sz0]; with_unfolding_all rfl
  simp only [e0] at hbg
  obtain ⟨r0a, r0b⟩ := r0
  have hlen := lens
  refine fn_y Tryz.func41 Tryz.mixed ?_
  intro w0
  refine Y4 ?_
  refine Zh6 rfl rfl qS qS qS (by omega) ?_; intro b14
  refine Zhg (Zdm (cs := wso (x0 b14)) (by kernel_rfl)) ?_
  refine Zor (c := hbg b14) (k := ?_)
  rintro _ _ ⟨q, pp, ph, rfl, rfl⟩
  refine V9 ?_
  have en := en b14
  have es := es b14
  clear hbg e0
  generalize oSl (x0 b14) = S0 at *
  generalize oTg (x0 b14) = T0 at *
  refine Y2 ?_
  refine Zhg (Zb0 rfl) ?_
  refine Zhn 21 rfl (rfl) ?_
  refine Y3 ?_
  refine Zhn 24 rfl (rfl) ?_
  refine Y4 ?_
  refine Zh7 (cs := #[u8b 2#8, u8b 1#8, u8b 0#8, u8b 1#8]) (by omega) (by omega) (by kernel_rfl) ?_; intro b26
  refine V5 ?_
  refine Zgo [(0, 0), (5, 5), (27, 50)] (by kernel_rfl) (fun i : Nat => i ≤ 4) (fun i => [qsA q pp ph S0 T0 (rowsW i) (setsL i), cl b26 #[u8b 2#8, u8b 1#8, u8b 0#8, u8b 1#8] 5]) (fun i => [(5, nvv i)]) (fun i => 4 - i) 0 (Nat.zero_le _) qI ⟨rfl, trivial⟩ ?_
  intro i u hi
  refine V4 ?_
  refine Zgg rfl (fun hB => ?_) (fun hB => ?_)
  · have hrl : (rec i).length = 26 := rlen ⟨i, hB⟩
    have hmk := make_x (L := []) (live := lv i) (flag := 0#8) (index := BitVec.ofInt 32 (i : Int)) (rank := 0#32) (grp := grp i :: List.replicate 15 0#8) (vb := .slice none 0 0) (body := []) (by simp) Bs.nil (by simp)
    have hre : mkR (lv i) 0#8 (BitVec.ofInt 32 (i : Int)) 0#32 (grp i :: List.replicate 15 0#8) [] = rec i := by with_unfolding_all rfl
    rw [hre] at hmk
    have hst := fun a c => qset_x (q := q) (pp := pp) (ph := ph) (s0 := S0) (tg := T0) (rows := rowsW i) (log := setsL i) (L := [ownB a c (rec i)]) (by rw [setsL_len]; omega) (m := i) (by omega) (v := rec i) (by omega) (Bs.own .here)
    have ers : (rowsW i).set i (rec i) = rowsW (i + 1) := rset ⟨i, hB⟩
    rw [ers, ← setsL_succ] at hst
    rw [hrl] at hmk hst
    refine Ct.o ?_
    refine Zij ([cl b26 #[u8b 2#8, u8b 1#8, u8b 0#8, u8b 1#8] 5]) [14, 15] (.q 0 (.q 1 (.q 2 (.q 3 (.q 4 (.q 9 (.q 10 (.q 11 (.q 12 (.q 13 (.r 5 (.q 6 (.q 7 (.q 8 (.r 14 (.r 15 (.q 16 (.e 17 false (.e 18 false (.q 19 .nil)))))))))))))))))))) (by kernel_rfl) (by kernel_rfl) (Imp.arr qV) ?_
    refine W6 ?_
    refine Zim rfl (Zk6 rfl) ?_
    refine W3 ?_
    refine Ziv rfl rfl qH (grpAt i hB) ?_
    refine Zim rfl (Zjt rfl) ?_
    refine W1 ?_
    refine Zim rfl (pv_lv hB rfl) ?_
    refine Ziv rfl rfl qH (grpAt i hB) ?_
    refine Ziz rfl (Zdn (cs := ((grp i :: List.replicate 15 0#8).map u8b).toArray) rfl) ?_
    refine Zim rfl (Zdm (cs := hdV (lv i) 0#8 (BitVec.ofInt 32 (i : Int)) 0#32 (grp i :: List.replicate 15 0#8)) (hd_fill (by simp) rfl rfl rfl)) ?_
    refine Ziq rfl ?_
    refine Zor (c := hmk) (k := ?_)
    rintro _ _ ⟨ma, mc, rfl, rfl⟩
    refine Y1 ?_
    refine Zg3 ⟨(fun hh => Bool.noConfusion hh), ?_⟩
    refine Ziq rfl ?_
    refine Zor (c := hst ma mc) (k := ?_)
    rintro _ _ ⟨rfl, rfl⟩
    refine Y1 ?_
    refine Zg3 ⟨(fun hh => Bool.noConfusion hh), ?_⟩
    refine W1 ?_
    refine Zov 50 rfl ((fun hh => hh rfl)) ?_
    refine Zik ?_
    refine Ct.o ?_
    all_goals
      refine V6 ?_
      exact Zgl (i + 1) qO (by omega) qI ⟨rfl, trivial⟩
  · obtain rfl : i = 4 := by omega
    have hz : S0.size ≤ 4096 := by omega
    have hrl1 : ∀ k, k < S0.n → ((rowsW 4).getD k []).length = S0.size := fun k hk => by rw [es]; exact (hlen ⟨k, by omega⟩).1
    have hrl2 : ∀ k, k < S0.n → (rows2.getD k []).length = S0.size := fun k hk => by rw [es]; exact (hlen ⟨k, by omega⟩).2
    have hs1 := soSorted_x (q := q) (pp := pp) (ph := ph) (s0 := S0) (tg := T0) (rows := rowsW 4) (log := setsL 4) (n := 4) (by omega) (by omega) (by rw [setsL_len]; omega) hz hrl1 (byGrp_con (L := []))
    rw [decide_eq_false was] at hs1
    have hgs := fun b => gatesN_g (n := 4) (by omega) b
    rw [pw] at hgs
    have hs2 := soSort_x (m := 0) (q := q) (pp := pp) (ph := ph) (s0 := S0) (tg := T0) (rows := rowsW 4) (log := setsL 4 ++ getsL 4) (n := 4) (gs := gatesN 4) (by omega) (by omega) (by decide) hgs (gatesN_ok (by omega)) (by rw [glen, List.length_append, setsL_len, getsL_len]; omega) hz (byGrp_con (L := []))
    have er : (gatesN 4).foldl (pairG fun a b => yesM (byGrp a b)) (rowsW 4) = rows2 := by with_unfolding_all rfl
    rw [er] at hs2
    have hs3 := soSorted_x (q := q) (pp := pp) (ph := ph) (s0 := S0) (tg := T0) (rows := rows2) (log := setsL 4 ++ getsL 4 ++ (gatesN 4).map accG) (n := 4) (by omega) (by omega) (by rw [List.length_append, List.length_append, List.length_map, glen, setsL_len, getsL_len]; omega) hz hrl2 (byGrp_con (L := []))
    rw [decide_eq_true is] at hs3
    have hgt := qget_x (q := q) (pp := pp) (ph := ph) (s0 := S0) (tg := T0) (rows := rows2) (log := setsL 4 ++ getsL 4 ++ (gatesN 4).map accG ++ getsL 4) (by rw [List.length_append, List.length_append, List.length_append, List.length_map, glen, setsL_len, getsL_len]; omega) (m := 0) (by omega)
    have hll : (setsL 4 ++ getsL 4 ++ (gatesN 4).map accG ++ getsL 4 ++ [(0, ((0 : Nat) : Int), 0)]).length = 19 := by rw [List.length_append, List.length_append, List.length_append, List.length_append, List.length_map, glen, setsL_len, getsL_len]; rfl
    have hlg := qlog_x (q := q) (pp := pp) (ph := ph) (s0 := S0) (tg := T0) (rows := rows2) (log := setsL 4 ++ getsL 4 ++ (gatesN 4).map accG ++ getsL 4 ++ [(0, ((0 : Nat) : Int), 0)]) (by rw [hll]; omega)
    rw [hll] at hlg
    generalize setsL 4 ++ getsL 4 ++ (gatesN 4).map accG ++ getsL 4 ++ [(0, ((0 : Nat) : Int), 0)] = l5 at *
    generalize setsL 4 ++ getsL 4 ++ (gatesN 4).map accG ++ getsL 4 = l4 at *
    generalize setsL 4 ++ getsL 4 ++ (gatesN 4).map accG = l3 at *
    generalize setsL 4 ++ getsL 4 = l2 at *
    have hb2 : (rows2.getD 0 []).map u8b = (rows2.getD 0 []).map u8b := rfl
    have h2at : ((rows2.getD 0 []).map u8b)[2]? = some (u8b 1#8) := by rw [List.getElem?_map, r0b]; rfl
    generalize rows2.getD 0 [] = rr at *
    refine Y2 ?_
    refine Zor (c := hs1) (k := ?_)
    rintro _ _ ⟨rfl, rfl⟩
    refine Y9 ?_
    refine Zor (c := hs2) (k := ?_)
    rintro _ _ ⟨rfl, rfl⟩
    refine Y5 ?_
    refine Zor (c := hs3) (k := ?_)
    rintro _ _ ⟨rfl, rfl⟩
    refine Y9 ?_
    refine Zor (c := hgt) (k := ?_)
    rintro _ _ ⟨ga, gc, rfl, rfl⟩
    refine V7 ?_
    refine Zgt (fun F w H => own_some (a := ga) qH (by omega) H) ?_
    rintro ⟨g, rfl⟩
    refine Y2 ?_
    refine Zhg (Zb0 rfl) ?_
    refine Y6 ?_
    refine Zos 75 rfl (rfl) ?_
    refine Y4 ?_
    refine Zos 79 rfl (rfl) ?_
    refine Y4 ?_
    refine Zos 83 rfl (rfl) ?_
    refine Y4 ?_
    refine Zos 87 rfl (rfl) ?_
    refine Y4 ?_
    first|refine Y0 ?_|(refine Zhh rfl ?_; (refine Zhg (Zmj (a := rr.length) (b := 26) rfl rfl) ?_))
    refine Zos 92 rfl (r0a) ?_
    refine Y3 ?_
    first|refine Y0 ?_|(refine Zhh rfl ?_; (first|refine Zhg (Zl4 (n := 2) rfl rfl) ?_|refine Zhg (Zl1 (n := 2) rfl rfl) ?_))
    first|refine Y0 ?_|(refine Zhh rfl ?_; (refine Zff rfl (((Rd.own (n := rr.length) qH).at0 (by omega) h2at)) ?_))
    first|refine Y0 ?_|(refine Zhh rfl ?_; (refine Zhg (Zjk (x := 1#8) (y := 1#8) rfl rfl) ?_))
    refine Zos 98 rfl (rfl) ?_
    refine Y3 ?_
    first|refine Y0 ?_|(refine Zhh rfl ?_; (refine Zor (c := hlg) (k := ?_)); (rintro _ _ ⟨la, lc, rfl, rfl⟩); (refine Zg2 qA ?_))
    refine Y2 ?_
    refine Zos 104 rfl (rfl) ?_
    refine V3 ?_
    refine rx1 (Zha rfl (Zg7)) ?_
    exact ⟨_, ⟨rfl, rfl⟩, qI⟩
end Go.Sl
namespace Go.Sl
open Go
def numB : List Byte → Nat
  | [] => 0
  | x :: a => x.toNat * 256 ^ a.length + numB a
theorem numB_lt : ∀ a : List Byte, numB a < 256 ^ a.length
  | [] => by simp [numB]
  | x :: a => by
    have h1 := numB_lt a
    have h2 := x.isLt
    have h3 : (x.toNat + 1) * 256 ^ a.length ≤ 256 * 256 ^ a.length := Nat.mul_le_mul_right _ (by omega)
    rw [Nat.add_mul, Nat.one_mul] at h3
    simp only [numB, List.length_cons, Nat.pow_succ]
    rw [Nat.mul_comm (256 ^ a.length) 256]
    omega
theorem ltB_num : ∀ (a b : List Byte), a.length = b.length → ltB a b = decide (numB a < numB b)
  | [], [], _ => by simp [ltB, numB]
  | x :: a, y :: b, h => by
    have hl : a.length = b.length := by simpa using h
    have ih := ltB_num a b hl
    have h1 := numB_lt a
    have h2 := numB_lt b
    simp only [ltB, numB]
    rw [hl] at h1
    by_cases e : x = y
    · subst e
      rw [if_pos rfl, ih]
      apply decide_eq_decide.2
      rw [hl]
      omega
    · rw [if_neg e]
      have hne : x.toNat ≠ y.toNat := fun hh => e (BitVec.eq_of_toNat_eq hh)
      apply decide_eq_decide.2
      rw [hl]
      constructor
      · intro hlt
        have : (x.toNat + 1) * 256 ^ b.length ≤ y.toNat * 256 ^ b.length := Nat.mul_le_mul_right _ hlt
        rw [Nat.add_mul, Nat.one_mul] at this
        omega
      · intro hlt
        apply Nat.lt_of_not_le
        intro hle
        have : (y.toNat + 1) * 256 ^ b.length ≤ x.toNat * 256 ^ b.length := Nat.mul_le_mul_right _ (by omega)
        rw [Nat.add_mul, Nat.one_mul] at this
        omega
  | [], _ :: _, h => by simp at h
  | _ :: _, [], h => by simp at h
def idxN (r : List Byte) : Nat := (num4 r 2).toNat
theorem idxN_lt (r : List Byte) : idxN r < 4294967296 := (num4 r 2).isLt
def keyG (r : List Byte) : Nat := if isR r then (if liveR r then numB (grpR r) * 4294967296 + idxN r else 256 ^ 16 * 4294967296 + idxN r) else 0
def keyI (r : List Byte) : Nat := if isR r then idxN r else 0
def key1 (r : List Byte) : Nat := (r.getD 0 0#8).toNat
structure RowOk (sz : Nat) (r : List Byte) : Prop where
  len : r.length = sz
  rc : 26 ≤ sz → isR r = true
theorem RowOk.no {sz : Nat} {r : List Byte} (h : RowOk sz r) (hs : ¬ 26 ≤ sz) : isR r = false := by
  unfold isR
  rw [decide_eq_false (by rw [h.len]; exact hs)]; rfl
theorem isR_is {sz : Nat} {a b : List Byte} (ha : RowOk sz a) (hb : RowOk sz b) : (26 ≤ sz ∧ isR a = true ∧ isR b = true) ∨ (¬ 26 ≤ sz ∧ isR a = false ∧ isR b = false) := by
  by_cases h : 26 ≤ sz
  · exact .inl ⟨h, ha.rc h, hb.rc h⟩
  · exact .inr ⟨h, ha.no h, hb.no h⟩
theorem byIdx_key {sz : Nat} {a b : List Byte} (ha : RowOk sz a) (hb : RowOk sz b) : byIdx a b = decide (keyI a < keyI b) := by
  unfold byIdx keyI idxN
  rcases isR_is ha hb with ⟨_, h1, h2⟩|⟨_, h1, h2⟩
  · rw [h1, h2]; rfl
  · rw [h1, h2]; rfl
theorem grp_len {sz : Nat} {a : List Byte} (ha : RowOk sz a) (hs : 26 ≤ sz) : (grpR a).length = 16 := by
  have := ha.len
  unfold grpR
  rw [List.length_take, List.length_drop]; omega
theorem byGrp_key {sz : Nat} {a b : List Byte} (ha : RowOk sz a) (hb : RowOk sz b) : byGrp a b = decide (keyG a < keyG b) := by
  rcases isR_is ha hb with ⟨hs, h1, h2⟩|⟨_, h1, h2⟩
  · have g1 := grp_len ha hs
    have g2 := grp_len hb hs
    have i1 := idxN_lt a
    have i2 := idxN_lt b
    have n1 := numB_lt (grpR a)
    have n2 := numB_lt (grpR b)
    rw [g1] at n1
    rw [g2] at n2
    have e1 := ltB_num (grpR a) (grpR b) (by rw [g1, g2])
    have e2 := ltB_num (grpR b) (grpR a) (by rw [g1, g2])
    have e3 : byIdx a b = decide (idxN a < idxN b) := by unfold byIdx; rw [h1, h2]; rfl
    unfold byGrp keyG
    rw [h1, h2, e1, e2, e3]
    generalize numB (grpR a) = p at *
    generalize numB (grpR b) = q at *
    generalize idxN a = i at *
    generalize idxN b = j at *
    generalize hW : (256 : Nat) ^ 16 = W at *
    cases liveR a <;> cases liveR b
    · simp
    · simp; omega
    · simp; omega
    · simp only [Bool.and_self, Bool.true_and, Bool.xor_self, if_true, Bool.false_eq_true, if_false]
      by_cases hpq : p < q
      · rw [decide_eq_true hpq]; simp; omega
      · by_cases hqp : q < p
        · rw [decide_eq_false hpq, decide_eq_true hqp]; simp; omega
        · rw [decide_eq_false hpq, decide_eq_false hqp]
          simp
          omega
  · unfold byGrp keyG
    rw [h1, h2]; rfl
theorem orW_zero {μ : List Byte → List Byte → BitVec 64} {rows : List (List Byte)} (f : Nat → BitVec 64) (h0 : f 0 = 0#64) (hs : ∀ i, f (i + 1) = if 0 < i then f i ||| μ (rows.getD i []) (rows.getD (i - 1) []) else f i) {n : Nat} (h : ∀ i, 0 < i → i < n → μ (rows.getD i []) (rows.getD (i - 1) []) = 0#64) : ∀ i, i ≤ n → f i = 0#64
  | 0, _ => h0
  | i + 1, hi => by
    rw [hs, orW_zero f h0 hs h i (by omega)]
    split
    · rename_i h1
      rw [h i h1 (by omega)]; rfl
    · rfl
namespace NetS
structure Srtd (key : Row → Nat) (n : Nat) (rows out : List Row) : Prop where
  len : out.length = rows.length
  drop : out.drop n = rows.drop n
  count : ∀ p : Row → Bool, (out.take n).countP p = (rows.take n).countP p
  sorted : ∀ x y, x ≤ y → y < n → key (out.getD x []) ≤ key (out.getD y [])
theorem sorted_of {μ : Row → Row → BitVec 64} {key : Row → Nat} {R : Row → Prop} {sz m : Nat} {rows : List Row} (hR : ∀ a, R a → a.length = sz) (hμ : ∀ a b, R a → R b → μ a b = Go.Sl.yesM (decide (key a < key b))) (hn : 2 ^ m ≤ rows.length) (hr : ∀ k, k < rows.length → R (rows.getD k [])) :
    Srtd key (2 ^ m) rows ((gates m).foldl (pairG μ) rows) ∧ ∀ k, k < rows.length → R (((gates m).foldl (pairG μ) rows).getD k []) := by
  have hok := gates_ok m
  have hok2 : ∀ g ∈ gates m, okG rows.length g := fun g hg => by
    obtain ⟨a, b, c⟩ := hok g hg
    exact ⟨by omega, by omega, c⟩
  obtain ⟨e, hr2⟩ := pairs_sws (c := fun a b => decide (key a < key b)) hμ hR (gates m) rows hok2 hr
  rw [e]
  obtain ⟨t1, t2⟩ := sws_take (c := fun a b => decide (key a < key b)) (gates m) rows hok hn
  refine ⟨⟨sws_len _ _, t2, fun p => ?_, fun x y hxy hy => ?_⟩, hr2⟩
  · rw [t1]
    exact sws_count p _ _ (fun g hg => by rw [List.length_take, Nat.min_eq_left hn]; exact hok g hg)
  · have hl : (rows.take (2 ^ m)).length = 2 ^ m := by rw [List.length_take, Nat.min_eq_left hn]
    have := sorts (key := key) (c := fun a b => decide (key a < key b)) (fun _ _ => rfl) hl hxy hy
    rw [← t1] at this
    have ex : ∀ z, z < 2 ^ m → (((gates m).foldl (sw fun a b => decide (key a < key b)) rows).take (2 ^ m)).getD z [] = ((gates m).foldl (sw fun a b => decide (key a < key b)) rows).getD z [] := fun z hz => by
      rw [List.getD_eq_getElem?_getD, List.getElem?_take_of_lt hz, List.getD_eq_getElem?_getD]
    rwa [ex x (by omega), ex y hy] at this
end NetS
end Go.Sl
namespace Go.Sl
open Go Go.Proofs
attribute [local irreducible] pt own old pur ex all den denOps denS xOps xC cX CX xthen xblk xcut xloop xng retX resX Calls PV Rd Con
attribute [local irreducible] hostA pgA qsA withinN wso sizedB
open SlotS (SL Acc Fit QI slv zb)
def cutT (b : List Byte) (i : Nat) : List Byte := (List.range b.length).map fun k => if k < i then b.getD k 0#8 % 2#8 else b.getD k 0#8
theorem cutT_len (b : List Byte) (i : Nat) : (cutT b i).length = b.length := by simp [cutT]
theorem cutT_zero (b : List Byte) : cutT b 0 = b := by
  unfold cutT
  simp only [Nat.not_lt_zero, if_false]
  exact range_self b
theorem cutT_at {b : List Byte} {i : Nat} (h : i < b.length) : (cutT b i)[i]'(by rw [cutT_len]; exact h) = b[i] := by simp [cutT, h]
theorem cutT_set {b : List Byte} {i : Nat} (h : i < b.length) : (cutT b i).set i (b[i] % 2#8) = cutT b (i + 1) := by
  apply List.ext_getElem (by simp [cutT])
  intro j h1 h2
  rw [List.getElem_set]
  simp only [cutT, List.getElem_map, List.getElem_range]
  by_cases e : i = j
  · subst e
    rw [if_pos rfl, if_pos (by omega)]; simp only [List.getD_eq_getElem?_getD, List.getElem?_eq_getElem h, Option.getD_some]
  · rw [if_neg e]
    by_cases e2 : j < i
    · rw [if_pos e2, if_pos (by omega)]
    · rw [if_neg e2, if_neg (by omega)]
def cutB (b : List Byte) : List Byte := cutT b (min 2 b.length)
theorem cutB_len (b : List Byte) : (cutB b).length = b.length := cutT_len _ _
theorem mod2 (x : Byte) : (x % 2#8).toNat < 2 := by rw [BitVec.toNat_umod]; exact Nat.mod_lt _ (by decide)
theorem cutB_ok {b : List Byte} {sz : Nat} (h : b.length = sz) : RowOk sz (cutB b) := by
  refine ⟨(cutB_len b).trans h, fun hs => ?_⟩
  have h0 : ∀ k, k < 2 → (cutB b).getD k 0#8 = b.getD k 0#8 % 2#8 := fun k hk => by
    unfold cutB cutT
    rw [List.getD_eq_getElem?_getD, List.getElem?_map, List.getElem?_range (by omega)]
    simp only [Option.map_some, Option.getD_some]
    rw [if_pos (by omega)]
  unfold isR
  rw [cutB_len, h0 0 (by omega), h0 1 (by omega), decide_eq_true (by omega), decide_eq_true (mod2 _), decide_eq_true (mod2 _)]; rfl
theorem sizedB_self {b : List Byte} {n : Nat} (h : b.length = n) : sizedB b n = b := by
  unfold sizedB sizedTo
  apply List.ext_getElem (by simp [h])
  intro j h1 h2
  simp [h2]
  omega
def recsL (bs : List (List Byte)) (sz n : Nat) : List (List Byte) := (List.range n).map fun k => cutB (sizedB (bs.getD k []) sz)
theorem recsL_succ (bs : List (List Byte)) (sz n : Nat) : recsL bs sz (n + 1) = recsL bs sz n ++ [cutB (sizedB (bs.getD n []) sz)] := by unfold recsL; rw [List.range_succ, List.map_append]; rfl
theorem recsL_len (bs : List (List Byte)) (sz n : Nat) : (recsL bs sz n).length = n := by simp [recsL]
theorem recsL_get {bs : List (List Byte)} {sz n k : Nat} (hk : k < n) : (recsL bs sz n).getD k [] = cutB (sizedB (bs.getD k []) sz) := by
  unfold recsL
  rw [List.getD_eq_getElem?_getD, List.getElem?_map, List.getElem?_range hk]; rfl
attribute [local irreducible] cutB
section
variable {L : List Asrt} {x : SoWorldV}
theorem records_x (hi : SoIn x) (hr : Rs L x.rows_V x.rows_) : Con Tryz.prog 44 [.agg (wso x)] L (fun r M => ∃ a c ps, ps.map (·.2.2) = recsL (bsOf x.rows_) (oSz x) (oNn x) ∧ r = .slice a ps.length c ∧ M = rowS a c ps :: star ownP ps :: L) := by
  obtain ⟨ra, rc, hrv⟩ := hi.rows
  have hk := hi.key
  have hlen := wso_len hk
  have hrows := wso_rows_ hk
  rw [hrv] at hrows hr
  have h := onum x
  have h1 := h.sz; have h5 := h.n
  have hsh := shape_x hi
  have hnl : oNn x ≤ x.rows_.length := by unfold oNn; omega
  refine fn_y Tryz.func44 Tryz.mixed ?_
  intro w0
  refine Y1 ?_
  refine Zh5 rfl ?_; intro b1
  refine Y4 ?_
  refine Zor (c := hsh) (k := ?_)
  rintro _ _ ⟨rfl, rfl⟩
  refine Y1 ?_
  refine Zhz (cs := #[.int .i64 0, .int .i64 0, .int .i64 0, .int .i64 0, .int .i64 0]) rfl ?_; intro b3
  first|refine Zhy rfl rfl qR qZ (by first|rfl|exact oneM_u8 _|exact oneL_u8 _|exact acc_one _|exact acc_ones _|assumption|(simp [oneC]; done)) qZ ?_|refine Zhx rfl rfl qR qZ (by first|rfl|exact oneM_u8 _|exact oneL_u8 _|exact acc_one _|exact acc_ones _|assumption|(simp [oneC]; done)) qZ rfl ?_
  refine V7 ?_
  refine Zgo [(4, 7), (10, 45)] (by kernel_rfl) (fun s : Nat × Option Addr × Nat × List Part => s.1 ≤ oNn x ∧ s.2.2.2.map (·.2.2) = recsL (bsOf x.rows_) (oSz x) s.1) (fun s => rowS s.2.1 s.2.2.1 s.2.2.2 :: star ownP s.2.2.2 :: cl b3 (shV x) 86 :: cl b1 (wso x) 84 :: L) (fun s => [(4, .slice s.2.1 s.2.2.2.length s.2.2.1), (5, nvv s.1)]) (fun s => oNn x - s.1) (0, none, 0, []) ⟨Nat.zero_le _, rfl⟩ (by show Imp _ (own 66 1 (.slice none 0 0) 0 [] :: star ownP [] :: cl b3 (shV x) 86 :: cl b1 (wso x) 84 :: L); exact star_nil.trans (Imp.own_nil)) ⟨rfl, rfl, trivial⟩ ?_
  rintro ⟨i, a, c, ps⟩ u ⟨hi9, hps⟩
  dsimp only at hi9 hps ⊢
  have hpl : ps.length = i := by
    have := congrArg List.length hps
    simpa [recsL_len] using this
  refine V6 ?_
  refine Zgg rfl (fun hB => ?_) (fun hB => ?_)
  · have hib : i < x.rows_.length := by omega
    refine Zgt (fun F w H => (hr.rd.imp qI).someAt (by omega) H) ?_
    rintro ⟨g, o, rfl⟩
    have hbi := hr.el _ (List.getElem_mem hib)
    have hsz := sized_x hbi (oSz x) (by omega)
    have e3 : ps.map (·.2.2) ++ [cutB (sizedB x.rows_[i].2 (oSz x))] = recsL (bsOf x.rows_) (oSz x) (i + 1) := by rw [hps, recsL_succ, bsOf_at hib]
    have hbl := sizedB_len x.rows_[i].2 (oSz x)
    generalize sizedB x.rows_[i].2 (oSz x) = bb at *
    refine Ct.o ?_
    refine Zij ((cl b3 (shV x) 86 :: cl b1 (wso x) 84 :: L)) [6] (.q 0 (.q 2 (.q 5 (.r 1 (.q 3 (.r 4 (.r 6 (.e 7 false (.q 8 .nil))))))))) (by kernel_rfl) (by kernel_rfl) (Imp.arr qV) ?_
    refine W3 ?_
    refine Ziv rfl rfl qH (hrows) ?_
    refine W1 ?_
    refine Zfh rfl rfl (((hr.imp qI).rd.at hib (getM (f := Prod.fst) hib))) ?_
    refine W1 ?_
    refine Ziq rfl ?_
    refine Zor (c := hsz) (k := ?_)
    rintro _ _ ⟨gb, rfl, rfl⟩
    refine Y1 ?_
    refine Zg3 ⟨(fun hh => Bool.noConfusion hh), ?_⟩
    refine W2 ?_
    refine V3 ?_
    refine Zgo [(7, 7), (24, 41)] (by kernel_rfl) (fun k : Nat => k ≤ min 2 bb.length) (fun k => blk gb (cutT bb k) :: rowS a c ps :: star ownP ps :: cl b3 (shV x) 86 :: cl b1 (wso x) 84 :: L) (fun k => [(7, nvv k)]) (fun k => 2 - k) 0 (Nat.zero_le _) (by rw [cutT_zero]; exact qI) ⟨rfl, trivial⟩ ?_
    intro k u2 hk9
    have hcl := cutT_len bb k
    by_cases hk2 : k < 2
    case' pos =>
      by_cases hkl : k < bb.length
      case' pos =>
        have hat := cutT_at hkl
        refine Y2 ?_
        refine Zhg (Zmf (a := k) (b := 2) rfl rfl) ?_
        refine Zos 25 rfl (hk2) ?_
        refine Y4 ?_
        first|refine Y0 ?_|(refine Zhh rfl ?_; (refine Zhg (Zmf (a := k) (b := oSz x) rfl rfl) ?_))
        refine Zos 30 rfl ((by omega)) ?_
        refine Y9 ?_
        refine Zhp rfl qH ((getL (f := u8b) (l := cutT bb k) (by omega)).trans (by rw [hat])) ?_
        refine Zhg (Zjr (x := bb[k]) (y := 2#8) rfl rfl (by decide)) ?_
        refine Y1 ?_
        refine Zht rfl rfl qR qZ (setL (f := u8b) (l := cutT bb k)) ?_
        refine V1 ?_
        rw [cutT_set hkl]
        refine V5 ?_
        exact Zgl (k + 1) qO (by omega) qI ⟨rfl, trivial⟩
      refine Y2 ?_
      refine Zhg (Zmf (a := k) (b := 2) rfl rfl) ?_
      refine Zos 25 rfl (hk2) ?_
      refine Y4 ?_
      first|refine Y0 ?_|(refine Zhh rfl ?_; (refine Zhg (Zmf (a := k) (b := oSz x) rfl rfl) ?_))
      refine Zot 30 rfl ((by omega)) ?_
      refine V2 ?_
    case' neg =>
      refine Y2 ?_
      refine Zhg (Zmf (a := k) (b := 2) rfl rfl) ?_
      refine Zot 25 rfl (hk2) ?_
      refine V7 ?_
    all_goals
      have hke : k = min 2 bb.length := by omega
      have ec : cutT bb k = cutB bb := by rw [hke]; with_unfolding_all rfl
      rw [ec]
      have hcb := cutB_len bb
      generalize cutB bb = cb at *
      refine V1 ?_
      refine Zgp (own_part (n := oSz x) (by omega) (by omega)) ?_
      refine Y3 ?_
      refine Zh7 (cs := #[.slice _ _ _]) (by omega) (by omega) rfl ?_; intro b44
      refine Zia rfl rfl qH (Rd.cl (xs := [vP (some ⟨gb, 0, none⟩, oSz x, cb)]) qH rfl qZ (by unfold vP; rw [show cb.length = oSz x by omega]; rfl)) (by first|rfl|exact oneM_u8 _|exact oneL_u8 _|exact acc_one _|exact acc_ones _|assumption|(simp [oneC]; done)) (by omega) qS ?_; intro a3 c3
      refine V7 ?_
      refine Zgl (i + 1, a3, c3, ps ++ [(some ⟨gb, 0, none⟩, oSz x, cb)]) qO ⟨by dsimp only; omega, by dsimp only; rw [List.map_append]; exact e3⟩ ?_ ⟨by dsimp only; rw [List.length_append]; rfl, rfl, trivial⟩
      exact (Imp.arr (N := own 66 1 (.slice a3 (ps.length + 1) c3) (ps.length + 1) (ps.map vP ++ [vP (some ⟨gb, 0, none⟩, oSz x, cb)]) :: ownP (some ⟨gb, 0, none⟩, oSz x, cb) :: star ownP ps :: cl b3 (shV x) 86 :: cl b1 (wso x) 84 :: L) qV).trans rowS_snoc
  · obtain rfl : i = oNn x := by omega
    refine V4 ?_
    refine rx1 (Zhc rfl (Zg7)) ?_
    exact ⟨_, ⟨a, c, ps, hps, rfl, rfl⟩, qI⟩
end
end Go.Sl
namespace Go.Sl
open Go Go.Proofs
attribute [local irreducible] pt own old pur ex all den denOps denS xOps xC cX CX xthen xblk xcut xloop xng retX resX Calls PV Rd Con
attribute [local irreducible] hostA pgA qsA withinN wso sizedB NetS.gates recsL
open SlotS (SL Acc Fit QI slv zb)
open PagerS (PS Over)
open NetS (pairG Srtd)
theorem srtN {μ : List Byte → List Byte → BitVec 64} {key : List Byte → Nat} {sz n : Nat} {rows : List (List Byte)} (hn : rows.length = n) (hμ : ∀ a b, RowOk sz a → RowOk sz b → μ a b = yesM (decide (key a < key b))) (hr : ∀ k, k < rows.length → RowOk sz (rows.getD k [])) :
    Srtd key (powN n) rows ((gatesN n).foldl (pairG μ) rows) ∧ ∀ k, k < rows.length → RowOk sz (((gatesN n).foldl (pairG μ) rows).getD k []) := by
  unfold gatesN powN
  by_cases h : n = 0
  · rw [if_pos h, if_pos h]
    exact ⟨⟨rfl, rfl, fun p => rfl, fun x y _ hy => by omega⟩, hr⟩
  · rw [if_neg h, if_neg h]
    exact NetS.sorted_of (fun a ha => ha.len) hμ (by rw [hn]; exact Nat.log2_self_le h) hr
theorem orW_srt {μ : List Byte → List Byte → BitVec 64} {key : List Byte → Nat} {sz n : Nat} {rows out : List (List Byte)} (hμ : ∀ a b, RowOk sz a → RowOk sz b → μ a b = yesM (decide (key a < key b))) (hs : Srtd key n rows out) (hr : ∀ k, k < rows.length → RowOk sz (out.getD k [])) (hn : n ≤ rows.length) :
    (∀ i, 0 < i → i < n → μ (out.getD i []) (out.getD (i - 1) []) = 0#64) ∧ orW μ out n = 0#64 := by
  have h1 : ∀ i, 0 < i → i < n → μ (out.getD i []) (out.getD (i - 1) []) = 0#64 := fun i h0 hi => by
    rw [hμ _ _ (hr i (by omega)) (hr (i - 1) (by omega)), yesM_eq0]
    have := hs.sorted (i - 1) i (by omega) hi
    exact decide_eq_false (by omega)
  exact ⟨h1, orW_zero (orW μ out) rfl (fun i => rfl) h1 n (Nat.le_refl _)⟩
theorem part_at {ps : List Part} {l : List (List Byte)} (h : ps.map (·.2.2) = l) {i : Nat} (hi : i < ps.length) : ps[i].2.2 = l.getD i [] := by
  rw [← h, List.getD_eq_getElem?_getD, List.getElem?_map, List.getElem?_eq_getElem hi]; rfl
section
variable {L : List Asrt} {x : SoWorldV}
end
end Go.Sl
namespace Go.Sl
open Go Go.Proofs
attribute [local irreducible] pt own old pur ex all den denOps denS xOps xC cX CX xthen xblk xcut xloop xng retX resX Calls PV Rd Con
attribute [local irreducible] hostA pgA qsA withinN wso sizedB NetS.gates recsL
open SlotS (SL Acc Fit QI slv zb)
open PagerS (PS Over)
open NetS (pairG Srtd)
def numR (b : List Byte) (i : Nat) : List Byte := (((b.set 2 (BitVec.ofInt 8 (i : Int))).set 3 0#8).set 4 0#8).set 5 0#8
theorem numR_len (b : List Byte) (i : Nat) : (numR b i).length = b.length := by simp [numR]
theorem numR_idx {b : List Byte} {i : Nat} (h : 6 ≤ b.length) (hi : i < 256) : idxN (numR b i) = i := by
  have e : ((numR b i).drop 2).take 4 = [BitVec.ofInt 8 (i : Int), 0#8, 0#8, 0#8] := by
    apply List.ext_getElem (by simp [numR_len]; omega)
    intro j h1 h2
    simp only [List.length_cons, List.length_nil] at h2
    rw [List.getElem_take, List.getElem_drop]
    unfold numR
    rcases (show j = 0 ∨ j = 1 ∨ j = 2 ∨ j = 3 by omega) with rfl|rfl|rfl|rfl <;> simp [List.getElem_set]
  unfold idxN num4
  rw [e]
  have e2 : lowB 32 [BitVec.ofInt 8 (i : Int), 0#8, 0#8, 0#8] = (BitVec.ofInt 8 (i : Int)).setWidth 32 := by simp [lowB]
  rw [e2, BitVec.ofInt_natCast, BitVec.toNat_setWidth, BitVec.toNat_ofNat]
  omega
theorem numR_get {b : List Byte} {i k : Nat} (hk : k < 2) : (numR b i).getD k 0#8 = b.getD k 0#8 := by
  unfold numR
  rw [List.getD_eq_getElem?_getD, List.getElem?_set_ne (by omega), List.getElem?_set_ne (by omega), List.getElem?_set_ne (by omega), List.getElem?_set_ne (by omega), ← List.getD_eq_getElem?_getD]
theorem numR_ok {b : List Byte} {i sz : Nat} (h : RowOk sz b) : RowOk sz (numR b i) := by
  refine ⟨(numR_len b i).trans h.len, fun hs => ?_⟩
  have := h.rc hs
  unfold isR at this ⊢
  rw [numR_len, numR_get (by omega), numR_get (by omega)]
  exact this
def nuT (l : List (List Byte)) (i : Nat) : List (List Byte) := (List.range l.length).map fun k => if k < i then numR (l.getD k []) k else l.getD k []
theorem nuT_len (l : List (List Byte)) (i : Nat) : (nuT l i).length = l.length := by simp [nuT]
theorem nuT_zero (l : List (List Byte)) : nuT l 0 = l := by
  unfold nuT
  simp only [Nat.not_lt_zero, if_false]
  apply List.ext_getElem (by simp)
  intro j h1 h2
  simp [h2]
theorem nuT_at {l : List (List Byte)} {i : Nat} (h : i < l.length) : (nuT l i).getD i [] = l.getD i [] := by
  unfold nuT
  rw [List.getD_eq_getElem?_getD, List.getElem?_map, List.getElem?_range h]
  simp
theorem nuT_get {l : List (List Byte)} {i k : Nat} (h : k < l.length) (hk : k < i) : (nuT l i).getD k [] = numR (l.getD k []) k := by
  unfold nuT
  rw [List.getD_eq_getElem?_getD, List.getElem?_map, List.getElem?_range h]
  simp [hk]
theorem nuT_set {l : List (List Byte)} {i : Nat} (h : i < l.length) : (nuT l i).set i (numR (l.getD i []) i) = nuT l (i + 1) := by
  apply List.ext_getElem (by simp [nuT])
  intro j h1 h2
  rw [List.getElem_set]
  simp only [nuT, List.getElem_map, List.getElem_range]
  by_cases e : i = j
  · subst e; rw [if_pos rfl, if_pos (by omega)]
  · rw [if_neg e]
    by_cases e2 : j < i
    · rw [if_pos e2, if_pos (by omega)]
    · rw [if_neg e2, if_neg (by omega)]
theorem rowS_same {a : Option Addr} {c i : Nat} {ps : List Part} {y : Part} (h : i < ps.length) (hv : vP y = vP ps[i]) : rowS a c (ps.set i y) = rowS a c ps := by
  have e : (ps.set i y).map vP = ps.map vP := by
    rw [List.map_set, hv, ← List.getElem_map (l := ps) vP (h := by rw [List.length_map]; exact h), List.set_getElem_self]
  unfold rowS
  rw [e, List.length_set]
section
variable {L : List Asrt} {x : SoWorldV}
theorem numbered_x (hi : SoIn x) (hr : Rs L x.rows_V x.rows_) (hs : 26 ≤ oSz x) : Con Tryz.prog 55 [.agg (wso x)] L (fun r M => ∃ a c ps, ps.map (·.2.2) = nuT (recsL (bsOf x.rows_) (oSz x) (oNn x)) (oNn x) ∧ r = .slice a ps.length c ∧ M = rowS a c ps :: star ownP ps :: L) := by
  have hlen := wso_len hi.key
  have h := onum x
  have h1 := h.sz; have h5 := h.n
  have hrc := records_x hi hr
  have hrl : (recsL (bsOf x.rows_) (oSz x) (oNn x)).length = oNn x := recsL_len _ _ _
  have hrz : ∀ k, k < oNn x → ((recsL (bsOf x.rows_) (oSz x) (oNn x)).getD k []).length = oSz x := fun k hk => by
    rw [recsL_get hk, cutB_len, sizedB_len]
  generalize recsL (bsOf x.rows_) (oSz x) (oNn x) = rows at *
  refine fn_y Tryz.func55 Tryz.mixed ?_
  intro w0
  refine Y1 ?_
  refine Zh5 rfl ?_; intro b1
  refine Y4 ?_
  refine Zor (c := hrc) (k := ?_)
  rintro _ _ ⟨ra, rc, rp, hrp, rfl, rfl⟩
  refine V3 ?_
  have hrpl : rp.length = oNn x := by rw [← hrl, ← hrp, List.length_map]
  rw [hrpl]
  refine V3 ?_
  refine Zgo [(4, 4), (7, 40)] (by kernel_rfl) (fun s : Nat × List Part => s.1 ≤ oNn x ∧ s.2.map (·.2.2) = nuT rows s.1) (fun s => rowS ra rc s.2 :: star ownP s.2 :: L) (fun s => [(4, nvv s.1)]) (fun s => oNn x - s.1) (0, rp) ⟨Nat.zero_le _, by dsimp only; rw [nuT_zero]; exact hrp⟩ qI ⟨rfl, trivial⟩ ?_
  rintro ⟨i, ps⟩ u ⟨hi9, hps⟩
  dsimp only at hi9 hps ⊢
  have hpl : ps.length = oNn x := by
    have := congrArg List.length hps
    rw [List.length_map, nuT_len] at this
    omega
  refine V6 ?_
  refine Zgg rfl (fun hB => ?_) (fun hB => ?_)
  · have hip : i < ps.length := by omega
    have hbe : ps[i].2.2 = rows.getD i [] := (part_at hps hip).trans (nuT_at (by omega))
    have hbz : ps[i].2.2.length = oSz x := by rw [hbe]; exact hrz i hB
    refine Zgt (fun F w H => own_some (n := ps.length) (a := ra) qH (by omega) H) ?_
    rintro ⟨gr, rfl⟩
    obtain ⟨⟨pa, pc, b⟩, hp⟩ : ∃ p, p = ps[i] := ⟨_, rfl⟩
    have gp : (ps.map vP)[i]? = some (.slice pa b.length pc) := (getM (f := vP) hip).trans (by rw [← hp]; rfl)
    have hb2 : b = rows.getD i [] := by rw [← hbe, ← hp]
    have hbz2 : b.length = oSz x := by rw [← hbz, ← hp]
    refine Zgp ((Imp.arr (N := star ownP ps :: rowS (some ⟨gr, 0, none⟩) rc ps :: L) qV).trans (star_at hip)) ?_
    rw [← hp]
    rw [hbz2] at gp
    show xC _ _ _ _ (own 5 1 (.slice pa b.length pc) b.length (b.map u8b) :: star ownP (ps.eraseIdx i) :: own 66 1 (.slice (some ⟨gr, 0, none⟩) ps.length rc) ps.length (ps.map vP) :: L) _
    rw [hbz2, hpl]
    refine Zgt (fun F w H => own_some (n := oSz x) (a := pa) qH (by omega) H) ?_
    rintro ⟨g, rfl⟩
    refine Y4 ?_
    refine Zff rfl (((Rd.own (n := oNn x) qH).at0 hB gp)) ?_
    refine Y1 ?_
    refine Zhg (Zmi (a := oSz x) (b := 26) rfl rfl) ?_
    refine Zos 18 rfl (hs) ?_
    refine Y6 ?_
    refine Zff rfl (((Rd.own (n := oNn x) qH).at0 hB gp)) ?_
    refine Y1 ?_
    refine Zhg (Zjs rfl) ?_
    first|refine Zhg (Zl4 (n := 2) rfl rfl) ?_|refine Zhg (Zl1 (n := 2) rfl rfl) ?_
    refine Zm7 (u := u8b (BitVec.ofInt 8 (i : Int))) (i := 2) (xs := b.map u8b) (ys := (b.set 2 (BitVec.ofInt 8 (i : Int))).map u8b) rfl rfl rfl qR (by omega) (by rw [List.map_set]) ?_
    refine V1 ?_
    refine Zij (_) [7, 11] (.q 0 (.q 1 (.q 2 (.q 4 (.q 5 (.q 6 (.q 8 (.q 9 (.q 10 (.r 3 (.r 7 (.r 11 (.q 12 (.e 13 false (.q 14 (.e 15 false (.q 16 (.e 17 false .nil)))))))))))))))))) (by kernel_rfl) (by kernel_rfl) (Imp.refl _) ?_
    refine W9 ?_
    refine Zfh rfl rfl (((Rd.own (n := oNn x) qH).at0 hB gp)) ?_
    refine Zfh rfl rfl (((Rd.own (n := oNn x) qH).at0 hB gp)) ?_
    refine Zfh rfl rfl (((Rd.own (n := oNn x) qH).at0 hB gp)) ?_
    first|refine Zim rfl (Zl4 (n := 3) rfl rfl) ?_|refine Zim rfl (Zl1 (n := 3) rfl rfl) ?_
    refine Ziq rfl ?_; refine Zm7 (u := u8b 0#8) (i := 3) (xs := (b.set 2 (BitVec.ofInt 8 (i : Int))).map u8b) (ys := ((b.set 2 (BitVec.ofInt 8 (i : Int))).set 3 0#8).map u8b) rfl rfl rfl qR (by omega) (by rw [List.map_set (l := b.set 2 _)]) ?_; refine Zg3 ⟨(fun hh => Bool.noConfusion hh), ?_⟩
    first|refine Zim rfl (Zl4 (n := 4) rfl rfl) ?_|refine Zim rfl (Zl1 (n := 4) rfl rfl) ?_
    refine Ziq rfl ?_; refine Zm7 (u := u8b 0#8) (i := 4) (xs := ((b.set 2 (BitVec.ofInt 8 (i : Int))).set 3 0#8).map u8b) (ys := (((b.set 2 (BitVec.ofInt 8 (i : Int))).set 3 0#8).set 4 0#8).map u8b) rfl rfl rfl qR (by omega) (by rw [List.map_set (l := (b.set 2 _).set 3 _)]) ?_; refine Zg3 ⟨(fun hh => Bool.noConfusion hh), ?_⟩
    first|refine Zim rfl (Zl4 (n := 5) rfl rfl) ?_|refine Zim rfl (Zl1 (n := 5) rfl rfl) ?_
    refine Ziq rfl ?_; refine Zm7 (u := u8b 0#8) (i := 5) (xs := (((b.set 2 (BitVec.ofInt 8 (i : Int))).set 3 0#8).set 4 0#8).map u8b) (ys := (numR b i).map u8b) rfl rfl rfl qR (by omega) (by unfold numR; rw [List.map_set (l := ((b.set 2 _).set 3 _).set 4 _)]) ?_; refine Zg3 ⟨(fun hh => Bool.noConfusion hh), ?_⟩
    refine Zik ?_
    refine Ct.o ?_
    have hv1 : vP (some ⟨g, 0, none⟩, pc, numR b i) = vP ps[i] := by rw [← hp]; unfold vP; rw [numR_len]
    have hback := star_back (A := ownP) hip (some ⟨g, 0, none⟩, pc, numR b i) (M := rowS (some ⟨gr, 0, none⟩) rc ps :: L)
    refine V5 ?_
    refine Zgl (i + 1, ps.set i (some ⟨g, 0, none⟩, pc, numR b i)) qO ⟨by dsimp only; omega, by dsimp only; rw [List.map_set, hps, hb2]; exact nuT_set (by omega)⟩ ?_ ⟨rfl, trivial⟩
    dsimp only
    rw [rowS_same hip hv1]
    refine (Imp.arr (N := ownP (some ⟨g, 0, none⟩, pc, numR b i) :: star ownP (ps.eraseIdx i) :: rowS (some ⟨gr, 0, none⟩) rc ps :: L) ?_).trans (hback.trans Imp.swap)
    show Arr _ (own 5 1 (.slice (some ⟨g, 0, none⟩) (numR b i).length pc) (numR b i).length ((numR b i).map u8b) :: star ownP (ps.eraseIdx i) :: own 66 1 (.slice (some ⟨gr, 0, none⟩) ps.length rc) ps.length (ps.map vP) :: L) 
    rw [numR_len, hbz2, hpl]
    repeat (first|exact Arr.nil|exact Arr.stop|refine Arr.cons (by repeat constructor) ?_|refine Arr.skip ?_)
  · obtain rfl : i = oNn x := by omega
    refine V4 ?_
    refine rx1 (Zhc rfl (Zg7)) ?_
    exact ⟨rowS ra rc ps :: star ownP ps :: L, ⟨ra, rc, ps, hps, by rw [hpl], rfl⟩, qI⟩
end
end Go.Sl
namespace Go.Sl
open Go Go.Proofs Go.ChangeShapes Go.WideShapes Go.ChangeAt Go.RowKit
theorem soIn_of {W : World} {x : SoWorldV} (ok : SoWorldVOk W x) : SoIn x := by
  obtain ⟨a, c, hv, _, _⟩ := ok.rows_.sh
  exact ⟨ok.key_, ⟨a, c, hv⟩, ok.size_, ok.text_, ok.window_⟩
end Go.Sl
namespace Go.Sl
open Go Go.Proofs
attribute [local irreducible] pt own old pur ex all den denOps denS xOps xC cX CX xthen xblk xcut xloop xng retX resX Calls PV Rd Con
attribute [local irreducible] hostA pgA qsA withinN wso sizedB NetS.gates recsL nuT
open SlotS (SL Acc Fit QI slv zb)
open PagerS (PS Over)
open NetS (pairG Srtd)
theorem perm_of {l l' : List (List Byte)} (h : ∀ p : List Byte → Bool, l.countP p = l'.countP p) : l.Perm l' := List.perm_iff_count.2 fun a => h _
theorem back_rows {μ : List Byte → List Byte → BitVec 64} {key : List Byte → Nat} {sz n : Nat} {rows : List (List Byte)} (hn : rows.length = n) (hs : 26 ≤ sz) (hμ : ∀ a b, RowOk sz a → RowOk sz b → μ a b = yesM (decide (key a < key b))) (hr : ∀ k, k < rows.length → RowOk sz (rows.getD k [])) (hi : ∀ k, k < n → idxN (rows.getD k []) = k) :
    (gatesN n).foldl (pairG fun a b => yesM (byIdx a b)) ((gatesN n).foldl (pairG μ) rows) = rows ∧ (∀ k, k < rows.length → RowOk sz (((gatesN n).foldl (pairG μ) rows).getD k [])) ∧ orW (fun a b => yesM (byIdx a b)) rows (powN n) = 0#64 := by
  obtain ⟨s1, r1⟩ := srtN hn hμ hr
  have l1 := s1.len
  have hμ2 : ∀ a b, RowOk sz a → RowOk sz b → yesM (byIdx a b) = yesM (decide (keyI a < keyI b)) := fun a b ha hb => by rw [byIdx_key ha hb]
  obtain ⟨s2, r2⟩ := srtN (l1.trans hn) hμ2 (fun k hk => r1 k (by omega))
  have hP := powN_le n
  generalize hP' : powN n = N at *
  generalize (gatesN n).foldl (pairG μ) rows = out1 at *
  generalize (gatesN n).foldl (pairG fun a b => yesM (byIdx a b)) out1 = out2 at *
  have l2 := s2.len
  have hk : ∀ k, k < n → keyI (rows.getD k []) = k := fun k hk => by
    unfold keyI
    rw [(hr k (by omega)).rc hs, if_pos rfl, hi k hk]
  have gd : ∀ (l : List (List Byte)) (i : Nat) (h : i < (l.take N).length), (l.take N)[i] = l.getD i [] := fun l i h => by
    rw [List.getElem_take, List.getD_eq_getElem?_getD, List.getElem?_eq_getElem (by rw [List.length_take] at h; omega)]; rfl
  have p0 : (rows.take N).Pairwise (fun a b => keyI a < keyI b) := by
    rw [List.pairwise_iff_getElem]
    intro i j h1 h2 hij
    rw [gd, gd]
    rw [List.length_take] at h1 h2
    rw [hk i (by omega), hk j (by omega)]; exact hij
  have cc : ∀ p : List Byte → Bool, (out2.take N).countP p = (rows.take N).countP p := fun p => (s2.count p).trans (s1.count p)
  have hperm := perm_of cc
  have nd : ((rows.take N).map keyI).Nodup := by
    unfold List.Nodup
    rw [List.pairwise_map]
    exact p0.imp fun h => Nat.ne_of_lt h
  have nd2 : ((out2.take N).map keyI).Nodup := ((hperm.map keyI).nodup_iff).2 nd
  unfold List.Nodup at nd2
  rw [List.pairwise_map] at nd2
  have p1 : (out2.take N).Pairwise (fun a b => keyI a ≤ keyI b) := by
    rw [List.pairwise_iff_getElem]
    intro i j h1 h2 hij
    rw [gd, gd]
    rw [List.length_take] at h1 h2
    exact s2.sorted i j (by omega) (by omega)
  have p2 : (out2.take N).Pairwise (fun a b => keyI a < keyI b) := (p1.and nd2).imp fun ⟨a, b⟩ => by omega
  have e1 := NetS.sorted_unique _ _ cc p2 p0
  have e2 : out2.drop N = rows.drop N := s2.drop.trans s1.drop
  have e : out2 = rows := by rw [← List.take_append_drop N out2, e1, e2, List.take_append_drop]
  refine ⟨e, r1, ?_⟩
  have s2' := s2
  rw [e] at s2'
  have hrr := orW_srt hμ2 s2' (fun k hk => hr k (by omega)) (by omega)
  exact hrr.2
section
variable {L : List Asrt} {x : SoWorldV}
theorem soTback_x (hi : SoIn x) (hr : Rs L x.rows_V x.rows_) (gg : Bool) : Con Tryz.prog 8 [.agg (wso x), .bool gg] L (fun r M => r = .bool true ∧ L = M) := by
  have hk := hi.key
  have hlen := wso_len hk
  have h := onum x
  have h1 := h.sz; have h5 := h.n
  have hsh := shape_x hi
  by_cases hs : 26 ≤ oSz x
  case neg =>
    refine fn_y Tryz.func8 Tryz.mixed ?_
    intro w0
    refine Y1 ?_
    refine Zh5 rfl ?_; intro b2
    refine Y3 ?_
    refine Zor (c := soWorks_x) (k := ?_)
    rintro _ _ ⟨rfl, rfl⟩
    refine Y1 ?_
    refine Zhg (Zb0 rfl) ?_
    refine Zhn 19 rfl (rfl) ?_
    refine Y4 ?_
    refine Zor (c := hsh) (k := ?_)
    rintro _ _ ⟨rfl, rfl⟩
    refine Y1 ?_
    refine Zhz (cs := #[.int .i64 0, .int .i64 0, .int .i64 0, .int .i64 0, .int .i64 0]) rfl ?_; intro b5
    first|refine Zhy rfl rfl qR qZ (by first|rfl|exact oneM_u8 _|exact oneL_u8 _|exact acc_one _|exact acc_ones _|assumption|(simp [oneC]; done)) qZ ?_|refine Zhx rfl rfl qR qZ (by first|rfl|exact oneM_u8 _|exact oneL_u8 _|exact acc_one _|exact acc_ones _|assumption|(simp [oneC]; done)) qZ rfl ?_
    refine Y4 ?_
    refine Zhg (Zmf (a := oSz x) (b := 26) rfl rfl) ?_
    refine Zos 24 rfl ((by omega)) ?_
    refine V5 ?_
    refine rx1 (Zha rfl (Zg7)) ?_
    exact ⟨_, ⟨rfl, rfl⟩, qI⟩
  have hrc := numbered_x hi hr hs
  have hpl := powN_le (oNn x)
  have hpw := power_x (oNn x) h.n
  have hrl : (nuT (recsL (bsOf x.rows_) (oSz x) (oNn x)) (oNn x)).length = oNn x := by rw [nuT_len, recsL_len]
  have hrk : ∀ k, k < oNn x → (nuT (recsL (bsOf x.rows_) (oSz x) (oNn x)) (oNn x)).getD k [] = numR (cutB (sizedB ((bsOf x.rows_).getD k []) (oSz x))) k := fun k hk => by
    rw [nuT_get (by rw [recsL_len]; exact hk) hk, recsL_get hk]
  have hrok : ∀ k, k < (nuT (recsL (bsOf x.rows_) (oSz x) (oNn x)) (oNn x)).length → RowOk (oSz x) ((nuT (recsL (bsOf x.rows_) (oSz x) (oNn x)) (oNn x)).getD k []) := fun k hk => by
    rw [hrk k (by omega)]
    exact numR_ok (cutB_ok (sizedB_len _ _))
  have hri : ∀ k, k < oNn x → idxN ((nuT (recsL (bsOf x.rows_) (oSz x) (oNn x)) (oNn x)).getD k []) = k := fun k hk => by
    rw [hrk k hk]
    exact numR_idx (by rw [cutB_len, sizedB_len]; omega) (by omega)
  obtain ⟨F, μ, key, hc, hkey, hF⟩ : ∃ (F : FuncId) (μ : List Byte → List Byte → BitVec 64) (key : List Byte → Nat), (∀ L, BCon F #[] #[] (oSz x) L μ) ∧ (∀ a b, RowOk (oSz x) a → RowOk (oSz x) b → μ a b = yesM (decide (key a < key b))) ∧ ((gg = true ∧ F = 46) ∨ (gg = false ∧ F = 48)) := by
    cases gg
    · exact ⟨_, _, key1, fun L => first_con (by omega), fun a b ha hb => rfl, .inr ⟨rfl, rfl⟩⟩
    · exact ⟨_, _, keyG, fun L => byGrp_con, fun a b ha hb => by rw [byGrp_key ha hb], .inl ⟨rfl, rfl⟩⟩
  obtain ⟨hback, hok2, hor⟩ := back_rows hrl hs hkey hrok hri
  have es : (oSl x).size = oSz x := rfl
  have en : (oSl x).n = oNn x := rfl
  have hfe : rowsF (nuT (recsL (bsOf x.rows_) (oSz x) (oNn x)) (oNn x)) (oSz x) (oNn x) = nuT (recsL (bsOf x.rows_) (oSz x) (oNn x)) (oNn x) := by
    apply List.ext_getElem (by rw [rowsF_len, hrl])
    intro k h1 h2
    rw [rowsF_len] at h1
    have e1 := rowsF_get (bs := nuT (recsL (bsOf x.rows_) (oSz x) (oNn x)) (oNn x)) (sz := oSz x) h1
    rw [sizedB_self (hrok k h2).len] at e1
    rw [List.getD_eq_getElem?_getD, List.getD_eq_getElem?_getD, List.getElem?_eq_getElem (by rw [rowsF_len]; exact h1), List.getElem?_eq_getElem h2] at e1
    exact e1
  have hgl := gatesN_len (n := oNn x) (by omega)
  have hgo := gatesN_ok (n := oNn x) (N := oNn x) (Nat.le_refl _)
  generalize nuT (recsL (bsOf x.rows_) (oSz x) (oNn x)) (oNn x) = rows at *
  have hfl := fun a c ps (hps : ps.map (·.2.2) = rows) => filled_x (L := [rowS a c ps, star ownP ps]) (x := x) (v := .slice a ps.length c) (ps := prt ps) hi (prt_rs .here (.there .here)) (by have := congrArg List.length hps; rw [List.length_map] at this; rw [List.length_map]; omega)
  have hso := fun q pp ph => soSort_x (m := 0) (q := q) (pp := pp) (ph := ph) (s0 := oSl x) (tg := oTg x) (rows := rows) (log := setsL (oNn x)) (n := powN (oNn x)) (gs := gatesN (oNn x)) (by omega) (by rw [en]; omega) (powN_pad (by omega)) (gatesN_g (by omega)) (by rw [en]; exact hgo) (by rw [setsL_len]; omega) (by rw [es]; omega) (by rw [es]; exact hc [])
  have hbk := fun q pp ph => soBack_x (L := []) (q := q) (pp := pp) (ph := ph) (s0 := oSl x) (tg := oTg x) (rows := (gatesN (oNn x)).foldl (pairG μ) rows) (log := setsL (oNn x) ++ (gatesN (oNn x)).map accG) (n := powN (oNn x)) (gs := gatesN (oNn x)) (by omega) (by rw [en]; omega) (powN_pad (by omega)) (gatesN_g (by omega)) (by rw [en]; exact hgo) (by rw [List.length_append, List.length_map, setsL_len]; omega) (by rw [es]; omega)
  rw [hback] at hbk
  have hal := fun q pp ph => all_x (q := q) (pp := pp) (ph := ph) (s0 := oSl x) (tg := oTg x) (rows := rows) (log := setsL (oNn x) ++ (gatesN (oNn x)).map accG ++ (gatesN (oNn x)).map accG) (n := oNn x) (by rw [en]; omega) (by omega) (by rw [List.length_append, List.length_append, List.length_map, setsL_len]; omega) (by rw [en]; exact hrl)
  have hsd := fun q pp ph => soSorted_x (L := []) (q := q) (pp := pp) (ph := ph) (s0 := oSl x) (tg := oTg x) (rows := rows) (log := setsL (oNn x) ++ (gatesN (oNn x)).map accG ++ (gatesN (oNn x)).map accG ++ getsL (oNn x)) (n := powN (oNn x)) (by rw [en]; omega) (by omega) (by rw [List.length_append, List.length_append, List.length_append, List.length_map, setsL_len, getsL_len]; omega) (by rw [es]; omega) (by rw [en, es]; exact fun k hk => (hrok k (by omega)).len) byIdx_con
  rw [decide_eq_true hor] at hsd
  generalize setsL (oNn x) ++ (gatesN (oNn x)).map accG ++ (gatesN (oNn x)).map accG ++ getsL (oNn x) = l4 at *
  generalize setsL (oNn x) ++ (gatesN (oNn x)).map accG ++ (gatesN (oNn x)).map accG = l3 at *
  generalize setsL (oNn x) ++ (gatesN (oNn x)).map accG = l2 at *
  generalize setsL (oNn x) = l1 at *
  clear hok2 hgo hgl hrk hri hrok hback hor hkey
  have htk : rows.take (oNn x) = rows := List.take_of_length_le (by omega)
  rw [htk] at hal
  generalize (gatesN (oNn x)).foldl (pairG μ) rows = out at *
  generalize oSl x = S0 at *
  generalize oTg x = T0 at *
  refine fn_y Tryz.func8 Tryz.mixed ?_
  intro w0
  refine Y1 ?_
  refine Zh5 rfl ?_; intro b2
  refine Y3 ?_
  refine Zor (c := soWorks_x) (k := ?_)
  rintro _ _ ⟨rfl, rfl⟩
  refine Y1 ?_
  refine Zhg (Zb0 rfl) ?_
  refine Zhn 19 rfl (rfl) ?_
  refine Y4 ?_
  refine Zor (c := hsh) (k := ?_)
  rintro _ _ ⟨rfl, rfl⟩
  refine Y1 ?_
  refine Zhz (cs := #[.int .i64 0, .int .i64 0, .int .i64 0, .int .i64 0, .int .i64 0]) rfl ?_; intro b5
  first|refine Zhy rfl rfl qR qZ (by first|rfl|exact oneM_u8 _|exact oneL_u8 _|exact acc_one _|exact acc_ones _|assumption|(simp [oneC]; done)) qZ ?_|refine Zhx rfl rfl qR qZ (by first|rfl|exact oneM_u8 _|exact oneL_u8 _|exact acc_one _|exact acc_ones _|assumption|(simp [oneC]; done)) qZ rfl ?_
  refine Y4 ?_
  refine Zhg (Zmf (a := oSz x) (b := 26) rfl rfl) ?_
  refine Zot 24 rfl ((by omega)) ?_
  refine Y4 ?_
  refine Zor (c := hrc) (k := ?_)
  rintro _ _ ⟨ra, rc, rp, hrp, rfl, rfl⟩
  refine Y6 ?_
  refine Zor (c := hfl ra rc rp hrp) (k := ?_)
  rintro _ _ ⟨q, pp, ph, rfl, rfl⟩
  refine V9 ?_
  rw [prt_bs, hrp, hfe]
  refine Y2 ?_
  refine Zhg (Zb0 rfl) ?_
  refine Zhn 35 rfl (rfl) ?_
  refine Y5 ?_
  refine Zor (c := hpw) (k := ?_)
  rintro _ _ ⟨rfl, rfl⟩
  refine V6 ?_
  rcases hF with ⟨rfl, rfl⟩|⟨rfl, rfl⟩
  case' inl =>
    refine V7 ?_
  case' inr =>
    refine V4 ?_
  all_goals
    refine Y4 ?_
    refine Zor (c := hso q pp ph) (k := ?_)
    rintro _ _ ⟨rfl, rfl⟩
    refine Y6 ?_
    refine Zor (c := hbk q pp ph) (k := ?_)
    rintro _ _ ⟨rfl, rfl⟩
    refine Y7 ?_
    refine Zor (c := hal q pp ph) (k := ?_)
    rintro _ _ ⟨wa, wc, wp, hwp, rfl, rfl⟩
    refine Y10 ?_
    refine Zor (c := hsd q pp ph) (k := ?_)
    rintro _ _ ⟨rfl, rfl⟩
    refine V7 ?_
    have hwl : wp.length = oNn x := by rw [← hrl, ← hwp, List.length_map]
    have hrpl : rp.length = oNn x := by rw [← hrl, ← hrp, List.length_map]
    have heq := eqRows_x (L := [rowS wa wc wp, star ownP wp, rowS ra rc rp, star ownP rp]) (ps := wp) (qs := rp) (Rd.own .here) (Rd.own (.there (.there .here))) (fun p hp => star_bs (A := ownP) hp (fun R => ownP_bs .here) (.there .here)) (fun p hp => star_bs (A := ownP) hp (fun R => ownP_bs .here) (.there (.there (.there .here)))) (by rw [hwp, hrp]) (by omega)
    refine Y3 ?_
    refine Zos 61 rfl (rfl) ?_
    refine Y3 ?_
    refine Zos 64 rfl (rfl) ?_
    refine Y4 ?_
    refine Zos 68 rfl (rfl) ?_
    refine Y10 ?_
    first|refine Y0 ?_|(refine Zhh rfl ?_; (refine Zor (c := heq) (k := ?_)); (rintro _ _ ⟨rfl, rfl⟩); (refine Zg2 qA ?_))
    refine V3 ?_
    refine rx1 (Zha rfl (Zg7)) ?_
    exact ⟨_, ⟨rfl, rfl⟩, qI⟩
end
theorem soTback_w (W : World) (x : SoWorldV) (ok : SoWorldVOk W x) (b : Bool) : Con Tryz.prog 8 [.agg x.cells.toArray, .bool b] [old W] (fun r M => r = .bool true ∧ [old W] = M) := by
  have := soTback_x (soIn_of ok) (ok.rows_.rs (M := [old W]) .here) b
  with_unfolding_all unfold wso at this
  exact this
end Go.Sl
