/- Parts of the proof, joined: TagB, TagC, TagD, TagW, TagP, TagE, TagH, TagI, EngX, TagO, RefC. -/
import Derived.Test.YtiebmodokjaokabLawTagPlaysM0
import Derived.Test.YtiebmodokjaokabLawTagPlaysM1
/- tag: New, take, Write, walked. -/
set_option maxHeartbeats 4000000
set_option maxRecDepth 10000
set_option linter.unusedVariables false
set_option linter.unusedSimpArgs false
namespace Go.Sl
open Go Go.Proofs
attribute [local irreducible] cl pt own old pur ex all den denOps denS xOps xC cX CX xthen xblk xcut xloop retX resX Calls PV Rd Con
theorem new_c (key : List Byte) (hk : key.length = 32) : Con Try.prog 21 [.agg (key.map u8b).toArray] [] (fun v M => ∃ p, v = .pointer (some ⟨p, 0, none⟩) ∧ M = [cl p (pc (newS key)) 74]) := by
  refine fn_x Try.func21 rfl rfl rfl Try.mixed (by kernel_rfl) ?_
  intro w0
  repeat (first|refine zA ?_|refine zB ?_|refine zC ?_|refine zD ?_|refine zE ?_|refine zF ?_|refine zG ?_|refine zH ?_|refine zI ?_|refine zJ ?_|refine zK ?_|refine zL ?_|refine zM rfl ?_|refine zN ?_|refine zO ?_|refine zP ?_|refine zQ ?_)
  refine Zgb ?_
  refine Zh5 rfl ?_; intro b1
  first|refine Zhg (Za1 rfl) ?_|refine Zhg (Zas rfl) ?_
  refine Zg3 ?_
  repeat (first|refine zA ?_|refine zB ?_|refine zC ?_|refine zD ?_|refine zE ?_|refine zF ?_|refine zG ?_|refine zH ?_|refine zI ?_|refine zJ ?_|refine zK ?_|refine zL ?_|refine zM rfl ?_|refine zN ?_|refine zO ?_|refine zP ?_|refine zQ ?_)
  refine Zgb ?_
  refine Zhg (Zdm (cs := #[u64b 0#64, u64b 0#64, u64b 0#64, u64b 0#64, u64b 0#64, u64b 0#64, u64b 0#64, u8b 0#8, u8b 0#8, u8b 0#8, u8b 0#8, u8b 0#8, u8b 0#8, u8b 0#8, u8b 0#8, u8b 0#8, u8b 0#8, u8b 0#8, u8b 0#8, u8b 0#8, u8b 0#8, u8b 0#8, u8b 0#8, .int .i64 0]) (by kernel_rfl)) ?_
  refine Zh5 rfl ?_; intro b5
  first|refine Zhg (Za1 rfl) ?_|refine Zhg (Zas rfl) ?_
  refine Zg3 ?_
  repeat (first|refine zA ?_|refine zB ?_|refine zC ?_|refine zD ?_|refine zE ?_|refine zF ?_|refine zG ?_|refine zH ?_|refine zI ?_|refine zJ ?_|refine zK ?_|refine zL ?_|refine zM rfl ?_|refine zN ?_|refine zO ?_|refine zP ?_|refine zQ ?_)
  refine Zij (_) [0, 1, 2, 3, 4, 5, 6, 7] (.r 0 (.r 1 (.r 2 (.r 3 (.r 6 (.r 7 (.e 4 true (.r 5 (.q 8 (.e 9 false .nil)))))))))) (by kernel_rfl) (by kernel_rfl) (Imp.refl _) ?_
  first|refine Ziz rfl (Zav rfl) ?_|refine Ziz rfl (Zar rfl) ?_
  refine Ziz rfl (Zmy (h := 8) rfl rfl) ?_
  refine Ziz rfl (Zl9 rfl) ?_
  first|refine Ziy rfl rfl (by repeat constructor) (by first|rfl|omega|(rw [szL]; omega)|exact Nat.le_of_ble_eq_true rfl|(simp; done)|(simp; omega)) ?_|refine Zix rfl rfl (by repeat constructor) (by first|rfl|omega|(rw [szL]; omega)|exact Nat.le_of_ble_eq_true rfl|(simp; done)|(simp; omega)) (ext_map _ _ _) ?_
  refine Ziz rfl (Zba rfl) ?_
  first|refine Ziz rfl (Zl8 rfl) ?_|refine Ziz rfl (Zce rfl) ?_
  refine Ziq rfl ?_
  refine Zh8 rfl (by kernel_rfl) (word_c (List.take 8 key) (by simp; omega)) rfl (by repeat (first|exact Take.nil|exact Take.all|(apply Take.cons; (next => (repeat constructor); done))|apply Take.skip)) ?_
  rintro _ _ ⟨rfl, rfl⟩
  refine Zg2 (by repeat (first|exact App.nil|apply App.cons|(apply App.flip; first|exact App.nil|apply App.cons)|exact App.any)) ?_
  refine Zg3 ⟨fun _ => Imp.arr (by repeat (first|exact Arr.nil|exact Arr.stop|refine Arr.cons (by repeat constructor) ?_|refine Arr.skip ?_)), ?_⟩
  refine Ziz rfl (Zlf (y := 1152921487695413247#64) rfl rfl) ?_
  first|refine Zim rfl (Zl5 (n := 0) rfl rfl) ?_|refine Zim rfl (Zl3 (n := 0) rfl rfl) ?_
  refine Ziq rfl ?_
  refine Zht rfl rfl (by repeat constructor) (by first|rfl|omega|(rw [szL]; omega)|exact Nat.le_of_ble_eq_true rfl|(simp; done)|(simp; omega)) rfl ?_
  refine Zg3 ⟨(fun hh => Bool.noConfusion hh), ?_⟩
  refine Zik ?_
  repeat (first|refine zA ?_|refine zB ?_|refine zC ?_|refine zD ?_|refine zE ?_|refine zF ?_|refine zG ?_|refine zH ?_|refine zI ?_|refine zJ ?_|refine zK ?_|refine zL ?_|refine zM rfl ?_|refine zN ?_|refine zO ?_|refine zP ?_|refine zQ ?_)
  refine Zij (_) [0, 1, 2, 3, 4, 5, 6, 7] (.r 0 (.r 1 (.r 2 (.r 3 (.r 6 (.r 7 (.e 4 true (.r 5 (.q 8 (.e 9 false .nil)))))))))) (by kernel_rfl) (by kernel_rfl) (Imp.refl _) ?_
  first|refine Ziz rfl (Zav rfl) ?_|refine Ziz rfl (Zar rfl) ?_
  refine Ziz rfl (Zmx (l := 8) (h := 16) rfl rfl rfl) ?_
  refine Ziz rfl (Zl9 rfl) ?_
  first|refine Ziy rfl rfl (by repeat constructor) (by first|rfl|omega|(rw [szL]; omega)|exact Nat.le_of_ble_eq_true rfl|(simp; done)|(simp; omega)) ?_|refine Zix rfl rfl (by repeat constructor) (by first|rfl|omega|(rw [szL]; omega)|exact Nat.le_of_ble_eq_true rfl|(simp; done)|(simp; omega)) (ext_map _ _ _) ?_
  refine Ziz rfl (Zba rfl) ?_
  first|refine Ziz rfl (Zl8 rfl) ?_|refine Ziz rfl (Zce rfl) ?_
  refine Ziq rfl ?_
  refine Zh8 rfl (by kernel_rfl) (word_c ((key.drop 8).take 8) (by simp; omega)) rfl (by repeat (first|exact Take.nil|exact Take.all|(apply Take.cons; (next => (repeat constructor); done))|apply Take.skip)) ?_
  rintro _ _ ⟨rfl, rfl⟩
  refine Zg2 (by repeat (first|exact App.nil|apply App.cons|(apply App.flip; first|exact App.nil|apply App.cons)|exact App.any)) ?_
  refine Zg3 ⟨fun _ => Imp.arr (by repeat (first|exact Arr.nil|exact Arr.stop|refine Arr.cons (by repeat constructor) ?_|refine Arr.skip ?_)), ?_⟩
  refine Ziz rfl (Zlf (y := 1152921487695413244#64) rfl rfl) ?_
  first|refine Zim rfl (Zl5 (n := 1) rfl rfl) ?_|refine Zim rfl (Zl3 (n := 1) rfl rfl) ?_
  refine Ziq rfl ?_
  refine Zht rfl rfl (by repeat constructor) (by first|rfl|omega|(rw [szL]; omega)|exact Nat.le_of_ble_eq_true rfl|(simp; done)|(simp; omega)) rfl ?_
  refine Zg3 ⟨(fun hh => Bool.noConfusion hh), ?_⟩
  refine Zik ?_
  repeat (first|refine zA ?_|refine zB ?_|refine zC ?_|refine zD ?_|refine zE ?_|refine zF ?_|refine zG ?_|refine zH ?_|refine zI ?_|refine zJ ?_|refine zK ?_|refine zL ?_|refine zM rfl ?_|refine zN ?_|refine zO ?_|refine zP ?_|refine zQ ?_)
  refine Zij (_) [0, 1, 2, 3, 4, 5, 6] (.r 0 (.r 1 (.r 2 (.r 3 (.r 5 (.r 6 (.e 4 true (.q 7 (.e 8 false .nil))))))))) (by kernel_rfl) (by kernel_rfl) (Imp.refl _) ?_
  first|refine Ziz rfl (Zav rfl) ?_|refine Ziz rfl (Zar rfl) ?_
  refine Ziz rfl (Zmx (l := 16) (h := 24) rfl rfl rfl) ?_
  refine Ziz rfl (Zl9 rfl) ?_
  first|refine Ziy rfl rfl (by repeat constructor) (by first|rfl|omega|(rw [szL]; omega)|exact Nat.le_of_ble_eq_true rfl|(simp; done)|(simp; omega)) ?_|refine Zix rfl rfl (by repeat constructor) (by first|rfl|omega|(rw [szL]; omega)|exact Nat.le_of_ble_eq_true rfl|(simp; done)|(simp; omega)) (ext_map _ _ _) ?_
  refine Ziz rfl (Zba rfl) ?_
  first|refine Ziz rfl (Zl8 rfl) ?_|refine Ziz rfl (Zce rfl) ?_
  refine Ziq rfl ?_
  refine Zh8 rfl (by kernel_rfl) (word_c ((key.drop 16).take 8) (by simp; omega)) rfl (by repeat (first|exact Take.nil|exact Take.all|(apply Take.cons; (next => (repeat constructor); done))|apply Take.skip)) ?_
  rintro _ _ ⟨rfl, rfl⟩
  refine Zg2 (by repeat (first|exact App.nil|apply App.cons|(apply App.flip; first|exact App.nil|apply App.cons)|exact App.any)) ?_
  refine Zg3 ⟨fun _ => Imp.arr (by repeat (first|exact Arr.nil|exact Arr.stop|refine Arr.cons (by repeat constructor) ?_|refine Arr.skip ?_)), ?_⟩
  first|refine Zim rfl (Zl5 (n := 0) rfl rfl) ?_|refine Zim rfl (Zl3 (n := 0) rfl rfl) ?_
  refine Ziq rfl ?_
  refine Zht rfl rfl (by repeat constructor) (by first|rfl|omega|(rw [szL]; omega)|exact Nat.le_of_ble_eq_true rfl|(simp; done)|(simp; omega)) rfl ?_
  refine Zg3 ⟨(fun hh => Bool.noConfusion hh), ?_⟩
  refine Zik ?_
  repeat (first|refine zA ?_|refine zB ?_|refine zC ?_|refine zD ?_|refine zE ?_|refine zF ?_|refine zG ?_|refine zH ?_|refine zI ?_|refine zJ ?_|refine zK ?_|refine zL ?_|refine zM rfl ?_|refine zN ?_|refine zO ?_|refine zP ?_|refine zQ ?_)
  refine Zij (_) [0, 1, 2, 3, 4, 5, 6] (.r 0 (.r 1 (.r 2 (.r 3 (.r 5 (.r 6 (.e 4 true (.q 7 (.e 8 false .nil))))))))) (by kernel_rfl) (by kernel_rfl) (Imp.refl _) ?_
  first|refine Ziz rfl (Zav rfl) ?_|refine Ziz rfl (Zar rfl) ?_
  refine Ziz rfl (Zmx (l := 24) (h := 32) rfl rfl rfl) ?_
  refine Ziz rfl (Zl9 rfl) ?_
  first|refine Ziy rfl rfl (by repeat constructor) (by first|rfl|omega|(rw [szL]; omega)|exact Nat.le_of_ble_eq_true rfl|(simp; done)|(simp; omega)) ?_|refine Zix rfl rfl (by repeat constructor) (by first|rfl|omega|(rw [szL]; omega)|exact Nat.le_of_ble_eq_true rfl|(simp; done)|(simp; omega)) (ext_map _ _ _) ?_
  refine Ziz rfl (Zba rfl) ?_
  first|refine Ziz rfl (Zl8 rfl) ?_|refine Ziz rfl (Zce rfl) ?_
  refine Ziq rfl ?_
  refine Zh8 rfl (by kernel_rfl) (word_c ((key.drop 24).take 8) (by simp; omega)) rfl (by repeat (first|exact Take.nil|exact Take.all|(apply Take.cons; (next => (repeat constructor); done))|apply Take.skip)) ?_
  rintro _ _ ⟨rfl, rfl⟩
  refine Zg2 (by repeat (first|exact App.nil|apply App.cons|(apply App.flip; first|exact App.nil|apply App.cons)|exact App.any)) ?_
  refine Zg3 ⟨fun _ => Imp.arr (by repeat (first|exact Arr.nil|exact Arr.stop|refine Arr.cons (by repeat constructor) ?_|refine Arr.skip ?_)), ?_⟩
  first|refine Zim rfl (Zl5 (n := 1) rfl rfl) ?_|refine Zim rfl (Zl3 (n := 1) rfl rfl) ?_
  refine Ziq rfl ?_
  refine Zht rfl rfl (by repeat constructor) (by first|rfl|omega|(rw [szL]; omega)|exact Nat.le_of_ble_eq_true rfl|(simp; done)|(simp; omega)) rfl ?_
  refine Zg3 ⟨(fun hh => Bool.noConfusion hh), ?_⟩
  refine Zik ?_
  repeat (first|refine zA ?_|refine zB ?_|refine zC ?_|refine zD ?_|refine zE ?_|refine zF ?_|refine zG ?_|refine zH ?_|refine zI ?_|refine zJ ?_|refine zK ?_|refine zL ?_|refine zM rfl ?_|refine zN ?_|refine zO ?_|refine zP ?_|refine zQ ?_)
  refine Zgb ?_
  first|refine Zhg (Zav rfl) ?_|refine Zhg (Zar rfl) ?_
  first|refine Zhg (Za1 rfl) ?_|refine Zhg (Zas rfl) ?_
  refine Zg3 ?_
  repeat (first|refine zA ?_|refine zB ?_|refine zC ?_|refine zD ?_|refine zE ?_|refine zF ?_|refine zG ?_|refine zH ?_|refine zI ?_|refine zJ ?_|refine zK ?_|refine zL ?_|refine zM rfl ?_|refine zN ?_|refine zO ?_|refine zP ?_|refine zQ ?_)
  refine rx1 (Zhb rfl (Zg7)) ?_
  have e : (key.drop 24).take 8 = key.drop 24 := List.take_of_length_le (by simp; omega)
  rw [e]
  exact ⟨_, ⟨b5, rfl, rfl⟩, by exact Imp.arr (by repeat (first|exact Arr.nil|exact Arr.stop|refine Arr.cons (by repeat constructor) ?_|refine Arr.skip ?_))⟩
theorem take_c {p : Nat} (t : PolyS) (ht : t.rest.length = 16) (b : List Byte) (hb : b.length = 16) (top : BitVec 64) : Con Try.prog 35 [.pointer (some ⟨p, 0, none⟩), .agg (b.map u8b).toArray, u64b top] [cl p (pc t) 74]
    (fun v M => v = .tuple #[] ∧ M = [cl p (pc (setH t (takeW t.h t.r b top))) 74]) := by
  have hsz := pc_size ht
  refine fn_x Try.func35 rfl rfl rfl Try.mixed (by kernel_rfl) ?_
  intro w0
  repeat (first|refine zA ?_|refine zB ?_|refine zC ?_|refine zD ?_|refine zE ?_|refine zF ?_|refine zG ?_|refine zH ?_|refine zI ?_|refine zJ ?_|refine zK ?_|refine zL ?_|refine zM rfl ?_|refine zN ?_|refine zO ?_|refine zP ?_|refine zQ ?_)
  refine Zgb ?_
  refine Zh5 rfl ?_; intro b4
  refine Zg3 ?_
  repeat (first|refine zA ?_|refine zB ?_|refine zC ?_|refine zD ?_|refine zE ?_|refine zF ?_|refine zG ?_|refine zH ?_|refine zI ?_|refine zJ ?_|refine zK ?_|refine zL ?_|refine zM rfl ?_|refine zN ?_|refine zO ?_|refine zP ?_|refine zQ ?_)
  refine Zgb ?_
  first|refine Zhg (Zav rfl) ?_|refine Zhg (Zar rfl) ?_
  refine Zhg (Zba rfl) ?_
  first|refine Zhg (Zl8 rfl) ?_|refine Zhg (Zce rfl) ?_
  first|refine Zhr rfl (by repeat constructor) (by first|rfl|omega|(rw [szL]; omega)|exact Nat.le_of_ble_eq_true rfl|(simp; done)|(simp; omega)) ?_|refine Zhq rfl (by repeat constructor) (by first|rfl|omega|(rw [szL]; omega)|exact Nat.le_of_ble_eq_true rfl|(simp; done)|(simp; omega)) (pc_h t) ?_
  refine Zhz (cs := #[u64b 0#64, u64b 0#64, u64b 0#64]) rfl ?_; intro b6
  first|refine Zhy rfl rfl (by repeat constructor) (by first|rfl|omega|(rw [szL]; omega)|exact Nat.le_of_ble_eq_true rfl|(simp; done)|(simp; omega)) (by first|rfl|exact oneM_u8 _|exact oneL_u8 _|(simp [oneC]; done)) (by first|rfl|omega|(rw [szL]; omega)|exact Nat.le_of_ble_eq_true rfl|(simp; done)|(simp; omega)) ?_|refine Zhx rfl rfl (by repeat constructor) (by first|rfl|omega|(rw [szL]; omega)|exact Nat.le_of_ble_eq_true rfl|(simp; done)|(simp; omega)) (by first|rfl|exact oneM_u8 _|exact oneL_u8 _|(simp [oneC]; done)) (by first|rfl|omega|(rw [szL]; omega)|exact Nat.le_of_ble_eq_true rfl|(simp; done)|(simp; omega)) rfl ?_
  refine Zg3 ?_
  repeat (first|refine zA ?_|refine zB ?_|refine zC ?_|refine zD ?_|refine zE ?_|refine zF ?_|refine zG ?_|refine zH ?_|refine zI ?_|refine zJ ?_|refine zK ?_|refine zL ?_|refine zM rfl ?_|refine zN ?_|refine zO ?_|refine zP ?_|refine zQ ?_)
  refine Zgb ?_
  first|refine Zhg (Zaz rfl) ?_|refine Zhg (Zas rfl) ?_
  refine Zg3 ?_
  repeat (first|refine zA ?_|refine zB ?_|refine zC ?_|refine zD ?_|refine zE ?_|refine zF ?_|refine zG ?_|refine zH ?_|refine zI ?_|refine zJ ?_|refine zK ?_|refine zL ?_|refine zM rfl ?_|refine zN ?_|refine zO ?_|refine zP ?_|refine zQ ?_)
  refine Zij (_) [0, 1, 2, 3, 4, 5] (.r 0 (.r 1 (.r 2 (.r 3 (.r 4 (.e 5 true (.q 6 (.q 7 (.q 8 (.q 9 (.q 10 (.e 11 false (.q 12 .nil))))))))))))) (by kernel_rfl) (by kernel_rfl) (Imp.refl _) ?_
  first|refine Ziz rfl (Zl5 (n := 0) rfl rfl) ?_|refine Ziz rfl (Zl3 (n := 0) rfl rfl) ?_
  refine Ziv rfl rfl (by repeat constructor) rfl ?_
  refine Ziz rfl (Zmy (h := 8) rfl rfl) ?_
  refine Ziz rfl (Zl9 rfl) ?_
  first|refine Ziy rfl rfl (by repeat constructor) (by first|rfl|omega|(rw [szL]; omega)|exact Nat.le_of_ble_eq_true rfl|(simp; done)|(simp; omega)) ?_|refine Zix rfl rfl (by repeat constructor) (by first|rfl|omega|(rw [szL]; omega)|exact Nat.le_of_ble_eq_true rfl|(simp; done)|(simp; omega)) (ext_map _ _ _) ?_
  refine Ziq rfl ?_
  refine Zh8 rfl (by kernel_rfl) (word_c _ (by simp; omega)) rfl (by repeat (first|exact Take.nil|exact Take.all|(apply Take.cons; (next => (repeat constructor); done))|apply Take.skip)) ?_
  rintro _ _ ⟨rfl, rfl⟩
  refine Zg2 (by repeat (first|exact App.nil|apply App.cons|(apply App.flip; first|exact App.nil|apply App.cons)|exact App.any)) ?_
  refine Zg3 ⟨fun _ => Imp.arr (by repeat (first|exact Arr.nil|exact Arr.stop|refine Arr.cons (by repeat constructor) ?_|refine Arr.skip ?_)), ?_⟩
  refine Zim rfl (Zh9 rfl (ext_add64 _ _ 0#64 (by decide)) rfl) ?_
  first|refine Zim rfl (Zmm rfl) ?_|refine Zim rfl (Zar rfl) ?_
  refine Zim rfl (Zco rfl rfl) ?_
  refine Zim rfl (Zco rfl rfl) ?_
  first|refine Zim rfl (Zl5 (n := 0) rfl rfl) ?_|refine Zim rfl (Zl3 (n := 0) rfl rfl) ?_
  refine Ziq rfl ?_
  refine Zht rfl rfl (by repeat constructor) (by first|rfl|omega|(rw [szL]; omega)|exact Nat.le_of_ble_eq_true rfl|(simp; done)|(simp; omega)) rfl ?_
  refine Zg3 ⟨(fun hh => Bool.noConfusion hh), ?_⟩
  first|refine Zim rfl (Zaz rfl) ?_|refine Zim rfl (Zas rfl) ?_
  refine Zik ?_
  repeat (first|refine zA ?_|refine zB ?_|refine zC ?_|refine zD ?_|refine zE ?_|refine zF ?_|refine zG ?_|refine zH ?_|refine zI ?_|refine zJ ?_|refine zK ?_|refine zL ?_|refine zM rfl ?_|refine zN ?_|refine zO ?_|refine zP ?_|refine zQ ?_)
  refine Zij (_) [0, 1, 2, 3, 4, 5, 6] (.r 0 (.r 1 (.r 2 (.r 3 (.r 4 (.r 6 (.e 5 true (.q 7 (.q 8 (.q 9 (.q 10 (.q 11 (.e 12 false (.q 13 .nil)))))))))))))) (by kernel_rfl) (by kernel_rfl) (Imp.refl _) ?_
  first|refine Ziz rfl (Zl5 (n := 1) rfl rfl) ?_|refine Ziz rfl (Zl3 (n := 1) rfl rfl) ?_
  refine Ziv rfl rfl (by repeat constructor) rfl ?_
  refine Ziz rfl (Zmx (l := 8) (h := 16) rfl rfl rfl) ?_
  refine Ziz rfl (Zl9 rfl) ?_
  first|refine Ziy rfl rfl (by repeat constructor) (by first|rfl|omega|(rw [szL]; omega)|exact Nat.le_of_ble_eq_true rfl|(simp; done)|(simp; omega)) ?_|refine Zix rfl rfl (by repeat constructor) (by first|rfl|omega|(rw [szL]; omega)|exact Nat.le_of_ble_eq_true rfl|(simp; done)|(simp; omega)) (ext_map _ _ _) ?_
  first|refine Ziz rfl (Zat rfl) ?_|refine Ziz rfl (Zar rfl) ?_
  refine Ziq rfl ?_
  refine Zh8 rfl (by kernel_rfl) (word_c _ (by simp; omega)) rfl (by repeat (first|exact Take.nil|exact Take.all|(apply Take.cons; (next => (repeat constructor); done))|apply Take.skip)) ?_
  rintro _ _ ⟨rfl, rfl⟩
  refine Zg2 (by repeat (first|exact App.nil|apply App.cons|(apply App.flip; first|exact App.nil|apply App.cons)|exact App.any)) ?_
  refine Zg3 ⟨fun _ => Imp.arr (by repeat (first|exact Arr.nil|exact Arr.stop|refine Arr.cons (by repeat constructor) ?_|refine Arr.skip ?_)), ?_⟩
  refine Zim rfl (Zh9 rfl (ext_add64 _ _ _ (carry_le _ _ _ (by decide))) rfl) ?_
  first|refine Zim rfl (Zmm rfl) ?_|refine Zim rfl (Zar rfl) ?_
  refine Zim rfl (Zco rfl rfl) ?_
  refine Zim rfl (Zco rfl rfl) ?_
  first|refine Zim rfl (Zl5 (n := 1) rfl rfl) ?_|refine Zim rfl (Zl3 (n := 1) rfl rfl) ?_
  refine Ziq rfl ?_
  refine Zht rfl rfl (by repeat constructor) (by first|rfl|omega|(rw [szL]; omega)|exact Nat.le_of_ble_eq_true rfl|(simp; done)|(simp; omega)) rfl ?_
  refine Zg3 ⟨(fun hh => Bool.noConfusion hh), ?_⟩
  first|refine Zim rfl (Zaz rfl) ?_|refine Zim rfl (Zas rfl) ?_
  refine Zik ?_
  repeat (first|refine zA ?_|refine zB ?_|refine zC ?_|refine zD ?_|refine zE ?_|refine zF ?_|refine zG ?_|refine zH ?_|refine zI ?_|refine zJ ?_|refine zK ?_|refine zL ?_|refine zM rfl ?_|refine zN ?_|refine zO ?_|refine zP ?_|refine zQ ?_)
  refine Zgb ?_
  first|refine Zhg (Zl5 (n := 2) rfl rfl) ?_|refine Zhg (Zl3 (n := 2) rfl rfl) ?_
  refine Zhp rfl (by repeat constructor) rfl ?_
  first|refine Zhg (Zat rfl) ?_|refine Zhg (Zar rfl) ?_
  first|refine Zhg (Zat rfl) ?_|refine Zhg (Zar rfl) ?_
  refine Zhg (Zlc rfl rfl) ?_
  refine Zhg (Zlc rfl rfl) ?_
  first|refine Zhg (Zl5 (n := 2) rfl rfl) ?_|refine Zhg (Zl3 (n := 2) rfl rfl) ?_
  refine Zht rfl rfl (by repeat constructor) (by first|rfl|omega|(rw [szL]; omega)|exact Nat.le_of_ble_eq_true rfl|(simp; done)|(simp; omega)) rfl ?_
  refine Zg3 ?_
  repeat (first|refine zA ?_|refine zB ?_|refine zC ?_|refine zD ?_|refine zE ?_|refine zF ?_|refine zG ?_|refine zH ?_|refine zI ?_|refine zJ ?_|refine zK ?_|refine zL ?_|refine zM rfl ?_|refine zN ?_|refine zO ?_|refine zP ?_|refine zQ ?_)
  refine Zij (_) [0, 1, 2, 3, 4, 5, 6] (.r 0 (.r 1 (.r 2 (.r 3 (.r 4 (.r 5 (.e 6 true (.q 7 (.q 8 (.e 9 false .nil)))))))))) (by kernel_rfl) (by kernel_rfl) (Imp.refl _) ?_
  first|refine Ziz rfl (Zav rfl) ?_|refine Ziz rfl (Zar rfl) ?_
  first|refine Ziy rfl rfl (by repeat constructor) (by first|rfl|omega|(rw [szL]; omega)|exact Nat.le_of_ble_eq_true rfl|(simp; done)|(simp; omega)) ?_|refine Zix rfl rfl (by repeat constructor) (by first|rfl|omega|(rw [szL]; omega)|exact Nat.le_of_ble_eq_true rfl|(simp; done)|(simp; omega)) rfl ?_
  first|refine Ziz rfl (Zav rfl) ?_|refine Ziz rfl (Zar rfl) ?_
  refine Ziz rfl (Zba rfl) ?_
  first|refine Ziz rfl (Zl8 rfl) ?_|refine Ziz rfl (Zce rfl) ?_
  first|refine Ziy rfl rfl (by repeat constructor) (by first|rfl|omega|(rw [szL]; omega)|exact Nat.le_of_ble_eq_true rfl|(simp; done)|(simp; omega)) ?_|refine Zix rfl rfl (by repeat constructor) (by first|rfl|omega|(rw [szL]; omega)|exact Nat.le_of_ble_eq_true rfl|(simp; done)|(simp; omega)) (pc_r t) ?_
  refine Ziq rfl ?_
  refine Zh8 rfl (by kernel_rfl) (times_c (_, _, _) _) rfl (by repeat (first|exact Take.nil|exact Take.all|(apply Take.cons; (next => (repeat constructor); done))|apply Take.skip)) ?_
  rintro _ _ ⟨rfl, rfl⟩
  refine Zg2 (by repeat (first|exact App.nil|apply App.cons|(apply App.flip; first|exact App.nil|apply App.cons)|exact App.any)) ?_
  refine Zg3 ⟨fun _ => Imp.arr (by repeat (first|exact Arr.nil|exact Arr.stop|refine Arr.cons (by repeat constructor) ?_|refine Arr.skip ?_)), ?_⟩
  refine Zim rfl (Zba rfl) ?_
  first|refine Zim rfl (Zl8 rfl) ?_|refine Zim rfl (Zce rfl) ?_
  refine Ziq rfl ?_
  first|refine Zhy rfl rfl (by repeat constructor) (by first|rfl|omega|(rw [szL]; omega)|exact Nat.le_of_ble_eq_true rfl|(simp; done)|(simp; omega)) (by first|rfl|exact oneM_u8 _|exact oneL_u8 _|(simp [oneC]; done)) (by first|rfl|omega|(rw [szL]; omega)|exact Nat.le_of_ble_eq_true rfl|(simp; done)|(simp; omega)) ?_|refine Zhx rfl rfl (by repeat constructor) (by first|rfl|omega|(rw [szL]; omega)|exact Nat.le_of_ble_eq_true rfl|(simp; done)|(simp; omega)) (by first|rfl|exact oneM_u8 _|exact oneL_u8 _|(simp [oneC]; done)) (by first|rfl|omega|(rw [szL]; omega)|exact Nat.le_of_ble_eq_true rfl|(simp; done)|(simp; omega)) (pc_setH _ _) ?_
  refine Zg3 ⟨(fun hh => Bool.noConfusion hh), ?_⟩
  refine Zik ?_
  repeat (first|refine zA ?_|refine zB ?_|refine zC ?_|refine zD ?_|refine zE ?_|refine zF ?_|refine zG ?_|refine zH ?_|refine zI ?_|refine zJ ?_|refine zK ?_|refine zL ?_|refine zM rfl ?_|refine zN ?_|refine zO ?_|refine zP ?_|refine zQ ?_)
  first|refine rx0 ?_|refine rx0n ?_
  have e : (b.drop 8).take (16 - 8) = b.drop 8 := List.take_of_length_le (by simp; omega)
  rw [e]
  exact ⟨_, ⟨rfl, rfl⟩, by exact Imp.arr (by repeat (first|exact Arr.nil|exact Arr.stop|refine Arr.cons (by repeat constructor) ?_|refine Arr.skip ?_))⟩
end Go.Sl

/- tag: Write, walked. -/
set_option maxHeartbeats 4000000
set_option maxRecDepth 10000
set_option linter.unusedVariables false
set_option linter.unusedSimpArgs false
namespace Go.Sl
open Go Go.Proofs
attribute [local irreducible] cl pt own old pur ex all den denOps denS xOps xC cX CX xthen xblk xcut xloop retX resX Calls PV Rd Con
attribute [local irreducible] pc writeS takeW full put1 setU setH
theorem pc_eq {t u : PolyS} (h : t = u) (p : Nat) : cl p (pc t) 74 = cl p (pc u) 74 := by rw [h]
theorem write_nil_c (v : Value) (a : Option Addr) (n c : Nat) (hv : v = .slice a n c) : Con Try.prog 22 [.pointer none, v] [] (fun v M => v = .tuple #[.int .i64 0, .iface 68 (.int .i64 1)] ∧ M = []) := by
  subst hv
  refine fn_x Try.func22 rfl rfl rfl Try.mixed (by kernel_rfl) ?_
  intro w0
  repeat (first|refine zA ?_|refine zB ?_|refine zC ?_|refine zD ?_|refine zE ?_|refine zF ?_|refine zG ?_|refine zH ?_|refine zI ?_|refine zJ ?_|refine zK ?_|refine zL ?_|refine zM rfl ?_|refine zN ?_|refine zO ?_|refine zP ?_|refine zQ ?_)
  refine Zgb ?_
  first|refine Zhg (Zaz rfl) ?_|refine Zhg (Zas rfl) ?_
  first|refine Zhg (Zms rfl) ?_|refine Zhg (Zas rfl) ?_
  refine Zg3 ?_
  repeat (first|refine zA ?_|refine zB ?_|refine zC ?_|refine zD ?_|refine zE ?_|refine zF ?_|refine zG ?_|refine zH ?_|refine zI ?_|refine zJ ?_|refine zK ?_|refine zL ?_|refine zM rfl ?_|refine zN ?_|refine zO ?_|refine zP ?_|refine zQ ?_)
  refine Zgb ?_
  first|refine Zhg (Zav rfl) ?_|refine Zhg (Zar rfl) ?_
  refine Zhg (Zca rfl rfl) ?_
  refine Zg3 ?_
  repeat (first|refine zA ?_|refine zB ?_|refine zC ?_|refine zD ?_|refine zE ?_|refine zF ?_|refine zG ?_|refine zH ?_|refine zI ?_|refine zJ ?_|refine zK ?_|refine zL ?_|refine zM rfl ?_|refine zN ?_|refine zO ?_|refine zP ?_|refine zQ ?_)
  refine Zge rfl ?_
  repeat (first|refine zA ?_|refine zB ?_|refine zC ?_|refine zD ?_|refine zE ?_|refine zF ?_|refine zG ?_|refine zH ?_|refine zI ?_|refine zJ ?_|refine zK ?_|refine zL ?_|refine zM rfl ?_|refine zN ?_|refine zO ?_|refine zP ?_|refine zQ ?_)
  refine Zgb ?_
  refine Zhg (Zm2 rfl) ?_
  first|refine Zhg (Zaz rfl) ?_|refine Zhg (Zas rfl) ?_
  first|refine Zhg (Zms rfl) ?_|refine Zhg (Zas rfl) ?_
  refine Zg3 ?_
  repeat (first|refine zA ?_|refine zB ?_|refine zC ?_|refine zD ?_|refine zE ?_|refine zF ?_|refine zG ?_|refine zH ?_|refine zI ?_|refine zJ ?_|refine zK ?_|refine zL ?_|refine zM rfl ?_|refine zN ?_|refine zO ?_|refine zP ?_|refine zQ ?_)
  refine rx2 (Zg9 rfl (Zg8 rfl (Zg7))) ?_
  exact ⟨_, ⟨rfl, rfl⟩, by exact Imp.arr (by repeat (first|exact Arr.nil|exact Arr.stop|refine Arr.cons (by repeat constructor) ?_|refine Arr.skip ?_))⟩
theorem setU_put1 (t : PolyS) (x : List Byte) : setU (setU (put1 t x) t.used) (t.used + x.length) = put1 t x := by unfold setU put1; rfl
theorem setU_used {t : PolyS} {n : Nat} (h : (setU t n).rest.length = 16) : (pc (setU t n))[23]? = some (.int .i64 n) := by
  rw [pc_used h]; unfold setU; rfl
theorem write_c {p : Nat} {L : List Asrt} (t : PolyS) (ht : PolyOk t) (b : List Byte) (a : Option Addr) (c : Nat) (hc : b.length ≤ c) (hcm : c ≤ 9223372036854775807) (hv : Rd L 1 (.slice a b.length c) b.length (b.map u8b)) :
    Con Try.prog 22 [.pointer (some ⟨p, 0, none⟩), .slice a b.length c] (cl p (pc t) 74 :: L)
      (fun v M => v = .tuple #[.int .i64 b.length, .nilIface] ∧ M = cl p (pc (writeS t b)) 74 :: L) := by
  refine fn_x Try.func22 rfl rfl rfl Try.mixed (by kernel_rfl) ?_
  intro w0
  repeat (first|refine zA ?_|refine zB ?_|refine zC ?_|refine zD ?_|refine zE ?_|refine zF ?_|refine zG ?_|refine zH ?_|refine zI ?_|refine zJ ?_|refine zK ?_|refine zL ?_|refine zM rfl ?_|refine zN ?_|refine zO ?_|refine zP ?_|refine zQ ?_)
  refine Zgb ?_
  first|refine Zhg (Zaz rfl) ?_|refine Zhg (Zas rfl) ?_
  first|refine Zhg (Zms rfl) ?_|refine Zhg (Zas rfl) ?_
  refine Zg3 ?_
  repeat (first|refine zA ?_|refine zB ?_|refine zC ?_|refine zD ?_|refine zE ?_|refine zF ?_|refine zG ?_|refine zH ?_|refine zI ?_|refine zJ ?_|refine zK ?_|refine zL ?_|refine zM rfl ?_|refine zN ?_|refine zO ?_|refine zP ?_|refine zQ ?_)
  refine Zgb ?_
  first|refine Zhg (Zav rfl) ?_|refine Zhg (Zar rfl) ?_
  refine Zhg (Zca rfl rfl) ?_
  refine Zg3 ?_
  repeat (first|refine zA ?_|refine zB ?_|refine zC ?_|refine zD ?_|refine zE ?_|refine zF ?_|refine zG ?_|refine zH ?_|refine zI ?_|refine zJ ?_|refine zK ?_|refine zL ?_|refine zM rfl ?_|refine zN ?_|refine zO ?_|refine zP ?_|refine zQ ?_)
  refine Zgf rfl ?_
  repeat (first|refine zA ?_|refine zB ?_|refine zC ?_|refine zD ?_|refine zE ?_|refine zF ?_|refine zG ?_|refine zH ?_|refine zI ?_|refine zJ ?_|refine zK ?_|refine zL ?_|refine zM rfl ?_|refine zN ?_|refine zO ?_|refine zP ?_|refine zQ ?_)
  refine Zgb ?_
  first|refine Zhg (Zaw rfl) ?_|refine Zhg (Zar rfl) ?_
  first|refine Zhg (Za2 rfl) ?_|refine Zhg (Zas rfl) ?_
  refine Zg3 ?_
  repeat (first|refine zA ?_|refine zB ?_|refine zC ?_|refine zD ?_|refine zE ?_|refine zF ?_|refine zG ?_|refine zH ?_|refine zI ?_|refine zJ ?_|refine zK ?_|refine zL ?_|refine zM rfl ?_|refine zN ?_|refine zO ?_|refine zP ?_|refine zQ ?_)
  refine Zgo [(6, 7), (12, 49)] (by kernel_rfl)
    (fun s : Nat × Option Addr × Nat × Nat => s.2.2.2 = b.length - s.1 ∧ s.1 ≤ b.length ∧ b.length - s.1 ≤ s.2.2.1 ∧ Rd L 1 (.slice s.2.1 (b.length - s.1) s.2.2.1) (b.length - s.1) ((b.drop s.1).map u8b))
    (fun s => cl p (pc (writeS t (b.take s.1))) 74 :: L) (fun s => [(6, .slice s.2.1 s.2.2.2 s.2.2.1)]) (fun s => b.length - s.1) (0, a, c, b.length) ⟨rfl, Nat.zero_le _, hc, hv⟩ (by dsimp only; rw [writeS_zero]; exact Imp.refl _) ⟨rfl, trivial⟩ ?_
  rintro ⟨i, a, c, n⟩ u ⟨hn, hi, hc, hv⟩
  dsimp only at hn hi hc hv ⊢
  subst hn
  have hti : PolyOk (writeS t (b.take i)) := writeS_ok ht
  generalize hT : writeS t (b.take i) = T at hti
  have hu := hti.used
  have hsz := pc_size hti.rest
  repeat (first|refine zA ?_|refine zB ?_|refine zC ?_|refine zD ?_|refine zE ?_|refine zF ?_|refine zG ?_|refine zH ?_|refine zI ?_|refine zJ ?_|refine zK ?_|refine zL ?_|refine zM rfl ?_|refine zN ?_|refine zO ?_|refine zP ?_|refine zQ ?_)
  refine Zgb ?_
  first|refine Zhg (Zaw rfl) ?_|refine Zhg (Zar rfl) ?_
  first|refine Zhg (Zcr rfl) ?_|refine Zhg (Zct) ?_|refine Zhg (Zcu rfl) ?_
  first|refine Zhg (Zmh (b := 0) rfl rfl) ?_|refine Zhg (Zbp rfl rfl) ?_
  refine Zg3 ?_
  repeat (first|refine zA ?_|refine zB ?_|refine zC ?_|refine zD ?_|refine zE ?_|refine zF ?_|refine zG ?_|refine zH ?_|refine zI ?_|refine zJ ?_|refine zK ?_|refine zL ?_|refine zM rfl ?_|refine zN ?_|refine zO ?_|refine zP ?_|refine zQ ?_)
  refine Zgg rfl (fun hB => ?_) (fun hB => ?_)
  · obtain ⟨m, hm⟩ : ∃ m, m = min (b.length - i) (16 - T.used) := ⟨_, rfl⟩
    have hm0 : 0 < m := by omega
    obtain ⟨x, hx⟩ : ∃ x, x = (b.drop i).take m := ⟨_, rfl⟩
    have hxl : x.length = m := by rw [hx]; simp; omega
    have htot : b.take (i + m) = b.take i ++ x := by rw [hx, List.take_add]
    have hw : writeS t (b.take (i + m)) = full (put1 T x) := by rw [htot, writeS_append, hT, write_put hti (by omega)]
    have hcp : wr (pc T) (7 + T.used) (((b.drop i).map u8b).take (m * 1)) = pc (setU (put1 T x) T.used) := by
      rw [← pc_copy hti.rest (by omega), ← List.map_take, Nat.mul_one, ← hx]
    have hpr : (put1 T x).rest.length = 16 := put1_rest hti (by omega)
    have hpru : (setU (put1 T x) T.used).rest.length = 16 := by unfold setU; exact hpr
    have hsz2 : (pc (setU (put1 T x) T.used)).size = 24 := pc_size hpru
    have hsz3 : (pc (put1 T x)).size = 24 := pc_size hpr
    have hs1 : (pc (setU (put1 T x) T.used)).setIfInBounds 23 (.int .i64 ((T.used + m : Nat) : Int)) = pc (put1 T x) := by
      rw [pc_setUsed (t := setU (put1 T x) T.used) hpru (T.used + m), ← hxl, setU_put1]
    have hv2 : Rd L 1 (.slice (if c = m then a else a.map (·.add (m * 1))) (b.length - (i + m)) (c - m)) (b.length - (i + m)) ((b.drop (i + m)).map u8b) := by
      have := hv.cut (l := m) (by omega) hc
      rw [← List.map_drop, List.drop_drop] at this
      rwa [show b.length - (i + m) = b.length - i - m by omega]
    repeat (first|refine zA ?_|refine zB ?_|refine zC ?_|refine zD ?_|refine zE ?_|refine zF ?_|refine zG ?_|refine zH ?_|refine zI ?_|refine zJ ?_|refine zK ?_|refine zL ?_|refine zM rfl ?_|refine zN ?_|refine zO ?_|refine zP ?_|refine zQ ?_)
    refine Zij (_) [0, 1, 2, 3, 4, 5, 6, 7, 8] (.r 0 (.r 1 (.r 2 (.r 3 (.r 4 (.r 5 (.r 6 (.r 7 (.r 8 (.e 9 false (.q 10 .nil))))))))))) (by kernel_rfl) (by kernel_rfl) (Imp.refl _) ?_
    first|refine Ziz rfl (Zav rfl) ?_|refine Ziz rfl (Zar rfl) ?_
    refine Ziz rfl (Zba rfl) ?_
    first|refine Ziz rfl (Zl8 rfl) ?_|refine Ziz rfl (Zce rfl) ?_
    first|refine Ziz rfl (Zav rfl) ?_|refine Ziz rfl (Zar rfl) ?_
    refine Ziz rfl (Zba rfl) ?_
    first|refine Ziz rfl (Zl8 rfl) ?_|refine Ziz rfl (Zce rfl) ?_
    refine Ziv rfl rfl (by repeat constructor) (pc_used hti.rest) ?_
    refine Ziz rfl (Zmx (h := 16) rfl rfl rfl) ?_
    first|refine Ziz rfl (Zaw rfl) ?_|refine Ziz rfl (Zar rfl) ?_
    refine Ziq rfl ?_; refine Zib (c' := pc (setU (put1 T x) T.used)) rfl rfl (hv.imp Imp.tail) (by repeat constructor) (by rw [hsz]; omega) (oneM_u8 _) (by rw [← hm]; exact hcp) ?_; refine Zg3 ⟨(fun hh => Bool.noConfusion hh), ?_⟩
    first|refine Zim rfl (Zaz rfl) ?_|refine Zim rfl (Zas rfl) ?_
    refine Zik ?_
    repeat (first|refine zA ?_|refine zB ?_|refine zC ?_|refine zD ?_|refine zE ?_|refine zF ?_|refine zG ?_|refine zH ?_|refine zI ?_|refine zJ ?_|refine zK ?_|refine zL ?_|refine zM rfl ?_|refine zN ?_|refine zO ?_|refine zP ?_|refine zQ ?_)
    rw [← hm]
    repeat (first|refine zA ?_|refine zB ?_|refine zC ?_|refine zD ?_|refine zE ?_|refine zF ?_|refine zG ?_|refine zH ?_|refine zI ?_|refine zJ ?_|refine zK ?_|refine zL ?_|refine zM rfl ?_|refine zN ?_|refine zO ?_|refine zP ?_|refine zQ ?_)
    refine Zgb ?_
    first|refine Zhg (Zav rfl) ?_|refine Zhg (Zar rfl) ?_
    refine Zhg (Zba rfl) ?_
    first|refine Zhg (Zl8 rfl) ?_|refine Zhg (Zce rfl) ?_
    refine Zhp rfl (by repeat constructor) (setU_used hpru) ?_
    first|refine Zhg (Zat rfl) ?_|refine Zhg (Zar rfl) ?_
    first|refine Zhg (Zma rfl rfl) ?_|refine Zhg (Zbg rfl rfl) ?_
    refine Zhg (Zba rfl) ?_
    first|refine Zhg (Zl8 rfl) ?_|refine Zhg (Zce rfl) ?_
    refine Zht rfl rfl (by repeat constructor) (by first|rfl|omega|(rw [szL]; omega)|exact Nat.le_of_ble_eq_true rfl|(simp; done)|(simp; omega)) (hs1) ?_
    refine Zg3 ?_
    repeat (first|refine zA ?_|refine zB ?_|refine zC ?_|refine zD ?_|refine zE ?_|refine zF ?_|refine zG ?_|refine zH ?_|refine zI ?_|refine zJ ?_|refine zK ?_|refine zL ?_|refine zM rfl ?_|refine zN ?_|refine zO ?_|refine zP ?_|refine zQ ?_)
    refine Zgb ?_
    first|refine Zhg (Zaw rfl) ?_|refine Zhg (Zar rfl) ?_
    first|refine Zhg (Zat rfl) ?_|refine Zhg (Zar rfl) ?_
    refine Zhg (Zm1 (l := m) (h := b.length - i) rfl rfl rfl (by omega) (by omega)) ?_
    first|refine Zhg (Za2 rfl) ?_|refine Zhg (Zas rfl) ?_
    refine Zg3 ?_
    repeat (first|refine zA ?_|refine zB ?_|refine zC ?_|refine zD ?_|refine zE ?_|refine zF ?_|refine zG ?_|refine zH ?_|refine zI ?_|refine zJ ?_|refine zK ?_|refine zL ?_|refine zM rfl ?_|refine zN ?_|refine zO ?_|refine zP ?_|refine zQ ?_)
    refine Zgb ?_
    first|refine Zhg (Zav rfl) ?_|refine Zhg (Zar rfl) ?_
    refine Zhg (Zba rfl) ?_
    first|refine Zhg (Zl8 rfl) ?_|refine Zhg (Zce rfl) ?_
    refine Zhp rfl (by repeat constructor) (pc_used hpr) ?_
    first|refine Zhg (Zmj (b := 16) rfl rfl) ?_|refine Zhg (Zbr rfl rfl) ?_
    refine Zg3 ?_
    repeat (first|refine zA ?_|refine zB ?_|refine zC ?_|refine zD ?_|refine zE ?_|refine zF ?_|refine zG ?_|refine zH ?_|refine zI ?_|refine zJ ?_|refine zK ?_|refine zL ?_|refine zM rfl ?_|refine zN ?_|refine zO ?_|refine zP ?_|refine zQ ?_)
    rw [show b.length - i - m = b.length - (i + m) by omega]
    refine Zgg rfl (fun hB2 => ?_) (fun hB2 => ?_)
    · have hprh : (setH (put1 T x) (takeW (put1 T x).h (put1 T x).r (put1 T x).rest 1#64)).rest.length = 16 := by unfold setH; exact hpr
      have hfull : full (put1 T x) = setU (setH (put1 T x) (takeW (put1 T x).h (put1 T x).r (put1 T x).rest 1#64)) 0 := by rw [full, if_pos hB2]
      have hsz4 : (pc (setH (put1 T x) (takeW (put1 T x).h (put1 T x).r (put1 T x).rest 1#64))).size = 24 := pc_size hprh
      have hs2 : (pc (setH (put1 T x) (takeW (put1 T x).h (put1 T x).r (put1 T x).rest 1#64))).setIfInBounds 23 (.int .i64 0) = pc (writeS t (b.take (i + m))) := by
        rw [hw, hfull]
        exact pc_setUsed hprh 0
      repeat (first|refine zA ?_|refine zB ?_|refine zC ?_|refine zD ?_|refine zE ?_|refine zF ?_|refine zG ?_|refine zH ?_|refine zI ?_|refine zJ ?_|refine zK ?_|refine zL ?_|refine zM rfl ?_|refine zN ?_|refine zO ?_|refine zP ?_|refine zQ ?_)
      refine Zgb ?_
      first|refine Zhg (Zav rfl) ?_|refine Zhg (Zar rfl) ?_
      first|refine Zhg (Zav rfl) ?_|refine Zhg (Zar rfl) ?_
      refine Zhg (Zba rfl) ?_
      first|refine Zhg (Zl8 rfl) ?_|refine Zhg (Zce rfl) ?_
      first|refine Zhr rfl (by repeat constructor) (by first|rfl|omega|(rw [szL]; omega)|exact Nat.le_of_ble_eq_true rfl|(simp; done)|(simp; omega)) ?_|refine Zhq rfl (by repeat constructor) (by first|rfl|omega|(rw [szL]; omega)|exact Nat.le_of_ble_eq_true rfl|(simp; done)|(simp; omega)) (pc_rest hpr) ?_
      refine Zh8 rfl (by kernel_rfl) (take_c _ hpr _ hpr 1#64) rfl (by repeat (first|exact Take.nil|exact Take.all|(apply Take.cons; (next => (repeat constructor); done))|apply Take.skip)) ?_
      rintro _ _ ⟨rfl, rfl⟩
      refine Zg2 (by repeat (first|exact App.nil|apply App.cons|(apply App.flip; first|exact App.nil|apply App.cons)|exact App.any)) ?_
      refine Zg3 ?_
      repeat (first|refine zA ?_|refine zB ?_|refine zC ?_|refine zD ?_|refine zE ?_|refine zF ?_|refine zG ?_|refine zH ?_|refine zI ?_|refine zJ ?_|refine zK ?_|refine zL ?_|refine zM rfl ?_|refine zN ?_|refine zO ?_|refine zP ?_|refine zQ ?_)
      refine Zgb ?_
      first|refine Zhg (Zav rfl) ?_|refine Zhg (Zar rfl) ?_
      refine Zhg (Zba rfl) ?_
      first|refine Zhg (Zl8 rfl) ?_|refine Zhg (Zce rfl) ?_
      refine Zht rfl rfl (by repeat constructor) (by first|rfl|omega|(rw [szL]; omega)|exact Nat.le_of_ble_eq_true rfl|(simp; done)|(simp; omega)) (hs2) ?_
      refine Zg3 ?_
      repeat (first|refine zA ?_|refine zB ?_|refine zC ?_|refine zD ?_|refine zE ?_|refine zF ?_|refine zG ?_|refine zH ?_|refine zI ?_|refine zJ ?_|refine zK ?_|refine zL ?_|refine zM rfl ?_|refine zN ?_|refine zO ?_|refine zP ?_|refine zQ ?_)
      exact Zgl (i + m, _, _, _) (by dsimp only; omega) ⟨rfl, by dsimp only; omega, by dsimp only; omega, hv2⟩ (by exact Imp.arr (by repeat (first|exact Arr.nil|exact Arr.stop|refine Arr.cons (by repeat constructor) ?_|refine Arr.skip ?_))) ⟨rfl, trivial⟩
    · have hw2 : writeS t (b.take (i + m)) = put1 T x := by rw [hw, full, if_neg hB2]
      rw [← hw2]
      repeat (first|refine zA ?_|refine zB ?_|refine zC ?_|refine zD ?_|refine zE ?_|refine zF ?_|refine zG ?_|refine zH ?_|refine zI ?_|refine zJ ?_|refine zK ?_|refine zL ?_|refine zM rfl ?_|refine zN ?_|refine zO ?_|refine zP ?_|refine zQ ?_)
      exact Zgl (i + m, _, _, _) (by dsimp only; omega) ⟨rfl, by dsimp only; omega, by dsimp only; omega, hv2⟩ (by exact Imp.arr (by repeat (first|exact Arr.nil|exact Arr.stop|refine Arr.cons (by repeat constructor) ?_|refine Arr.skip ?_))) ⟨rfl, trivial⟩
  · have hie : i = b.length := by omega
    have hw : T = writeS t b := by rw [← hT, List.take_of_length_le (by omega)]
    repeat (first|refine zA ?_|refine zB ?_|refine zC ?_|refine zD ?_|refine zE ?_|refine zF ?_|refine zG ?_|refine zH ?_|refine zI ?_|refine zJ ?_|refine zK ?_|refine zL ?_|refine zM rfl ?_|refine zN ?_|refine zO ?_|refine zP ?_|refine zQ ?_)
    refine Zgb ?_
    first|refine Zhg (Zaw rfl) ?_|refine Zhg (Zar rfl) ?_
    first|refine Zhg (Zcr rfl) ?_|refine Zhg (Zct) ?_|refine Zhg (Zcu rfl) ?_
    first|refine Zhg (Zaz rfl) ?_|refine Zhg (Zas rfl) ?_
    first|refine Zhg (Zms rfl) ?_|refine Zhg (Zas rfl) ?_
    refine Zg3 ?_
    repeat (first|refine zA ?_|refine zB ?_|refine zC ?_|refine zD ?_|refine zE ?_|refine zF ?_|refine zG ?_|refine zH ?_|refine zI ?_|refine zJ ?_|refine zK ?_|refine zL ?_|refine zM rfl ?_|refine zN ?_|refine zO ?_|refine zP ?_|refine zQ ?_)
    refine rx2 (Zg9 rfl (Zg8 rfl (Zg7))) ?_
    rw [hw]
    exact ⟨_, ⟨rfl, rfl⟩, by exact Imp.arr (by repeat (first|exact Arr.nil|exact Arr.stop|refine Arr.cons (by repeat constructor) ?_|refine Arr.skip ?_))⟩
end Go.Sl

/- tag: Sum, walked. -/
set_option maxHeartbeats 4000000
set_option maxRecDepth 10000
set_option linter.unusedVariables false
set_option linter.unusedSimpArgs false
namespace Go.Sl
open Go Go.Proofs
attribute [local irreducible] cl pt own old pur ex all den denOps denS xOps xC cX CX xthen xblk xcut xloop retX resX Calls PV Rd Con
attribute [local irreducible] pc writeS takeW full put1 setU setH
theorem sum_nil_c : Con Try.prog 24 [.pointer none] [] (fun v M => v = .agg ((List.replicate 16 0#8).map u8b).toArray ∧ M = []) := by
  refine fn_x Try.func24 rfl rfl rfl Try.mixed (by kernel_rfl) ?_
  intro w0
  repeat (first|refine zA ?_|refine zB ?_|refine zC ?_|refine zD ?_|refine zE ?_|refine zF ?_|refine zG ?_|refine zH ?_|refine zI ?_|refine zJ ?_|refine zK ?_|refine zL ?_|refine zM rfl ?_|refine zN ?_|refine zO ?_|refine zP ?_|refine zQ ?_)
  refine Zgb ?_
  refine Zhz (cs := ((List.replicate 16 0#8).map u8b).toArray) rfl ?_; intro b2
  refine Zg3 ?_
  repeat (first|refine zA ?_|refine zB ?_|refine zC ?_|refine zD ?_|refine zE ?_|refine zF ?_|refine zG ?_|refine zH ?_|refine zI ?_|refine zJ ?_|refine zK ?_|refine zL ?_|refine zM rfl ?_|refine zN ?_|refine zO ?_|refine zP ?_|refine zQ ?_)
  refine Zgb ?_
  first|refine Zhg (Zav rfl) ?_|refine Zhg (Zar rfl) ?_
  refine Zhg (Zca rfl rfl) ?_
  refine Zg3 ?_
  repeat (first|refine zA ?_|refine zB ?_|refine zC ?_|refine zD ?_|refine zE ?_|refine zF ?_|refine zG ?_|refine zH ?_|refine zI ?_|refine zJ ?_|refine zK ?_|refine zL ?_|refine zM rfl ?_|refine zN ?_|refine zO ?_|refine zP ?_|refine zQ ?_)
  refine Zge rfl ?_
  repeat (first|refine zA ?_|refine zB ?_|refine zC ?_|refine zD ?_|refine zE ?_|refine zF ?_|refine zG ?_|refine zH ?_|refine zI ?_|refine zJ ?_|refine zK ?_|refine zL ?_|refine zM rfl ?_|refine zN ?_|refine zO ?_|refine zP ?_|refine zQ ?_)
  refine Zgb ?_
  refine Zhg (Zdn (cs := #[u8b 0#8, u8b 0#8, u8b 0#8, u8b 0#8, u8b 0#8, u8b 0#8, u8b 0#8, u8b 0#8, u8b 0#8, u8b 0#8, u8b 0#8, u8b 0#8, u8b 0#8, u8b 0#8, u8b 0#8, u8b 0#8]) (by kernel_rfl)) ?_
  first|refine Zhy rfl rfl (by repeat constructor) (by first|rfl|omega|(rw [szL]; omega)|exact Nat.le_of_ble_eq_true rfl|(simp; done)|(simp; omega)) (by first|rfl|exact oneM_u8 _|exact oneL_u8 _|exact pc_one _|(simp [oneC]; done)) (by first|rfl|omega|(rw [szL]; omega)|exact Nat.le_of_ble_eq_true rfl|(simp; done)|(simp; omega)) ?_|refine Zhx rfl rfl (by repeat constructor) (by first|rfl|omega|(rw [szL]; omega)|exact Nat.le_of_ble_eq_true rfl|(simp; done)|(simp; omega)) (by first|rfl|exact oneM_u8 _|exact oneL_u8 _|exact pc_one _|(simp [oneC]; done)) (by first|rfl|omega|(rw [szL]; omega)|exact Nat.le_of_ble_eq_true rfl|(simp; done)|(simp; omega)) rfl ?_
  refine Zg3 ?_
  repeat (first|refine zA ?_|refine zB ?_|refine zC ?_|refine zD ?_|refine zE ?_|refine zF ?_|refine zG ?_|refine zH ?_|refine zI ?_|refine zJ ?_|refine zK ?_|refine zL ?_|refine zM rfl ?_|refine zN ?_|refine zO ?_|refine zP ?_|refine zQ ?_)
  refine rx1 (Zhe rfl (by repeat constructor) (by first|rfl|omega|(rw [szL]; omega)|exact Nat.le_of_ble_eq_true rfl|(simp; done)|(simp; omega)) (Zg7)) ?_
  exact ⟨_, ⟨rfl, rfl⟩, by exact Imp.arr (by repeat (first|exact Arr.nil|exact Arr.stop|refine Arr.cons (by repeat constructor) ?_|refine Arr.skip ?_))⟩
theorem sum_c {p : Nat} (t : PolyS) (ht : PolyOk t) : Con Try.prog 24 [.pointer (some ⟨p, 0, none⟩)] [cl p (pc t) 74] (fun v M => v = .agg ((sumS t).map u8b).toArray ∧ M = [cl p (pc t) 74]) := by
  have hr := ht.rest
  have hu := ht.used
  have hsz := pc_size hr
  refine fn_x Try.func24 rfl rfl rfl Try.mixed (by kernel_rfl) ?_
  intro w0
  repeat (first|refine zA ?_|refine zB ?_|refine zC ?_|refine zD ?_|refine zE ?_|refine zF ?_|refine zG ?_|refine zH ?_|refine zI ?_|refine zJ ?_|refine zK ?_|refine zL ?_|refine zM rfl ?_|refine zN ?_|refine zO ?_|refine zP ?_|refine zQ ?_)
  refine Zgb ?_
  refine Zhz (cs := ((List.replicate 16 0#8).map u8b).toArray) rfl ?_; intro b2
  refine Zg3 ?_
  repeat (first|refine zA ?_|refine zB ?_|refine zC ?_|refine zD ?_|refine zE ?_|refine zF ?_|refine zG ?_|refine zH ?_|refine zI ?_|refine zJ ?_|refine zK ?_|refine zL ?_|refine zM rfl ?_|refine zN ?_|refine zO ?_|refine zP ?_|refine zQ ?_)
  refine Zgb ?_
  first|refine Zhg (Zav rfl) ?_|refine Zhg (Zar rfl) ?_
  refine Zhg (Zca rfl rfl) ?_
  refine Zg3 ?_
  repeat (first|refine zA ?_|refine zB ?_|refine zC ?_|refine zD ?_|refine zE ?_|refine zF ?_|refine zG ?_|refine zH ?_|refine zI ?_|refine zJ ?_|refine zK ?_|refine zL ?_|refine zM rfl ?_|refine zN ?_|refine zO ?_|refine zP ?_|refine zQ ?_)
  refine Zgf rfl ?_
  repeat (first|refine zA ?_|refine zB ?_|refine zC ?_|refine zD ?_|refine zE ?_|refine zF ?_|refine zG ?_|refine zH ?_|refine zI ?_|refine zJ ?_|refine zK ?_|refine zL ?_|refine zM rfl ?_|refine zN ?_|refine zO ?_|refine zP ?_|refine zQ ?_)
  refine Zgb ?_
  first|refine Zhg (Zav rfl) ?_|refine Zhg (Zar rfl) ?_
  refine Zhg (Zba rfl) ?_
  first|refine Zhr rfl (by repeat constructor) (by first|rfl|omega|(rw [szL]; omega)|exact Nat.le_of_ble_eq_true rfl|(simp; done)|(simp; omega)) ?_|refine Zhq rfl (by repeat constructor) (by first|rfl|omega|(rw [szL]; omega)|exact Nat.le_of_ble_eq_true rfl|(simp; done)|(simp; omega)) rfl ?_
  refine Zhz (cs := #[u64b 0#64, u64b 0#64, u64b 0#64, u64b 0#64, u64b 0#64, u64b 0#64, u64b 0#64, u8b 0#8, u8b 0#8, u8b 0#8, u8b 0#8, u8b 0#8, u8b 0#8, u8b 0#8, u8b 0#8, u8b 0#8, u8b 0#8, u8b 0#8, u8b 0#8, u8b 0#8, u8b 0#8, u8b 0#8, u8b 0#8, .int .i64 0]) rfl ?_; intro b3
  first|refine Zhy rfl rfl (by repeat constructor) (by first|rfl|omega|(rw [szL]; omega)|exact Nat.le_of_ble_eq_true rfl|(simp; done)|(simp; omega)) (by first|rfl|exact oneM_u8 _|exact oneL_u8 _|exact pc_one _|(simp [oneC]; done)) (by first|rfl|omega|(rw [szL]; omega)|exact Nat.le_of_ble_eq_true rfl|(simp; done)|(simp; omega)) ?_|refine Zhx rfl rfl (by repeat constructor) (by first|rfl|omega|(rw [szL]; omega)|exact Nat.le_of_ble_eq_true rfl|(simp; done)|(simp; omega)) (by first|rfl|exact oneM_u8 _|exact oneL_u8 _|exact pc_one _|(simp [oneC]; done)) (by first|rfl|omega|(rw [szL]; omega)|exact Nat.le_of_ble_eq_true rfl|(simp; done)|(simp; omega)) rfl ?_
  refine Zg3 ?_
  repeat (first|refine zA ?_|refine zB ?_|refine zC ?_|refine zD ?_|refine zE ?_|refine zF ?_|refine zG ?_|refine zH ?_|refine zI ?_|refine zJ ?_|refine zK ?_|refine zL ?_|refine zM rfl ?_|refine zN ?_|refine zO ?_|refine zP ?_|refine zQ ?_)
  refine Zgb ?_
  first|refine Zhg (Zl8 rfl) ?_|refine Zhg (Zce rfl) ?_
  refine Zhp rfl (by repeat constructor) (pc_used hr) ?_
  first|refine Zhg (Zmh (b := 0) rfl rfl) ?_|refine Zhg (Zbp rfl rfl) ?_
  refine Zg3 ?_
  repeat (first|refine zA ?_|refine zB ?_|refine zC ?_|refine zD ?_|refine zE ?_|refine zF ?_|refine zG ?_|refine zH ?_|refine zI ?_|refine zJ ?_|refine zK ?_|refine zL ?_|refine zM rfl ?_|refine zN ?_|refine zO ?_|refine zP ?_|refine zQ ?_)
  refine Zgn [(4, 4), (22, 32)] (by kernel_rfl) (fun _ : Unit => True) (fun _ => [cl b3 (pc (finS t)) 74, cl b2 ((List.replicate 16 0#8).map u8b).toArray 28, cl p (pc t) 74]) (fun _ => []) ?_ ?_
  · refine Zgg rfl (fun hB => ?_) (fun hB => ?_)
    · repeat (first|refine zA ?_|refine zB ?_|refine zC ?_|refine zD ?_|refine zE ?_|refine zF ?_|refine zG ?_|refine zH ?_|refine zI ?_|refine zJ ?_|refine zK ?_|refine zL ?_|refine zM rfl ?_|refine zN ?_|refine zO ?_|refine zP ?_|refine zQ ?_)
      refine Zgb ?_
      refine Zhz (cs := ((List.replicate 16 0#8).map u8b).toArray) rfl ?_; intro b4
      refine Zg3 ?_
      repeat (first|refine zA ?_|refine zB ?_|refine zC ?_|refine zD ?_|refine zE ?_|refine zF ?_|refine zG ?_|refine zH ?_|refine zI ?_|refine zJ ?_|refine zK ?_|refine zL ?_|refine zM rfl ?_|refine zN ?_|refine zO ?_|refine zP ?_|refine zQ ?_)
      refine Zij (_) [0, 1, 2, 3, 4] (.r 0 (.r 1 (.r 2 (.r 3 (.r 4 (.e 5 false .nil)))))) (by kernel_rfl) (by kernel_rfl) (Imp.refl _) ?_
      refine Ziz rfl (Zmy (h := 16) rfl rfl) ?_
      first|refine Ziz rfl (Zl8 rfl) ?_|refine Ziz rfl (Zce rfl) ?_
      first|refine Ziz rfl (Zl8 rfl) ?_|refine Ziz rfl (Zce rfl) ?_
      refine Ziv rfl rfl (by repeat constructor) (pc_used hr) ?_
      refine Ziz rfl (Zmy (h := t.used) rfl rfl (by omega) (by omega)) ?_
      refine Ziq rfl ?_
      refine Zib rfl rfl (Rd.cl (xs := (t.rest.take t.used).map u8b) (by repeat constructor) (by simp; omega) (by rw [hsz]; omega) (pc_restTake hr (by omega))) (by repeat constructor) (by first|rfl|omega|(rw [szL]; omega)|exact Nat.le_of_ble_eq_true rfl|(simp; done)|(simp; omega)) (by first|rfl|exact oneM_u8 _|exact oneL_u8 _|exact pc_one _|(simp [oneC]; done)) ((by rw [List.take_of_length_le (by simp; omega)]; exact copy_last hr hu : _ = ((t.rest.take t.used ++ List.replicate (16 - t.used) 0#8).map u8b).toArray)) ?_
      refine Zg3 ⟨(fun hh => Bool.noConfusion hh), ?_⟩
      refine Zik ?_
      repeat (first|refine zA ?_|refine zB ?_|refine zC ?_|refine zD ?_|refine zE ?_|refine zF ?_|refine zG ?_|refine zH ?_|refine zI ?_|refine zJ ?_|refine zK ?_|refine zL ?_|refine zM rfl ?_|refine zN ?_|refine zO ?_|refine zP ?_|refine zQ ?_)
      refine Zgb ?_
      first|refine Zhg (Zl8 rfl) ?_|refine Zhg (Zce rfl) ?_
      refine Zhp rfl (by repeat constructor) (pc_used hr) ?_
      first|refine Zhg (Zl5 rfl rfl) ?_|refine Zhg (Zl3 rfl rfl) ?_
      refine Zhs rfl (v := u8b 1#8) rfl rfl (by repeat constructor) (by first|rfl|omega|(rw [szL]; omega)|exact Nat.le_of_ble_eq_true rfl|(simp; done)|(simp; omega)) (setL (f := u8b) (l := t.rest.take t.used ++ List.replicate (16 - t.used) 0#8)) ?_
      refine Zg3 ?_
      repeat (first|refine zA ?_|refine zB ?_|refine zC ?_|refine zD ?_|refine zE ?_|refine zF ?_|refine zG ?_|refine zH ?_|refine zI ?_|refine zJ ?_|refine zK ?_|refine zL ?_|refine zM rfl ?_|refine zN ?_|refine zO ?_|refine zP ?_|refine zQ ?_)
      refine Zgb ?_
      first|refine Zhr rfl (by repeat constructor) (by first|rfl|omega|(rw [szL]; omega)|exact Nat.le_of_ble_eq_true rfl|(simp; done)|(simp; omega)) ?_|refine Zhq rfl (by repeat constructor) (by first|rfl|omega|(rw [szL]; omega)|exact Nat.le_of_ble_eq_true rfl|(simp; done)|(simp; omega)) rfl ?_
      refine Zh8 rfl (by kernel_rfl) (take_c t hr (lastB t) (lastB_len hr (by omega)) 0#64) rfl (by repeat (first|exact Take.nil|exact Take.all|(apply Take.cons; (next => (repeat constructor); done))|apply Take.skip)) ?_
      rintro _ _ ⟨rfl, rfl⟩
      refine Zg2 (by repeat (first|exact App.nil|apply App.cons|(apply App.flip; first|exact App.nil|apply App.cons)|exact App.any)) ?_
      refine Zg3 ?_
      repeat (first|refine zA ?_|refine zB ?_|refine zC ?_|refine zD ?_|refine zE ?_|refine zF ?_|refine zG ?_|refine zH ?_|refine zI ?_|refine zJ ?_|refine zK ?_|refine zL ?_|refine zM rfl ?_|refine zN ?_|refine zO ?_|refine zP ?_|refine zQ ?_)
      have e : finS t = setH t (takeW t.h t.r (lastB t) 0#64) := by rw [finS, if_pos hB]
      exact Zgk () trivial (by rw [e]; exact Imp.arr (by repeat (first|exact Arr.nil|exact Arr.stop|refine Arr.cons (by repeat constructor) ?_|refine Arr.skip ?_))) trivial
    · repeat (first|refine zA ?_|refine zB ?_|refine zC ?_|refine zD ?_|refine zE ?_|refine zF ?_|refine zG ?_|refine zH ?_|refine zI ?_|refine zJ ?_|refine zK ?_|refine zL ?_|refine zM rfl ?_|refine zN ?_|refine zO ?_|refine zP ?_|refine zQ ?_)
      have e : finS t = t := by rw [finS, if_neg hB]
      exact Zgk () trivial (by rw [e]; exact Imp.arr (by repeat (first|exact Arr.nil|exact Arr.stop|refine Arr.cons (by repeat constructor) ?_|refine Arr.skip ?_))) trivial
  rintro _ u _
  have hszf : (pc (finS t)).size = 24 := pc_size (by rw [finS_rest]; exact hr)
  repeat (first|refine zA ?_|refine zB ?_|refine zC ?_|refine zD ?_|refine zE ?_|refine zF ?_|refine zG ?_|refine zH ?_|refine zI ?_|refine zJ ?_|refine zK ?_|refine zL ?_|refine zM rfl ?_|refine zN ?_|refine zO ?_|refine zP ?_|refine zQ ?_)
  refine Zgb ?_
  first|refine Zhg (Zl8 rfl) ?_|refine Zhg (Zce rfl) ?_
  first|refine Zhr rfl (by repeat constructor) (by first|rfl|omega|(rw [szL]; omega)|exact Nat.le_of_ble_eq_true rfl|(simp; done)|(simp; omega)) ?_|refine Zhq rfl (by repeat constructor) (by first|rfl|omega|(rw [szL]; omega)|exact Nat.le_of_ble_eq_true rfl|(simp; done)|(simp; omega)) (pc_h _) ?_
  refine Zhz (cs := #[u64b 0#64, u64b 0#64, u64b 0#64]) rfl ?_; intro b5
  first|refine Zhy rfl rfl (by repeat constructor) (by first|rfl|omega|(rw [szL]; omega)|exact Nat.le_of_ble_eq_true rfl|(simp; done)|(simp; omega)) (by first|rfl|exact oneM_u8 _|exact oneL_u8 _|exact pc_one _|(simp [oneC]; done)) (by first|rfl|omega|(rw [szL]; omega)|exact Nat.le_of_ble_eq_true rfl|(simp; done)|(simp; omega)) ?_|refine Zhx rfl rfl (by repeat constructor) (by first|rfl|omega|(rw [szL]; omega)|exact Nat.le_of_ble_eq_true rfl|(simp; done)|(simp; omega)) (by first|rfl|exact oneM_u8 _|exact oneL_u8 _|exact pc_one _|(simp [oneC]; done)) (by first|rfl|omega|(rw [szL]; omega)|exact Nat.le_of_ble_eq_true rfl|(simp; done)|(simp; omega)) rfl ?_
  refine Zg3 ?_
  repeat (first|refine zA ?_|refine zB ?_|refine zC ?_|refine zD ?_|refine zE ?_|refine zF ?_|refine zG ?_|refine zH ?_|refine zI ?_|refine zJ ?_|refine zK ?_|refine zL ?_|refine zM rfl ?_|refine zN ?_|refine zO ?_|refine zP ?_|refine zQ ?_)
  refine Zgb ?_
  first|refine Zhg (Zl5 (n := 0) rfl rfl) ?_|refine Zhg (Zl3 (n := 0) rfl rfl) ?_
  refine Zhp rfl (by repeat constructor) rfl ?_
  refine Zhg (Zh9 rfl (ext_sub64 _ 18446744073709551611#64 0#64 (by decide)) rfl) ?_
  first|refine Zhg (Zmm rfl) ?_|refine Zhg (Zar rfl) ?_
  refine Zhg (Zco rfl rfl) ?_
  refine Zhg (Zco rfl rfl) ?_
  first|refine Zhg (Zaz rfl) ?_|refine Zhg (Zas rfl) ?_
  first|refine Zhg (Zaz rfl) ?_|refine Zhg (Zas rfl) ?_
  refine Zg3 ?_
  repeat (first|refine zA ?_|refine zB ?_|refine zC ?_|refine zD ?_|refine zE ?_|refine zF ?_|refine zG ?_|refine zH ?_|refine zI ?_|refine zJ ?_|refine zK ?_|refine zL ?_|refine zM rfl ?_|refine zN ?_|refine zO ?_|refine zP ?_|refine zQ ?_)
  refine Zgb ?_
  first|refine Zhg (Zl5 (n := 1) rfl rfl) ?_|refine Zhg (Zl3 (n := 1) rfl rfl) ?_
  refine Zhp rfl (by repeat constructor) rfl ?_
  first|refine Zhg (Zat rfl) ?_|refine Zhg (Zar rfl) ?_
  refine Zhg (Zh9 rfl (ext_sub64 _ 18446744073709551615#64 _ (borrow_le _ _ _)) rfl) ?_
  first|refine Zhg (Zmm rfl) ?_|refine Zhg (Zar rfl) ?_
  refine Zhg (Zco rfl rfl) ?_
  refine Zhg (Zco rfl rfl) ?_
  first|refine Zhg (Zaz rfl) ?_|refine Zhg (Zas rfl) ?_
  first|refine Zhg (Zaz rfl) ?_|refine Zhg (Zas rfl) ?_
  refine Zg3 ?_
  repeat (first|refine zA ?_|refine zB ?_|refine zC ?_|refine zD ?_|refine zE ?_|refine zF ?_|refine zG ?_|refine zH ?_|refine zI ?_|refine zJ ?_|refine zK ?_|refine zL ?_|refine zM rfl ?_|refine zN ?_|refine zO ?_|refine zP ?_|refine zQ ?_)
  refine Zgb ?_
  first|refine Zhg (Zl5 (n := 2) rfl rfl) ?_|refine Zhg (Zl3 (n := 2) rfl rfl) ?_
  refine Zhp rfl (by repeat constructor) rfl ?_
  first|refine Zhg (Zat rfl) ?_|refine Zhg (Zar rfl) ?_
  refine Zhg (Zh9 rfl (ext_sub64 _ 3#64 _ (borrow_le _ _ _)) rfl) ?_
  first|refine Zhg (Zmm rfl) ?_|refine Zhg (Zar rfl) ?_
  refine Zhg (Zco rfl rfl) ?_
  refine Zhg (Zco rfl rfl) ?_
  first|refine Zhg (Zaz rfl) ?_|refine Zhg (Zas rfl) ?_
  refine Zg3 ?_
  repeat (first|refine zA ?_|refine zB ?_|refine zC ?_|refine zD ?_|refine zE ?_|refine zF ?_|refine zG ?_|refine zH ?_|refine zI ?_|refine zJ ?_|refine zK ?_|refine zL ?_|refine zM rfl ?_|refine zN ?_|refine zO ?_|refine zP ?_|refine zQ ?_)
  refine Zgb ?_
  first|refine Zhg (Zat rfl) ?_|refine Zhg (Zar rfl) ?_
  refine Zhg (Zlm rfl) ?_
  first|refine Zhg (Zaz rfl) ?_|refine Zhg (Zas rfl) ?_
  refine Zg3 ?_
  repeat (first|refine zA ?_|refine zB ?_|refine zC ?_|refine zD ?_|refine zE ?_|refine zF ?_|refine zG ?_|refine zH ?_|refine zI ?_|refine zJ ?_|refine zK ?_|refine zL ?_|refine zM rfl ?_|refine zN ?_|refine zO ?_|refine zP ?_|refine zQ ?_)
  refine Zgb ?_
  first|refine Zhg (Zl5 (n := 0) rfl rfl) ?_|refine Zhg (Zl3 (n := 0) rfl rfl) ?_
  refine Zhp rfl (by repeat constructor) rfl ?_
  first|refine Zhg (Zat rfl) ?_|refine Zhg (Zar rfl) ?_
  refine Zhg (Zlf rfl rfl) ?_
  first|refine Zhg (Zat rfl) ?_|refine Zhg (Zar rfl) ?_
  first|refine Zhg (Zat rfl) ?_|refine Zhg (Zar rfl) ?_
  refine Zhg (Zli rfl rfl) ?_
  refine Zhg (Zlg rfl rfl) ?_
  first|refine Zhg (Zl5 (n := 0) rfl rfl) ?_|refine Zhg (Zl3 (n := 0) rfl rfl) ?_
  refine Zht rfl rfl (by repeat constructor) (by first|rfl|omega|(rw [szL]; omega)|exact Nat.le_of_ble_eq_true rfl|(simp; done)|(simp; omega)) rfl ?_
  refine Zg3 ?_
  repeat (first|refine zA ?_|refine zB ?_|refine zC ?_|refine zD ?_|refine zE ?_|refine zF ?_|refine zG ?_|refine zH ?_|refine zI ?_|refine zJ ?_|refine zK ?_|refine zL ?_|refine zM rfl ?_|refine zN ?_|refine zO ?_|refine zP ?_|refine zQ ?_)
  refine Zgb ?_
  first|refine Zhg (Zl5 (n := 1) rfl rfl) ?_|refine Zhg (Zl3 (n := 1) rfl rfl) ?_
  refine Zhp rfl (by repeat constructor) rfl ?_
  first|refine Zhg (Zat rfl) ?_|refine Zhg (Zar rfl) ?_
  refine Zhg (Zlf rfl rfl) ?_
  first|refine Zhg (Zat rfl) ?_|refine Zhg (Zar rfl) ?_
  first|refine Zhg (Zat rfl) ?_|refine Zhg (Zar rfl) ?_
  refine Zhg (Zli rfl rfl) ?_
  refine Zhg (Zlg rfl rfl) ?_
  first|refine Zhg (Zl5 (n := 1) rfl rfl) ?_|refine Zhg (Zl3 (n := 1) rfl rfl) ?_
  refine Zht rfl rfl (by repeat constructor) (by first|rfl|omega|(rw [szL]; omega)|exact Nat.le_of_ble_eq_true rfl|(simp; done)|(simp; omega)) rfl ?_
  refine Zg3 ?_
  repeat (first|refine zA ?_|refine zB ?_|refine zC ?_|refine zD ?_|refine zE ?_|refine zF ?_|refine zG ?_|refine zH ?_|refine zI ?_|refine zJ ?_|refine zK ?_|refine zL ?_|refine zM rfl ?_|refine zN ?_|refine zO ?_|refine zP ?_|refine zQ ?_)
  refine Zgb ?_
  first|refine Zhg (Zaz rfl) ?_|refine Zhg (Zas rfl) ?_
  refine Zg3 ?_
  repeat (first|refine zA ?_|refine zB ?_|refine zC ?_|refine zD ?_|refine zE ?_|refine zF ?_|refine zG ?_|refine zH ?_|refine zI ?_|refine zJ ?_|refine zK ?_|refine zL ?_|refine zM rfl ?_|refine zN ?_|refine zO ?_|refine zP ?_|refine zQ ?_)
  refine Zgb ?_
  first|refine Zhg (Zl5 (n := 0) rfl rfl) ?_|refine Zhg (Zl3 (n := 0) rfl rfl) ?_
  refine Zhp rfl (by repeat constructor) rfl ?_
  first|refine Zhg (Zl8 rfl) ?_|refine Zhg (Zce rfl) ?_
  first|refine Zhg (Zl5 (n := 0) rfl rfl) ?_|refine Zhg (Zl3 (n := 0) rfl rfl) ?_
  refine Zhp rfl (by repeat constructor) (pc_s0 _) ?_
  refine Zhg (Zh9 rfl (ext_add64 _ _ 0#64 (by decide)) rfl) ?_
  first|refine Zhg (Zmm rfl) ?_|refine Zhg (Zar rfl) ?_
  refine Zhg (Zco rfl rfl) ?_
  refine Zhg (Zco rfl rfl) ?_
  first|refine Zhg (Zl5 (n := 0) rfl rfl) ?_|refine Zhg (Zl3 (n := 0) rfl rfl) ?_
  refine Zht rfl rfl (by repeat constructor) (by first|rfl|omega|(rw [szL]; omega)|exact Nat.le_of_ble_eq_true rfl|(simp; done)|(simp; omega)) rfl ?_
  first|refine Zhg (Zaz rfl) ?_|refine Zhg (Zas rfl) ?_
  refine Zg3 ?_
  repeat (first|refine zA ?_|refine zB ?_|refine zC ?_|refine zD ?_|refine zE ?_|refine zF ?_|refine zG ?_|refine zH ?_|refine zI ?_|refine zJ ?_|refine zK ?_|refine zL ?_|refine zM rfl ?_|refine zN ?_|refine zO ?_|refine zP ?_|refine zQ ?_)
  refine Zgb ?_
  first|refine Zhg (Zl5 (n := 1) rfl rfl) ?_|refine Zhg (Zl3 (n := 1) rfl rfl) ?_
  refine Zhp rfl (by repeat constructor) rfl ?_
  first|refine Zhg (Zl8 rfl) ?_|refine Zhg (Zce rfl) ?_
  first|refine Zhg (Zl5 (n := 1) rfl rfl) ?_|refine Zhg (Zl3 (n := 1) rfl rfl) ?_
  refine Zhp rfl (by repeat constructor) (pc_s1 _) ?_
  first|refine Zhg (Zat rfl) ?_|refine Zhg (Zar rfl) ?_
  refine Zhg (Zh9 rfl (ext_add64 _ _ _ (carry_le _ _ _ (by decide))) rfl) ?_
  first|refine Zhg (Zmm rfl) ?_|refine Zhg (Zar rfl) ?_
  refine Zhg (Zco rfl rfl) ?_
  refine Zhg (Zco rfl rfl) ?_
  first|refine Zhg (Zl5 (n := 1) rfl rfl) ?_|refine Zhg (Zl3 (n := 1) rfl rfl) ?_
  refine Zht rfl rfl (by repeat constructor) (by first|rfl|omega|(rw [szL]; omega)|exact Nat.le_of_ble_eq_true rfl|(simp; done)|(simp; omega)) rfl ?_
  refine Zg3 ?_
  repeat (first|refine zA ?_|refine zB ?_|refine zC ?_|refine zD ?_|refine zE ?_|refine zF ?_|refine zG ?_|refine zH ?_|refine zI ?_|refine zJ ?_|refine zK ?_|refine zL ?_|refine zM rfl ?_|refine zN ?_|refine zO ?_|refine zP ?_|refine zQ ?_)
  refine Zgb ?_
  refine Zhz (cs := ((List.replicate 16 0#8).map u8b).toArray) rfl ?_; intro b11
  refine Zg3 ?_
  repeat (first|refine zA ?_|refine zB ?_|refine zC ?_|refine zD ?_|refine zE ?_|refine zF ?_|refine zG ?_|refine zH ?_|refine zI ?_|refine zJ ?_|refine zK ?_|refine zL ?_|refine zM rfl ?_|refine zN ?_|refine zO ?_|refine zP ?_|refine zQ ?_)
  refine Zgb ?_
  first|refine Zhg (Zat rfl) ?_|refine Zhg (Zar rfl) ?_
  refine Zg3 ?_
  repeat (first|refine zA ?_|refine zB ?_|refine zC ?_|refine zD ?_|refine zE ?_|refine zF ?_|refine zG ?_|refine zH ?_|refine zI ?_|refine zJ ?_|refine zK ?_|refine zL ?_|refine zM rfl ?_|refine zN ?_|refine zO ?_|refine zP ?_|refine zQ ?_)
  refine Zgo [(12, 12), (96, 110)] (by kernel_rfl) (fun i : Nat => i ≤ 16)
    (fun i => [cl b11 ((upto (outB (outW (finS t).h (finS t).s)) i).map u8b).toArray 28, cl b5 (hA ((outW (finS t).h (finS t).s).1, (outW (finS t).h (finS t).s).2, (finS t).h.2.2)) 72, cl b2 ((List.replicate 16 0#8).map u8b).toArray 28, cl p (pc t) 74])
    (fun i => [(96, .int .i64 (i : Int))]) (fun i => 16 - i) 0 (by omega) (by rw [upto_zero]; exact Imp.arr (by repeat (first|exact Arr.nil|exact Arr.stop|refine Arr.cons (by repeat constructor) ?_|refine Arr.skip ?_))) ⟨rfl, trivial⟩ ?_
  intro i u hi
  try dsimp only at hi
  try dsimp only
  generalize hO : outW (finS t).h (finS t).s = O
  have hul : (upto (outB O) i).length = 16 := by simp [upto]
  repeat (first|refine zA ?_|refine zB ?_|refine zC ?_|refine zD ?_|refine zE ?_|refine zF ?_|refine zG ?_|refine zH ?_|refine zI ?_|refine zJ ?_|refine zK ?_|refine zL ?_|refine zM rfl ?_|refine zN ?_|refine zO ?_|refine zP ?_|refine zQ ?_)
  refine Zgb ?_
  first|refine Zhg (Zmf (b := 16) rfl rfl) ?_|refine Zhg (Zbn rfl rfl) ?_
  refine Zg3 ?_
  repeat (first|refine zA ?_|refine zB ?_|refine zC ?_|refine zD ?_|refine zE ?_|refine zF ?_|refine zG ?_|refine zH ?_|refine zI ?_|refine zJ ?_|refine zK ?_|refine zL ?_|refine zM rfl ?_|refine zN ?_|refine zO ?_|refine zP ?_|refine zQ ?_)
  refine Zgg rfl (fun hB => ?_) (fun hB => ?_)
  · have hld : (hA (O.1, O.2, (finS t).h.2.2))[i / 8]? = some (u64b (if i / 8 = 0 then O.1 else O.2)) := by
      have : i / 8 = 0 ∨ i / 8 = 1 := by omega
      rcases this with h|h <;> rw [h] <;> rfl
    repeat (first|refine zA ?_|refine zB ?_|refine zC ?_|refine zD ?_|refine zE ?_|refine zF ?_|refine zG ?_|refine zH ?_|refine zI ?_|refine zJ ?_|refine zK ?_|refine zL ?_|refine zM rfl ?_|refine zN ?_|refine zO ?_|refine zP ?_|refine zQ ?_)
    refine Zgb ?_
    first|refine Zhg (Zat rfl) ?_|refine Zhg (Zar rfl) ?_
    first|refine Zhg (Zaz rfl) ?_|refine Zhg (Zas rfl) ?_
    refine Zg3 ?_
    repeat (first|refine zA ?_|refine zB ?_|refine zC ?_|refine zD ?_|refine zE ?_|refine zF ?_|refine zG ?_|refine zH ?_|refine zI ?_|refine zJ ?_|refine zK ?_|refine zL ?_|refine zM rfl ?_|refine zN ?_|refine zO ?_|refine zP ?_|refine zQ ?_)
    refine Zgb ?_
    first|refine Zhg (Zat rfl) ?_|refine Zhg (Zar rfl) ?_
    first|refine Zhg (Zat rfl) ?_|refine Zhg (Zar rfl) ?_
    first|refine Zhg (Zmd (b := 8) rfl rfl) ?_|refine Zhg (Zbj rfl rfl) ?_
    first|refine Zhg (Zl5 rfl rfl) ?_|refine Zhg (Zl3 rfl rfl) ?_
    refine Zhp rfl (by repeat constructor) (hld) ?_
    first|refine Zhg (Zat rfl) ?_|refine Zhg (Zar rfl) ?_
    first|refine Zhg (Zme (b := 8) rfl rfl) ?_|refine Zhg (Zbl rfl rfl) ?_
    first|refine Zhg (Zmc (a := 8) rfl rfl) ?_|refine Zhg (Zbi rfl rfl) ?_
    refine Zhg (Zlk rfl rfl) ?_
    refine Zhg (Zlx rfl) ?_
    first|refine Zhg (Zl5 rfl rfl) ?_|refine Zhg (Zl3 rfl rfl) ?_
    refine Zht rfl rfl (by repeat constructor) (by first|rfl|omega|(rw [szL]; omega)|exact Nat.le_of_ble_eq_true rfl|(simp; done)|(simp; omega)) (setL (f := u8b) (l := upto (outB O) i)) ?_
    refine Zg3 ?_
    repeat (first|refine zA ?_|refine zB ?_|refine zC ?_|refine zD ?_|refine zE ?_|refine zF ?_|refine zG ?_|refine zH ?_|refine zI ?_|refine zJ ?_|refine zK ?_|refine zL ?_|refine zM rfl ?_|refine zN ?_|refine zO ?_|refine zP ?_|refine zQ ?_)
    refine Zgb ?_
    first|refine Zhg (Zma (b := 1) rfl rfl) ?_|refine Zhg (Zbg rfl rfl) ?_
    first|refine Zhg (Zat rfl) ?_|refine Zhg (Zar rfl) ?_
    refine Zg3 ?_
    repeat (first|refine zA ?_|refine zB ?_|refine zC ?_|refine zD ?_|refine zE ?_|refine zF ?_|refine zG ?_|refine zH ?_|refine zI ?_|refine zJ ?_|refine zK ?_|refine zL ?_|refine zM rfl ?_|refine zN ?_|refine zO ?_|refine zP ?_|refine zQ ?_)
    refine Zgl (i + 1) (by first|omega|(dsimp only; omega)|(simp only []; omega)) (by first|omega|(dsimp only; omega)|(simp only []; omega)) ?_ ⟨rfl, trivial⟩
    try dsimp only
    rw [← upto_set]
    exact Imp.arr (by repeat (first|exact Arr.nil|exact Arr.stop|refine Arr.cons (by repeat constructor) ?_|refine Arr.skip ?_))
  · have hi16 : i = 16 := by omega
    subst hi16
    rw [upto_end]
    repeat (first|refine zA ?_|refine zB ?_|refine zC ?_|refine zD ?_|refine zE ?_|refine zF ?_|refine zG ?_|refine zH ?_|refine zI ?_|refine zJ ?_|refine zK ?_|refine zL ?_|refine zM rfl ?_|refine zN ?_|refine zO ?_|refine zP ?_|refine zQ ?_)
    refine Zgb ?_
    first|refine Zhr rfl (by repeat constructor) (by first|rfl|omega|(rw [szL]; omega)|exact Nat.le_of_ble_eq_true rfl|(simp; done)|(simp; omega)) ?_|refine Zhq rfl (by repeat constructor) (by first|rfl|omega|(rw [szL]; omega)|exact Nat.le_of_ble_eq_true rfl|(simp; done)|(simp; omega)) rfl ?_
    first|refine Zhy rfl rfl (by repeat constructor) (by first|rfl|omega|(rw [szL]; omega)|exact Nat.le_of_ble_eq_true rfl|(simp; done)|(simp; omega)) (by first|rfl|exact oneM_u8 _|exact oneL_u8 _|exact pc_one _|(simp [oneC]; done)) (by first|rfl|omega|(rw [szL]; omega)|exact Nat.le_of_ble_eq_true rfl|(simp; done)|(simp; omega)) ?_|refine Zhx rfl rfl (by repeat constructor) (by first|rfl|omega|(rw [szL]; omega)|exact Nat.le_of_ble_eq_true rfl|(simp; done)|(simp; omega)) (by first|rfl|exact oneM_u8 _|exact oneL_u8 _|exact pc_one _|(simp [oneC]; done)) (by first|rfl|omega|(rw [szL]; omega)|exact Nat.le_of_ble_eq_true rfl|(simp; done)|(simp; omega)) rfl ?_
    refine Zg3 ?_
    repeat (first|refine zA ?_|refine zB ?_|refine zC ?_|refine zD ?_|refine zE ?_|refine zF ?_|refine zG ?_|refine zH ?_|refine zI ?_|refine zJ ?_|refine zK ?_|refine zL ?_|refine zM rfl ?_|refine zN ?_|refine zO ?_|refine zP ?_|refine zQ ?_)
    refine rx1 (Zhe rfl (by repeat constructor) (by first|rfl|omega|(rw [szL]; omega)|exact Nat.le_of_ble_eq_true rfl|(simp; done)|(simp; omega)) (Zg7)) ?_
    rw [← hO]
    exact ⟨_, ⟨rfl, rfl⟩, by exact Imp.arr (by repeat (first|exact Arr.nil|exact Arr.stop|refine Arr.cons (by repeat constructor) ?_|refine Arr.skip ?_))⟩
theorem tsum_c {L : List Asrt} (key : List Byte) (hk : key.length = 32) {ps : List (Value × List Byte)} {pv : Value} (h : Rs L pv ps) (hpl : ps.length < 9223372036854775807) :
    Con Try.prog 13 [.agg (key.map u8b).toArray, pv] L (fun v M => v = .agg ((code key (joinB ps)).map u8b).toArray ∧ L = M) := by
  refine Con.get (fun w0 w F H => h.sh _ _ _ H) ?_
  rintro ⟨a, c, rfl, hac, hacm⟩
  refine fn_x Try.func13 rfl rfl rfl Try.mixed (by kernel_rfl) ?_
  intro w0
  repeat (first|refine zA ?_|refine zB ?_|refine zC ?_|refine zD ?_|refine zE ?_|refine zF ?_|refine zG ?_|refine zH ?_|refine zI ?_|refine zJ ?_|refine zK ?_|refine zL ?_|refine zM rfl ?_|refine zN ?_|refine zO ?_|refine zP ?_|refine zQ ?_)
  refine Zgb ?_
  refine Zh5 rfl ?_; intro b2
  refine Zhz (cs := ((List.replicate 16 0#8).map u8b).toArray) rfl ?_; intro b4
  refine Zg3 ?_
  repeat (first|refine zA ?_|refine zB ?_|refine zC ?_|refine zD ?_|refine zE ?_|refine zF ?_|refine zG ?_|refine zH ?_|refine zI ?_|refine zJ ?_|refine zK ?_|refine zL ?_|refine zM rfl ?_|refine zN ?_|refine zO ?_|refine zP ?_|refine zQ ?_)
  refine Zgb ?_
  first|refine Zhr rfl (by repeat constructor) (by first|rfl|omega|(rw [szL]; omega)|exact Nat.le_of_ble_eq_true rfl|(simp; done)|(simp; omega)) ?_|refine Zhq rfl (by repeat constructor) (by first|rfl|omega|(rw [szL]; omega)|exact Nat.le_of_ble_eq_true rfl|(simp; done)|(simp; omega)) rfl ?_
  refine Zh8 rfl (by kernel_rfl) (new_c key hk) rfl (by repeat (first|exact Take.nil|exact Take.all|(apply Take.cons; (next => (repeat constructor); done))|apply Take.skip)) ?_
  rintro _ _ ⟨p, rfl, rfl⟩
  refine Zg2 (by repeat (first|exact App.nil|apply App.cons|(apply App.flip; first|exact App.nil|apply App.cons)|exact App.any)) ?_
  first|refine Zhg (Za1 rfl) ?_|refine Zhg (Zas rfl) ?_
  refine Zg3 ?_
  repeat (first|refine zA ?_|refine zB ?_|refine zC ?_|refine zD ?_|refine zE ?_|refine zF ?_|refine zG ?_|refine zH ?_|refine zI ?_|refine zJ ?_|refine zK ?_|refine zL ?_|refine zM rfl ?_|refine zN ?_|refine zO ?_|refine zP ?_|refine zQ ?_)
  refine Zgb ?_
  first|refine Zhg (Zaw rfl) ?_|refine Zhg (Zar rfl) ?_
  first|refine Zhg (Zcr rfl) ?_|refine Zhg (Zct) ?_|refine Zhg (Zcu rfl) ?_
  first|refine Zhg (Zat rfl) ?_|refine Zhg (Zar rfl) ?_
  refine Zg3 ?_
  repeat (first|refine zA ?_|refine zB ?_|refine zC ?_|refine zD ?_|refine zE ?_|refine zF ?_|refine zG ?_|refine zH ?_|refine zI ?_|refine zJ ?_|refine zK ?_|refine zL ?_|refine zM rfl ?_|refine zN ?_|refine zO ?_|refine zP ?_|refine zQ ?_)
  refine Zgo [(7, 7), (12, 19)] (by kernel_rfl) (fun i : Nat => i ≤ ps.length)
    (fun i => cl p (pc (writeS (newS key) (joinB (ps.take i)))) 74 :: cl b4 ((List.replicate 16 0#8).map u8b).toArray 28 :: L)
    (fun i => [(12, .int .i64 (i : Int))]) (fun i => ps.length - i) 0 (by omega) (by rw [List.take_zero]; show Imp _ (cl p (pc (writeS (newS key) [])) _ :: _); rw [writeS_nil]; exact Imp.arr (by repeat (first|exact Arr.nil|exact Arr.stop|refine Arr.cons (by repeat constructor) ?_|refine Arr.skip ?_))) ⟨rfl, trivial⟩ ?_
  intro i u hi
  repeat (first|refine zA ?_|refine zB ?_|refine zC ?_|refine zD ?_|refine zE ?_|refine zF ?_|refine zG ?_|refine zH ?_|refine zI ?_|refine zJ ?_|refine zK ?_|refine zL ?_|refine zM rfl ?_|refine zN ?_|refine zO ?_|refine zP ?_|refine zQ ?_)
  refine Zgb ?_
  first|refine Zhg (Zmf rfl rfl) ?_|refine Zhg (Zbn rfl rfl) ?_
  refine Zg3 ?_
  repeat (first|refine zA ?_|refine zB ?_|refine zC ?_|refine zD ?_|refine zE ?_|refine zF ?_|refine zG ?_|refine zH ?_|refine zI ?_|refine zJ ?_|refine zK ?_|refine zL ?_|refine zM rfl ?_|refine zN ?_|refine zO ?_|refine zP ?_|refine zQ ?_)
  refine Zgg rfl (fun hB => ?_) (fun hB => ?_)
  · have hel := h.el _ (List.getElem_mem hB)
    refine Zgt (fun F w H => (hel.imp (by exact Imp.arr (by repeat (first|exact Arr.nil|exact Arr.stop|refine Arr.cons (by repeat constructor) ?_|refine Arr.skip ?_)))).sh _ _ _ H) ?_
    rintro ⟨sa, sc, hsv, hsl, hsc⟩
    refine Zgt (fun F w H => (h.rd.imp (by exact Imp.arr (by repeat (first|exact Arr.nil|exact Arr.stop|refine Arr.cons (by repeat constructor) ?_|refine Arr.skip ?_)))).someAt (by omega) H) ?_
    rintro ⟨db, d0, rfl⟩
    repeat (first|refine zA ?_|refine zB ?_|refine zC ?_|refine zD ?_|refine zE ?_|refine zF ?_|refine zG ?_|refine zH ?_|refine zI ?_|refine zJ ?_|refine zK ?_|refine zL ?_|refine zM rfl ?_|refine zN ?_|refine zO ?_|refine zP ?_|refine zQ ?_)
    refine Zgb ?_
    first|refine Zhg (Zl4 rfl rfl) ?_|refine Zhg (Zl1 rfl rfl) ?_
    refine Zic (j := i) rfl (h.rd.imp (by exact Imp.arr (by repeat (first|exact Arr.nil|exact Arr.stop|refine Arr.cons (by repeat constructor) ?_|refine Arr.skip ?_)))) hB (v := .slice sa ps[i].2.length sc) (by simp [hB, hsv]) ?_
    first|refine Zhg (Za2 rfl) ?_|refine Zhg (Zas rfl) ?_
    refine Zg3 ?_
    repeat (first|refine zA ?_|refine zB ?_|refine zC ?_|refine zD ?_|refine zE ?_|refine zF ?_|refine zG ?_|refine zH ?_|refine zI ?_|refine zJ ?_|refine zK ?_|refine zL ?_|refine zM rfl ?_|refine zN ?_|refine zO ?_|refine zP ?_|refine zQ ?_)
    refine Zgb ?_
    first|refine Zhg (Zav rfl) ?_|refine Zhg (Zar rfl) ?_
    first|refine Zhg (Zaw rfl) ?_|refine Zhg (Zar rfl) ?_
    refine Zh8 rfl (by kernel_rfl) (write_c (L := L) _ (writeS_ok (newS_ok key)) ps[i].2 sa sc hsl hsc (by rw [← hsv]; exact hel.rd)) rfl (by repeat (first|exact Take.nil|exact Take.all|(apply Take.cons; (next => (repeat constructor); done))|apply Take.skip)) ?_
    rintro _ _ ⟨rfl, rfl⟩
    refine Zg2 (by repeat (first|exact App.nil|apply App.cons|(apply App.flip; first|exact App.nil|apply App.cons)|exact App.any)) ?_
    refine Zg3 ?_
    repeat (first|refine zA ?_|refine zB ?_|refine zC ?_|refine zD ?_|refine zE ?_|refine zF ?_|refine zG ?_|refine zH ?_|refine zI ?_|refine zJ ?_|refine zK ?_|refine zL ?_|refine zM rfl ?_|refine zN ?_|refine zO ?_|refine zP ?_|refine zQ ?_)
    refine Zgb ?_
    first|refine Zhg (Zma (b := 1) rfl rfl) ?_|refine Zhg (Zbg rfl rfl) ?_
    first|refine Zhg (Zat rfl) ?_|refine Zhg (Zar rfl) ?_
    refine Zg3 ?_
    repeat (first|refine zA ?_|refine zB ?_|refine zC ?_|refine zD ?_|refine zE ?_|refine zF ?_|refine zG ?_|refine zH ?_|refine zI ?_|refine zJ ?_|refine zK ?_|refine zL ?_|refine zM rfl ?_|refine zN ?_|refine zO ?_|refine zP ?_|refine zQ ?_)
    refine Zgl (i + 1) (by first|omega|(dsimp only; omega)|(simp only []; omega)) (by first|omega|(dsimp only; omega)|(simp only []; omega)) ?_ ⟨rfl, trivial⟩
    rw [joinB_succ ps i hB, writeS_append]
    exact Imp.arr (by repeat (first|exact Arr.nil|exact Arr.stop|refine Arr.cons (by repeat constructor) ?_|refine Arr.skip ?_))
  · have hie : i = ps.length := by omega
    subst hie
    rw [List.take_length]
    repeat (first|refine zA ?_|refine zB ?_|refine zC ?_|refine zD ?_|refine zE ?_|refine zF ?_|refine zG ?_|refine zH ?_|refine zI ?_|refine zJ ?_|refine zK ?_|refine zL ?_|refine zM rfl ?_|refine zN ?_|refine zO ?_|refine zP ?_|refine zQ ?_)
    refine Zgb ?_
    first|refine Zhg (Zav rfl) ?_|refine Zhg (Zar rfl) ?_
    refine Zh8 rfl (by kernel_rfl) (sum_c _ (writeS_ok (newS_ok key))) rfl (by repeat (first|exact Take.nil|exact Take.all|(apply Take.cons; (next => (repeat constructor); done))|apply Take.skip)) ?_
    rintro _ _ ⟨rfl, rfl⟩
    refine Zg2 (by repeat (first|exact App.nil|apply App.cons|(apply App.flip; first|exact App.nil|apply App.cons)|exact App.any)) ?_
    first|refine Zhy rfl rfl (by repeat constructor) (by first|rfl|omega|(rw [szL]; omega)|exact Nat.le_of_ble_eq_true rfl|(simp; done)|(simp; omega)) (by first|rfl|exact oneM_u8 _|exact oneL_u8 _|exact pc_one _|(simp [oneC]; done)) (by first|rfl|omega|(rw [szL]; omega)|exact Nat.le_of_ble_eq_true rfl|(simp; done)|(simp; omega)) ?_|refine Zhx rfl rfl (by repeat constructor) (by first|rfl|omega|(rw [szL]; omega)|exact Nat.le_of_ble_eq_true rfl|(simp; done)|(simp; omega)) (by first|rfl|exact oneM_u8 _|exact oneL_u8 _|exact pc_one _|(simp [oneC]; done)) (by first|rfl|omega|(rw [szL]; omega)|exact Nat.le_of_ble_eq_true rfl|(simp; done)|(simp; omega)) rfl ?_
    refine Zg3 ?_
    repeat (first|refine zA ?_|refine zB ?_|refine zC ?_|refine zD ?_|refine zE ?_|refine zF ?_|refine zG ?_|refine zH ?_|refine zI ?_|refine zJ ?_|refine zK ?_|refine zL ?_|refine zM rfl ?_|refine zN ?_|refine zO ?_|refine zP ?_|refine zQ ?_)
    refine rx1 (Zhe rfl (by repeat constructor) (by first|rfl|omega|(rw [szL]; omega)|exact Nat.le_of_ble_eq_true rfl|(simp; done)|(simp; omega)) (Zg7)) ?_
    exact ⟨_, ⟨rfl, rfl⟩, by exact Imp.arr (by repeat (first|exact Arr.nil|exact Arr.stop|refine Arr.cons (by repeat constructor) ?_|refine Arr.skip ?_))⟩
def offB (a b : List Byte) (i : Nat) : Byte := ((List.range i).map fun j => a.getD j 0#8 ^^^ b.getD j 0#8).foldl (· ||| ·) 0#8
theorem offB_succ (a b : List Byte) (i : Nat) : offB a b (i + 1) = offB a b i ||| (a.getD i 0#8 ^^^ b.getD i 0#8) := by
  simp [offB, List.range_succ]
theorem or_zero {x y : Byte} : x ||| y = 0#8 ↔ x = 0#8 ∧ y = 0#8 := by
  constructor
  · intro h
    constructor
    · apply BitVec.eq_of_getLsbD_eq
      intro i hi
      have := congrArg (fun z => z.getLsbD i) h
      simp at this ⊢
      exact this.1
    · apply BitVec.eq_of_getLsbD_eq
      intro i hi
      have := congrArg (fun z => z.getLsbD i) h
      simp at this ⊢
      exact this.2
  · rintro ⟨rfl, rfl⟩; rfl
theorem xor_zero {x y : Byte} : x ^^^ y = 0#8 ↔ x = y := by
  constructor
  · intro h
    have : (x ^^^ y) ^^^ y = 0#8 ^^^ y := by rw [h]
    simpa [BitVec.xor_assoc] using this
  · rintro rfl; simp
theorem offB_zero (a b : List Byte) : ∀ i, offB a b i = 0#8 ↔ ∀ j, j < i → a.getD j 0#8 = b.getD j 0#8
  | 0 => by simp [offB]
  | i + 1 => by
    rw [offB_succ, or_zero, offB_zero a b i, xor_zero]
    constructor
    · rintro ⟨h, h2⟩ j hj
      rcases Nat.lt_succ_iff_lt_or_eq.1 hj with h3|rfl
      · exact h j h3
      · exact h2
    · exact fun h => ⟨fun j hj => h j (by omega), h i (by omega)⟩
theorem offB_eq {a b : List Byte} (ha : a.length = 16) (hb : b.length = 16) : offB a b 16 = 0#8 ↔ a = b := by
  rw [offB_zero]
  constructor
  · intro h
    apply List.ext_getElem (by omega)
    intro j h1 h2
    have := h j (by omega)
    simpa [List.getD_eq_getElem?_getD, h1, h2] using this
  · rintro rfl j _; rfl
theorem check_c {L : List Asrt} (key : List Byte) (hk : key.length = 32) (tg : List Byte) (ht : tg.length = 16) {ps : List (Value × List Byte)} {pv : Value} (h : Rs L pv ps) (hpl : ps.length < 9223372036854775807) :
    Con Try.prog 18 [.agg (key.map u8b).toArray, .agg (tg.map u8b).toArray, pv] L (fun v M => v = .bool (decide (code key (joinB ps) = tg)) ∧ L = M) := by
  refine Con.get (fun w0 w F H => h.sh _ _ _ H) ?_
  rintro ⟨a, c, rfl, hac, hacm⟩
  obtain ⟨cd, hcd⟩ : ∃ cd, cd = code key (joinB ps) := ⟨_, rfl⟩
  have hcl : cd.length = 16 := by rw [hcd]; exact code_len _ _
  rw [← hcd]
  refine fn_x Try.func18 rfl rfl rfl Try.mixed (by kernel_rfl) ?_
  intro w0
  repeat (first|refine zA ?_|refine zB ?_|refine zC ?_|refine zD ?_|refine zE ?_|refine zF ?_|refine zG ?_|refine zH ?_|refine zI ?_|refine zJ ?_|refine zK ?_|refine zL ?_|refine zM rfl ?_|refine zN ?_|refine zO ?_|refine zP ?_|refine zQ ?_)
  refine Zgb ?_
  refine Zh5 rfl ?_; intro b3
  refine Zh5 rfl ?_; intro b4
  first|refine Zhg (Za0 rfl) ?_|refine Zhg (Zas rfl) ?_
  refine Zg3 ?_
  repeat (first|refine zA ?_|refine zB ?_|refine zC ?_|refine zD ?_|refine zE ?_|refine zF ?_|refine zG ?_|refine zH ?_|refine zI ?_|refine zJ ?_|refine zK ?_|refine zL ?_|refine zM rfl ?_|refine zN ?_|refine zO ?_|refine zP ?_|refine zQ ?_)
  refine Zgb ?_
  first|refine Zhr rfl (by repeat constructor) (by first|rfl|omega|(rw [szL]; omega)|exact Nat.le_of_ble_eq_true rfl|(simp; done)|(simp; omega)) ?_|refine Zhq rfl (by repeat constructor) (by first|rfl|omega|(rw [szL]; omega)|exact Nat.le_of_ble_eq_true rfl|(simp; done)|(simp; omega)) rfl ?_
  first|refine Zhg (Zaw rfl) ?_|refine Zhg (Zar rfl) ?_
  refine Zh8 rfl (by kernel_rfl) (hcd ▸ tsum_c (L := L) key hk h hpl) rfl (by repeat (first|exact Take.nil|exact Take.all|(apply Take.cons; (next => (repeat constructor); done))|apply Take.skip)) ?_
  rintro _ _ ⟨rfl, rfl⟩
  refine Zg2 (by repeat (first|exact App.nil|apply App.cons|(apply App.flip; first|exact App.nil|apply App.cons)|exact App.any)) ?_
  refine Zhz (cs := ((List.replicate 16 0#8).map u8b).toArray) rfl ?_; intro b7
  first|refine Zhy rfl rfl (by repeat constructor) (by first|rfl|omega|(rw [szL]; omega)|exact Nat.le_of_ble_eq_true rfl|(simp; done)|(simp; omega)) (by first|rfl|exact oneM_u8 _|exact oneL_u8 _|exact pc_one _|(simp [oneC]; done)) (by first|rfl|omega|(rw [szL]; omega)|exact Nat.le_of_ble_eq_true rfl|(simp; done)|(simp; omega)) ?_|refine Zhx rfl rfl (by repeat constructor) (by first|rfl|omega|(rw [szL]; omega)|exact Nat.le_of_ble_eq_true rfl|(simp; done)|(simp; omega)) (by first|rfl|exact oneM_u8 _|exact oneL_u8 _|exact pc_one _|(simp [oneC]; done)) (by first|rfl|omega|(rw [szL]; omega)|exact Nat.le_of_ble_eq_true rfl|(simp; done)|(simp; omega)) rfl ?_
  refine Zg3 ?_
  repeat (first|refine zA ?_|refine zB ?_|refine zC ?_|refine zD ?_|refine zE ?_|refine zF ?_|refine zG ?_|refine zH ?_|refine zI ?_|refine zJ ?_|refine zK ?_|refine zL ?_|refine zM rfl ?_|refine zN ?_|refine zO ?_|refine zP ?_|refine zQ ?_)
  refine Zgb ?_
  first|refine Zhg (Zaz rfl) ?_|refine Zhg (Zas rfl) ?_
  refine Zg3 ?_
  repeat (first|refine zA ?_|refine zB ?_|refine zC ?_|refine zD ?_|refine zE ?_|refine zF ?_|refine zG ?_|refine zH ?_|refine zI ?_|refine zJ ?_|refine zK ?_|refine zL ?_|refine zM rfl ?_|refine zN ?_|refine zO ?_|refine zP ?_|refine zQ ?_)
  refine Zgb ?_
  first|refine Zhg (Zat rfl) ?_|refine Zhg (Zar rfl) ?_
  refine Zg3 ?_
  repeat (first|refine zA ?_|refine zB ?_|refine zC ?_|refine zD ?_|refine zE ?_|refine zF ?_|refine zG ?_|refine zH ?_|refine zI ?_|refine zJ ?_|refine zK ?_|refine zL ?_|refine zM rfl ?_|refine zN ?_|refine zO ?_|refine zP ?_|refine zQ ?_)
  refine Zgo [(8, 9), (13, 25)] (by kernel_rfl) (fun i : Nat => i ≤ 16) (fun i => cl b7 (cd.map u8b).toArray 28 :: cl b4 (tg.map u8b).toArray 28 :: L)
    (fun i => [(13, .int .i64 (i : Int)), (8, u8b (offB cd tg i))]) (fun i => 16 - i) 0 (by omega) (by exact Imp.arr (by repeat (first|exact Arr.nil|exact Arr.stop|refine Arr.cons (by repeat constructor) ?_|refine Arr.skip ?_))) ⟨rfl, rfl, trivial⟩ ?_
  intro i u hi
  repeat (first|refine zA ?_|refine zB ?_|refine zC ?_|refine zD ?_|refine zE ?_|refine zF ?_|refine zG ?_|refine zH ?_|refine zI ?_|refine zJ ?_|refine zK ?_|refine zL ?_|refine zM rfl ?_|refine zN ?_|refine zO ?_|refine zP ?_|refine zQ ?_)
  refine Zgb ?_
  first|refine Zhg (Zmf (b := 16) rfl rfl) ?_|refine Zhg (Zbn rfl rfl) ?_
  refine Zg3 ?_
  repeat (first|refine zA ?_|refine zB ?_|refine zC ?_|refine zD ?_|refine zE ?_|refine zF ?_|refine zG ?_|refine zH ?_|refine zI ?_|refine zJ ?_|refine zK ?_|refine zL ?_|refine zM rfl ?_|refine zN ?_|refine zO ?_|refine zP ?_|refine zQ ?_)
  refine Zgg rfl (fun hB => ?_) (fun hB => ?_)
  · repeat (first|refine zA ?_|refine zB ?_|refine zC ?_|refine zD ?_|refine zE ?_|refine zF ?_|refine zG ?_|refine zH ?_|refine zI ?_|refine zJ ?_|refine zK ?_|refine zL ?_|refine zM rfl ?_|refine zN ?_|refine zO ?_|refine zP ?_|refine zQ ?_)
    refine Zgb ?_
    first|refine Zhg (Zat rfl) ?_|refine Zhg (Zar rfl) ?_
    first|refine Zhg (Zaz rfl) ?_|refine Zhg (Zas rfl) ?_
    refine Zg3 ?_
    repeat (first|refine zA ?_|refine zB ?_|refine zC ?_|refine zD ?_|refine zE ?_|refine zF ?_|refine zG ?_|refine zH ?_|refine zI ?_|refine zJ ?_|refine zK ?_|refine zL ?_|refine zM rfl ?_|refine zN ?_|refine zO ?_|refine zP ?_|refine zQ ?_)
    refine Zij (_) [0, 1, 2, 3, 4, 5, 6, 7] (.r 0 (.r 1 (.r 2 (.r 3 (.r 4 (.r 5 (.r 6 (.r 7 (.q 8 (.q 9 .nil)))))))))) (by kernel_rfl) (by kernel_rfl) (Imp.refl _) ?_
    first|refine Ziz rfl (Zat rfl) ?_|refine Ziz rfl (Zar rfl) ?_
    first|refine Ziz rfl (Zat rfl) ?_|refine Ziz rfl (Zar rfl) ?_
    first|refine Ziz rfl (Zl5 rfl rfl) ?_|refine Ziz rfl (Zl3 rfl rfl) ?_
    refine Ziv rfl rfl (by repeat constructor) (getL (f := u8b) (l := cd) (by omega)) ?_
    first|refine Ziz rfl (Zat rfl) ?_|refine Ziz rfl (Zar rfl) ?_
    first|refine Ziz rfl (Zl5 rfl rfl) ?_|refine Ziz rfl (Zl3 rfl rfl) ?_
    refine Ziv rfl rfl (by repeat constructor) (getL (f := u8b) (l := tg) (by omega)) ?_
    refine Ziz rfl (Zje rfl rfl) ?_
    refine Zim rfl (Zjd rfl rfl) ?_
    first|refine Zim rfl (Zaz rfl) ?_|refine Zim rfl (Zas rfl) ?_
    refine Zik ?_
    repeat (first|refine zA ?_|refine zB ?_|refine zC ?_|refine zD ?_|refine zE ?_|refine zF ?_|refine zG ?_|refine zH ?_|refine zI ?_|refine zJ ?_|refine zK ?_|refine zL ?_|refine zM rfl ?_|refine zN ?_|refine zO ?_|refine zP ?_|refine zQ ?_)
    refine Zgb ?_
    first|refine Zhg (Zma (b := 1) rfl rfl) ?_|refine Zhg (Zbg rfl rfl) ?_
    first|refine Zhg (Zat rfl) ?_|refine Zhg (Zar rfl) ?_
    refine Zg3 ?_
    repeat (first|refine zA ?_|refine zB ?_|refine zC ?_|refine zD ?_|refine zE ?_|refine zF ?_|refine zG ?_|refine zH ?_|refine zI ?_|refine zJ ?_|refine zK ?_|refine zL ?_|refine zM rfl ?_|refine zN ?_|refine zO ?_|refine zP ?_|refine zQ ?_)
    refine Zgl (i + 1) (by first|omega|(dsimp only; omega)|(simp only []; omega)) (by first|omega|(dsimp only; omega)|(simp only []; omega)) (by exact Imp.arr (by repeat (first|exact Arr.nil|exact Arr.stop|refine Arr.cons (by repeat constructor) ?_|refine Arr.skip ?_))) ⟨rfl, ?_, trivial⟩
    rw [offB_succ, List.getD_eq_getElem?_getD, List.getD_eq_getElem?_getD, List.getElem?_eq_getElem (show i < cd.length by omega), List.getElem?_eq_getElem (show i < tg.length by omega)]
    rfl
  · have hi16 : i = 16 := by omega
    subst hi16
    repeat (first|refine zA ?_|refine zB ?_|refine zC ?_|refine zD ?_|refine zE ?_|refine zF ?_|refine zG ?_|refine zH ?_|refine zI ?_|refine zJ ?_|refine zK ?_|refine zL ?_|refine zM rfl ?_|refine zN ?_|refine zO ?_|refine zP ?_|refine zQ ?_)
    refine Zgb ?_
    first|refine Zhg (Zat rfl) ?_|refine Zhg (Zar rfl) ?_
    refine Zhg (Zjk (y := 0#8) rfl rfl) ?_
    first|refine Zhg (Za0 rfl) ?_|refine Zhg (Zas rfl) ?_
    refine Zg3 ?_
    repeat (first|refine zA ?_|refine zB ?_|refine zC ?_|refine zD ?_|refine zE ?_|refine zF ?_|refine zG ?_|refine zH ?_|refine zI ?_|refine zJ ?_|refine zK ?_|refine zL ?_|refine zM rfl ?_|refine zN ?_|refine zO ?_|refine zP ?_|refine zQ ?_)
    rw [show decide (offB cd tg 16 = 0#8) = decide (cd = tg) from decide_eq_decide.2 (offB_eq hcl ht)]
    refine rx1 (Zha rfl (Zg7)) ?_
    exact ⟨_, ⟨rfl, rfl⟩, by exact Imp.arr (by repeat (first|exact Arr.nil|exact Arr.stop|refine Arr.cons (by repeat constructor) ?_|refine Arr.skip ?_))⟩
end Go.Sl

/- trystlaw06: what the document fixes (works). -/
set_option maxHeartbeats 4000000
set_option maxRecDepth 10000
set_option linter.unusedVariables false
set_option linter.unusedSimpArgs false
namespace Go.Sl
open Go Go.Proofs
attribute [local irreducible] cl pt own old pur ex all den denOps denS xOps xC cX CX xthen xblk xcut xloop retX resX Calls PV Rd Con
attribute [local irreducible] pc writeS takeW full put1 setU setH
def key2 : List Byte := 2#8 :: List.replicate 31 0#8
def m255 : List Byte := List.replicate 16 255#8
def tag3 : List Byte := 3#8 :: List.replicate 15 0#8
def tag2 : List Byte := 2#8 :: List.replicate 15 0#8
theorem code_w1 : code key2 m255 = tag3 := by decide +kernel
theorem code_w2 : sumS (newS key2) = List.replicate 16 0#8 := by decide +kernel
theorem works_x : Con Try.prog 11 [] [] (fun v M => v = .bool true ∧ M = []) := by
  refine fn_x Try.func11 rfl rfl rfl Try.mixed (by kernel_rfl) ?_
  intro w0
  repeat (first|refine zA ?_|refine zB ?_|refine zC ?_|refine zD ?_|refine zE ?_|refine zF ?_|refine zG ?_|refine zH ?_|refine zI ?_|refine zJ ?_|refine zK ?_|refine zL ?_|refine zM rfl ?_|refine zN ?_|refine zO ?_|refine zP ?_|refine zQ ?_)
  refine Zgb ?_
  first|refine Zhg (Za0 rfl) ?_|refine Zhg (Zas rfl) ?_
  refine Zg3 ?_
  repeat (first|refine zA ?_|refine zB ?_|refine zC ?_|refine zD ?_|refine zE ?_|refine zF ?_|refine zG ?_|refine zH ?_|refine zI ?_|refine zJ ?_|refine zK ?_|refine zL ?_|refine zM rfl ?_|refine zN ?_|refine zO ?_|refine zP ?_|refine zQ ?_)
  refine Zgb ?_
  refine Zhg (Zdn (cs := #[u8b 2#8, u8b 0#8, u8b 0#8, u8b 0#8, u8b 0#8, u8b 0#8, u8b 0#8, u8b 0#8, u8b 0#8, u8b 0#8, u8b 0#8, u8b 0#8, u8b 0#8, u8b 0#8, u8b 0#8, u8b 0#8, u8b 0#8, u8b 0#8, u8b 0#8, u8b 0#8, u8b 0#8, u8b 0#8, u8b 0#8, u8b 0#8, u8b 0#8, u8b 0#8, u8b 0#8, u8b 0#8, u8b 0#8, u8b 0#8, u8b 0#8, u8b 0#8]) (by kernel_rfl)) ?_
  refine Zhz (cs := ((List.replicate 32 0#8).map u8b).toArray) rfl ?_; intro b1
  first|refine Zhy rfl rfl (by repeat constructor) (by first|rfl|omega|(rw [szL]; omega)|exact Nat.le_of_ble_eq_true rfl|(simp; done)|(simp; omega)) (by first|rfl|exact oneM_u8 _|exact oneL_u8 _|exact pc_one _|(simp [oneC]; done)) (by first|rfl|omega|(rw [szL]; omega)|exact Nat.le_of_ble_eq_true rfl|(simp; done)|(simp; omega)) ?_|refine Zhx rfl rfl (by repeat constructor) (by first|rfl|omega|(rw [szL]; omega)|exact Nat.le_of_ble_eq_true rfl|(simp; done)|(simp; omega)) (by first|rfl|exact oneM_u8 _|exact oneL_u8 _|exact pc_one _|(simp [oneC]; done)) (by first|rfl|omega|(rw [szL]; omega)|exact Nat.le_of_ble_eq_true rfl|(simp; done)|(simp; omega)) rfl ?_
  refine Zg3 ?_
  repeat (first|refine zA ?_|refine zB ?_|refine zC ?_|refine zD ?_|refine zE ?_|refine zF ?_|refine zG ?_|refine zH ?_|refine zI ?_|refine zJ ?_|refine zK ?_|refine zL ?_|refine zM rfl ?_|refine zN ?_|refine zO ?_|refine zP ?_|refine zQ ?_)
  refine Zgb ?_
  refine Zh7 (cs := #[u8b 255#8, u8b 255#8, u8b 255#8, u8b 255#8, u8b 255#8, u8b 255#8, u8b 255#8, u8b 255#8, u8b 255#8, u8b 255#8, u8b 255#8, u8b 255#8, u8b 255#8, u8b 255#8, u8b 255#8, u8b 255#8]) (by omega) (by omega) (by kernel_rfl) ?_; intro b5
  first|refine Zhg (Za2 rfl) ?_|refine Zhg (Zas rfl) ?_
  refine Zg3 ?_
  repeat (first|refine zA ?_|refine zB ?_|refine zC ?_|refine zD ?_|refine zE ?_|refine zF ?_|refine zG ?_|refine zH ?_|refine zI ?_|refine zJ ?_|refine zK ?_|refine zL ?_|refine zM rfl ?_|refine zN ?_|refine zO ?_|refine zP ?_|refine zQ ?_)
  refine Zgb ?_
  first|refine Zhr rfl (by repeat constructor) (by first|rfl|omega|(rw [szL]; omega)|exact Nat.le_of_ble_eq_true rfl|(simp; done)|(simp; omega)) ?_|refine Zhq rfl (by repeat constructor) (by first|rfl|omega|(rw [szL]; omega)|exact Nat.le_of_ble_eq_true rfl|(simp; done)|(simp; omega)) rfl ?_
  refine Zh8 rfl (by kernel_rfl) (new_c key2 rfl) rfl (by repeat (first|exact Take.nil|exact Take.all|(apply Take.cons; (next => (repeat constructor); done))|apply Take.skip)) ?_
  rintro _ _ ⟨p, rfl, rfl⟩
  refine Zg2 (by repeat (first|exact App.nil|apply App.cons|(apply App.flip; first|exact App.nil|apply App.cons)|exact App.any)) ?_
  first|refine Zhg (Za1 rfl) ?_|refine Zhg (Zas rfl) ?_
  refine Zg3 ?_
  repeat (first|refine zA ?_|refine zB ?_|refine zC ?_|refine zD ?_|refine zE ?_|refine zF ?_|refine zG ?_|refine zH ?_|refine zI ?_|refine zJ ?_|refine zK ?_|refine zL ?_|refine zM rfl ?_|refine zN ?_|refine zO ?_|refine zP ?_|refine zQ ?_)
  have hm : ∀ {M M' : List Asrt}, Has M (cl b5 (m255.map u8b).toArray 5) M' → Bs M (.slice (some ⟨b5, 0, none⟩) 16 16) m255 := fun h => Bs.cl (l := m255) h (by decide) rfl (by decide) (by decide)
  have hm1 : ∀ {M M' : List Asrt}, Has M (cl b5 (m255.map u8b).toArray 5) M' → Bs M (.slice (some ⟨b5, 0, none⟩) 9 16) (m255.take 9) := fun h => Bs.cl (l := m255.take 9) h (by decide) rfl (by decide) (by decide)
  have hm2 : ∀ {M M' : List Asrt}, Has M (cl b5 (m255.map u8b).toArray 5) M' → Bs M (.slice (some ⟨b5, 9, none⟩) 7 7) (m255.drop 9) := fun h => Bs.cl (o := 9) (l := m255.drop 9) h (by decide) rfl (by decide) (by decide)
  refine Zgp (N := [cl p (pc (newS key2)) 74, cl b5 (m255.map u8b).toArray 5, cl b1 (key2.map u8b).toArray 24]) (by exact Imp.arr (by repeat (first|exact Arr.nil|exact Arr.stop|refine Arr.cons (by repeat constructor) ?_|refine Arr.skip ?_))) ?_
  repeat (first|refine zA ?_|refine zB ?_|refine zC ?_|refine zD ?_|refine zE ?_|refine zF ?_|refine zG ?_|refine zH ?_|refine zI ?_|refine zJ ?_|refine zK ?_|refine zL ?_|refine zM rfl ?_|refine zN ?_|refine zO ?_|refine zP ?_|refine zQ ?_)
  refine Zij ([cl b1 (key2.map u8b).toArray 24]) [0, 1, 2, 3, 4, 7, 8, 9, 10, 11, 12, 13, 14, 17, 18, 19, 20] (.r 0 (.r 1 (.r 4 (.e 2 true (.e 3 true (.q 5 (.q 6 (.r 7 (.r 8 (.r 9 (.r 10 (.r 11 (.r 12 (.e 13 true (.e 14 true (.q 15 (.q 16 (.r 17 (.r 18 (.r 19 (.e 20 true (.e 21 false (.q 22 (.q 23 (.q 24 (.q 25 (.q 26 (.q 27 (.q 28 (.q 29 (.q 31 (.e 30 false (.q 32 (.q 33 (.q 34 .nil))))))))))))))))))))))))))))))))))) (by kernel_rfl) (by kernel_rfl) (Imp.arr (by repeat (first|exact Arr.nil|exact Arr.stop|refine Arr.cons (by repeat constructor) ?_|refine Arr.skip ?_))) ?_
  first|refine Ziy rfl rfl (by repeat constructor) (by first|rfl|omega|(rw [szL]; omega)|exact Nat.le_of_ble_eq_true rfl|(simp; done)|(simp; omega)) ?_|refine Zix rfl rfl (by repeat constructor) (by first|rfl|omega|(rw [szL]; omega)|exact Nat.le_of_ble_eq_true rfl|(simp; done)|(simp; omega)) rfl ?_
  first|refine Ziz rfl (Zaw rfl) ?_|refine Ziz rfl (Zar rfl) ?_
  refine Ziz rfl (Zdn (cs := #[u8b 3#8, u8b 0#8, u8b 0#8, u8b 0#8, u8b 0#8, u8b 0#8, u8b 0#8, u8b 0#8, u8b 0#8, u8b 0#8, u8b 0#8, u8b 0#8, u8b 0#8, u8b 0#8, u8b 0#8, u8b 0#8]) (by kernel_rfl)) ?_
  refine Ziq rfl ?_
  refine Zh7 (cs := #[.slice _ _ _]) (by omega) (by omega) rfl ?_; intro b10
  refine Zg3 ⟨fun _ => Imp.arr (by repeat (first|exact Arr.nil|exact Arr.stop|refine Arr.cons (by repeat constructor) ?_|refine Arr.skip ?_)), ?_⟩
  refine Ziq rfl ?_
  refine Zh8 rfl (by kernel_rfl) (tsum_c (L := [cl b10 #[.slice (some ⟨b5, 0, none⟩) 16 16] 31, cl b5 (m255.map u8b).toArray 5]) key2 rfl (ps := [(.slice (some ⟨b5, 0, none⟩) 16 16, m255)]) (Rs.cl (o := 0) (by repeat constructor) (by simp) rfl (by simp) (by simp) (by intro x hx; simp only [List.mem_cons, List.not_mem_nil, or_false] at hx; subst hx; exact hm (by repeat constructor))) (by simp)) rfl (by repeat (first|exact Take.nil|exact Take.all|(apply Take.cons; (next => (repeat constructor); done))|apply Take.skip)) ?_
  rintro _ _ ⟨rfl, rfl⟩
  refine Zg2 (by repeat (first|exact App.nil|apply App.cons|(apply App.flip; first|exact App.nil|apply App.cons)|exact App.any)) ?_
  refine Zg3 ⟨fun _ => Imp.arr (by repeat (first|exact Arr.nil|exact Arr.stop|refine Arr.cons (by repeat constructor) ?_|refine Arr.skip ?_)), ?_⟩
  refine Zim rfl (Zm4 (n := 16) (a := code key2 m255) (b := tag3) (code_len _ _) rfl rfl rfl) ?_
  refine Zi5 13 rfl (decide_eq_true code_w1) ?_
  first|refine Zim rfl (Zau rfl) ?_|refine Zim rfl (Zar rfl) ?_
  first|refine Zi1 rfl rfl ?_|refine Zi2 rfl rfl ?_|refine Zi4 rfl rfl rfl (by repeat constructor) (by first|rfl|omega|(rw [szL]; omega)|exact Nat.le_of_ble_eq_true rfl|(simp; done)|(simp; omega)) ?_|refine Zi3 rfl rfl rfl (by repeat constructor) (by first|rfl|omega|(rw [szL]; omega)|exact Nat.le_of_ble_eq_true rfl|(simp; done)|(simp; omega)) rfl ?_
  first|refine Zi1 rfl rfl ?_|refine Zi2 rfl rfl ?_|refine Zi0 rfl rfl (Zdn (cs := #[u8b 3#8, u8b 0#8, u8b 0#8, u8b 0#8, u8b 0#8, u8b 0#8, u8b 0#8, u8b 0#8, u8b 0#8, u8b 0#8, u8b 0#8, u8b 0#8, u8b 0#8, u8b 0#8, u8b 0#8, u8b 0#8]) (by kernel_rfl)) ?_
  first|refine Zi1 rfl rfl ?_|refine Zi2 rfl rfl ?_|refine Zi0 rfl rfl (Zaw rfl) ?_|refine Zi0 rfl rfl (Zar rfl) ?_
  first|refine Zi1 rfl rfl ?_|refine Zi2 rfl rfl ?_|refine Zi0 rfl rfl (Zm0 (h := 9) rfl rfl) ?_
  first|refine Zi1 rfl rfl ?_|refine Zi2 rfl rfl ?_|refine Zi0 rfl rfl (Zaw rfl) ?_|refine Zi0 rfl rfl (Zar rfl) ?_
  first|refine Zi1 rfl rfl ?_|refine Zi2 rfl rfl ?_|refine Zi0 rfl rfl (Zmz (l := 9) rfl rfl rfl) ?_
  refine Ziq rfl ?_
  first|refine Zhi rfl ?_|refine Zhj rfl ?_|(refine Zhh rfl ?_; (refine Zh7 (cs := #[.slice _ _ _, .slice _ _ _]) (by omega) (by omega) rfl ?_; intro b21))
  refine Zg3 ⟨fun _ => Imp.arr (by repeat (first|exact Arr.nil|exact Arr.stop|refine Arr.cons (by repeat constructor) ?_|refine Arr.skip ?_)), ?_⟩
  refine Ziq rfl ?_
  first|refine Zhi rfl ?_|refine Zhj rfl ?_|(refine Zhh rfl ?_; (refine Zh8 rfl (by kernel_rfl) (check_c (L := [cl b21 #[.slice (some ⟨b5, 0, none⟩) 9 16, .slice (some ⟨b5, 9, none⟩) 7 7] 31, cl b5 (m255.map u8b).toArray 5]) key2 rfl tag3 rfl (ps := [(.slice (some ⟨b5, 0, none⟩) 9 16, m255.take 9), (.slice (some ⟨b5, 9, none⟩) 7 7, m255.drop 9)]) (Rs.cl (o := 0) (by repeat constructor) (by simp) rfl (by simp) (by simp) (by intro x hx; simp only [List.mem_cons, List.not_mem_nil, or_false] at hx; rcases hx with rfl|rfl; exact hm1 (by repeat constructor); exact hm2 (by repeat constructor))) (by simp)) rfl (by repeat (first|exact Take.nil|exact Take.all|(apply Take.cons; (next => (repeat constructor); done))|apply Take.skip)) ?_); (rintro _ _ ⟨rfl, rfl⟩); (refine Zg2 (by repeat (first|exact App.nil|apply App.cons|(apply App.flip; first|exact App.nil|apply App.cons)|exact App.any)) ?_))
  refine Zg3 ⟨fun _ => Imp.arr (by repeat (first|exact Arr.nil|exact Arr.stop|refine Arr.cons (by repeat constructor) ?_|refine Arr.skip ?_)), ?_⟩
  refine Zi5 22 rfl (decide_eq_true code_w1) ?_
  first|refine Zim rfl (Zdz rfl rfl) ?_|refine Zim rfl (Zd0 rfl rfl) ?_|refine Zim rfl (Za8 rfl rfl) ?_|refine Zim rfl (Za9 rfl rfl) ?_|refine Zim rfl (Za6 rfl rfl) ?_|refine Zim rfl (Za7 rfl rfl) ?_
  first|refine Zim rfl (Zau rfl) ?_|refine Zim rfl (Zar rfl) ?_
  first|refine Zi1 rfl rfl ?_|refine Zi2 rfl rfl ?_|refine Zi4 rfl rfl rfl (by repeat constructor) (by first|rfl|omega|(rw [szL]; omega)|exact Nat.le_of_ble_eq_true rfl|(simp; done)|(simp; omega)) ?_|refine Zi3 rfl rfl rfl (by repeat constructor) (by first|rfl|omega|(rw [szL]; omega)|exact Nat.le_of_ble_eq_true rfl|(simp; done)|(simp; omega)) rfl ?_
  first|refine Zi1 rfl rfl ?_|refine Zi2 rfl rfl ?_|refine Zi0 rfl rfl (Zdn (cs := #[u8b 2#8, u8b 0#8, u8b 0#8, u8b 0#8, u8b 0#8, u8b 0#8, u8b 0#8, u8b 0#8, u8b 0#8, u8b 0#8, u8b 0#8, u8b 0#8, u8b 0#8, u8b 0#8, u8b 0#8, u8b 0#8]) (by kernel_rfl)) ?_
  first|refine Zi1 rfl rfl ?_|refine Zi2 rfl rfl ?_|refine Zi0 rfl rfl (Zaw rfl) ?_|refine Zi0 rfl rfl (Zar rfl) ?_
  refine Ziq rfl ?_
  first|refine Zhi rfl ?_|refine Zhj rfl ?_|(refine Zhh rfl ?_; (refine Zh7 (cs := #[.slice _ _ _]) (by omega) (by omega) rfl ?_; intro b28))
  refine Zg3 ⟨fun _ => Imp.arr (by repeat (first|exact Arr.nil|exact Arr.stop|refine Arr.cons (by repeat constructor) ?_|refine Arr.skip ?_)), ?_⟩
  refine Ziq rfl ?_
  first|refine Zhi rfl ?_|refine Zhj rfl ?_|(refine Zhh rfl ?_; (refine Zh8 rfl (by kernel_rfl) (check_c (L := [cl b28 #[.slice (some ⟨b5, 0, none⟩) 16 16] 31, cl b5 (m255.map u8b).toArray 5]) key2 rfl tag2 rfl (ps := [(.slice (some ⟨b5, 0, none⟩) 16 16, m255)]) (Rs.cl (o := 0) (by repeat constructor) (by simp) rfl (by simp) (by simp) (by intro x hx; simp only [List.mem_cons, List.not_mem_nil, or_false] at hx; subst hx; exact hm (by repeat constructor))) (by simp)) rfl (by repeat (first|exact Take.nil|exact Take.all|(apply Take.cons; (next => (repeat constructor); done))|apply Take.skip)) ?_); (rintro _ _ ⟨rfl, rfl⟩); (refine Zg2 (by repeat (first|exact App.nil|apply App.cons|(apply App.flip; first|exact App.nil|apply App.cons)|exact App.any)) ?_))
  refine Zg3 ⟨(fun hh => Bool.noConfusion hh), ?_⟩
  refine Zi6 29 rfl (decide_eq_false (by show ¬ code key2 m255 = tag2; rw [code_w1]; decide)) ?_
  first|refine Zio rfl rfl ?_|refine Zip rfl rfl ?_|refine Zin rfl rfl (Zb1 rfl) ?_|refine Zin rfl rfl (Zb0 rfl) ?_
  first|refine Zim rfl (Zdz rfl rfl) ?_|refine Zim rfl (Zd0 rfl rfl) ?_|refine Zim rfl (Za8 rfl rfl) ?_|refine Zim rfl (Za9 rfl rfl) ?_|refine Zim rfl (Za6 rfl rfl) ?_|refine Zim rfl (Za7 rfl rfl) ?_
  first|refine Zim rfl (Zau rfl) ?_|refine Zim rfl (Zar rfl) ?_
  first|refine Zio rfl rfl ?_|refine Zip rfl rfl ?_|refine Zin rfl rfl (Zav rfl) ?_|refine Zin rfl rfl (Zar rfl) ?_
  first|refine Zio rfl rfl ?_|refine Zip rfl rfl ?_|refine Zin rfl rfl (Zcb rfl rfl) ?_
  first|refine Zim rfl (Zdz rfl rfl) ?_|refine Zim rfl (Zd0 rfl rfl) ?_|refine Zim rfl (Za8 rfl rfl) ?_|refine Zim rfl (Za9 rfl rfl) ?_|refine Zim rfl (Za6 rfl rfl) ?_|refine Zim rfl (Za7 rfl rfl) ?_
  first|refine Zim rfl (Zau rfl) ?_|refine Zim rfl (Zar rfl) ?_
  first|refine Zio rfl rfl ?_|refine Zip rfl rfl ?_|refine Zin rfl rfl (Zav rfl) ?_|refine Zin rfl rfl (Zar rfl) ?_
  first|refine Zio rfl rfl ?_|refine Zip rfl rfl ?_|refine Zin rfl rfl (Zdn (cs := #[u8b 0#8, u8b 0#8, u8b 0#8, u8b 0#8, u8b 0#8, u8b 0#8, u8b 0#8, u8b 0#8, u8b 0#8, u8b 0#8, u8b 0#8, u8b 0#8, u8b 0#8, u8b 0#8, u8b 0#8, u8b 0#8]) (by kernel_rfl)) ?_
  refine Ziq rfl ?_
  first|refine Zhi rfl ?_|refine Zhj rfl ?_|(refine Zhh rfl ?_; (refine Zh8 rfl (by kernel_rfl) (sum_c (newS key2) (newS_ok key2)) rfl (by repeat (first|exact Take.nil|exact Take.all|(apply Take.cons; (next => (repeat constructor); done))|apply Take.skip)) ?_); (rintro _ _ ⟨rfl, rfl⟩); (refine Zg2 (by repeat (first|exact App.nil|apply App.cons|(apply App.flip; first|exact App.nil|apply App.cons)|exact App.any)) ?_))
  refine Zg3 ⟨(fun hh => Bool.noConfusion hh), ?_⟩
  first|refine Zio rfl rfl ?_|refine Zip rfl rfl ?_|refine Zin rfl rfl (Zm4 (n := 16) (a := sumS (newS key2)) (b := List.replicate 16 0#8) (bytesOf_len _) rfl rfl rfl) ?_
  refine Zi5 40 rfl (decide_eq_true code_w2) ?_
  first|refine Zim rfl (Zdz rfl rfl) ?_|refine Zim rfl (Zd0 rfl rfl) ?_|refine Zim rfl (Za8 rfl rfl) ?_|refine Zim rfl (Za9 rfl rfl) ?_|refine Zim rfl (Za6 rfl rfl) ?_|refine Zim rfl (Za7 rfl rfl) ?_
  first|refine Zim rfl (Za0 rfl) ?_|refine Zim rfl (Zas rfl) ?_
  refine Zik ?_
  repeat (first|refine zA ?_|refine zB ?_|refine zC ?_|refine zD ?_|refine zE ?_|refine zF ?_|refine zG ?_|refine zH ?_|refine zI ?_|refine zJ ?_|refine zK ?_|refine zL ?_|refine zM rfl ?_|refine zN ?_|refine zO ?_|refine zP ?_|refine zQ ?_)
  refine rx1 (Zha rfl (Zg7)) ?_
  exact ⟨_, ⟨rfl, rfl⟩, by exact Imp.arr (by repeat (first|exact Arr.nil|exact Arr.stop|refine Arr.cons (by repeat constructor) ?_|refine Arr.skip ?_))⟩
theorem names_x : Con Try.prog 3 [] [] (fun v M => v = .bool true ∧ M = []) := by
  refine fn_x Try.func3 rfl rfl rfl Try.mixed (by kernel_rfl) ?_
  intro w0
  repeat (first|refine zA ?_|refine zB ?_|refine zC ?_|refine zD ?_|refine zE ?_|refine zF ?_|refine zG ?_|refine zH ?_|refine zI ?_|refine zJ ?_|refine zK ?_|refine zL ?_|refine zM rfl ?_|refine zN ?_|refine zO ?_|refine zP ?_|refine zQ ?_)
  refine Zgb ?_
  first|refine Zhg (Za0 rfl) ?_|refine Zhg (Zas rfl) ?_
  refine Zg3 ?_
  repeat (first|refine zA ?_|refine zB ?_|refine zC ?_|refine zD ?_|refine zE ?_|refine zF ?_|refine zG ?_|refine zH ?_|refine zI ?_|refine zJ ?_|refine zK ?_|refine zL ?_|refine zM rfl ?_|refine zN ?_|refine zO ?_|refine zP ?_|refine zQ ?_)
  refine Zgb ?_
  first|refine Zhg (Zau rfl) ?_|refine Zhg (Zar rfl) ?_
  first|refine Zhi rfl ?_|refine Zhj rfl ?_|(refine Zhh rfl ?_; (refine Zh8 rfl (by kernel_rfl) (works_x) rfl (by repeat (first|exact Take.nil|exact Take.all|(apply Take.cons; (next => (repeat constructor); done))|apply Take.skip)) ?_); (rintro _ _ ⟨rfl, rfl⟩); (refine Zg2 (by repeat (first|exact App.nil|apply App.cons|(apply App.flip; first|exact App.nil|apply App.cons)|exact App.any)) ?_))
  first|refine Zhg (Zdz rfl rfl) ?_|refine Zhg (Zd0 rfl rfl) ?_|refine Zhg (Za8 rfl rfl) ?_|refine Zhg (Za9 rfl rfl) ?_|refine Zhg (Za6 rfl rfl) ?_|refine Zhg (Za7 rfl rfl) ?_
  first|refine Zhg (Za0 rfl) ?_|refine Zhg (Zas rfl) ?_
  refine Zg3 ?_
  repeat (first|refine zA ?_|refine zB ?_|refine zC ?_|refine zD ?_|refine zE ?_|refine zF ?_|refine zG ?_|refine zH ?_|refine zI ?_|refine zJ ?_|refine zK ?_|refine zL ?_|refine zM rfl ?_|refine zN ?_|refine zO ?_|refine zP ?_|refine zQ ?_)
  refine rx1 (Zha rfl (Zg7)) ?_
  exact ⟨_, ⟨rfl, rfl⟩, by exact Imp.arr (by repeat (first|exact Arr.nil|exact Arr.stop|refine Arr.cons (by repeat constructor) ?_|refine Arr.skip ?_))⟩
end Go.Sl

/- tag: what a code is as a number. No program in sight. -/
set_option linter.unusedVariables false
set_option linter.unusedSimpArgs false
namespace Go.Sl
open Go
/-- Bytes as a number, the lowest first. -/
def leN : List Byte → Nat
  | [] => 0
  | x :: l => x.toNat + 256 * leN l
theorem leN_append (a b : List Byte) : leN (a ++ b) = leN a + 256 ^ a.length * leN b := by
  induction a with
  | nil => simp [leN]
  | cons x a ih =>
    simp only [List.cons_append, leN, ih, List.length_cons, Nat.pow_succ, Nat.mul_add]
    rw [← Nat.mul_assoc, Nat.mul_comm 256 (256 ^ a.length)]; omega
theorem leN_lt (l : List Byte) : leN l < 256 ^ l.length := by
  induction l with
  | nil => simp [leN]
  | cons x l ih =>
    have := x.isLt
    simp only [leN, List.length_cons, Nat.pow_succ]; omega
theorem leN_zeros (n : Nat) : leN (List.replicate n 0#8) = 0 := by
  induction n with
  | zero => rfl
  | succ n ih => simp [List.replicate_succ, leN, ih]
theorem leN_inj : ∀ {a b : List Byte}, a.length = b.length → leN a = leN b → a = b
  | [], [], _, _ => rfl
  | x :: a, y :: b, hl, h => by
    have hx := x.isLt; have hy := y.isLt
    simp only [leN] at h
    have h1 : x.toNat = y.toNat := by omega
    have h2 : leN a = leN b := by omega
    rw [BitVec.eq_of_toNat_eq h1, leN_inj (by simpa using hl) h2]
  | [], _ :: _, hl, _ => by simp at hl
  | _ :: _, [], hl, _ => by simp at hl
theorem or_add (a b i : Nat) (h : b < 2 ^ i) : a <<< i ||| b = a * 2 ^ i + b := by rw [← Nat.shiftLeft_add_eq_or_of_lt h, Nat.shiftLeft_eq]
theorem wordB_val : ∀ (b : List Byte), b.length ≤ 8 → (wordB b).toNat = leN b
  | [], _ => rfl
  | x :: b, h => by
    simp only [List.length_cons] at h
    have ih := wordB_val b (by omega)
    have hl := leN_lt b
    have hx := x.isLt
    have hp : 256 ^ b.length ≤ 256 ^ 7 := Nat.pow_le_pow_right (by omega) (by omega)
    have h7 : (256 : Nat) ^ 7 = 72057594037927936 := by decide
    show (wordB b <<< 8 ||| x.setWidth 64).toNat = _
    rw [BitVec.toNat_or, BitVec.toNat_shiftLeft, BitVec.toNat_setWidth, ih, Nat.shiftLeft_eq, Nat.mod_eq_of_lt (show leN b * 2 ^ 8 < 2 ^ 64 by omega), Nat.mod_eq_of_lt (show x.toNat < 2 ^ 64 by omega), ← Nat.shiftLeft_eq, or_add _ _ _ (show x.toNat < 2 ^ 8 from hx)]
    simp only [leN]; omega

abbrev W128.val (x : W128) : Nat := x.1.toNat + 18446744073709551616 * x.2.toNat
abbrev W192.val (h : W192) : Nat := h.1.toNat + 18446744073709551616 * h.2.1.toNat + 340282366920938463463374607431768211456 * h.2.2.toNat
theorem mulW_val (x y : BitVec 64) : (mulW x y).val = x.toNat * y.toNat := by
  have hx := x.isLt; have hy := y.isLt
  have h : x.toNat * y.toNat / 18446744073709551616 < 18446744073709551616 := Nat.div_lt_of_lt_mul (Nat.mul_lt_mul'' hx hy)
  simp only [W128.val, mulW, mulHi, BitVec.toNat_mul, BitVec.toNat_ofNat]
  omega
theorem addW_val (x y : W128) (h : x.val + y.val < 340282366920938463463374607431768211456) : (addW x y).val = x.val + y.val := by
  have h1 := x.1.isLt; have h2 := x.2.isLt; have h3 := y.1.isLt; have h4 := y.2.isLt
  simp only [W128.val, addW, carry, BitVec.toNat_add, BitVec.toNat_ofNat] at *
  omega
theorem plusW_val (h : W192) (x : W128) (hh : h.val + x.val < 6277101735386680763835789423207666416102355444464034512896) : (plusW h x).val = h.val + x.val := by
  have h1 := x.1.isLt; have h2 := x.2.isLt; have h3 := h.1.isLt; have h4 := h.2.1.isLt; have h5 := h.2.2.isLt
  simp only [W128.val, W192.val, plusW, carry, BitVec.toNat_add, BitVec.toNat_ofNat] at *
  omega
theorem and3 (x : BitVec 64) : (x &&& 3#64).toNat = x.toNat % 4 := by
  rw [BitVec.toNat_and]; exact Nat.and_two_pow_sub_one_eq_mod x.toNat 2
theorem andn3 (x : BitVec 64) : (x &&& ~~~ 3#64).toNat = x.toNat / 4 * 4 := by
  have e : x &&& ~~~ 3#64 = (x >>> 2) <<< 2 := by
    apply BitVec.eq_of_getLsbD_eq
    intro i hi
    have hc : (~~~ 3#64).getLsbD i = decide (2 ≤ i) := by
      have : ∀ j : Fin 64, (~~~ 3#64).getLsbD j.val = decide (2 ≤ j.val) := by decide
      exact this ⟨i, hi⟩
    rw [BitVec.getLsbD_and, hc, BitVec.getLsbD_shiftLeft, BitVec.getLsbD_ushiftRight]
    by_cases h : 2 ≤ i
    · have e : 2 + (i - 2) = i := by omega
      simp [h, hi, e]
    · simp [h] <;> omega
  have hx := x.isLt
  rw [e, BitVec.toNat_shiftLeft, BitVec.toNat_ushiftRight, Nat.shiftLeft_eq, Nat.shiftRight_eq_div_pow]
  omega
theorem quarter (f : W128) (hf : f.1.toNat % 4 = 0) : W128.val (f.1 >>> 2 ||| f.2 <<< 62, f.2 >>> 2) = f.val / 4 := by
  have h1 := f.1.isLt; have h2 := f.2.isLt
  have e : (f.1 >>> 2 ||| f.2 <<< 62).toNat = f.2.toNat % 4 * 4611686018427387904 + f.1.toNat / 4 := by
    rw [BitVec.toNat_or, BitVec.toNat_ushiftRight, BitVec.toNat_shiftLeft, Nat.shiftRight_eq_div_pow, Nat.or_comm]
    have e2 : f.2.toNat <<< 62 % 2 ^ 64 = (f.2.toNat % 4) <<< 62 := by
      rw [Nat.shiftLeft_eq, Nat.shiftLeft_eq]; omega
    rw [e2, or_add _ _ _ (by omega)]
  simp only [W128.val, e, BitVec.toNat_ushiftRight, Nat.shiftRight_eq_div_pow]
  omega
def fold130 (t : Nat) : Nat := t % 1361129467683753853853498429727072845824 + 5 * (t / 1361129467683753853853498429727072845824)
theorem expand (h0 h1 h2 r0 r1 B B2 : Nat) (hB : B2 = B * B) : (h0 + B * h1 + B2 * h2) * (r0 + B * r1) = h0 * r0 + B * (h1 * r0 + h0 * r1) + B2 * (h2 * r0 + h1 * r1) + B2 * B * (h2 * r1) := by
  subst hB
  simp only [Nat.add_mul, Nat.mul_add, Nat.mul_assoc, Nat.mul_left_comm _ B, Nat.mul_comm h0 B, Nat.mul_comm h1 B, Nat.mul_comm h2 B]
  omega
theorem timesW_val (h : W192) (r : W128) (hh : h.val < 2722258935367507707706996859454145691648) (hr0 : r.1.toNat < 1152921504606846976) (hr1 : r.2.toNat < 1152921504606846976) : (timesW h r).val = fold130 (h.val * r.val) := by
  have b0 := h.1.isLt; have b1 := h.2.1.isLt
  have h2 : h.2.2.toNat ≤ 7 := by simp only [W192.val] at hh; omega
  have e := expand h.1.toNat h.2.1.toNat h.2.2.toNat r.1.toNat r.2.toNat 18446744073709551616 340282366920938463463374607431768211456 (by decide)
  have p00 : h.1.toNat * r.1.toNat < 18446744073709551616 * 1152921504606846976 := Nat.mul_lt_mul'' b0 hr0
  have p10 : h.2.1.toNat * r.1.toNat < 18446744073709551616 * 1152921504606846976 := Nat.mul_lt_mul'' b1 hr0
  have p01 : h.1.toNat * r.2.toNat < 18446744073709551616 * 1152921504606846976 := Nat.mul_lt_mul'' b0 hr1
  have p11 : h.2.1.toNat * r.2.toNat < 18446744073709551616 * 1152921504606846976 := Nat.mul_lt_mul'' b1 hr1
  have p20 : h.2.2.toNat * r.1.toNat ≤ 7 * 1152921504606846976 := Nat.mul_le_mul h2 (by omega)
  have p21 : h.2.2.toNat * r.2.toNat ≤ 7 * 1152921504606846976 := Nat.mul_le_mul h2 (by omega)
  have v0 := mulW_val h.1 r.1
  have v10 := mulW_val h.2.1 r.1
  have v01 := mulW_val h.1 r.2
  have v20 := mulW_val h.2.2 r.1
  have v11 := mulW_val h.2.1 r.2
  have v3 := mulW_val h.2.2 r.2
  have a1 := addW_val (mulW h.2.1 r.1) (mulW h.1 r.2) (by omega)
  have a2 := addW_val (mulW h.2.2 r.1) (mulW h.2.1 r.2) (by omega)
  rw [v10, v01] at a1
  rw [v20, v11] at a2
  have hv : h.val * r.val = h.1.toNat * r.1.toNat + 18446744073709551616 * (h.2.1.toNat * r.1.toNat + h.1.toNat * r.2.toNat) + 340282366920938463463374607431768211456 * (h.2.2.toNat * r.1.toNat + h.2.1.toNat * r.2.toNat) + 340282366920938463463374607431768211456 * 18446744073709551616 * (h.2.2.toNat * r.2.toNat) := e
  clear e v10 v01 v20 v11
  rw [hv]
  unfold timesW
  generalize mulW h.1 r.1 = m0 at *
  generalize addW (mulW h.2.1 r.1) (mulW h.1 r.2) = m1 at *
  generalize addW (mulW h.2.2 r.1) (mulW h.2.1 r.2) = m2 at *
  generalize mulW h.2.2 r.2 = m3 at *
  generalize h.1.toNat * r.1.toNat = q00 at *
  generalize h.2.1.toNat * r.1.toNat = q10 at *
  generalize h.1.toNat * r.2.toNat = q01 at *
  generalize h.2.1.toNat * r.2.toNat = q11 at *
  generalize h.2.2.toNat * r.1.toNat = q20 at *
  generalize h.2.2.toNat * r.2.toNat = q21 at *
  clear hh hv hr0 hr1 h2 b0 b1
  have i0 := m0.1.isLt; have i0' := m0.2.isLt; have i1 := m1.1.isLt; have i1' := m1.2.isLt; have i2 := m2.1.isLt; have i2' := m2.2.isLt; have i3 := m3.1.isLt; have i3' := m3.2.isLt
  simp only [W128.val] at v0 a1 a2 v3
  -- the four words
  obtain ⟨t1, ht1⟩ : ∃ t1, t1 = m1.1 + m0.2 + 0#64 := ⟨_, rfl⟩
  obtain ⟨c1, hc1⟩ : ∃ c1, c1 = carry m1.1 m0.2 0#64 := ⟨_, rfl⟩
  obtain ⟨t2, ht2⟩ : ∃ t2, t2 = m2.1 + m1.2 + c1 := ⟨_, rfl⟩
  obtain ⟨c2, hc2⟩ : ∃ c2, c2 = carry m2.1 m1.2 c1 := ⟨_, rfl⟩
  obtain ⟨t3, ht3⟩ : ∃ t3, t3 = m3.1 + m2.2 + c2 := ⟨_, rfl⟩
  have n1 : t1.toNat + 18446744073709551616 * c1.toNat = m1.1.toNat + m0.2.toNat := by
    rw [ht1, hc1]; simp only [carry, BitVec.toNat_add, BitVec.toNat_ofNat]; omega
  have n2 : t2.toNat + 18446744073709551616 * c2.toNat = m2.1.toNat + m1.2.toNat + c1.toNat := by
    rw [ht2, hc2]; simp only [carry, BitVec.toNat_add, BitVec.toNat_ofNat]; omega
  have n3 : t3.toNat = m3.1.toNat + m2.2.toNat + c2.toNat := by
    rw [ht3]; simp only [BitVec.toNat_add]; omega
  have k1 := t1.isLt; have k2 := t2.isLt; have k3 := t3.isLt
  have hf4 : (t2 &&& ~~~ 3#64).toNat % 4 = 0 := by rw [andn3]; omega
  have q := quarter (t2 &&& ~~~ 3#64, t3) hf4
  have hlow : W192.val (m0.1, t1, t2 &&& 3#64) = m0.1.toNat + 18446744073709551616 * t1.toNat + 340282366920938463463374607431768211456 * (t2.toNat % 4) := by
    simp only [W192.val, and3]
  have hfour : W128.val (t2 &&& ~~~ 3#64, t3) = t2.toNat / 4 * 4 + 18446744073709551616 * t3.toNat := by
    simp only [W128.val, andn3]
  have s1 := plusW_val (m0.1, t1, t2 &&& 3#64) (t2 &&& ~~~ 3#64, t3) (by rw [hlow, hfour]; omega)
  have s2 := plusW_val (plusW (m0.1, t1, t2 &&& 3#64) (t2 &&& ~~~ 3#64, t3)) ((t2 &&& ~~~ 3#64) >>> 2 ||| t3 <<< 62, t3 >>> 2) (by rw [s1, q, hlow, hfour]; omega)
  rw [hlow, hfour] at s1
  rw [s1, q, hfour] at s2
  show (plusW (plusW (m0.1, m1.1 + m0.2 + 0#64, (m2.1 + m1.2 + carry m1.1 m0.2 0#64) &&& 3#64) ((m2.1 + m1.2 + carry m1.1 m0.2 0#64) &&& ~~~ 3#64, m3.1 + m2.2 + carry m2.1 m1.2 (carry m1.1 m0.2 0#64))) _).val = _
  rw [← hc1, ← ht1, ← ht2, ← hc2, ← ht3, s2]
  unfold fold130
  omega
theorem fold130_lt {t : Nat} (h : t < 57896044618658097711785492504343953926634992332820282019728792003956564819968) : fold130 t < 1701411834604692317316873037158841057280 := by unfold fold130; omega
theorem fold130_mod (t : Nat) : fold130 t % 1361129467683753853853498429727072845819 = t % 1361129467683753853853498429727072845819 := by unfold fold130; omega
theorem split16 (b : List Byte) (hb : b.length = 16) : (wordB (b.take 8)).toNat + 18446744073709551616 * (wordB (b.drop 8)).toNat = leN b := by
  rw [wordB_val _ (by simp; omega), wordB_val _ (by simp; omega)]
  have h := leN_append (b.take 8) (b.drop 8)
  rw [List.take_append_drop, show (b.take 8).length = 8 by simp; omega] at h
  rw [h]
theorem takeW_val (h : W192) (r : W128) (b : List Byte) (top : BitVec 64) (hb : b.length = 16) (ht : top.toNat ≤ 1) (hh : h.val < 1701411834604692317316873037158841057280) (hr0 : r.1.toNat < 1152921504606846976) (hr1 : r.2.toNat < 1152921504606846976) :
    (takeW h r b top).val = fold130 ((h.val + leN b + 340282366920938463463374607431768211456 * top.toNat) * r.val) := by
  have hs := split16 b hb
  have i1 := h.1.isLt; have i2 := h.2.1.isLt; have i3 := (wordB (b.take 8)).isLt; have i4 := (wordB (b.drop 8)).isLt
  unfold takeW
  generalize wordB (b.take 8) = x at *
  generalize wordB (b.drop 8) = y at *
  have e : W192.val (h.1 + x + 0#64, h.2.1 + y + carry h.1 x 0#64, h.2.2 + (carry h.2.1 y (carry h.1 x 0#64) + top)) = h.val + leN b + 340282366920938463463374607431768211456 * top.toNat := by
    rw [← hs]
    simp only [W192.val, carry, BitVec.toNat_add, BitVec.toNat_ofNat] at hh ⊢
    omega
  have hl := leN_lt b
  rw [hb, show (256 : Nat) ^ 16 = 340282366920938463463374607431768211456 by decide] at hl
  show (timesW _ r).val = _
  rw [timesW_val _ _ (by rw [e]; omega) hr0 hr1, e]
/-- A code's way, in numbers: what has been taken in, and the bytes that wait. -/
def stepN (R : Nat) (s : Nat × List Byte) (x : Byte) : Nat × List Byte :=
  if s.2.length + 1 = 16 then (((s.1 + leN (s.2 ++ [x]) + 340282366920938463463374607431768211456) * R) % 1361129467683753853853498429727072845819, []) else (s.1, s.2 ++ [x])
def finN (R : Nat) (s : Nat × List Byte) : Nat := if s.2 = [] then s.1 else ((s.1 + leN (s.2 ++ [1#8])) * R) % 1361129467683753853853498429727072845819
structure SimN (R : Nat) (t : PolyS) (s : Nat × List Byte) : Prop where
  ok : PolyOk t
  h : t.h.val % 1361129467683753853853498429727072845819 = s.1
  lt : t.h.val < 1701411834604692317316873037158841057280
  p : s.2 = t.rest.take t.used
  r : t.r.val = R
  r0 : t.r.1.toNat < 1152921504606846976
  r1 : t.r.2.toNat < 1152921504606846976
theorem SimN.len {R : Nat} {t : PolyS} {s : Nat × List Byte} (h : SimN R t s) : s.2.length = t.used := by
  have := h.ok.used; have := h.ok.rest
  rw [h.p]; simp; omega
theorem val_lt (r : W128) (h1 : r.1.toNat < 1152921504606846976) (h2 : r.2.toNat < 1152921504606846976) : r.val < 21267647932558653966460912964485513216 := by simp only [W128.val]; omega
theorem mulmod (a b R P : Nat) (h : a % P = b % P) : (a * R) % P = (b * R) % P := by rw [Nat.mul_mod, h, ← Nat.mul_mod]
theorem simN_push {R : Nat} {t : PolyS} {s : Nat × List Byte} (hs : SimN R t s) (x : Byte) : SimN R (push t x) (stepN R s x) := by
  have hl := hs.len
  have hu := hs.ok.used
  have hr := hs.ok.rest
  have hset : t.rest.set t.used x = t.rest.take t.used ++ x :: t.rest.drop (t.used + 1) := set_split (by omega)
  unfold stepN push
  by_cases h16 : t.used + 1 = 16
  · rw [if_pos h16, if_pos (by omega)]
    have hb : t.rest.set t.used x = s.2 ++ [x] := by
      rw [hset, hs.p, List.drop_of_length_le (by omega)]
    have hbl : (s.2 ++ [x]).length = 16 := by simp; omega
    have hv := takeW_val t.h t.r (s.2 ++ [x]) 1#64 hbl (by decide) hs.lt hs.r0 hs.r1
    have hlt := leN_lt (s.2 ++ [x])
    rw [hbl, show (256 : Nat) ^ 16 = 340282366920938463463374607431768211456 by decide] at hlt
    have hR := val_lt t.r hs.r0 hs.r1
    rw [show (340282366920938463463374607431768211456 * (1#64).toNat) = 340282366920938463463374607431768211456 by decide] at hv
    have hbig : (t.h.val + leN (s.2 ++ [x]) + 340282366920938463463374607431768211456) * t.r.val < 57896044618658097711785492504343953926634992332820282019728792003956564819968 := by
      have := Nat.mul_lt_mul'' (show t.h.val + leN (s.2 ++ [x]) + 340282366920938463463374607431768211456 < 2722258935367507707706996859454145691648 by have := hs.lt; omega) hR
      omega
    refine ⟨⟨by simp [hr], by show 0 < 16; omega⟩, ?_, ?_, by simp, hs.r, hs.r0, hs.r1⟩
    · show (takeW t.h t.r (t.rest.set t.used x) 1#64).val % _ = _
      rw [hb, hv, fold130_mod, ← hs.r]
      apply mulmod
      have := hs.h
      omega
    · show (takeW t.h t.r (t.rest.set t.used x) 1#64).val < _
      rw [hb, hv]
      exact fold130_lt hbig
  · rw [if_neg h16, if_neg (by omega)]
    refine ⟨⟨by simp [hr], by show t.used + 1 < 16; omega⟩, hs.h, hs.lt, ?_, hs.r, hs.r0, hs.r1⟩
    show s.2 ++ [x] = List.take (t.used + 1) (t.rest.set t.used x)
    rw [hset, hs.p, List.take_append, List.take_take]
    have e2 : (t.rest.take t.used).length = t.used := by simp; omega
    rw [e2]; simp
theorem simN_write {R : Nat} {b : List Byte} : ∀ {t : PolyS} {s : Nat × List Byte}, SimN R t s → SimN R (writeS t b) (b.foldl (stepN R) s) := by
  induction b with
  | nil => exact fun h => h
  | cons x b ih => exact fun h => ih (simN_push h x)
theorem fin_val {R : Nat} {t : PolyS} {s : Nat × List Byte} (hs : SimN R t s) : (finS t).h.val % 1361129467683753853853498429727072845819 = finN R s ∧ (finS t).h.val < 1701411834604692317316873037158841057280 := by
  have hl := hs.len
  have hu := hs.ok.used
  have hr := hs.ok.rest
  unfold finS finN
  by_cases h0 : 0 < t.used
  · rw [if_pos h0, if_neg (fun e => by rw [e] at hl; simp at hl; omega)]
    have hlb : lastB t = s.2 ++ [1#8] ++ List.replicate (15 - t.used) 0#8 := by
      unfold lastB
      rw [← hs.p, show List.replicate (16 - t.used) (0#8) = 0#8 :: List.replicate (15 - t.used) 0#8 by rw [← List.replicate_succ]; congr 1; omega]
      rw [List.set_append_right _ _ (by omega), hl, Nat.sub_self]
      simp
    have hlen := lastB_len hr (by omega)
    have hv := takeW_val t.h t.r (lastB t) 0#64 hlen (by decide) hs.lt hs.r0 hs.r1
    have hle : leN (lastB t) = leN (s.2 ++ [1#8]) := by rw [hlb, leN_append, leN_zeros]; omega
    have hlt := leN_lt (lastB t)
    rw [hlen, show (256 : Nat) ^ 16 = 340282366920938463463374607431768211456 by decide, hle] at hlt
    have hR := val_lt t.r hs.r0 hs.r1
    rw [show (340282366920938463463374607431768211456 * (0#64).toNat) = 0 by decide, Nat.add_zero, hle] at hv
    show (takeW t.h t.r (lastB t) 0#64).val % _ = _ ∧ (takeW t.h t.r (lastB t) 0#64).val < _
    rw [hv]
    constructor
    · rw [fold130_mod, ← hs.r]
      apply mulmod
      have := hs.h
      omega
    · apply fold130_lt
      have := Nat.mul_lt_mul'' (show t.h.val + leN (s.2 ++ [1#8]) < 2722258935367507707706996859454145691648 by have := hs.lt; omega) hR
      omega
  · rw [if_neg h0, if_pos (List.eq_nil_of_length_eq_zero (by omega))]
    exact ⟨hs.h, hs.lt⟩
theorem sub_val (x y c : BitVec 64) (hc : c.toNat ≤ 1) : (x - y - c).toNat + y.toNat + c.toNat = x.toNat + 18446744073709551616 * (borrow x y c).toNat := by
  have hx := x.isLt; have hy := y.isLt
  have e : (x - y - c).toNat = (x.toNat + 36893488147419103232 - y.toNat - c.toNat) % 18446744073709551616 := by simp only [BitVec.toNat_sub]; omega
  rw [e]
  unfold borrow
  by_cases h : x.toNat < y.toNat + c.toNat
  · rw [if_pos h, show (1#64).toNat = 1 from rfl]; omega
  · rw [if_neg h, show (0#64).toNat = 0 from rfl]; omega
theorem out_val (h : W192) (s : W128) (hh : h.val < 1701411834604692317316873037158841057280) : (outW h s).val = (h.val % 1361129467683753853853498429727072845819 + s.val) % 340282366920938463463374607431768211456 := by
  have i1 := h.1.isLt; have i2 := h.2.1.isLt; have i3 := h.2.2.isLt; have i4 := s.1.isLt; have i5 := s.2.isLt
  unfold outW
  obtain ⟨b0, hb0⟩ : ∃ b0, b0 = borrow h.1 18446744073709551611#64 0#64 := ⟨_, rfl⟩
  obtain ⟨l0, hl0⟩ : ∃ l0, l0 = h.1 - 18446744073709551611#64 - 0#64 := ⟨_, rfl⟩
  simp only [← hb0, ← hl0]
  obtain ⟨l1, hl1⟩ : ∃ l1, l1 = h.2.1 - 18446744073709551615#64 - b0 := ⟨_, rfl⟩
  obtain ⟨b1, hb1⟩ : ∃ b1, b1 = borrow h.2.1 18446744073709551615#64 b0 := ⟨_, rfl⟩
  simp only [← hb1, ← hl1]
  obtain ⟨b2, hb2⟩ : ∃ b2, b2 = borrow h.2.2 3#64 b1 := ⟨_, rfl⟩
  simp only [← hb2]
  have le0 : b0.toNat ≤ 1 := by rw [hb0]; exact borrow_le _ _ _
  have le1 : b1.toNat ≤ 1 := by rw [hb1]; exact borrow_le _ _ _
  have s0 := sub_val h.1 18446744073709551611#64 0#64 (by decide)
  have s1 := sub_val h.2.1 18446744073709551615#64 b0 le0
  have s2 := sub_val h.2.2 3#64 b1 le1
  rw [← hb0, ← hl0, show (18446744073709551611#64).toNat = 18446744073709551611 from rfl, show (0#64).toNat = 0 from rfl] at s0
  rw [← hb1, ← hl1, show (18446744073709551615#64).toNat = 18446744073709551615 from rfl] at s1
  rw [← hb2, show (3#64).toNat = 3 from rfl] at s2
  have j0 := l0.isLt; have j1 := l1.isLt; have j2 := (h.2.2 - 3#64 - b1).isLt
  have hb2v : b2 = 1#64 ∨ b2 = 0#64 := by rw [hb2]; unfold borrow; split <;> simp
  have key : W128.val (h.1 &&& -b2 ||| l0 &&& ~~~(-b2), h.2.1 &&& -b2 ||| l1 &&& ~~~(-b2)) = (h.val % 1361129467683753853853498429727072845819) % 340282366920938463463374607431768211456 := by
    rcases hb2v with hc|hc
    · rw [hc] at s2 ⊢
      rw [show (1#64).toNat = 1 from rfl] at s2
      have e : ∀ a b : BitVec 64, a &&& -1#64 ||| b &&& ~~~(-1#64) = a := fun a b => by
        have h1 : (-1#64 : BitVec 64) = BitVec.allOnes 64 := by decide
        have h2 : (~~~(-1#64) : BitVec 64) = 0#64 := by decide
        rw [h2, h1, BitVec.and_allOnes, BitVec.and_zero, BitVec.or_zero]
      simp only [e, W128.val, W192.val] at hh ⊢
      have hN : h.1.toNat + 18446744073709551616 * h.2.1.toNat + 340282366920938463463374607431768211456 * h.2.2.toNat < 1361129467683753853853498429727072845819 := by omega
      rw [Nat.mod_eq_of_lt hN]
      clear s0 s1 s2
      omega
    · rw [hc] at s2 ⊢
      rw [show (0#64).toNat = 0 from rfl] at s2
      have e : ∀ a b : BitVec 64, a &&& -0#64 ||| b &&& ~~~(-0#64) = b := fun a b => by
        have h1 : (-0#64 : BitVec 64) = 0#64 := by decide
        have h2 : (~~~(-0#64) : BitVec 64) = BitVec.allOnes 64 := by decide
        rw [h2, h1, BitVec.and_allOnes, BitVec.and_zero, BitVec.zero_or]
      simp only [e, W128.val, W192.val] at hh ⊢
      have hN : h.1.toNat + 18446744073709551616 * h.2.1.toNat + 340282366920938463463374607431768211456 * h.2.2.toNat = 1361129467683753853853498429727072845819 + (l0.toNat + 18446744073709551616 * l1.toNat + 340282366920938463463374607431768211456 * (h.2.2 - 3#64 - b1).toNat) := by omega
      rw [hN, Nat.add_mod_left, Nat.mod_eq_of_lt (a := l0.toNat + 18446744073709551616 * l1.toNat + 340282366920938463463374607431768211456 * (h.2.2 - 3#64 - b1).toNat) (by omega)]
      clear s0 s1 s2 hN hh
      omega
  generalize (h.1 &&& -b2 ||| l0 &&& ~~~(-b2)) = k0 at *
  generalize (h.2.1 &&& -b2 ||| l1 &&& ~~~(-b2)) = k1 at *
  have j3 := k0.isLt; have j4 := k1.isLt
  clear s0 s1 s2 hb0 hb1 hb2 hl0 hl1 hb2v
  simp only [W128.val] at key ⊢
  simp only [carry, BitVec.toNat_add, BitVec.toNat_ofNat]
  omega
theorem bytesOf_val (o : W128) : leN (bytesOf o) = o.val := by
  have h1 := o.1.isLt; have h2 := o.2.isLt
  have e : bytesOf o = [outB o 0, outB o 1, outB o 2, outB o 3, outB o 4, outB o 5, outB o 6, outB o 7, outB o 8, outB o 9, outB o 10, outB o 11, outB o 12, outB o 13, outB o 14, outB o 15] := rfl
  have lo : ∀ i, i < 8 → (outB o i).toNat = o.1.toNat / 2 ^ (8 * i) % 256 := fun i hi => by
    unfold outB
    rw [if_pos (by omega), BitVec.toNat_setWidth, BitVec.toNat_ushiftRight, Nat.shiftRight_eq_div_pow, Nat.mod_eq_of_lt hi]
  have hi : ∀ i, i < 8 → (outB o (8 + i)).toNat = o.2.toNat / 2 ^ (8 * i) % 256 := fun i hi => by
    unfold outB
    rw [if_neg (by omega), BitVec.toNat_setWidth, BitVec.toNat_ushiftRight, Nat.shiftRight_eq_div_pow, show (8 + i) % 8 = i by omega]
  have l0 := lo 0 (by omega); have l1 := lo 1 (by omega); have l2 := lo 2 (by omega); have l3 := lo 3 (by omega); have l4 := lo 4 (by omega); have l5 := lo 5 (by omega); have l6 := lo 6 (by omega); have l7 := lo 7 (by omega)
  have g0 := hi 0 (by omega); have g1 := hi 1 (by omega); have g2 := hi 2 (by omega); have g3 := hi 3 (by omega); have g4 := hi 4 (by omega); have g5 := hi 5 (by omega); have g6 := hi 6 (by omega); have g7 := hi 7 (by omega)
  rw [e]
  simp only [leN, l0, l1, l2, l3, l4, l5, l6, l7, g0, g1, g2, g3, g4, g5, g6, g7, Nat.reduceAdd, Nat.reduceMul, Nat.reducePow, W128.val]
  clear l0 l1 l2 l3 l4 l5 l6 l7 g0 g1 g2 g3 g4 g5 g6 g7 lo hi e
  omega
/-- r and s of a key, as numbers. -/
def rN (key : List Byte) : Nat := (newS key).r.val
def sN (key : List Byte) : Nat := leN (key.drop 16)
theorem newS_sim (key : List Byte) : SimN (rN key) (newS key) (0, []) := by
  refine ⟨newS_ok key, rfl, (show (0#64 : BitVec 64).toNat + 18446744073709551616 * (0#64 : BitVec 64).toNat + 340282366920938463463374607431768211456 * (0#64 : BitVec 64).toNat < _ by decide), rfl, rfl, ?_, ?_⟩
  · show (_ &&& _ : BitVec 64).toNat < _
    rw [BitVec.toNat_and]
    exact Nat.lt_of_le_of_lt Nat.and_le_right (by decide)
  · show (_ &&& _ : BitVec 64).toNat < _
    rw [BitVec.toNat_and]
    exact Nat.lt_of_le_of_lt Nat.and_le_right (by decide)
theorem push_rs (t : PolyS) (x : Byte) : (push t x).s = t.s := by unfold push; split <;> rfl
theorem writeS_rs : ∀ (b : List Byte) (t : PolyS), (writeS t b).s = t.s
  | [], _ => rfl
  | x :: b, t => (writeS_rs b (push t x)).trans (push_rs t x)
theorem newS_s (key : List Byte) (hk : key.length = 32) : (newS key).s.val = sN key := by
  have h := split16 (key.drop 16) (by simp; omega)
  rw [List.drop_drop] at h
  exact h
/-- What a code is, as a number. -/
def polyN (key m : List Byte) : Nat := finN (rN key) (m.foldl (stepN (rN key)) (0, []))
theorem code_val (key m : List Byte) (hk : key.length = 32) : leN (code key m) = (polyN key m + sN key) % 340282366920938463463374607431768211456 := by
  have h := simN_write (b := m) (newS_sim key)
  have hf := fin_val h
  show leN (bytesOf (outW (finS (writeS (newS key) m)).h (finS (writeS (newS key) m)).s)) = _
  rw [bytesOf_val, out_val _ _ hf.2, hf.1, finS_s, writeS_rs, newS_s key hk]
  rfl
end Go.Sl

/- trystlaw06: minus, second, within. -/
set_option maxHeartbeats 4000000
set_option maxRecDepth 10000
set_option linter.unusedVariables false
set_option linter.unusedSimpArgs false
namespace Go.Sl
open Go Go.Proofs
attribute [local irreducible] cl pt own old pur ex all den denOps denS xOps xC cX CX xthen xblk xcut xloop retX resX Calls PV Rd Con
def uptoG (f : Nat → Byte) (i : Nat) : List Byte := upto f i
theorem second_x (key : List Byte) (hk : key.length = 32) : Con Try.prog 26 [.agg (key.map u8b).toArray] [] (fun v M => v = .agg ((key.drop 16).map u8b).toArray ∧ M = []) := by
  refine fn_x Try.func26 rfl rfl rfl Try.mixed (by kernel_rfl) ?_
  intro w0
  repeat (first|refine zA ?_|refine zB ?_|refine zC ?_|refine zD ?_|refine zE ?_|refine zF ?_|refine zG ?_|refine zH ?_|refine zI ?_|refine zJ ?_|refine zK ?_|refine zL ?_|refine zM rfl ?_|refine zN ?_|refine zO ?_|refine zP ?_|refine zQ ?_)
  refine Zgb ?_
  refine Zh5 rfl ?_; intro b1
  refine Zhz (cs := ((List.replicate 16 0#8).map u8b).toArray) rfl ?_; intro b2
  refine Zg3 ?_
  repeat (first|refine zA ?_|refine zB ?_|refine zC ?_|refine zD ?_|refine zE ?_|refine zF ?_|refine zG ?_|refine zH ?_|refine zI ?_|refine zJ ?_|refine zK ?_|refine zL ?_|refine zM rfl ?_|refine zN ?_|refine zO ?_|refine zP ?_|refine zQ ?_)
  refine Zgb ?_
  refine Zhz (cs := ((List.replicate 16 0#8).map u8b).toArray) rfl ?_; intro b3
  refine Zg3 ?_
  repeat (first|refine zA ?_|refine zB ?_|refine zC ?_|refine zD ?_|refine zE ?_|refine zF ?_|refine zG ?_|refine zH ?_|refine zI ?_|refine zJ ?_|refine zK ?_|refine zL ?_|refine zM rfl ?_|refine zN ?_|refine zO ?_|refine zP ?_|refine zQ ?_)
  refine Zgb ?_
  first|refine Zhg (Zaz rfl) ?_|refine Zhg (Zas rfl) ?_
  refine Zg3 ?_
  repeat (first|refine zA ?_|refine zB ?_|refine zC ?_|refine zD ?_|refine zE ?_|refine zF ?_|refine zG ?_|refine zH ?_|refine zI ?_|refine zJ ?_|refine zK ?_|refine zL ?_|refine zM rfl ?_|refine zN ?_|refine zO ?_|refine zP ?_|refine zQ ?_)
  refine Zgo [(4, 14)] (by kernel_rfl) (fun i : Nat => i ≤ 16) (fun i => [cl b3 ((upto (fun j => key.getD (16 + j) 0#8) i).map u8b).toArray 27, cl b2 ((List.replicate 16 0#8).map u8b).toArray 27, cl b1 (key.map u8b).toArray 24])
    (fun i => [(4, .int .i64 (i : Int))]) (fun i => 16 - i) 0 (by omega) (by rw [upto_zero]; exact Imp.arr (by repeat (first|exact Arr.nil|exact Arr.stop|refine Arr.cons (by repeat constructor) ?_|refine Arr.skip ?_))) ⟨rfl, trivial⟩ ?_
  intro i u hi
  have hul : (upto (fun j => key.getD (16 + j) 0#8) i).length = 16 := by simp [upto]
  repeat (first|refine zA ?_|refine zB ?_|refine zC ?_|refine zD ?_|refine zE ?_|refine zF ?_|refine zG ?_|refine zH ?_|refine zI ?_|refine zJ ?_|refine zK ?_|refine zL ?_|refine zM rfl ?_|refine zN ?_|refine zO ?_|refine zP ?_|refine zQ ?_)
  refine Zgb ?_
  first|refine Zhg (Zat rfl) ?_|refine Zhg (Zar rfl) ?_
  first|refine Zhg (Zmf (b := 16) rfl rfl) ?_|refine Zhg (Zbn rfl rfl) ?_
  refine Zg3 ?_
  repeat (first|refine zA ?_|refine zB ?_|refine zC ?_|refine zD ?_|refine zE ?_|refine zF ?_|refine zG ?_|refine zH ?_|refine zI ?_|refine zJ ?_|refine zK ?_|refine zL ?_|refine zM rfl ?_|refine zN ?_|refine zO ?_|refine zP ?_|refine zQ ?_)
  refine Zgg rfl (fun hB => ?_) (fun hB => ?_)
  · repeat (first|refine zA ?_|refine zB ?_|refine zC ?_|refine zD ?_|refine zE ?_|refine zF ?_|refine zG ?_|refine zH ?_|refine zI ?_|refine zJ ?_|refine zK ?_|refine zL ?_|refine zM rfl ?_|refine zN ?_|refine zO ?_|refine zP ?_|refine zQ ?_)
    refine Zgb ?_
    first|refine Zhg (Zat rfl) ?_|refine Zhg (Zar rfl) ?_
    first|refine Zhg (Zat rfl) ?_|refine Zhg (Zar rfl) ?_
    first|refine Zhg (Zma (a := 16) rfl rfl) ?_|refine Zhg (Zbg rfl rfl) ?_
    first|refine Zhg (Zl5 rfl rfl) ?_|refine Zhg (Zl3 rfl rfl) ?_
    refine Zhp rfl (by repeat constructor) ((getL (f := u8b) (l := key) (by omega)).trans (by rw [← show key.getD (16 + i) 0#8 = key[16 + i] by simp [List.getD_eq_getElem?_getD, List.getElem?_eq_getElem (show 16 + i < key.length by omega)]])) ?_
    first|refine Zhg (Zl5 rfl rfl) ?_|refine Zhg (Zl3 rfl rfl) ?_
    refine Zht rfl rfl (by repeat constructor) (by first|rfl|omega|(rw [szL]; omega)|exact Nat.le_of_ble_eq_true rfl|(simp; done)|(simp; omega)) (setL (f := u8b) (l := upto (fun j => key.getD (16 + j) 0#8) i)) ?_
    refine Zg3 ?_
    repeat (first|refine zA ?_|refine zB ?_|refine zC ?_|refine zD ?_|refine zE ?_|refine zF ?_|refine zG ?_|refine zH ?_|refine zI ?_|refine zJ ?_|refine zK ?_|refine zL ?_|refine zM rfl ?_|refine zN ?_|refine zO ?_|refine zP ?_|refine zQ ?_)
    refine Zgb ?_
    first|refine Zhg (Zat rfl) ?_|refine Zhg (Zar rfl) ?_
    first|refine Zhg (Zma (b := 1) rfl rfl) ?_|refine Zhg (Zbg rfl rfl) ?_
    first|refine Zhg (Zaz rfl) ?_|refine Zhg (Zas rfl) ?_
    refine Zg3 ?_
    repeat (first|refine zA ?_|refine zB ?_|refine zC ?_|refine zD ?_|refine zE ?_|refine zF ?_|refine zG ?_|refine zH ?_|refine zI ?_|refine zJ ?_|refine zK ?_|refine zL ?_|refine zM rfl ?_|refine zN ?_|refine zO ?_|refine zP ?_|refine zQ ?_)
    refine Zgl (i + 1) (by first|omega|(dsimp only; omega)|(simp only []; omega)) (by first|omega|(dsimp only; omega)|(simp only []; omega)) ?_ ⟨rfl, trivial⟩
    rw [← upto_set]
    exact Imp.arr (by repeat (first|exact Arr.nil|exact Arr.stop|refine Arr.cons (by repeat constructor) ?_|refine Arr.skip ?_))
  · have hi16 : i = 16 := by omega
    subst hi16
    have e : upto (fun j => key.getD (16 + j) 0#8) 16 = key.drop 16 := by
      rw [upto_end]
      apply List.ext_getElem (by simp; omega)
      intro j h1 h2
      simp only [List.getElem_map, List.getElem_range, List.getElem_drop]
      simp at h1
      rw [List.getD_eq_getElem?_getD, List.getElem?_eq_getElem (by omega)]; rfl
    rw [e]
    repeat (first|refine zA ?_|refine zB ?_|refine zC ?_|refine zD ?_|refine zE ?_|refine zF ?_|refine zG ?_|refine zH ?_|refine zI ?_|refine zJ ?_|refine zK ?_|refine zL ?_|refine zM rfl ?_|refine zN ?_|refine zO ?_|refine zP ?_|refine zQ ?_)
    refine Zgb ?_
    first|refine Zhr rfl (by repeat constructor) (by first|rfl|omega|(rw [szL]; omega)|exact Nat.le_of_ble_eq_true rfl|(simp; done)|(simp; omega)) ?_|refine Zhq rfl (by repeat constructor) (by first|rfl|omega|(rw [szL]; omega)|exact Nat.le_of_ble_eq_true rfl|(simp; done)|(simp; omega)) rfl ?_
    first|refine Zhy rfl rfl (by repeat constructor) (by first|rfl|omega|(rw [szL]; omega)|exact Nat.le_of_ble_eq_true rfl|(simp; done)|(simp; omega)) (by first|rfl|exact oneM_u8 _|exact oneL_u8 _|(simp [oneC]; done)) (by first|rfl|omega|(rw [szL]; omega)|exact Nat.le_of_ble_eq_true rfl|(simp; done)|(simp; omega)) ?_|refine Zhx rfl rfl (by repeat constructor) (by first|rfl|omega|(rw [szL]; omega)|exact Nat.le_of_ble_eq_true rfl|(simp; done)|(simp; omega)) (by first|rfl|exact oneM_u8 _|exact oneL_u8 _|(simp [oneC]; done)) (by first|rfl|omega|(rw [szL]; omega)|exact Nat.le_of_ble_eq_true rfl|(simp; done)|(simp; omega)) rfl ?_
    refine Zg3 ?_
    repeat (first|refine zA ?_|refine zB ?_|refine zC ?_|refine zD ?_|refine zE ?_|refine zF ?_|refine zG ?_|refine zH ?_|refine zI ?_|refine zJ ?_|refine zK ?_|refine zL ?_|refine zM rfl ?_|refine zN ?_|refine zO ?_|refine zP ?_|refine zQ ?_)
    refine rx1 (Zhe rfl (by repeat constructor) (by first|rfl|omega|(rw [szL]; omega)|exact Nat.le_of_ble_eq_true rfl|(simp; done)|(simp; omega)) (Zg7)) ?_
    exact ⟨_, ⟨rfl, rfl⟩, by exact Imp.arr (by repeat (first|exact Arr.nil|exact Arr.stop|refine Arr.cons (by repeat constructor) ?_|refine Arr.skip ?_))⟩
/-- A digit of the difference, and what is borrowed. -/
def mdiff (a b : List Byte) (i c : Nat) : Int := ((b.getD i 0#8).toNat : Int) - ((a.getD i 0#8).toNat : Int) - (c : Int)
def mdig (a b : List Byte) (i c : Nat) : Byte := BitVec.ofInt 8 (if mdiff a b i c < 0 then mdiff a b i c + 256 else mdiff a b i c)
def mbor (a b : List Byte) (i c : Nat) : Nat := if mdiff a b i c < 0 then 1 else 0
def minusS (a b : List Byte) : Nat → List Byte × Nat
  | 0 => (List.replicate 16 0#8, 0)
  | i + 1 => let s := minusS a b i; (s.1.set i (mdig a b i s.2), mbor a b i s.2)
def minusL (a b : List Byte) : List Byte := (minusS a b 16).1
theorem minusS_len (a b : List Byte) : ∀ i, (minusS a b i).1.length = 16
  | 0 => by simp [minusS]
  | i + 1 => by simp [minusS, minusS_len a b i]
theorem minusS_bor (a b : List Byte) : ∀ i, (minusS a b i).2 ≤ 1
  | 0 => by simp [minusS]
  | i + 1 => by simp only [minusS, mbor]; split <;> omega
theorem leN_take_succ (l : List Byte) (i : Nat) (h : i < l.length) : leN (l.take (i + 1)) = leN (l.take i) + 256 ^ i * (l[i]).toNat := by
  rw [List.take_succ_eq_append_getElem h, leN_append, show (l.take i).length = i by simp; omega]
  simp [leN]
theorem take_set_self {α : Type} (l : List α) (i : Nat) (x : α) : (l.set i x).take i = l.take i := by
  apply List.ext_getElem?
  intro j
  by_cases h : j < i
  · rw [List.getElem?_take_of_lt h, List.getElem?_take_of_lt h, List.getElem?_set_ne (by omega)]
  · rw [List.getElem?_eq_none (by simp; omega), List.getElem?_eq_none (by simp; omega)]
theorem minusS_val (a b : List Byte) (ha : a.length = 16) (hb : b.length = 16) : ∀ i, i ≤ 16 → leN ((minusS a b i).1.take i) + leN (a.take i) = leN (b.take i) + 256 ^ i * (minusS a b i).2
  | 0, _ => by simp [leN, minusS]
  | i + 1, hi => by
    have ih := minusS_val a b ha hb i (by omega)
    have hl := minusS_len a b i
    have hc := minusS_bor a b i
    have h1 : (minusS a b (i + 1)).1.take (i + 1) = (minusS a b i).1.take i ++ [mdig a b i (minusS a b i).2] := by
      simp only [minusS]
      rw [List.take_succ_eq_append_getElem (by simp; omega), take_set_self]
      simp
    rw [h1, leN_append, leN_take_succ a i (by omega), leN_take_succ b i (by omega), show ((minusS a b i).1.take i).length = i by simp; omega]
    simp only [leN, minusS, mbor]
    generalize (minusS a b i).2 = c at *
    have ea : a.getD i 0#8 = a[i] := by rw [List.getD_eq_getElem?_getD, List.getElem?_eq_getElem (by omega)]; rfl
    have eb : b.getD i 0#8 = b[i] := by rw [List.getD_eq_getElem?_getD, List.getElem?_eq_getElem (by omega)]; rfl
    have hd : mdiff a b i c = (b[i].toNat : Int) - (a[i].toNat : Int) - (c : Int) := by unfold mdiff; rw [ea, eb]
    have hx := a[i].isLt; have hy := b[i].isLt
    have hdig : ((mdig a b i c).toNat : Int) = if mdiff a b i c < 0 then mdiff a b i c + 256 else mdiff a b i c := by
      unfold mdig
      rw [BitVec.toNat_ofInt]
      split <;> omega
    rw [Nat.pow_succ]
    generalize hp : (256 : Nat) ^ i = p at *
    have hmul : p * (mdig a b i c).toNat + p * a[i].toNat + p * c = p * b[i].toNat + p * 256 * (if mdiff a b i c < 0 then 1 else 0) := by
      rw [← Nat.mul_add, ← Nat.mul_add, Nat.mul_assoc, ← Nat.mul_add]
      congr 1
      split at hdig <;> rename_i hh <;> simp only [hh, if_true, if_false] <;> omega
    simp only [Nat.mul_zero, Nat.add_zero]
    omega
theorem minusL_val (a b : List Byte) (ha : a.length = 16) (hb : b.length = 16) : leN (minusL a b) = (leN b + 340282366920938463463374607431768211456 - leN a) % 340282366920938463463374607431768211456 := by
  have h := minusS_val a b ha hb 16 (by omega)
  have hl := minusS_len a b 16
  have hc := minusS_bor a b 16
  rw [List.take_of_length_le (by omega), List.take_of_length_le (by omega), List.take_of_length_le (by omega), show (256 : Nat) ^ 16 = 340282366920938463463374607431768211456 by decide] at h
  have h1 := leN_lt (minusS a b 16).1
  have h2 := leN_lt a
  have h3 := leN_lt b
  rw [hl, show (256 : Nat) ^ 16 = 340282366920938463463374607431768211456 by decide] at h1
  rw [ha, show (256 : Nat) ^ 16 = 340282366920938463463374607431768211456 by decide] at h2
  rw [hb, show (256 : Nat) ^ 16 = 340282366920938463463374607431768211456 by decide] at h3
  unfold minusL
  omega
theorem minus_x (a b : List Byte) (ha : a.length = 16) (hb : b.length = 16) : Con Try.prog 25 [.agg (a.map u8b).toArray, .agg (b.map u8b).toArray] [] (fun v M => v = .agg ((minusL a b).map u8b).toArray ∧ M = []) := by
  refine fn_x Try.func25 rfl rfl rfl Try.mixed (by kernel_rfl) ?_
  intro w0
  repeat (first|refine zA ?_|refine zB ?_|refine zC ?_|refine zD ?_|refine zE ?_|refine zF ?_|refine zG ?_|refine zH ?_|refine zI ?_|refine zJ ?_|refine zK ?_|refine zL ?_|refine zM rfl ?_|refine zN ?_|refine zO ?_|refine zP ?_|refine zQ ?_)
  refine Zgb ?_
  refine Zh5 rfl ?_; intro b2
  refine Zh5 rfl ?_; intro b3
  refine Zhz (cs := ((List.replicate 16 0#8).map u8b).toArray) rfl ?_; intro b4
  refine Zg3 ?_
  repeat (first|refine zA ?_|refine zB ?_|refine zC ?_|refine zD ?_|refine zE ?_|refine zF ?_|refine zG ?_|refine zH ?_|refine zI ?_|refine zJ ?_|refine zK ?_|refine zL ?_|refine zM rfl ?_|refine zN ?_|refine zO ?_|refine zP ?_|refine zQ ?_)
  refine Zgb ?_
  refine Zhz (cs := ((List.replicate 16 0#8).map u8b).toArray) rfl ?_; intro b5
  refine Zg3 ?_
  repeat (first|refine zA ?_|refine zB ?_|refine zC ?_|refine zD ?_|refine zE ?_|refine zF ?_|refine zG ?_|refine zH ?_|refine zI ?_|refine zJ ?_|refine zK ?_|refine zL ?_|refine zM rfl ?_|refine zN ?_|refine zO ?_|refine zP ?_|refine zQ ?_)
  refine Zgb ?_
  first|refine Zhg (Zaz rfl) ?_|refine Zhg (Zas rfl) ?_
  refine Zg3 ?_
  repeat (first|refine zA ?_|refine zB ?_|refine zC ?_|refine zD ?_|refine zE ?_|refine zF ?_|refine zG ?_|refine zH ?_|refine zI ?_|refine zJ ?_|refine zK ?_|refine zL ?_|refine zM rfl ?_|refine zN ?_|refine zO ?_|refine zP ?_|refine zQ ?_)
  refine Zgb ?_
  first|refine Zhg (Zaz rfl) ?_|refine Zhg (Zas rfl) ?_
  refine Zg3 ?_
  repeat (first|refine zA ?_|refine zB ?_|refine zC ?_|refine zD ?_|refine zE ?_|refine zF ?_|refine zG ?_|refine zH ?_|refine zI ?_|refine zJ ?_|refine zK ?_|refine zL ?_|refine zM rfl ?_|refine zN ?_|refine zO ?_|refine zP ?_|refine zQ ?_)
  refine Zgo [(6, 31)] (by kernel_rfl) (fun i : Nat => i ≤ 16) (fun i => [cl b5 ((minusS a b i).1.map u8b).toArray 27, cl b4 ((List.replicate 16 0#8).map u8b).toArray 27, cl b3 (b.map u8b).toArray 27, cl b2 (a.map u8b).toArray 27])
    (fun i => [(7, .int .i64 (i : Int)), (6, .int .i64 ((minusS a b i).2 : Int))]) (fun i => 16 - i) 0 (by omega) (by exact Imp.arr (by repeat (first|exact Arr.nil|exact Arr.stop|refine Arr.cons (by repeat constructor) ?_|refine Arr.skip ?_))) ⟨rfl, rfl, trivial⟩ ?_
  intro i u hi
  have hul := minusS_len a b i
  have hc := minusS_bor a b i
  repeat (first|refine zA ?_|refine zB ?_|refine zC ?_|refine zD ?_|refine zE ?_|refine zF ?_|refine zG ?_|refine zH ?_|refine zI ?_|refine zJ ?_|refine zK ?_|refine zL ?_|refine zM rfl ?_|refine zN ?_|refine zO ?_|refine zP ?_|refine zQ ?_)
  refine Zgb ?_
  first|refine Zhg (Zat rfl) ?_|refine Zhg (Zar rfl) ?_
  first|refine Zhg (Zmf (b := 16) rfl rfl) ?_|refine Zhg (Zbn rfl rfl) ?_
  refine Zg3 ?_
  repeat (first|refine zA ?_|refine zB ?_|refine zC ?_|refine zD ?_|refine zE ?_|refine zF ?_|refine zG ?_|refine zH ?_|refine zI ?_|refine zJ ?_|refine zK ?_|refine zL ?_|refine zM rfl ?_|refine zN ?_|refine zO ?_|refine zP ?_|refine zQ ?_)
  refine Zgg rfl (fun hB => ?_) (fun hB => ?_)
  · have ea : a.getD i 0#8 = a[i] := by rw [List.getD_eq_getElem?_getD, List.getElem?_eq_getElem (by omega)]; rfl
    have eb : b.getD i 0#8 = b[i] := by rw [List.getD_eq_getElem?_getD, List.getElem?_eq_getElem (by omega)]; rfl
    have hx := a[i].isLt; have hy := b[i].isLt
    have hd : (b[i].toNat : Int) - (a[i].toNat : Int) - ((minusS a b i).2 : Int) = mdiff a b i (minusS a b i).2 := by unfold mdiff; rw [ea, eb]
    repeat (first|refine zA ?_|refine zB ?_|refine zC ?_|refine zD ?_|refine zE ?_|refine zF ?_|refine zG ?_|refine zH ?_|refine zI ?_|refine zJ ?_|refine zK ?_|refine zL ?_|refine zM rfl ?_|refine zN ?_|refine zO ?_|refine zP ?_|refine zQ ?_)
    refine Zij (_) [0, 1, 2, 3, 4, 5, 6, 7, 8, 9] (.r 0 (.r 1 (.r 2 (.r 3 (.r 4 (.r 5 (.r 6 (.r 7 (.r 8 (.r 9 (.q 10 (.q 11 .nil)))))))))))) (by kernel_rfl) (by kernel_rfl) (Imp.refl _) ?_
    first|refine Ziz rfl (Zat rfl) ?_|refine Ziz rfl (Zar rfl) ?_
    first|refine Ziz rfl (Zl5 rfl rfl) ?_|refine Ziz rfl (Zl3 rfl rfl) ?_
    refine Ziv rfl rfl (by repeat constructor) (getL (f := u8b) (l := b) (by omega)) ?_
    refine Ziz rfl (Zjt rfl) ?_
    first|refine Ziz rfl (Zat rfl) ?_|refine Ziz rfl (Zar rfl) ?_
    first|refine Ziz rfl (Zl5 rfl rfl) ?_|refine Ziz rfl (Zl3 rfl rfl) ?_
    refine Ziv rfl rfl (by repeat constructor) (getL (f := u8b) (l := a) (by omega)) ?_
    refine Ziz rfl (Zjt rfl) ?_
    refine Ziz rfl (Zbh rfl rfl (by omega)) ?_
    first|refine Ziz rfl (Zat rfl) ?_|refine Ziz rfl (Zar rfl) ?_
    refine Zim rfl (Zbh rfl rfl (by omega)) ?_
    first|refine Zim rfl (Zaz rfl) ?_|refine Zim rfl (Zas rfl) ?_
    refine Zik ?_
    repeat (first|refine zA ?_|refine zB ?_|refine zC ?_|refine zD ?_|refine zE ?_|refine zF ?_|refine zG ?_|refine zH ?_|refine zI ?_|refine zJ ?_|refine zK ?_|refine zL ?_|refine zM rfl ?_|refine zN ?_|refine zO ?_|refine zP ?_|refine zQ ?_)
    rw [hd]
    repeat (first|refine zA ?_|refine zB ?_|refine zC ?_|refine zD ?_|refine zE ?_|refine zF ?_|refine zG ?_|refine zH ?_|refine zI ?_|refine zJ ?_|refine zK ?_|refine zL ?_|refine zM rfl ?_|refine zN ?_|refine zO ?_|refine zP ?_|refine zQ ?_)
    refine Zgb ?_
    first|refine Zhg (Zaz rfl) ?_|refine Zhg (Zas rfl) ?_
    refine Zg3 ?_
    repeat (first|refine zA ?_|refine zB ?_|refine zC ?_|refine zD ?_|refine zE ?_|refine zF ?_|refine zG ?_|refine zH ?_|refine zI ?_|refine zJ ?_|refine zK ?_|refine zL ?_|refine zM rfl ?_|refine zN ?_|refine zO ?_|refine zP ?_|refine zQ ?_)
    refine Zgb ?_
    first|refine Zhg (Zat rfl) ?_|refine Zhg (Zar rfl) ?_
    first|refine Zhg (Zmf (b := 0) rfl rfl) ?_|refine Zhg (Zbn rfl rfl) ?_
    refine Zg3 ?_
    repeat (first|refine zA ?_|refine zB ?_|refine zC ?_|refine zD ?_|refine zE ?_|refine zF ?_|refine zG ?_|refine zH ?_|refine zI ?_|refine zJ ?_|refine zK ?_|refine zL ?_|refine zM rfl ?_|refine zN ?_|refine zO ?_|refine zP ?_|refine zQ ?_)
    refine Zgg rfl (fun hD => ?_) (fun hD => ?_)
    · have e1 : mdig a b i (minusS a b i).2 = BitVec.ofInt 8 (mdiff a b i (minusS a b i).2 + 256) := by unfold mdig; rw [if_pos hD]
      have e2 : mbor a b i (minusS a b i).2 = 1 := by unfold mbor; rw [if_pos hD]
      repeat (first|refine zA ?_|refine zB ?_|refine zC ?_|refine zD ?_|refine zE ?_|refine zF ?_|refine zG ?_|refine zH ?_|refine zI ?_|refine zJ ?_|refine zK ?_|refine zL ?_|refine zM rfl ?_|refine zN ?_|refine zO ?_|refine zP ?_|refine zQ ?_)
      refine Zgb ?_
      first|refine Zhg (Zat rfl) ?_|refine Zhg (Zar rfl) ?_
      refine Zhg (Zbg rfl rfl (by rw [← hd] at hD ⊢; omega)) ?_
      first|refine Zhg (Zaz rfl) ?_|refine Zhg (Zas rfl) ?_
      refine Zg3 ?_
      repeat (first|refine zA ?_|refine zB ?_|refine zC ?_|refine zD ?_|refine zE ?_|refine zF ?_|refine zG ?_|refine zH ?_|refine zI ?_|refine zJ ?_|refine zK ?_|refine zL ?_|refine zM rfl ?_|refine zN ?_|refine zO ?_|refine zP ?_|refine zQ ?_)
      refine Zgb ?_
      first|refine Zhg (Zaz rfl) ?_|refine Zhg (Zas rfl) ?_
      refine Zg3 ?_
      repeat (first|refine zA ?_|refine zB ?_|refine zC ?_|refine zD ?_|refine zE ?_|refine zF ?_|refine zG ?_|refine zH ?_|refine zI ?_|refine zJ ?_|refine zK ?_|refine zL ?_|refine zM rfl ?_|refine zN ?_|refine zO ?_|refine zP ?_|refine zQ ?_)
      refine Zgb ?_
      first|refine Zhg (Zat rfl) ?_|refine Zhg (Zar rfl) ?_
      first|refine Zhg (Zat rfl) ?_|refine Zhg (Zar rfl) ?_
      refine Zhg (Zjs rfl) ?_
      first|refine Zhg (Zl5 rfl rfl) ?_|refine Zhg (Zl3 rfl rfl) ?_
      refine Zht rfl rfl (by repeat constructor) (by first|rfl|omega|(rw [szL]; omega)|exact Nat.le_of_ble_eq_true rfl|(simp; done)|(simp; omega)) (setL (f := u8b) (l := (minusS a b i).1)) ?_
      refine Zg3 ?_
      repeat (first|refine zA ?_|refine zB ?_|refine zC ?_|refine zD ?_|refine zE ?_|refine zF ?_|refine zG ?_|refine zH ?_|refine zI ?_|refine zJ ?_|refine zK ?_|refine zL ?_|refine zM rfl ?_|refine zN ?_|refine zO ?_|refine zP ?_|refine zQ ?_)
      refine Zgb ?_
      first|refine Zhg (Zat rfl) ?_|refine Zhg (Zar rfl) ?_
      first|refine Zhg (Zma (b := 1) rfl rfl) ?_|refine Zhg (Zbg rfl rfl) ?_
      first|refine Zhg (Zaz rfl) ?_|refine Zhg (Zas rfl) ?_
      refine Zg3 ?_
      repeat (first|refine zA ?_|refine zB ?_|refine zC ?_|refine zD ?_|refine zE ?_|refine zF ?_|refine zG ?_|refine zH ?_|refine zI ?_|refine zJ ?_|refine zK ?_|refine zL ?_|refine zM rfl ?_|refine zN ?_|refine zO ?_|refine zP ?_|refine zQ ?_)
      rw [← e1]
      exact Zgl (i + 1) (by first|omega|(dsimp only; omega)|(simp only []; omega)) (by first|omega|(dsimp only; omega)|(simp only []; omega)) (by exact Imp.arr (by repeat (first|exact Arr.nil|exact Arr.stop|refine Arr.cons (by repeat constructor) ?_|refine Arr.skip ?_))) ⟨rfl, (by show Value.int _ _ = .int _ ((mbor a b i (minusS a b i).2 : Nat) : Int); rw [e2]; rfl), trivial⟩
    · have e1 : mdig a b i (minusS a b i).2 = BitVec.ofInt 8 (mdiff a b i (minusS a b i).2) := by unfold mdig; rw [if_neg hD]
      have e2 : mbor a b i (minusS a b i).2 = 0 := by unfold mbor; rw [if_neg hD]
      repeat (first|refine zA ?_|refine zB ?_|refine zC ?_|refine zD ?_|refine zE ?_|refine zF ?_|refine zG ?_|refine zH ?_|refine zI ?_|refine zJ ?_|refine zK ?_|refine zL ?_|refine zM rfl ?_|refine zN ?_|refine zO ?_|refine zP ?_|refine zQ ?_)
      refine Zgb ?_
      first|refine Zhg (Zat rfl) ?_|refine Zhg (Zar rfl) ?_
      first|refine Zhg (Zat rfl) ?_|refine Zhg (Zar rfl) ?_
      refine Zhg (Zjs rfl) ?_
      first|refine Zhg (Zl5 rfl rfl) ?_|refine Zhg (Zl3 rfl rfl) ?_
      refine Zht rfl rfl (by repeat constructor) (by first|rfl|omega|(rw [szL]; omega)|exact Nat.le_of_ble_eq_true rfl|(simp; done)|(simp; omega)) (setL (f := u8b) (l := (minusS a b i).1)) ?_
      refine Zg3 ?_
      repeat (first|refine zA ?_|refine zB ?_|refine zC ?_|refine zD ?_|refine zE ?_|refine zF ?_|refine zG ?_|refine zH ?_|refine zI ?_|refine zJ ?_|refine zK ?_|refine zL ?_|refine zM rfl ?_|refine zN ?_|refine zO ?_|refine zP ?_|refine zQ ?_)
      refine Zgb ?_
      first|refine Zhg (Zat rfl) ?_|refine Zhg (Zar rfl) ?_
      first|refine Zhg (Zma (b := 1) rfl rfl) ?_|refine Zhg (Zbg rfl rfl) ?_
      first|refine Zhg (Zaz rfl) ?_|refine Zhg (Zas rfl) ?_
      refine Zg3 ?_
      repeat (first|refine zA ?_|refine zB ?_|refine zC ?_|refine zD ?_|refine zE ?_|refine zF ?_|refine zG ?_|refine zH ?_|refine zI ?_|refine zJ ?_|refine zK ?_|refine zL ?_|refine zM rfl ?_|refine zN ?_|refine zO ?_|refine zP ?_|refine zQ ?_)
      rw [← e1]
      exact Zgl (i + 1) (by first|omega|(dsimp only; omega)|(simp only []; omega)) (by first|omega|(dsimp only; omega)|(simp only []; omega)) (by exact Imp.arr (by repeat (first|exact Arr.nil|exact Arr.stop|refine Arr.cons (by repeat constructor) ?_|refine Arr.skip ?_))) ⟨rfl, (by show Value.int _ _ = .int _ ((mbor a b i (minusS a b i).2 : Nat) : Int); rw [e2]; rfl), trivial⟩
  · have hi16 : i = 16 := by omega
    subst hi16
    repeat (first|refine zA ?_|refine zB ?_|refine zC ?_|refine zD ?_|refine zE ?_|refine zF ?_|refine zG ?_|refine zH ?_|refine zI ?_|refine zJ ?_|refine zK ?_|refine zL ?_|refine zM rfl ?_|refine zN ?_|refine zO ?_|refine zP ?_|refine zQ ?_)
    refine Zgb ?_
    first|refine Zhr rfl (by repeat constructor) (by first|rfl|omega|(rw [szL]; omega)|exact Nat.le_of_ble_eq_true rfl|(simp; done)|(simp; omega)) ?_|refine Zhq rfl (by repeat constructor) (by first|rfl|omega|(rw [szL]; omega)|exact Nat.le_of_ble_eq_true rfl|(simp; done)|(simp; omega)) rfl ?_
    first|refine Zhy rfl rfl (by repeat constructor) (by first|rfl|omega|(rw [szL]; omega)|exact Nat.le_of_ble_eq_true rfl|(simp; done)|(simp; omega)) (by first|rfl|exact oneM_u8 _|exact oneL_u8 _|(simp [oneC]; done)) (by first|rfl|omega|(rw [szL]; omega)|exact Nat.le_of_ble_eq_true rfl|(simp; done)|(simp; omega)) ?_|refine Zhx rfl rfl (by repeat constructor) (by first|rfl|omega|(rw [szL]; omega)|exact Nat.le_of_ble_eq_true rfl|(simp; done)|(simp; omega)) (by first|rfl|exact oneM_u8 _|exact oneL_u8 _|(simp [oneC]; done)) (by first|rfl|omega|(rw [szL]; omega)|exact Nat.le_of_ble_eq_true rfl|(simp; done)|(simp; omega)) rfl ?_
    refine Zg3 ?_
    repeat (first|refine zA ?_|refine zB ?_|refine zC ?_|refine zD ?_|refine zE ?_|refine zF ?_|refine zG ?_|refine zH ?_|refine zI ?_|refine zJ ?_|refine zK ?_|refine zL ?_|refine zM rfl ?_|refine zN ?_|refine zO ?_|refine zP ?_|refine zQ ?_)
    refine rx1 (Zhe rfl (by repeat constructor) (by first|rfl|omega|(rw [szL]; omega)|exact Nat.le_of_ble_eq_true rfl|(simp; done)|(simp; omega)) (Zg7)) ?_
    exact ⟨_, ⟨rfl, rfl⟩, by exact Imp.arr (by repeat (first|exact Arr.nil|exact Arr.stop|refine Arr.cons (by repeat constructor) ?_|refine Arr.skip ?_))⟩
end Go.Sl

/- trystlaw06: TagShifts, walked. -/
set_option maxHeartbeats 4000000
set_option maxRecDepth 10000
set_option linter.unusedVariables false
set_option linter.unusedSimpArgs false
namespace Go.Sl
open Go Go.Proofs
attribute [local irreducible] cl pt own old pur ex all den denOps denS xOps xC cX CX xthen xblk xcut xloop retX resX Calls PV Rd Con
theorem rs_one {L L' : List Asrt} {b : Nat} {v : Value} {l : List Byte} (hm : Has L (cl b #[v] 31) L') (hv : Bs L v l) : Rs L (.slice (some ⟨b, 0, none⟩) 1 1) [(v, l)] :=
  Rs.cl (o := 0) (ps := [(v, l)]) hm (by simp) rfl (by simp) (by simp) (by intro x hx; simp only [List.mem_cons, List.not_mem_nil, or_false] at hx; subst hx; exact hv)
theorem tsum1_c {L L' : List Asrt} (key : List Byte) (hk : key.length = 32) {b : Nat} {v : Value} {l : List Byte} (hm : Has L (cl b #[v] 31) L') (hv : Bs L v l) :
    Con Try.prog 13 [.agg (key.map u8b).toArray, .slice (some ⟨b, 0, none⟩) 1 1] L (fun r M => r = .agg ((code key l).map u8b).toArray ∧ L = M) := by
  have h := tsum_c (L := L) key hk (rs_one hm hv) (by simp)
  have e : joinB [(v, l)] = l := by simp [joinB]
  rw [e] at h; exact h
/-- Codes under keys with one r are as far apart as their s. -/
theorem shifts_law (key other m : List Byte) (hk : key.length = 32) (ho : other.length = 32) :
    minusL (code key m) (code (key.take 16 ++ other.drop 16) m) = minusL (key.drop 16) ((key.take 16 ++ other.drop 16).drop 16) := by
  have hl : (key.take 16 ++ other.drop 16).length = 32 := by simp; omega
  have hd : (key.take 16 ++ other.drop 16).drop 16 = other.drop 16 := by
    rw [List.drop_append_of_le_length (by simp; omega), List.drop_of_length_le (by simp; omega)]; rfl
  have hr : rN (key.take 16 ++ other.drop 16) = rN key := by
    have e1 : (key.take 16 ++ other.drop 16).take 8 = key.take 8 := by
      rw [List.take_append_of_le_length (by simp; omega), List.take_take]; rfl
    have e2 : ((key.take 16 ++ other.drop 16).drop 8).take 8 = (key.drop 8).take 8 := by
      rw [List.drop_append_of_le_length (by simp; omega), List.take_append_of_le_length (by simp; omega), List.drop_take, List.take_take]; rfl
    unfold rN newS
    rw [e1, e2]
  have v1 := code_val key m hk
  have v2 := code_val (key.take 16 ++ other.drop 16) m hl
  have hp : polyN (key.take 16 ++ other.drop 16) m = polyN key m := by unfold polyN; rw [hr]
  rw [hp] at v2
  have c1 := code_len key m
  have c2 := code_len (key.take 16 ++ other.drop 16) m
  have k1 : (key.drop 16).length = 16 := by simp; omega
  have k2 : (other.drop 16).length = 16 := by simp; omega
  apply leN_inj
  · unfold minusL; rw [minusS_len, minusS_len]
  · rw [minusL_val _ _ c1 c2, minusL_val _ _ k1 (by rw [hd]; exact k2), v1, v2]
    have s1 := leN_lt (key.drop 16)
    have s2 := leN_lt (other.drop 16)
    rw [k1, show (256 : Nat) ^ 16 = 340282366920938463463374607431768211456 by decide] at s1
    rw [k2, show (256 : Nat) ^ 16 = 340282366920938463463374607431768211456 by decide] at s2
    unfold sN
    rw [hd]
    omega
theorem shifts_x (W : World) (key : List Byte) (hk : key.length = 32) (other : List Byte) (ho : other.length = 32) (v : Value) (m : List Byte) (hin : InB W v m) : Con Try.prog 8 [.agg (key.map u8b).toArray, .agg (other.map u8b).toArray, v] [old W] (fun r M => r = .bool true ∧ [old W] = M) := by
  obtain ⟨va, vc, rfl, hvl, hvc⟩ := hin.sh
  have hml := hin.len
  refine fn_x Try.func8 rfl rfl rfl Try.mixed (by kernel_rfl) ?_
  intro w0
  repeat (first|refine zA ?_|refine zB ?_|refine zC ?_|refine zD ?_|refine zE ?_|refine zF ?_|refine zG ?_|refine zH ?_|refine zI ?_|refine zJ ?_|refine zK ?_|refine zL ?_|refine zM rfl ?_|refine zN ?_|refine zO ?_|refine zP ?_|refine zQ ?_)
  refine Zgb ?_
  refine Zh5 rfl ?_; intro b3
  refine Zh5 rfl ?_; intro b4
  first|refine Zhg (Za0 rfl) ?_|refine Zhg (Zas rfl) ?_
  refine Zg3 ?_
  repeat (first|refine zA ?_|refine zB ?_|refine zC ?_|refine zD ?_|refine zE ?_|refine zF ?_|refine zG ?_|refine zH ?_|refine zI ?_|refine zJ ?_|refine zK ?_|refine zL ?_|refine zM rfl ?_|refine zN ?_|refine zO ?_|refine zP ?_|refine zQ ?_)
  refine Zgb ?_
  refine Zh8 rfl (by kernel_rfl) (works_x) rfl (by repeat (first|exact Take.nil|exact Take.all|(apply Take.cons; (next => (repeat constructor); done))|apply Take.skip)) ?_
  rintro _ _ ⟨rfl, rfl⟩
  refine Zg2 (by repeat (first|exact App.nil|apply App.cons|(apply App.flip; first|exact App.nil|apply App.cons)|exact App.any)) ?_
  first|refine Zhg (Zb1 rfl) ?_|refine Zhg (Zb0 rfl) ?_
  refine Zhn 11 rfl (rfl) ?_
  refine Zg3 ?_
  repeat (first|refine zA ?_|refine zB ?_|refine zC ?_|refine zD ?_|refine zE ?_|refine zF ?_|refine zG ?_|refine zH ?_|refine zI ?_|refine zJ ?_|refine zK ?_|refine zL ?_|refine zM rfl ?_|refine zN ?_|refine zO ?_|refine zP ?_|refine zQ ?_)
  refine Zgf rfl ?_
  repeat (first|refine zA ?_|refine zB ?_|refine zC ?_|refine zD ?_|refine zE ?_|refine zF ?_|refine zG ?_|refine zH ?_|refine zI ?_|refine zJ ?_|refine zK ?_|refine zL ?_|refine zM rfl ?_|refine zN ?_|refine zO ?_|refine zP ?_|refine zQ ?_)
  refine Zgb ?_
  first|refine Zhg (Zaz rfl) ?_|refine Zhg (Zas rfl) ?_
  refine Zg3 ?_
  repeat (first|refine zA ?_|refine zB ?_|refine zC ?_|refine zD ?_|refine zE ?_|refine zF ?_|refine zG ?_|refine zH ?_|refine zI ?_|refine zJ ?_|refine zK ?_|refine zL ?_|refine zM rfl ?_|refine zN ?_|refine zO ?_|refine zP ?_|refine zQ ?_)
  refine Zgo [(7, 7), (12, 20)] (by kernel_rfl) (fun i : Nat => i ≤ 16) (fun i => [cl b4 ((key.take i ++ other.drop i).map u8b).toArray 24, cl b3 (key.map u8b).toArray 24, old W])
    (fun i => [(7, .int .i64 (i : Int))]) (fun i => 16 - i) 0 (by omega) (by exact Imp.arr (by repeat (first|exact Arr.nil|exact Arr.stop|refine Arr.cons (by repeat constructor) ?_|refine Arr.skip ?_))) ⟨rfl, trivial⟩ ?_
  intro i u hi
  have hol : (key.take i ++ other.drop i).length = 32 := by simp; omega
  repeat (first|refine zA ?_|refine zB ?_|refine zC ?_|refine zD ?_|refine zE ?_|refine zF ?_|refine zG ?_|refine zH ?_|refine zI ?_|refine zJ ?_|refine zK ?_|refine zL ?_|refine zM rfl ?_|refine zN ?_|refine zO ?_|refine zP ?_|refine zQ ?_)
  refine Zgb ?_
  first|refine Zhg (Zat rfl) ?_|refine Zhg (Zar rfl) ?_
  first|refine Zhg (Zmf (b := 16) rfl rfl) ?_|refine Zhg (Zbn rfl rfl) ?_
  refine Zg3 ?_
  repeat (first|refine zA ?_|refine zB ?_|refine zC ?_|refine zD ?_|refine zE ?_|refine zF ?_|refine zG ?_|refine zH ?_|refine zI ?_|refine zJ ?_|refine zK ?_|refine zL ?_|refine zM rfl ?_|refine zN ?_|refine zO ?_|refine zP ?_|refine zQ ?_)
  refine Zgg rfl (fun hB => ?_) (fun hB => ?_)
  · have hset : (key.take i ++ other.drop i).set i key[i] = key.take (i + 1) ++ other.drop (i + 1) := by
      rw [List.set_append_right _ _ (by simp; omega), show i - (key.take i).length = 0 by simp; omega, List.drop_eq_getElem_cons (show i < other.length by omega), List.take_succ_eq_append_getElem (show i < key.length by omega), List.append_assoc]
      rfl
    repeat (first|refine zA ?_|refine zB ?_|refine zC ?_|refine zD ?_|refine zE ?_|refine zF ?_|refine zG ?_|refine zH ?_|refine zI ?_|refine zJ ?_|refine zK ?_|refine zL ?_|refine zM rfl ?_|refine zN ?_|refine zO ?_|refine zP ?_|refine zQ ?_)
    refine Zgb ?_
    first|refine Zhg (Zat rfl) ?_|refine Zhg (Zar rfl) ?_
    first|refine Zhg (Zat rfl) ?_|refine Zhg (Zar rfl) ?_
    first|refine Zhg (Zl5 rfl rfl) ?_|refine Zhg (Zl3 rfl rfl) ?_
    refine Zhp rfl (by repeat constructor) (getL (f := u8b) (l := key) (by omega)) ?_
    first|refine Zhg (Zl5 rfl rfl) ?_|refine Zhg (Zl3 rfl rfl) ?_
    refine Zht rfl rfl (by repeat constructor) (by first|rfl|omega|(rw [szL]; omega)|exact Nat.le_of_ble_eq_true rfl|(simp; done)|(simp; omega)) (setL (f := u8b) (l := key.take i ++ other.drop i)) ?_
    refine Zg3 ?_
    repeat (first|refine zA ?_|refine zB ?_|refine zC ?_|refine zD ?_|refine zE ?_|refine zF ?_|refine zG ?_|refine zH ?_|refine zI ?_|refine zJ ?_|refine zK ?_|refine zL ?_|refine zM rfl ?_|refine zN ?_|refine zO ?_|refine zP ?_|refine zQ ?_)
    rw [hset]
    repeat (first|refine zA ?_|refine zB ?_|refine zC ?_|refine zD ?_|refine zE ?_|refine zF ?_|refine zG ?_|refine zH ?_|refine zI ?_|refine zJ ?_|refine zK ?_|refine zL ?_|refine zM rfl ?_|refine zN ?_|refine zO ?_|refine zP ?_|refine zQ ?_)
    refine Zgb ?_
    first|refine Zhg (Zat rfl) ?_|refine Zhg (Zar rfl) ?_
    first|refine Zhg (Zma (b := 1) rfl rfl) ?_|refine Zhg (Zbg rfl rfl) ?_
    first|refine Zhg (Zaz rfl) ?_|refine Zhg (Zas rfl) ?_
    refine Zg3 ?_
    repeat (first|refine zA ?_|refine zB ?_|refine zC ?_|refine zD ?_|refine zE ?_|refine zF ?_|refine zG ?_|refine zH ?_|refine zI ?_|refine zJ ?_|refine zK ?_|refine zL ?_|refine zM rfl ?_|refine zN ?_|refine zO ?_|refine zP ?_|refine zQ ?_)
    exact Zgl (i + 1) (by first|omega|(dsimp only; omega)|(simp only []; omega)) (by first|omega|(dsimp only; omega)|(simp only []; omega)) (by exact Imp.arr (by repeat (first|exact Arr.nil|exact Arr.stop|refine Arr.cons (by repeat constructor) ?_|refine Arr.skip ?_))) ⟨rfl, trivial⟩
  · have hi16 : i = 16 := by omega
    subst hi16
    generalize hoth : key.take 16 ++ other.drop 16 = oth at hol
    repeat (first|refine zA ?_|refine zB ?_|refine zC ?_|refine zD ?_|refine zE ?_|refine zF ?_|refine zG ?_|refine zH ?_|refine zI ?_|refine zJ ?_|refine zK ?_|refine zL ?_|refine zM rfl ?_|refine zN ?_|refine zO ?_|refine zP ?_|refine zQ ?_)
    refine Zij ([cl b3 (key.map u8b).toArray 24]) [0, 1, 2, 3, 4, 5] (.r 0 (.r 1 (.e 2 true (.e 3 true (.e 4 true (.a 5 (.e 6 false .nil))))))) (by kernel_rfl) (by kernel_rfl) (Imp.arr (by repeat (first|exact Arr.nil|exact Arr.stop|refine Arr.cons (by repeat constructor) ?_|refine Arr.skip ?_))) ?_
    first|refine Ziy rfl rfl (by repeat constructor) (by first|rfl|omega|(rw [szL]; omega)|exact Nat.le_of_ble_eq_true rfl|(simp; done)|(simp; omega)) ?_|refine Zix rfl rfl (by repeat constructor) (by first|rfl|omega|(rw [szL]; omega)|exact Nat.le_of_ble_eq_true rfl|(simp; done)|(simp; omega)) rfl ?_
    first|refine Ziz rfl (Zaw rfl) ?_|refine Ziz rfl (Zar rfl) ?_
    refine Ziq rfl ?_
    refine Zh8 rfl (by kernel_rfl) (copyBytes_x (L := [old W]) (hin.bs .here) (by omega)) rfl (by repeat (first|exact Take.nil|exact Take.all|(apply Take.cons; (next => (repeat constructor); done))|apply Take.skip)) ?_
    rintro _ _ ⟨a1, c1, rfl, rfl⟩
    refine Zg2 (by repeat (first|exact App.nil|apply App.cons|(apply App.flip; first|exact App.nil|apply App.cons)|exact App.any)) ?_
    refine Zg3 ⟨fun _ => Imp.arr (by repeat (first|exact Arr.nil|exact Arr.stop|refine Arr.cons (by repeat constructor) ?_|refine Arr.skip ?_)), ?_⟩
    refine Ziq rfl ?_
    refine Zh7 (cs := #[.slice _ _ _]) (by omega) (by omega) rfl ?_; intro b24
    refine Zg3 ⟨fun _ => Imp.arr (by repeat (first|exact Arr.nil|exact Arr.stop|refine Arr.cons (by repeat constructor) ?_|refine Arr.skip ?_)), ?_⟩
    refine Ziq rfl ?_
    refine Zh8 rfl (by kernel_rfl) (tsum1_c (L := [cl b24 #[.slice a1 m.length c1] 31, own 5 1 (.slice a1 m.length c1) m.length (m.map u8b)]) key hk (by repeat constructor) (Bs.own (by repeat constructor))) rfl (by repeat (first|exact Take.nil|exact Take.all|(apply Take.cons; (next => (repeat constructor); done))|apply Take.skip)) ?_
    rintro _ _ ⟨rfl, rfl⟩
    refine Zg2 (by repeat (first|exact App.nil|apply App.cons|(apply App.flip; first|exact App.nil|apply App.cons)|exact App.any)) ?_
    refine Zg3 ⟨fun _ => Imp.arr (by repeat (first|exact Arr.nil|exact Arr.stop|refine Arr.cons (by repeat constructor) ?_|refine Arr.skip ?_)), ?_⟩
    refine Zir rfl (cs := ((List.replicate 16 0#8).map u8b).toArray) rfl ?_; intro b8
    refine Ziq rfl ?_
    first|refine Zhy rfl rfl (by repeat constructor) (by first|rfl|omega|(rw [szL]; omega)|exact Nat.le_of_ble_eq_true rfl|(simp; done)|(simp; omega)) (by first|rfl|exact oneM_u8 _|exact oneL_u8 _|(simp [oneC]; done)) (by first|rfl|omega|(rw [szL]; omega)|exact Nat.le_of_ble_eq_true rfl|(simp; done)|(simp; omega)) ?_|refine Zhx rfl rfl (by repeat constructor) (by first|rfl|omega|(rw [szL]; omega)|exact Nat.le_of_ble_eq_true rfl|(simp; done)|(simp; omega)) (by first|rfl|exact oneM_u8 _|exact oneL_u8 _|(simp [oneC]; done)) (by first|rfl|omega|(rw [szL]; omega)|exact Nat.le_of_ble_eq_true rfl|(simp; done)|(simp; omega)) rfl ?_
    refine Zg3 ⟨(fun hh => Bool.noConfusion hh), ?_⟩
    refine Zik ?_
    repeat (first|refine zA ?_|refine zB ?_|refine zC ?_|refine zD ?_|refine zE ?_|refine zF ?_|refine zG ?_|refine zH ?_|refine zI ?_|refine zJ ?_|refine zK ?_|refine zL ?_|refine zM rfl ?_|refine zN ?_|refine zO ?_|refine zP ?_|refine zQ ?_)
    refine Zij ([cl b4 (oth.map u8b).toArray 24]) [0, 1, 2, 3, 4, 5] (.r 0 (.r 1 (.e 2 true (.e 3 true (.e 4 true (.a 5 (.e 6 false .nil))))))) (by kernel_rfl) (by kernel_rfl) (Imp.arr (by repeat (first|exact Arr.nil|exact Arr.stop|refine Arr.cons (by repeat constructor) ?_|refine Arr.skip ?_))) ?_
    first|refine Ziy rfl rfl (by repeat constructor) (by first|rfl|omega|(rw [szL]; omega)|exact Nat.le_of_ble_eq_true rfl|(simp; done)|(simp; omega)) ?_|refine Zix rfl rfl (by repeat constructor) (by first|rfl|omega|(rw [szL]; omega)|exact Nat.le_of_ble_eq_true rfl|(simp; done)|(simp; omega)) rfl ?_
    first|refine Ziz rfl (Zaw rfl) ?_|refine Ziz rfl (Zar rfl) ?_
    refine Ziq rfl ?_
    refine Zh8 rfl (by kernel_rfl) (copyBytes_x (L := [old W]) (hin.bs .here) (by omega)) rfl (by repeat (first|exact Take.nil|exact Take.all|(apply Take.cons; (next => (repeat constructor); done))|apply Take.skip)) ?_
    rintro _ _ ⟨a2, c2, rfl, rfl⟩
    refine Zg2 (by repeat (first|exact App.nil|apply App.cons|(apply App.flip; first|exact App.nil|apply App.cons)|exact App.any)) ?_
    refine Zg3 ⟨fun _ => Imp.arr (by repeat (first|exact Arr.nil|exact Arr.stop|refine Arr.cons (by repeat constructor) ?_|refine Arr.skip ?_)), ?_⟩
    refine Ziq rfl ?_
    refine Zh7 (cs := #[.slice _ _ _]) (by omega) (by omega) rfl ?_; intro b29
    refine Zg3 ⟨fun _ => Imp.arr (by repeat (first|exact Arr.nil|exact Arr.stop|refine Arr.cons (by repeat constructor) ?_|refine Arr.skip ?_)), ?_⟩
    refine Ziq rfl ?_
    refine Zh8 rfl (by kernel_rfl) (tsum1_c (L := [cl b29 #[.slice a2 m.length c2] 31, own 5 1 (.slice a2 m.length c2) m.length (m.map u8b)]) oth hol (by repeat constructor) (Bs.own (by repeat constructor))) rfl (by repeat (first|exact Take.nil|exact Take.all|(apply Take.cons; (next => (repeat constructor); done))|apply Take.skip)) ?_
    rintro _ _ ⟨rfl, rfl⟩
    refine Zg2 (by repeat (first|exact App.nil|apply App.cons|(apply App.flip; first|exact App.nil|apply App.cons)|exact App.any)) ?_
    refine Zg3 ⟨fun _ => Imp.arr (by repeat (first|exact Arr.nil|exact Arr.stop|refine Arr.cons (by repeat constructor) ?_|refine Arr.skip ?_)), ?_⟩
    refine Zir rfl (cs := ((List.replicate 16 0#8).map u8b).toArray) rfl ?_; intro b9
    refine Ziq rfl ?_
    first|refine Zhy rfl rfl (by repeat constructor) (by first|rfl|omega|(rw [szL]; omega)|exact Nat.le_of_ble_eq_true rfl|(simp; done)|(simp; omega)) (by first|rfl|exact oneM_u8 _|exact oneL_u8 _|(simp [oneC]; done)) (by first|rfl|omega|(rw [szL]; omega)|exact Nat.le_of_ble_eq_true rfl|(simp; done)|(simp; omega)) ?_|refine Zhx rfl rfl (by repeat constructor) (by first|rfl|omega|(rw [szL]; omega)|exact Nat.le_of_ble_eq_true rfl|(simp; done)|(simp; omega)) (by first|rfl|exact oneM_u8 _|exact oneL_u8 _|(simp [oneC]; done)) (by first|rfl|omega|(rw [szL]; omega)|exact Nat.le_of_ble_eq_true rfl|(simp; done)|(simp; omega)) rfl ?_
    refine Zg3 ⟨(fun hh => Bool.noConfusion hh), ?_⟩
    refine Zik ?_
    repeat (first|refine zA ?_|refine zB ?_|refine zC ?_|refine zD ?_|refine zE ?_|refine zF ?_|refine zG ?_|refine zH ?_|refine zI ?_|refine zJ ?_|refine zK ?_|refine zL ?_|refine zM rfl ?_|refine zN ?_|refine zO ?_|refine zP ?_|refine zQ ?_)
    have hA := code_len key m
    have hB' := code_len oth m
    have hC : (key.drop 16).length = 16 := by simp; omega
    have hD : (oth.drop 16).length = 16 := by simp; omega
    have hM : ∀ a b, (minusL a b).length = 16 := fun a b => by unfold minusL; exact minusS_len a b 16
    repeat (first|refine zA ?_|refine zB ?_|refine zC ?_|refine zD ?_|refine zE ?_|refine zF ?_|refine zG ?_|refine zH ?_|refine zI ?_|refine zJ ?_|refine zK ?_|refine zL ?_|refine zM rfl ?_|refine zN ?_|refine zO ?_|refine zP ?_|refine zQ ?_)
    refine Zij (_) [0, 1, 2, 3, 4, 5] (.r 0 (.r 1 (.r 3 (.r 5 (.e 2 true (.e 4 true (.e 6 false (.e 7 false (.q 8 (.q 9 .nil)))))))))) (by kernel_rfl) (by kernel_rfl) (Imp.refl _) ?_
    first|refine Ziy rfl rfl (by repeat constructor) (by first|rfl|omega|(rw [szL]; omega)|exact Nat.le_of_ble_eq_true rfl|(simp; done)|(simp; omega)) ?_|refine Zix rfl rfl (by repeat constructor) (by first|rfl|omega|(rw [szL]; omega)|exact Nat.le_of_ble_eq_true rfl|(simp; done)|(simp; omega)) rfl ?_
    first|refine Ziy rfl rfl (by repeat constructor) (by first|rfl|omega|(rw [szL]; omega)|exact Nat.le_of_ble_eq_true rfl|(simp; done)|(simp; omega)) ?_|refine Zix rfl rfl (by repeat constructor) (by first|rfl|omega|(rw [szL]; omega)|exact Nat.le_of_ble_eq_true rfl|(simp; done)|(simp; omega)) rfl ?_
    first|refine Ziy rfl rfl (by repeat constructor) (by first|rfl|omega|(rw [szL]; omega)|exact Nat.le_of_ble_eq_true rfl|(simp; done)|(simp; omega)) ?_|refine Zix rfl rfl (by repeat constructor) (by first|rfl|omega|(rw [szL]; omega)|exact Nat.le_of_ble_eq_true rfl|(simp; done)|(simp; omega)) rfl ?_
    first|refine Ziy rfl rfl (by repeat constructor) (by first|rfl|omega|(rw [szL]; omega)|exact Nat.le_of_ble_eq_true rfl|(simp; done)|(simp; omega)) ?_|refine Zix rfl rfl (by repeat constructor) (by first|rfl|omega|(rw [szL]; omega)|exact Nat.le_of_ble_eq_true rfl|(simp; done)|(simp; omega)) rfl ?_
    refine Ziq rfl ?_
    refine Zh8 rfl (by kernel_rfl) (minus_x _ _ hA hB') rfl (by repeat (first|exact Take.nil|exact Take.all|(apply Take.cons; (next => (repeat constructor); done))|apply Take.skip)) ?_
    rintro _ _ ⟨rfl, rfl⟩
    refine Zg2 (by repeat (first|exact App.nil|apply App.cons|(apply App.flip; first|exact App.nil|apply App.cons)|exact App.any)) ?_
    refine Zg3 ⟨fun _ => Imp.arr (by repeat (first|exact Arr.nil|exact Arr.stop|refine Arr.cons (by repeat constructor) ?_|refine Arr.skip ?_)), ?_⟩
    refine Ziq rfl ?_
    refine Zh8 rfl (by kernel_rfl) (second_x key hk) rfl (by repeat (first|exact Take.nil|exact Take.all|(apply Take.cons; (next => (repeat constructor); done))|apply Take.skip)) ?_
    rintro _ _ ⟨rfl, rfl⟩
    refine Zg2 (by repeat (first|exact App.nil|apply App.cons|(apply App.flip; first|exact App.nil|apply App.cons)|exact App.any)) ?_
    refine Zg3 ⟨fun _ => Imp.arr (by repeat (first|exact Arr.nil|exact Arr.stop|refine Arr.cons (by repeat constructor) ?_|refine Arr.skip ?_)), ?_⟩
    refine Ziq rfl ?_
    refine Zh8 rfl (by kernel_rfl) (second_x oth hol) rfl (by repeat (first|exact Take.nil|exact Take.all|(apply Take.cons; (next => (repeat constructor); done))|apply Take.skip)) ?_
    rintro _ _ ⟨rfl, rfl⟩
    refine Zg2 (by repeat (first|exact App.nil|apply App.cons|(apply App.flip; first|exact App.nil|apply App.cons)|exact App.any)) ?_
    refine Zg3 ⟨(fun hh => Bool.noConfusion hh), ?_⟩
    refine Ziq rfl ?_
    refine Zh8 rfl (by kernel_rfl) (minus_x _ _ hC hD) rfl (by repeat (first|exact Take.nil|exact Take.all|(apply Take.cons; (next => (repeat constructor); done))|apply Take.skip)) ?_
    rintro _ _ ⟨rfl, rfl⟩
    refine Zg2 (by repeat (first|exact App.nil|apply App.cons|(apply App.flip; first|exact App.nil|apply App.cons)|exact App.any)) ?_
    refine Zg3 ⟨(fun hh => Bool.noConfusion hh), ?_⟩
    refine Zim rfl (Zm4 (n := 16) (hM _ _) (hM _ _) rfl rfl) ?_
    refine Zi5 39 rfl (decide_eq_true (by rw [← hoth]; exact shifts_law key other m hk ho)) ?_
    first|refine Zim rfl (Za0 rfl) ?_|refine Zim rfl (Zas rfl) ?_
    refine Zik ?_
    repeat (first|refine zA ?_|refine zB ?_|refine zC ?_|refine zD ?_|refine zE ?_|refine zF ?_|refine zG ?_|refine zH ?_|refine zI ?_|refine zJ ?_|refine zK ?_|refine zL ?_|refine zM rfl ?_|refine zN ?_|refine zO ?_|refine zP ?_|refine zQ ?_)
    refine rx1 (Zha rfl (Zg7)) ?_
    exact ⟨_, ⟨rfl, rfl⟩, by exact Imp.arr (by repeat (first|exact Arr.nil|exact Arr.stop|refine Arr.cons (by repeat constructor) ?_|refine Arr.skip ?_))⟩
end Go.Sl

/- trystlaw06: TagNought, walked. -/
set_option maxHeartbeats 4000000
set_option maxRecDepth 10000
set_option linter.unusedVariables false
set_option linter.unusedSimpArgs false
namespace Go.Sl
open Go Go.Proofs
attribute [local irreducible] cl pt own old pur ex all den denOps denS xOps xC cX CX xthen xblk xcut xloop retX resX Calls PV Rd Con
def free (i : Nat) : Byte := if i % 4 = 3 then 240#8 else if i % 4 = 0 ∧ 0 < i then 3#8 else 0#8
def mkB (key : List Byte) (i j : Nat) : Byte := if j < i then key.getD j 0#8 &&& free j else key.getD j 0#8
def mk (key : List Byte) (i : Nat) : List Byte := (List.range 32).map (mkB key i)
theorem mk_len (key : List Byte) (i : Nat) : (mk key i).length = 32 := by simp [mk]
theorem mk_zero (key : List Byte) (hk : key.length = 32) : mk key 0 = key := by
  apply List.ext_getElem (by simp [mk]; omega)
  intro j h1 h2
  simp only [mk, List.getElem_map, List.getElem_range, mkB]
  rw [if_neg (by omega), List.getD_eq_getElem?_getD, List.getElem?_eq_getElem h2]; rfl
theorem mk_get (key : List Byte) (i : Nat) (hi : i < 32) : (mk key i)[i]'(by simp [mk]; omega) = key.getD i 0#8 := by
  simp only [mk, List.getElem_map, List.getElem_range, mkB]
  rw [if_neg (by omega)]
theorem mk_set (key : List Byte) (i : Nat) : (mk key i).set i (key.getD i 0#8 &&& free i) = mk key (i + 1) := by
  apply List.ext_getElem (by simp [mk])
  intro j h1 h2
  simp only [mk, List.getElem_set, List.getElem_map, List.getElem_range, mkB]
  by_cases e : i = j
  · subst e; rw [if_pos rfl, if_pos (by omega)]
  · rw [if_neg e]
    by_cases h : j < i
    · rw [if_pos h, if_pos (by omega)]
    · rw [if_neg h, if_neg (by omega)]
theorem and240 (a : Byte) : (a &&& 240#8).toNat = 16 * (a.toNat / 16) ∧ a.toNat / 16 < 16 := by
  have h : ∀ n : Fin 256, (BitVec.ofFin n &&& 240#8).toNat = 16 * (n.val / 16) := by decide +kernel
  have := a.isLt
  exact ⟨h a.toFin, by omega⟩
theorem and3b (a : Byte) : (a &&& 3#8).toNat = a.toNat % 4 := by
  rw [BitVec.toNat_and]; exact Nat.and_two_pow_sub_one_eq_mod a.toNat 2
theorem and0b (a : Byte) : (a &&& 0#8) = 0#8 := by simp
theorem mask0 : ∀ (a : Fin 16) (c : Fin 4) (d : Fin 16), (16 * a.val * 16777216 + c.val * 4294967296 + 16 * d.val * 72057594037927936) &&& 1152921487695413247 = 0 := by decide +kernel
theorem mask1 : ∀ (b : Fin 4) (a : Fin 16) (c : Fin 4) (d : Fin 16), (b.val + 16 * a.val * 16777216 + c.val * 4294967296 + 16 * d.val * 72057594037927936) &&& 1152921487695413244 = 0 := by decide +kernel
theorem mk_r (key : List Byte) : rN (mk key 16) = 0 := by
  have e1 : (mk key 16).take 8 = [key.getD 0 0#8 &&& 0#8, key.getD 1 0#8 &&& 0#8, key.getD 2 0#8 &&& 0#8, key.getD 3 0#8 &&& 240#8, key.getD 4 0#8 &&& 3#8, key.getD 5 0#8 &&& 0#8, key.getD 6 0#8 &&& 0#8, key.getD 7 0#8 &&& 240#8] := rfl
  have e2 : ((mk key 16).drop 8).take 8 = [key.getD 8 0#8 &&& 3#8, key.getD 9 0#8 &&& 0#8, key.getD 10 0#8 &&& 0#8, key.getD 11 0#8 &&& 240#8, key.getD 12 0#8 &&& 3#8, key.getD 13 0#8 &&& 0#8, key.getD 14 0#8 &&& 0#8, key.getD 15 0#8 &&& 240#8] := rfl
  have w1 : (wordB ((mk key 16).take 8) &&& 1152921487695413247#64).toNat = 0 := by
    rw [BitVec.toNat_and, wordB_val _ (by rw [List.length_take]; omega), e1]
    have a := and240 (key.getD 3 0#8); have d := and240 (key.getD 7 0#8)
    simp only [and0b, leN, a.1, d.1, and3b]
    have := mask0 ⟨_, a.2⟩ ⟨(key.getD 4 0#8).toNat % 4, by omega⟩ ⟨_, d.2⟩
    simp only [] at this
    refine Eq.trans (congrArg (fun x => x &&& 1152921487695413247) ?_) this
    simp only [BitVec.toNat_ofNat]
    omega
  have w2 : (wordB (((mk key 16).drop 8).take 8) &&& 1152921487695413244#64).toNat = 0 := by
    rw [BitVec.toNat_and, wordB_val _ (by rw [List.length_take]; omega), e2]
    have a := and240 (key.getD 11 0#8); have d := and240 (key.getD 15 0#8)
    simp only [and0b, leN, a.1, d.1, and3b]
    have := mask1 ⟨(key.getD 8 0#8).toNat % 4, by omega⟩ ⟨_, a.2⟩ ⟨(key.getD 12 0#8).toNat % 4, by omega⟩ ⟨_, d.2⟩
    simp only [] at this
    refine Eq.trans (congrArg (fun x => x &&& 1152921487695413244) ?_) this
    simp only [BitVec.toNat_ofNat]
    omega
  show (wordB ((mk key 16).take 8) &&& 1152921487695413247#64).toNat + 18446744073709551616 * (wordB (((mk key 16).drop 8).take 8) &&& 1152921487695413244#64).toNat = 0
  rw [w1, w2]
theorem poly_nought (key m : List Byte) (h : rN key = 0) : polyN key m = 0 := by
  unfold polyN
  rw [h]
  have key2 : ∀ (m : List Byte) (s : Nat × List Byte), s.1 = 0 → (m.foldl (stepN 0) s).1 = 0 := by
    intro m
    induction m with
    | nil => exact fun _ h => h
    | cons x m ih =>
      intro s hs
      refine ih _ ?_
      unfold stepN
      split
      · show (_ * 0) % _ = 0
        rw [Nat.mul_zero, Nat.zero_mod]
      · exact hs
  have h2 := key2 m (0, []) rfl
  unfold finN
  split
  · exact h2
  · rw [Nat.mul_zero, Nat.zero_mod]
theorem nought_law (key m : List Byte) : code (mk key 16) m = (mk key 16).drop 16 := by
  have hl := mk_len key 16
  have hd : ((mk key 16).drop 16).length = 16 := by simp; omega
  apply leN_inj (by rw [code_len, hd])
  rw [code_val _ m hl, poly_nought _ m (mk_r key)]
  have := leN_lt ((mk key 16).drop 16)
  rw [hd, show (256 : Nat) ^ 16 = 340282366920938463463374607431768211456 by decide] at this
  unfold sN
  omega
theorem nought_x (W : World) (key : List Byte) (hk : key.length = 32) (v : Value) (m : List Byte) (hin : InB W v m) : Con Try.prog 9 [.agg (key.map u8b).toArray, v] [old W] (fun r M => r = .bool true ∧ [old W] = M) := by
  obtain ⟨va, vc, rfl, hvl, hvc⟩ := hin.sh
  have hml := hin.len
  refine fn_x Try.func9 rfl rfl rfl Try.mixed (by kernel_rfl) ?_
  intro w0
  repeat (first|refine zA ?_|refine zB ?_|refine zC ?_|refine zD ?_|refine zE ?_|refine zF ?_|refine zG ?_|refine zH ?_|refine zI ?_|refine zJ ?_|refine zK ?_|refine zL ?_|refine zM rfl ?_|refine zN ?_|refine zO ?_|refine zP ?_|refine zQ ?_)
  refine Zgb ?_
  refine Zh5 rfl ?_; intro b2
  first|refine Zhg (Za0 rfl) ?_|refine Zhg (Zas rfl) ?_
  refine Zg3 ?_
  repeat (first|refine zA ?_|refine zB ?_|refine zC ?_|refine zD ?_|refine zE ?_|refine zF ?_|refine zG ?_|refine zH ?_|refine zI ?_|refine zJ ?_|refine zK ?_|refine zL ?_|refine zM rfl ?_|refine zN ?_|refine zO ?_|refine zP ?_|refine zQ ?_)
  refine Zgb ?_
  first|refine Zhg (Zaz rfl) ?_|refine Zhg (Zas rfl) ?_
  refine Zg3 ?_
  repeat (first|refine zA ?_|refine zB ?_|refine zC ?_|refine zD ?_|refine zE ?_|refine zF ?_|refine zG ?_|refine zH ?_|refine zI ?_|refine zJ ?_|refine zK ?_|refine zL ?_|refine zM rfl ?_|refine zN ?_|refine zO ?_|refine zP ?_|refine zQ ?_)
  refine Zgo [(5, 27)] (by kernel_rfl) (fun i : Nat => i ≤ 16) (fun i => [cl b2 ((mk key i).map u8b).toArray 24, old W])
    (fun i => [(5, .int .i64 (i : Int))]) (fun i => 16 - i) 0 (by omega) (by rw [mk_zero key hk]; exact Imp.arr (by repeat (first|exact Arr.nil|exact Arr.stop|refine Arr.cons (by repeat constructor) ?_|refine Arr.skip ?_))) ⟨rfl, trivial⟩ ?_
  intro i u hi
  have hol := mk_len key i
  repeat (first|refine zA ?_|refine zB ?_|refine zC ?_|refine zD ?_|refine zE ?_|refine zF ?_|refine zG ?_|refine zH ?_|refine zI ?_|refine zJ ?_|refine zK ?_|refine zL ?_|refine zM rfl ?_|refine zN ?_|refine zO ?_|refine zP ?_|refine zQ ?_)
  refine Zgb ?_
  first|refine Zhg (Zat rfl) ?_|refine Zhg (Zar rfl) ?_
  first|refine Zhg (Zmf (b := 16) rfl rfl) ?_|refine Zhg (Zbn rfl rfl) ?_
  refine Zg3 ?_
  repeat (first|refine zA ?_|refine zB ?_|refine zC ?_|refine zD ?_|refine zE ?_|refine zF ?_|refine zG ?_|refine zH ?_|refine zI ?_|refine zJ ?_|refine zK ?_|refine zL ?_|refine zM rfl ?_|refine zN ?_|refine zO ?_|refine zP ?_|refine zQ ?_)
  refine Zgg rfl (fun hB => ?_) (fun hB => ?_)
  · repeat (first|refine zA ?_|refine zB ?_|refine zC ?_|refine zD ?_|refine zE ?_|refine zF ?_|refine zG ?_|refine zH ?_|refine zI ?_|refine zJ ?_|refine zK ?_|refine zL ?_|refine zM rfl ?_|refine zN ?_|refine zO ?_|refine zP ?_|refine zQ ?_)
    refine Zgb ?_
    first|refine Zhg (Zaz rfl) ?_|refine Zhg (Zas rfl) ?_
    refine Zg3 ?_
    repeat (first|refine zA ?_|refine zB ?_|refine zC ?_|refine zD ?_|refine zE ?_|refine zF ?_|refine zG ?_|refine zH ?_|refine zI ?_|refine zJ ?_|refine zK ?_|refine zL ?_|refine zM rfl ?_|refine zN ?_|refine zO ?_|refine zP ?_|refine zQ ?_)
    refine Zgb ?_
    first|refine Zhg (Zat rfl) ?_|refine Zhg (Zar rfl) ?_
    first|refine Zhg (Zme (b := 4) rfl rfl) ?_|refine Zhg (Zbl rfl rfl) ?_
    first|refine Zhg (Zmj (b := 3) rfl rfl) ?_|refine Zhg (Zbr rfl rfl) ?_
    refine Zg3 ?_
    repeat (first|refine zA ?_|refine zB ?_|refine zC ?_|refine zD ?_|refine zE ?_|refine zF ?_|refine zG ?_|refine zH ?_|refine zI ?_|refine zJ ?_|refine zK ?_|refine zL ?_|refine zM rfl ?_|refine zN ?_|refine zO ?_|refine zP ?_|refine zQ ?_)
    refine Zgn [(6, 6), (14, 20)] (by kernel_rfl) (fun _ : Unit => True) (fun _ => [cl b2 ((mk key i).map u8b).toArray 24, old W]) (fun _ => [(6, u8b (free i))]) ?_ ?_
    · refine Zgg rfl (fun h3 => ?_) (fun h3 => ?_)
      · repeat (first|refine zA ?_|refine zB ?_|refine zC ?_|refine zD ?_|refine zE ?_|refine zF ?_|refine zG ?_|refine zH ?_|refine zI ?_|refine zJ ?_|refine zK ?_|refine zL ?_|refine zM rfl ?_|refine zN ?_|refine zO ?_|refine zP ?_|refine zQ ?_)
        refine Zgb ?_
        first|refine Zhg (Zaz rfl) ?_|refine Zhg (Zas rfl) ?_
        refine Zg3 ?_
        repeat (first|refine zA ?_|refine zB ?_|refine zC ?_|refine zD ?_|refine zE ?_|refine zF ?_|refine zG ?_|refine zH ?_|refine zI ?_|refine zJ ?_|refine zK ?_|refine zL ?_|refine zM rfl ?_|refine zN ?_|refine zO ?_|refine zP ?_|refine zQ ?_)
        exact Zgk () trivial (by exact Imp.arr (by repeat (first|exact Arr.nil|exact Arr.stop|refine Arr.cons (by repeat constructor) ?_|refine Arr.skip ?_))) ⟨(by rw [show free i = 240#8 by unfold free; rw [if_pos h3]]; rfl), trivial⟩
      · by_cases h0 : i % 4 = 0
        · by_cases hp : 0 < i
          · repeat (first|refine zA ?_|refine zB ?_|refine zC ?_|refine zD ?_|refine zE ?_|refine zF ?_|refine zG ?_|refine zH ?_|refine zI ?_|refine zJ ?_|refine zK ?_|refine zL ?_|refine zM rfl ?_|refine zN ?_|refine zO ?_|refine zP ?_|refine zQ ?_)
            refine Zgb ?_
            first|refine Zhg (Zat rfl) ?_|refine Zhg (Zar rfl) ?_
            first|refine Zhg (Zme (b := 4) rfl rfl) ?_|refine Zhg (Zbl rfl rfl) ?_
            first|refine Zhg (Zmj (b := 0) rfl rfl) ?_|refine Zhg (Zbr rfl rfl) ?_
            refine Zhm 16 rfl (decide_eq_true h0) ?_
            first|refine Zhg (Zau rfl) ?_|refine Zhg (Zar rfl) ?_
            first|refine Zhi rfl ?_|refine Zhj rfl ?_|(refine Zhh rfl ?_; (first|refine Zhg (Zat rfl) ?_|refine Zhg (Zar rfl) ?_))
            first|refine Zhi rfl ?_|refine Zhj rfl ?_|(refine Zhh rfl ?_; (first|refine Zhg (Zmh (b := 0) rfl rfl) ?_|refine Zhg (Zbp rfl rfl) ?_))
            refine Zhm 19 rfl (decide_eq_true hp) ?_
            first|refine Zhg (Zdz rfl rfl) ?_|refine Zhg (Zd0 rfl rfl) ?_|refine Zhg (Za8 rfl rfl) ?_|refine Zhg (Za9 rfl rfl) ?_|refine Zhg (Za6 rfl rfl) ?_|refine Zhg (Za7 rfl rfl) ?_
            refine Zg3 ?_
            repeat (first|refine zA ?_|refine zB ?_|refine zC ?_|refine zD ?_|refine zE ?_|refine zF ?_|refine zG ?_|refine zH ?_|refine zI ?_|refine zJ ?_|refine zK ?_|refine zL ?_|refine zM rfl ?_|refine zN ?_|refine zO ?_|refine zP ?_|refine zQ ?_)
            refine Zge rfl ?_
            repeat (first|refine zA ?_|refine zB ?_|refine zC ?_|refine zD ?_|refine zE ?_|refine zF ?_|refine zG ?_|refine zH ?_|refine zI ?_|refine zJ ?_|refine zK ?_|refine zL ?_|refine zM rfl ?_|refine zN ?_|refine zO ?_|refine zP ?_|refine zQ ?_)
            refine Zgb ?_
            first|refine Zhg (Zaz rfl) ?_|refine Zhg (Zas rfl) ?_
            refine Zg3 ?_
            repeat (first|refine zA ?_|refine zB ?_|refine zC ?_|refine zD ?_|refine zE ?_|refine zF ?_|refine zG ?_|refine zH ?_|refine zI ?_|refine zJ ?_|refine zK ?_|refine zL ?_|refine zM rfl ?_|refine zN ?_|refine zO ?_|refine zP ?_|refine zQ ?_)
            exact Zgk () trivial (by exact Imp.arr (by repeat (first|exact Arr.nil|exact Arr.stop|refine Arr.cons (by repeat constructor) ?_|refine Arr.skip ?_))) ⟨(by rw [show free i = 3#8 by unfold free; rw [if_neg h3, if_pos ⟨h0, hp⟩]]; rfl), trivial⟩
          · repeat (first|refine zA ?_|refine zB ?_|refine zC ?_|refine zD ?_|refine zE ?_|refine zF ?_|refine zG ?_|refine zH ?_|refine zI ?_|refine zJ ?_|refine zK ?_|refine zL ?_|refine zM rfl ?_|refine zN ?_|refine zO ?_|refine zP ?_|refine zQ ?_)
            refine Zgb ?_
            first|refine Zhg (Zat rfl) ?_|refine Zhg (Zar rfl) ?_
            first|refine Zhg (Zme (b := 4) rfl rfl) ?_|refine Zhg (Zbl rfl rfl) ?_
            first|refine Zhg (Zmj (b := 0) rfl rfl) ?_|refine Zhg (Zbr rfl rfl) ?_
            refine Zhm 16 rfl (decide_eq_true h0) ?_
            first|refine Zhg (Zau rfl) ?_|refine Zhg (Zar rfl) ?_
            first|refine Zhi rfl ?_|refine Zhj rfl ?_|(refine Zhh rfl ?_; (first|refine Zhg (Zat rfl) ?_|refine Zhg (Zar rfl) ?_))
            first|refine Zhi rfl ?_|refine Zhj rfl ?_|(refine Zhh rfl ?_; (first|refine Zhg (Zmh (b := 0) rfl rfl) ?_|refine Zhg (Zbp rfl rfl) ?_))
            refine Zhn 19 rfl (decide_eq_false hp) ?_
            first|refine Zhg (Zdz rfl rfl) ?_|refine Zhg (Zd0 rfl rfl) ?_|refine Zhg (Za8 rfl rfl) ?_|refine Zhg (Za9 rfl rfl) ?_|refine Zhg (Za6 rfl rfl) ?_|refine Zhg (Za7 rfl rfl) ?_
            refine Zg3 ?_
            repeat (first|refine zA ?_|refine zB ?_|refine zC ?_|refine zD ?_|refine zE ?_|refine zF ?_|refine zG ?_|refine zH ?_|refine zI ?_|refine zJ ?_|refine zK ?_|refine zL ?_|refine zM rfl ?_|refine zN ?_|refine zO ?_|refine zP ?_|refine zQ ?_)
            refine Zgf rfl ?_
            repeat (first|refine zA ?_|refine zB ?_|refine zC ?_|refine zD ?_|refine zE ?_|refine zF ?_|refine zG ?_|refine zH ?_|refine zI ?_|refine zJ ?_|refine zK ?_|refine zL ?_|refine zM rfl ?_|refine zN ?_|refine zO ?_|refine zP ?_|refine zQ ?_)
            exact Zgk () trivial (by exact Imp.arr (by repeat (first|exact Arr.nil|exact Arr.stop|refine Arr.cons (by repeat constructor) ?_|refine Arr.skip ?_))) ⟨(by rw [show free i = 0#8 by unfold free; rw [if_neg h3, if_neg (fun h => hp h.2)]]; rfl), trivial⟩
        · repeat (first|refine zA ?_|refine zB ?_|refine zC ?_|refine zD ?_|refine zE ?_|refine zF ?_|refine zG ?_|refine zH ?_|refine zI ?_|refine zJ ?_|refine zK ?_|refine zL ?_|refine zM rfl ?_|refine zN ?_|refine zO ?_|refine zP ?_|refine zQ ?_)
          refine Zgb ?_
          first|refine Zhg (Zat rfl) ?_|refine Zhg (Zar rfl) ?_
          first|refine Zhg (Zme (b := 4) rfl rfl) ?_|refine Zhg (Zbl rfl rfl) ?_
          first|refine Zhg (Zmj (b := 0) rfl rfl) ?_|refine Zhg (Zbr rfl rfl) ?_
          refine Zhn 16 rfl (decide_eq_false h0) ?_
          first|refine Zhg (Zau rfl) ?_|refine Zhg (Zar rfl) ?_
          first|refine Zhi rfl ?_|refine Zhj rfl ?_|(refine Zhh rfl ?_; (first|refine Zhg (Zat rfl) ?_|refine Zhg (Zar rfl) ?_))
          first|refine Zhi rfl ?_|refine Zhj rfl ?_|(refine Zhh rfl ?_; (first|refine Zhg (Zmh (b := 0) rfl rfl) ?_|refine Zhg (Zbp rfl rfl) ?_))
          first|refine Zhg (Zdz rfl rfl) ?_|refine Zhg (Zd0 rfl rfl) ?_|refine Zhg (Za8 rfl rfl) ?_|refine Zhg (Za9 rfl rfl) ?_|refine Zhg (Za6 rfl rfl) ?_|refine Zhg (Za7 rfl rfl) ?_
          refine Zg3 ?_
          repeat (first|refine zA ?_|refine zB ?_|refine zC ?_|refine zD ?_|refine zE ?_|refine zF ?_|refine zG ?_|refine zH ?_|refine zI ?_|refine zJ ?_|refine zK ?_|refine zL ?_|refine zM rfl ?_|refine zN ?_|refine zO ?_|refine zP ?_|refine zQ ?_)
          refine Zgf rfl ?_
          repeat (first|refine zA ?_|refine zB ?_|refine zC ?_|refine zD ?_|refine zE ?_|refine zF ?_|refine zG ?_|refine zH ?_|refine zI ?_|refine zJ ?_|refine zK ?_|refine zL ?_|refine zM rfl ?_|refine zN ?_|refine zO ?_|refine zP ?_|refine zQ ?_)
          exact Zgk () trivial (by exact Imp.arr (by repeat (first|exact Arr.nil|exact Arr.stop|refine Arr.cons (by repeat constructor) ?_|refine Arr.skip ?_))) ⟨(by rw [show free i = 0#8 by unfold free; rw [if_neg h3, if_neg (fun h => h0 h.1)]]; rfl), trivial⟩
    intro _ u2 _
    repeat (first|refine zA ?_|refine zB ?_|refine zC ?_|refine zD ?_|refine zE ?_|refine zF ?_|refine zG ?_|refine zH ?_|refine zI ?_|refine zJ ?_|refine zK ?_|refine zL ?_|refine zM rfl ?_|refine zN ?_|refine zO ?_|refine zP ?_|refine zQ ?_)
    refine Zgb ?_
    first|refine Zhg (Zat rfl) ?_|refine Zhg (Zar rfl) ?_
    first|refine Zhg (Zat rfl) ?_|refine Zhg (Zar rfl) ?_
    first|refine Zhg (Zl5 rfl rfl) ?_|refine Zhg (Zl3 rfl rfl) ?_
    refine Zhp rfl (by repeat constructor) ((getL (f := u8b) (l := mk key i) (by omega)).trans (by rw [mk_get key i (by omega)])) ?_
    first|refine Zhg (Zat rfl) ?_|refine Zhg (Zar rfl) ?_
    refine Zhg (Zjc rfl rfl) ?_
    first|refine Zhg (Zl5 rfl rfl) ?_|refine Zhg (Zl3 rfl rfl) ?_
    refine Zht rfl rfl (by repeat constructor) (by first|rfl|omega|(rw [szL]; omega)|exact Nat.le_of_ble_eq_true rfl|(simp; done)|(simp; omega)) (setL (f := u8b) (l := mk key i)) ?_
    refine Zg3 ?_
    repeat (first|refine zA ?_|refine zB ?_|refine zC ?_|refine zD ?_|refine zE ?_|refine zF ?_|refine zG ?_|refine zH ?_|refine zI ?_|refine zJ ?_|refine zK ?_|refine zL ?_|refine zM rfl ?_|refine zN ?_|refine zO ?_|refine zP ?_|refine zQ ?_)
    rw [mk_set]
    repeat (first|refine zA ?_|refine zB ?_|refine zC ?_|refine zD ?_|refine zE ?_|refine zF ?_|refine zG ?_|refine zH ?_|refine zI ?_|refine zJ ?_|refine zK ?_|refine zL ?_|refine zM rfl ?_|refine zN ?_|refine zO ?_|refine zP ?_|refine zQ ?_)
    refine Zgb ?_
    first|refine Zhg (Zat rfl) ?_|refine Zhg (Zar rfl) ?_
    first|refine Zhg (Zma (b := 1) rfl rfl) ?_|refine Zhg (Zbg rfl rfl) ?_
    first|refine Zhg (Zaz rfl) ?_|refine Zhg (Zas rfl) ?_
    refine Zg3 ?_
    repeat (first|refine zA ?_|refine zB ?_|refine zC ?_|refine zD ?_|refine zE ?_|refine zF ?_|refine zG ?_|refine zH ?_|refine zI ?_|refine zJ ?_|refine zK ?_|refine zL ?_|refine zM rfl ?_|refine zN ?_|refine zO ?_|refine zP ?_|refine zQ ?_)
    exact Zgl (i + 1) (by first|omega|(dsimp only; omega)|(simp only []; omega)) (by first|omega|(dsimp only; omega)|(simp only []; omega)) (by exact Imp.arr (by repeat (first|exact Arr.nil|exact Arr.stop|refine Arr.cons (by repeat constructor) ?_|refine Arr.skip ?_))) ⟨rfl, trivial⟩
  · have hi16 : i = 16 := by omega
    subst hi16
    have hd : ((mk key 16).drop 16).length = 16 := by simp; omega
    repeat (first|refine zA ?_|refine zB ?_|refine zC ?_|refine zD ?_|refine zE ?_|refine zF ?_|refine zG ?_|refine zH ?_|refine zI ?_|refine zJ ?_|refine zK ?_|refine zL ?_|refine zM rfl ?_|refine zN ?_|refine zO ?_|refine zP ?_|refine zQ ?_)
    refine Zij ([cl b2 ((mk key 16).map u8b).toArray 24]) [0, 1, 2, 3, 4, 5] (.r 0 (.r 1 (.r 5 (.e 2 true (.e 3 true (.e 4 true (.e 6 false (.q 7 (.q 8 (.e 9 false (.q 10 (.q 11 .nil)))))))))))) (by kernel_rfl) (by kernel_rfl) (Imp.arr (by repeat (first|exact Arr.nil|exact Arr.stop|refine Arr.cons (by repeat constructor) ?_|refine Arr.skip ?_))) ?_
    first|refine Ziy rfl rfl (by repeat constructor) (by first|rfl|omega|(rw [szL]; omega)|exact Nat.le_of_ble_eq_true rfl|(simp; done)|(simp; omega)) ?_|refine Zix rfl rfl (by repeat constructor) (by first|rfl|omega|(rw [szL]; omega)|exact Nat.le_of_ble_eq_true rfl|(simp; done)|(simp; omega)) rfl ?_
    first|refine Ziz rfl (Zaw rfl) ?_|refine Ziz rfl (Zar rfl) ?_
    first|refine Ziy rfl rfl (by repeat constructor) (by first|rfl|omega|(rw [szL]; omega)|exact Nat.le_of_ble_eq_true rfl|(simp; done)|(simp; omega)) ?_|refine Zix rfl rfl (by repeat constructor) (by first|rfl|omega|(rw [szL]; omega)|exact Nat.le_of_ble_eq_true rfl|(simp; done)|(simp; omega)) rfl ?_
    refine Ziq rfl ?_
    refine Zh8 rfl (by kernel_rfl) (copyBytes_x (L := [old W]) (hin.bs .here) (by omega)) rfl (by repeat (first|exact Take.nil|exact Take.all|(apply Take.cons; (next => (repeat constructor); done))|apply Take.skip)) ?_
    rintro _ _ ⟨a1, c1, rfl, rfl⟩
    refine Zg2 (by repeat (first|exact App.nil|apply App.cons|(apply App.flip; first|exact App.nil|apply App.cons)|exact App.any)) ?_
    refine Zg3 ⟨fun _ => Imp.arr (by repeat (first|exact Arr.nil|exact Arr.stop|refine Arr.cons (by repeat constructor) ?_|refine Arr.skip ?_)), ?_⟩
    refine Ziq rfl ?_
    refine Zh7 (cs := #[.slice _ _ _]) (by omega) (by omega) rfl ?_; intro b31
    refine Zg3 ⟨fun _ => Imp.arr (by repeat (first|exact Arr.nil|exact Arr.stop|refine Arr.cons (by repeat constructor) ?_|refine Arr.skip ?_)), ?_⟩
    refine Ziq rfl ?_
    refine Zh8 rfl (by kernel_rfl) (tsum1_c (L := [cl b31 #[.slice a1 m.length c1] 31, own 5 1 (.slice a1 m.length c1) m.length (m.map u8b)]) (mk key 16) hol (by repeat constructor) (Bs.own (by repeat constructor))) rfl (by repeat (first|exact Take.nil|exact Take.all|(apply Take.cons; (next => (repeat constructor); done))|apply Take.skip)) ?_
    rintro _ _ ⟨rfl, rfl⟩
    refine Zg2 (by repeat (first|exact App.nil|apply App.cons|(apply App.flip; first|exact App.nil|apply App.cons)|exact App.any)) ?_
    refine Zg3 ⟨fun _ => Imp.arr (by repeat (first|exact Arr.nil|exact Arr.stop|refine Arr.cons (by repeat constructor) ?_|refine Arr.skip ?_)), ?_⟩
    refine Ziq rfl ?_
    refine Zh8 rfl (by kernel_rfl) (second_x (mk key 16) hol) rfl (by repeat (first|exact Take.nil|exact Take.all|(apply Take.cons; (next => (repeat constructor); done))|apply Take.skip)) ?_
    rintro _ _ ⟨rfl, rfl⟩
    refine Zg2 (by repeat (first|exact App.nil|apply App.cons|(apply App.flip; first|exact App.nil|apply App.cons)|exact App.any)) ?_
    refine Zg3 ⟨(fun hh => Bool.noConfusion hh), ?_⟩
    refine Zim rfl (Zm4 (n := 16) (code_len _ _) hd rfl rfl) ?_
    refine Zi5 35 rfl (decide_eq_true (nought_law key m)) ?_
    first|refine Zim rfl (Zau rfl) ?_|refine Zim rfl (Zar rfl) ?_
    refine Ziq rfl ?_
    first|refine Zhi rfl ?_|refine Zhj rfl ?_|(refine Zhh rfl ?_; (refine Zh8 rfl (by kernel_rfl) (works_x) rfl (by repeat (first|exact Take.nil|exact Take.all|(apply Take.cons; (next => (repeat constructor); done))|apply Take.skip)) ?_); (rintro _ _ ⟨rfl, rfl⟩); (refine Zg2 (by repeat (first|exact App.nil|apply App.cons|(apply App.flip; first|exact App.nil|apply App.cons)|exact App.any)) ?_))
    refine Zg3 ⟨(fun hh => Bool.noConfusion hh), ?_⟩
    first|refine Zim rfl (Zdz rfl rfl) ?_|refine Zim rfl (Zd0 rfl rfl) ?_|refine Zim rfl (Za8 rfl rfl) ?_|refine Zim rfl (Za9 rfl rfl) ?_|refine Zim rfl (Za6 rfl rfl) ?_|refine Zim rfl (Za7 rfl rfl) ?_
    first|refine Zim rfl (Za0 rfl) ?_|refine Zim rfl (Zas rfl) ?_
    refine Zik ?_
    repeat (first|refine zA ?_|refine zB ?_|refine zC ?_|refine zD ?_|refine zE ?_|refine zF ?_|refine zG ?_|refine zH ?_|refine zI ?_|refine zJ ?_|refine zK ?_|refine zL ?_|refine zM rfl ?_|refine zN ?_|refine zO ?_|refine zP ?_|refine zQ ?_)
    refine rx1 (Zha rfl (Zg7)) ?_
    exact ⟨_, ⟨rfl, rfl⟩, by exact Imp.arr (by repeat (first|exact Arr.nil|exact Arr.stop|refine Arr.cons (by repeat constructor) ?_|refine Arr.skip ?_))⟩
end Go.Sl

/- slices cut from their beginning on. -/
set_option linter.unusedVariables false
set_option linter.unusedSimpArgs false
namespace Go.Sl
open Go
theorem Bs.take {M : List Asrt} {b o c n : Nat} {l : List Byte} (h : Bs M (.slice (Option.some ⟨b, o, none⟩) l.length c) l) (hn : n ≤ l.length) : Bs M (.slice (Option.some ⟨b, o, none⟩) n c) (l.take n) := by
  have e : (l.take n).length = n := by simp; omega
  refine ⟨?_, ?_⟩
  · rw [e]
    intro w0 F w H
    obtain ⟨h1, h2⟩ := h.rd w0 F w H
    refine ⟨by simp; omega, ?_⟩
    rcases h2 with ⟨a, k, _, h0⟩|⟨b', o', k, cc, E, fr, hv, hb, hle, hx⟩
    · exact .inl ⟨_, _, rfl, by omega⟩
    · simp only [Value.slice.injEq, Option.some.injEq, Addr.mk.injEq] at hv
      obtain ⟨⟨rfl, rfl, _⟩, _, rfl⟩ := hv
      refine .inr ⟨b, o, c, cc, E, fr, rfl, hb, by omega, ?_⟩
      rw [List.map_take, ← hx]
      simp only [Array.toList_extract, List.extract_eq_take_drop, List.take_take]
      congr 1; omega
  · intro w0 F w H
    obtain ⟨a, c', hv, h1, h2⟩ := h.sh w0 F w H
    simp only [Value.slice.injEq] at hv
    obtain ⟨_, _, rfl⟩ := hv
    exact ⟨_, _, by rw [e], by omega, h2⟩
theorem Bs.take0 {M : List Asrt} {a : Option Addr} {c : Nat} {l : List Byte} (h : Bs M (.slice a l.length c) l) : Bs M (.slice a 0 c) (l.take 0) := by
  refine ⟨Rd.nil, ?_⟩
  intro w0 F w H
  obtain ⟨a', c', hv, h1, h2⟩ := h.sh w0 F w H
  simp only [Value.slice.injEq] at hv
  obtain ⟨_, _, rfl⟩ := hv
  exact ⟨_, _, rfl, by simp, h2⟩
theorem Zm8 {P : Program} {ρ : Env} {x : Operand} {S E sz by' n c h : Nat} {a : Option Addr} {z : Value} {hi : Option Operand} [hs : TySlice P S E] [hi' : TyI P E sz by' z] (hx : ev ρ x = .slice a n c)
    (hh : optB ρ n hi = some (h : Int)) (hc : h ≤ c) : PV P (.slice S x none hi none) ρ (.slice a h c) := by
  have := Zm1 (P := P) (S := S) (lo := none) (l := 0) hx rfl hh (by omega) hc
  have e : (if c = 0 then a else a.map (·.add (0 * sz))) = a := by
    split
    · rfl
    · cases a with
      | none => rfl
      | some a => simp [Option.map, Addr.add]
  rw [e] at this
  simpa using this
theorem Bs.takeA {M : List Asrt} {a : Option Addr} {c n : Nat} {l : List Byte} (h : Bs M (.slice a l.length c) l) (hn : n ≤ l.length) : Bs M (.slice a n c) (l.take n) := by
  have e : (l.take n).length = n := by simp; omega
  by_cases h0 : n = 0
  · subst h0; exact h.take0
  · refine ⟨?_, ?_⟩
    · intro w0 F w H
      obtain ⟨b, o, rfl⟩ := h.some (by omega) H
      exact (h.take hn).rd w0 F w H
    · intro w0 F w H
      obtain ⟨a', c', hv, h1, h2⟩ := h.sh w0 F w H
      simp only [Value.slice.injEq] at hv
      obtain ⟨_, _, rfl⟩ := hv
      exact ⟨_, _, by rw [e], by omega, h2⟩
end Go.Sl

/- trystlaw06: TagOrderless. -/
set_option maxHeartbeats 4000000
set_option maxRecDepth 10000
set_option linter.unusedVariables false
set_option linter.unusedSimpArgs false
namespace Go.Sl
open Go Go.Proofs
attribute [local irreducible] cl pt own old pur ex all den denOps denS xOps xC cX CX xthen xblk xcut xloop retX resX Calls PV Rd Con
theorem within_x (i n : Int) (hn : 0 < n) (hn2 : n ≤ 140737488355328) (hi : -9223372036854775808 ≤ i ∧ i ≤ 9223372036854775807) : Con Try.prog 20 [.int .i64 i, .int .i64 n] [] (fun v M => v = .int .i64 (i % n) ∧ M = []) := by
  have h1 := Int.emod_nonneg i (show n ≠ 0 by omega)
  have h2 := Int.emod_lt_of_pos i hn
  have ht : i.tmod n = i % n ∨ (i.tmod n < 0 ∧ i.tmod n = i % n - n) := by
    rw [Int.tmod_eq_emod]
    split
    · left; omega
    · right
      have : (n.natAbs : Int) = n := by omega
      omega
  refine fn_x Try.func20 rfl rfl rfl Try.mixed (by kernel_rfl) ?_
  intro w0
  repeat (first|refine zA ?_|refine zB ?_|refine zC ?_|refine zD ?_|refine zE ?_|refine zF ?_|refine zG ?_|refine zH ?_|refine zI ?_|refine zJ ?_|refine zK ?_|refine zL ?_|refine zM rfl ?_|refine zN ?_|refine zO ?_|refine zP ?_|refine zQ ?_)
  refine Zgb ?_
  first|refine Zhg (Zaz rfl) ?_|refine Zhg (Zas rfl) ?_
  refine Zg3 ?_
  repeat (first|refine zA ?_|refine zB ?_|refine zC ?_|refine zD ?_|refine zE ?_|refine zF ?_|refine zG ?_|refine zH ?_|refine zI ?_|refine zJ ?_|refine zK ?_|refine zL ?_|refine zM rfl ?_|refine zN ?_|refine zO ?_|refine zP ?_|refine zQ ?_)
  refine Zgb ?_
  first|refine Zhg (Zat rfl) ?_|refine Zhg (Zar rfl) ?_
  first|refine Zhg (Zat rfl) ?_|refine Zhg (Zar rfl) ?_
  refine Zhg (Zbk rfl rfl (by omega)) ?_
  first|refine Zhg (Zaz rfl) ?_|refine Zhg (Zas rfl) ?_
  refine Zg3 ?_
  repeat (first|refine zA ?_|refine zB ?_|refine zC ?_|refine zD ?_|refine zE ?_|refine zF ?_|refine zG ?_|refine zH ?_|refine zI ?_|refine zJ ?_|refine zK ?_|refine zL ?_|refine zM rfl ?_|refine zN ?_|refine zO ?_|refine zP ?_|refine zQ ?_)
  refine Zgb ?_
  first|refine Zhg (Zat rfl) ?_|refine Zhg (Zar rfl) ?_
  first|refine Zhg (Zmf (b := 0) rfl rfl) ?_|refine Zhg (Zbn rfl rfl) ?_
  refine Zg3 ?_
  repeat (first|refine zA ?_|refine zB ?_|refine zC ?_|refine zD ?_|refine zE ?_|refine zF ?_|refine zG ?_|refine zH ?_|refine zI ?_|refine zJ ?_|refine zK ?_|refine zL ?_|refine zM rfl ?_|refine zN ?_|refine zO ?_|refine zP ?_|refine zQ ?_)
  refine Zgg rfl (fun hB => ?_) (fun hB => ?_)
  · repeat (first|refine zA ?_|refine zB ?_|refine zC ?_|refine zD ?_|refine zE ?_|refine zF ?_|refine zG ?_|refine zH ?_|refine zI ?_|refine zJ ?_|refine zK ?_|refine zL ?_|refine zM rfl ?_|refine zN ?_|refine zO ?_|refine zP ?_|refine zQ ?_)
    refine Zgb ?_
    first|refine Zhg (Zat rfl) ?_|refine Zhg (Zar rfl) ?_
    first|refine Zhg (Zat rfl) ?_|refine Zhg (Zar rfl) ?_
    refine Zhg (Zbg rfl rfl (by omega)) ?_
    first|refine Zhg (Zaz rfl) ?_|refine Zhg (Zas rfl) ?_
    refine Zg3 ?_
    repeat (first|refine zA ?_|refine zB ?_|refine zC ?_|refine zD ?_|refine zE ?_|refine zF ?_|refine zG ?_|refine zH ?_|refine zI ?_|refine zJ ?_|refine zK ?_|refine zL ?_|refine zM rfl ?_|refine zN ?_|refine zO ?_|refine zP ?_|refine zQ ?_)
    refine Zgb ?_
    first|refine Zhg (Zat rfl) ?_|refine Zhg (Zar rfl) ?_
    first|refine Zhg (Zaz rfl) ?_|refine Zhg (Zas rfl) ?_
    refine Zg3 ?_
    repeat (first|refine zA ?_|refine zB ?_|refine zC ?_|refine zD ?_|refine zE ?_|refine zF ?_|refine zG ?_|refine zH ?_|refine zI ?_|refine zJ ?_|refine zK ?_|refine zL ?_|refine zM rfl ?_|refine zN ?_|refine zO ?_|refine zP ?_|refine zQ ?_)
    rw [show i.tmod n + n = i % n by omega]
    refine rx1 (Zg9 rfl (Zg7)) ?_
    exact ⟨_, ⟨rfl, rfl⟩, by exact Imp.arr (by repeat (first|exact Arr.nil|exact Arr.stop|refine Arr.cons (by repeat constructor) ?_|refine Arr.skip ?_))⟩
  · repeat (first|refine zA ?_|refine zB ?_|refine zC ?_|refine zD ?_|refine zE ?_|refine zF ?_|refine zG ?_|refine zH ?_|refine zI ?_|refine zJ ?_|refine zK ?_|refine zL ?_|refine zM rfl ?_|refine zN ?_|refine zO ?_|refine zP ?_|refine zQ ?_)
    refine Zgb ?_
    first|refine Zhg (Zat rfl) ?_|refine Zhg (Zar rfl) ?_
    first|refine Zhg (Zaz rfl) ?_|refine Zhg (Zas rfl) ?_
    refine Zg3 ?_
    repeat (first|refine zA ?_|refine zB ?_|refine zC ?_|refine zD ?_|refine zE ?_|refine zF ?_|refine zG ?_|refine zH ?_|refine zI ?_|refine zJ ?_|refine zK ?_|refine zL ?_|refine zM rfl ?_|refine zN ?_|refine zO ?_|refine zP ?_|refine zQ ?_)
    rw [show i.tmod n = i % n by omega]
    refine rx1 (Zg9 rfl (Zg7)) ?_
    exact ⟨_, ⟨rfl, rfl⟩, by exact Imp.arr (by repeat (first|exact Arr.nil|exact Arr.stop|refine Arr.cons (by repeat constructor) ?_|refine Arr.skip ?_))⟩
theorem within_n (i : Int) (n : Nat) (hn : 0 < n) (hn2 : n ≤ 140737488355328) (hi : -9223372036854775808 ≤ i ∧ i ≤ 9223372036854775807) : Con Try.prog 20 [.int .i64 i, .int .i64 n] [] (fun v M => v = .int .i64 (((i % (n : Int)).toNat : Nat) : Int) ∧ M = []) := by
  have h := within_x i n (by omega) (by omega) hi
  rwa [show i % (n : Int) = (((i % (n : Int)).toNat : Nat) : Int) by have := Int.emod_nonneg i (show (n : Int) ≠ 0 by omega); omega] at h
/-! the order of whole chunks -/
def sumN (f : Nat → Nat) : Nat → Nat
  | 0 => 0
  | n + 1 => sumN f n + f n
theorem sumN_same {f g : Nat → Nat} : ∀ n, (∀ i, i < n → f i = g i) → sumN f n = sumN g n
  | 0, _ => rfl
  | n + 1, h => by simp only [sumN, sumN_same n (fun i hi => h i (by omega)), h n (by omega)]
theorem sumN_one {f g : Nat → Nat} (p : Nat) : ∀ n, p < n → (∀ i, i < n → i ≠ p → f i = g i) → sumN f n + g p = sumN g n + f p
  | 0, hp, _ => by omega
  | n + 1, hp, h => by
    simp only [sumN]
    by_cases e : p = n
    · subst e
      rw [sumN_same p (fun i hi => h i (by omega) (by omega))]; omega
    · have := sumN_one p n (by omega) (fun i hi hne => h i (by omega) hne)
      rw [h n (by omega) (fun e2 => e e2.symm)]; omega
theorem sumN_swap {f g : Nat → Nat} {n p q : Nat} (hp : p < n) (hq : q < n) (h1 : g p = f q) (h2 : g q = f p) (h : ∀ i, i < n → i ≠ p → i ≠ q → g i = f i) : sumN g n = sumN f n := by
  by_cases e : p = q
  · subst e
    exact sumN_same n (fun i hi => by
      by_cases e2 : i = p
      · subst e2; exact h1
      · exact h i hi e2 e2)
  · let m : Nat → Nat := fun i => if i = p then g p else f i
    have a := sumN_one (f := f) (g := m) p n hp (fun i _ hne => by simp only [m]; rw [if_neg hne])
    have b := sumN_one (f := m) (g := g) q n hq (fun i hi hne => by
      simp only [m]
      by_cases e2 : i = p
      · subst e2; rw [if_pos rfl]
      · rw [if_neg e2]; exact (h i hi e2 hne).symm)
    have mp : m p = g p := by show (if p = p then g p else f p) = g p; rw [if_pos rfl]
    have mq : m q = f q := by simp only [m]; rw [if_neg (fun h => e h.symm)]
    omega
def chunk (a : List Byte) (c : Nat) : List Byte := (a.drop (16 * c)).take 16
/-- Sixteen bytes more, where r is 1. -/
theorem steps16 {R : Nat} : ∀ (k : Nat) (b : List Byte) (s : Nat × List Byte), s.2.length = k → s.2.length + b.length = 16 → b ≠ [] → b.foldl (stepN R) s = (((s.1 + leN (s.2 ++ b) + 340282366920938463463374607431768211456) * R) % 1361129467683753853853498429727072845819, [])
  | k, [], s, _, _, hb => absurd rfl hb
  | k, [x], s, hk, hl, _ => by
    simp only [List.length_cons, List.length_nil] at hl
    show stepN R s x = _
    unfold stepN
    rw [if_pos (by omega)]
  | k, x :: y :: b, s, hk, hl, _ => by
    simp only [List.length_cons] at hl
    show (y :: b).foldl (stepN R) (stepN R s x) = _
    have e : stepN R s x = (s.1, s.2 ++ [x]) := by unfold stepN; rw [if_neg (by omega)]
    rw [e, steps16 (k + 1) (y :: b) (s.1, s.2 ++ [x]) (by simp; omega) (by simp; omega) (by simp)]
    simp
theorem poly_one (a : List Byte) : ∀ n, 16 * n ≤ a.length → (a.take (16 * n)).foldl (stepN 1) (0, []) = ((sumN (fun c => leN (chunk a c) + 340282366920938463463374607431768211456) n) % 1361129467683753853853498429727072845819, [])
  | 0, _ => by simp only [Nat.mul_zero, List.take_zero, List.foldl_nil, sumN, Nat.zero_mod]
  | n + 1, h => by
    have ih := poly_one a n (by omega)
    have e : a.take (16 * (n + 1)) = a.take (16 * n) ++ chunk a n := by
      rw [show 16 * (n + 1) = 16 * n + 16 by omega, List.take_add]; rfl
    have hc : (chunk a n).length = 16 := by unfold chunk; rw [List.length_take, List.length_drop]; omega
    rw [e, List.foldl_append, ih, steps16 0 (chunk a n) _ rfl (by rw [hc]; rfl) (fun h => by rw [h] at hc; cases hc)]
    simp only [List.nil_append, Nat.mul_one, sumN, Prod.mk.injEq, and_true]
    rw [Nat.add_assoc, Nat.mod_add_mod]
theorem poly_order (key a b : List Byte) (hr : rN key = 1) (n : Nat) (ha : a.length = 16 * n) (hb : b.length = 16 * n) (p q : Nat) (hp : p < n) (hq : q < n) (h1 : chunk b p = chunk a q) (h2 : chunk b q = chunk a p) (h : ∀ c, c < n → c ≠ p → c ≠ q → chunk b c = chunk a c) : polyN key a = polyN key b := by
  unfold polyN
  have ea := poly_one a n (by omega)
  have eb := poly_one b n (by omega)
  rw [List.take_of_length_le (by omega)] at ea eb
  rw [hr, ea, eb]
  rw [sumN_swap (g := fun c => leN (chunk b c) + 340282366920938463463374607431768211456) (f := fun c => leN (chunk a c) + 340282366920938463463374607431768211456) hp hq (by simp only [h1]) (by simp only [h2]) (fun i hi e1 e2 => by simp only [h i hi e1 e2])]
theorem code_order (key a b : List Byte) (hk : key.length = 32) (h : polyN key a = polyN key b) : code key a = code key b := by
  apply leN_inj (by rw [code_len, code_len])
  rw [code_val _ _ hk, code_val _ _ hk, h]
def swF (a : List Byte) (x y j k : Nat) : Byte := if x ≤ k ∧ k < x + j then a.getD (y + (k - x)) 0#8 else if y ≤ k ∧ k < y + j then a.getD (x + (k - y)) 0#8 else a.getD k 0#8
def swL (a : List Byte) (x y j : Nat) : List Byte := (List.range a.length).map (swF a x y j)
theorem swL_len (a : List Byte) (x y j : Nat) : (swL a x y j).length = a.length := by simp [swL]
theorem swL_zero (a : List Byte) (x y : Nat) : swL a x y 0 = a := by
  apply List.ext_getElem (by simp [swL])
  intro k h1 h2
  simp only [swL, List.getElem_map, List.getElem_range, swF]
  rw [if_neg (by omega), if_neg (by omega), List.getD_eq_getElem?_getD, List.getElem?_eq_getElem h2]; rfl
theorem swL_step (a : List Byte) (x y j : Nat) (hj : j < 16) (hd : x = y ∨ x + 16 ≤ y ∨ y + 16 ≤ x) : ((swL a x y j).set (x + j) (a.getD (y + j) 0#8)).set (y + j) (a.getD (x + j) 0#8) = swL a x y (j + 1) := by
  apply List.ext_getElem (by simp [swL])
  intro k h1 h2
  simp only [swL, List.getElem_set, List.getElem_map, List.getElem_range, swF]
  by_cases e1 : y + j = k
  · rw [if_pos e1]
    subst e1
    rcases hd with rfl|hd
    · rw [if_pos (by omega)]; congr 1; omega
    · rw [if_neg (by omega), if_pos (by omega)]; congr 1; omega
  · rw [if_neg e1]
    by_cases e2 : x + j = k
    · rw [if_pos e2]
      subst e2
      rw [if_pos (by omega)]; congr 1; omega
    · rw [if_neg e2]
      by_cases c1 : x ≤ k ∧ k < x + j
      · have c1' : x ≤ k ∧ k < x + (j + 1) := by omega
        rw [if_pos c1, if_pos c1']
      · have c1' : ¬ (x ≤ k ∧ k < x + (j + 1)) := by omega
        rw [if_neg c1, if_neg c1']
        by_cases c2 : y ≤ k ∧ k < y + j
        · have c2' : y ≤ k ∧ k < y + (j + 1) := by omega
          rw [if_pos c2, if_pos c2']
        · have c2' : ¬ (y ≤ k ∧ k < y + (j + 1)) := by omega
          rw [if_neg c2, if_neg c2']
theorem chunk_get (a : List Byte) (c n : Nat) (ha : a.length = 16 * n) (hc : c < n) : (chunk a c).length = 16 ∧ ∀ t (h : t < 16), (chunk a c)[t]? = a[16 * c + t]? := by
  constructor
  · unfold chunk; rw [List.length_take, List.length_drop]; omega
  · intro t h
    unfold chunk
    rw [List.getElem?_take_of_lt h, List.getElem?_drop]
theorem chunk_eq {a b : List Byte} {c d n : Nat} (ha : a.length = 16 * n) (hb : b.length = 16 * n) (hc : c < n) (hd : d < n) (h : ∀ t, t < 16 → a[16 * c + t]? = b[16 * d + t]?) : chunk a c = chunk b d := by
  obtain ⟨l1, g1⟩ := chunk_get a c n ha hc
  obtain ⟨l2, g2⟩ := chunk_get b d n hb hd
  apply List.ext_getElem?
  intro t
  by_cases ht : t < 16
  · rw [g1 t ht, g2 t ht, h t ht]
  · rw [List.getElem?_eq_none (by omega), List.getElem?_eq_none (by omega)]
theorem swL_get (a : List Byte) (x y j k : Nat) (hk : k < a.length) : (swL a x y j)[k]? = some (swF a x y j k) := by
  simp [swL, hk]
theorem getD_q (a : List Byte) (k : Nat) (hk : k < a.length) : some (a.getD k 0#8) = a[k]? := by
  rw [List.getD_eq_getElem?_getD, List.getElem?_eq_getElem hk]; rfl
theorem orderless_law (key a : List Byte) (hk : key.length = 32) (hr : rN key = 1) (n p q : Nat) (ha : a.length = 16 * n) (hp : p < n) (hq : q < n) : code key a = code key (swL a (16 * p) (16 * q) 16) := by
  have hl : (swL a (16 * p) (16 * q) 16).length = 16 * n := by rw [swL_len, ha]
  refine code_order key _ _ hk (poly_order key a _ hr n ha hl p q hp hq ?_ ?_ ?_)
  · refine chunk_eq hl ha hp hq fun t ht => ?_
    rw [swL_get _ _ _ _ _ (by omega)]
    unfold swF
    rw [if_pos (by omega), getD_q _ _ (by omega)]
    congr 1; omega
  · refine chunk_eq hl ha hq hp fun t ht => ?_
    rw [swL_get _ _ _ _ _ (by omega)]
    unfold swF
    by_cases e : p = q
    · subst e
      rw [if_pos (by omega), getD_q _ _ (by omega)]
      congr 1; omega
    · rw [if_neg (by omega), if_pos (by omega), getD_q _ _ (by omega)]
      congr 1; omega
  · intro c hc h1 h2
    refine chunk_eq hl ha hc hc fun t ht => ?_
    rw [swL_get _ _ _ _ _ (by omega)]
    unfold swF
    rw [if_neg (by omega), if_neg (by omega), getD_q _ _ (by omega)]
/-- What a Chunks is when it comes in. -/
structure ChunksV where
  S : List Byte
  m : Value
  i : Int
  k : Int
def ChunksV.cells (x : ChunksV) : List Value := x.S.map u8b ++ [x.m, .int .i64 x.i, .int .i64 x.k]
structure ChunksOk (W : World) (x : ChunksV) : Prop where
  S : x.S.length = 16
  m : ∃ l, InB W x.m l
  i : -9223372036854775808 ≤ x.i ∧ x.i ≤ 9223372036854775807
  k : -9223372036854775808 ≤ x.k ∧ x.k ≤ 9223372036854775807
def keyO (S : List Byte) : List Byte := 1#8 :: List.replicate 15 0#8 ++ S
theorem keyO_r (S : List Byte) : rN (keyO S) = 1 := by
  have e1 : (keyO S).take 8 = [1#8, 0#8, 0#8, 0#8, 0#8, 0#8, 0#8, 0#8] := rfl
  have e2 : ((keyO S).drop 8).take 8 = [0#8, 0#8, 0#8, 0#8, 0#8, 0#8, 0#8, 0#8] := rfl
  show (wordB ((keyO S).take 8) &&& 1152921487695413247#64).toNat + 18446744073709551616 * (wordB (((keyO S).drop 8).take 8) &&& 1152921487695413244#64).toNat = 1
  rw [e1, e2]
  decide
def keyI (S : List Byte) (i : Nat) : List Byte := 1#8 :: List.replicate 15 0#8 ++ (S.take i ++ List.replicate (16 - i) 0#8)
theorem keyI_len (S : List Byte) (hS : S.length = 16) (i : Nat) (hi : i ≤ 16) : (keyI S i).length = 32 := by simp [keyI]; omega
theorem keyI_set (S : List Byte) (hS : S.length = 16) (i : Nat) (hi : i < 16) : (keyI S i).set (16 + i) S[i] = keyI S (i + 1) := by
  unfold keyI
  rw [List.set_append_right _ _ (by simp), show 16 + i - (1#8 :: List.replicate 15 0#8).length = i by simp, List.set_append_right _ _ (by simp; omega), show i - (S.take i).length = 0 by simp; omega, List.take_succ_eq_append_getElem (show i < S.length by omega), show 16 - i = (16 - (i + 1)) + 1 by omega, List.replicate_succ, List.append_assoc]
  rfl
theorem cO_size (x : ChunksV) (h : x.S.length = 16) : x.cells.toArray.size = 19 := by simp [ChunksV.cells, h]
theorem cO_S (x : ChunksV) (h : x.S.length = 16) (i : Nat) (hi : i < 16) : x.cells.toArray[i]? = some (u8b (x.S[i]'(by omega))) := by
  simp [ChunksV.cells, List.getElem?_append, h, hi]
theorem cO_m (x : ChunksV) (h : x.S.length = 16) : x.cells.toArray[16]? = some x.m := by simp [ChunksV.cells, h]
theorem cO_i (x : ChunksV) (h : x.S.length = 16) : x.cells.toArray[17]? = some (.int .i64 x.i) := by simp [ChunksV.cells, h]
theorem cO_k (x : ChunksV) (h : x.S.length = 16) : x.cells.toArray[18]? = some (.int .i64 x.k) := by simp [ChunksV.cells, h]
theorem orderless_x (W : World) (x : ChunksV) (ok : ChunksOk W x) : Con Try.prog 10 [.agg x.cells.toArray] [old W] (fun r M => r = .bool true ∧ [old W] = M) := by
  have hS := ok.S
  obtain ⟨m, hin⟩ := ok.m
  obtain ⟨va, vc, hv, hvl, hvc⟩ := hin.sh
  have hml := hin.len
  have hsz := cO_size x hS
  have hi := ok.i; have hk := ok.k
  have hm16 : x.cells.toArray[16]? = some (.slice va m.length vc) := by rw [cO_m x hS, hv]
  rw [hv] at hin
  refine fn_x Try.func10 rfl rfl rfl Try.mixed (by kernel_rfl) ?_
  intro w0
  repeat (first|refine zA ?_|refine zB ?_|refine zC ?_|refine zD ?_|refine zE ?_|refine zF ?_|refine zG ?_|refine zH ?_|refine zI ?_|refine zJ ?_|refine zK ?_|refine zL ?_|refine zM rfl ?_|refine zN ?_|refine zO ?_|refine zP ?_|refine zQ ?_)
  refine Zgb ?_
  refine Zh5 rfl ?_; intro b1
  first|refine Zhg (Za0 rfl) ?_|refine Zhg (Zas rfl) ?_
  refine Zg3 ?_
  repeat (first|refine zA ?_|refine zB ?_|refine zC ?_|refine zD ?_|refine zE ?_|refine zF ?_|refine zG ?_|refine zH ?_|refine zI ?_|refine zJ ?_|refine zK ?_|refine zL ?_|refine zM rfl ?_|refine zN ?_|refine zO ?_|refine zP ?_|refine zQ ?_)
  refine Zgb ?_
  refine Zh8 rfl (by kernel_rfl) (works_x) rfl (by repeat (first|exact Take.nil|exact Take.all|(apply Take.cons; (next => (repeat constructor); done))|apply Take.skip)) ?_
  rintro _ _ ⟨rfl, rfl⟩
  refine Zg2 (by repeat (first|exact App.nil|apply App.cons|(apply App.flip; first|exact App.nil|apply App.cons)|exact App.any)) ?_
  first|refine Zhg (Zb1 rfl) ?_|refine Zhg (Zb0 rfl) ?_
  refine Zhn 12 rfl (rfl) ?_
  refine Zg3 ?_
  repeat (first|refine zA ?_|refine zB ?_|refine zC ?_|refine zD ?_|refine zE ?_|refine zF ?_|refine zG ?_|refine zH ?_|refine zI ?_|refine zJ ?_|refine zK ?_|refine zL ?_|refine zM rfl ?_|refine zN ?_|refine zO ?_|refine zP ?_|refine zQ ?_)
  refine Zgf rfl ?_
  repeat (first|refine zA ?_|refine zB ?_|refine zC ?_|refine zD ?_|refine zE ?_|refine zF ?_|refine zG ?_|refine zH ?_|refine zI ?_|refine zJ ?_|refine zK ?_|refine zL ?_|refine zM rfl ?_|refine zN ?_|refine zO ?_|refine zP ?_|refine zQ ?_)
  refine Zgb ?_
  refine Zhz (cs := ((List.replicate 32 0#8).map u8b).toArray) rfl ?_; intro b3
  refine Zg3 ?_
  repeat (first|refine zA ?_|refine zB ?_|refine zC ?_|refine zD ?_|refine zE ?_|refine zF ?_|refine zG ?_|refine zH ?_|refine zI ?_|refine zJ ?_|refine zK ?_|refine zL ?_|refine zM rfl ?_|refine zN ?_|refine zO ?_|refine zP ?_|refine zQ ?_)
  refine Zgb ?_
  first|refine Zhg (Zl5 (n := 0) rfl rfl) ?_|refine Zhg (Zl3 (n := 0) rfl rfl) ?_
  refine Zhs (v := u8b 1#8) rfl rfl rfl (by repeat constructor) (by first|rfl|omega|(rw [szL]; omega)|exact Nat.le_of_ble_eq_true rfl|(simp; done)|(simp; omega)) (c' := ((keyI x.S 0).map u8b).toArray) rfl ?_
  refine Zg3 ?_
  repeat (first|refine zA ?_|refine zB ?_|refine zC ?_|refine zD ?_|refine zE ?_|refine zF ?_|refine zG ?_|refine zH ?_|refine zI ?_|refine zJ ?_|refine zK ?_|refine zL ?_|refine zM rfl ?_|refine zN ?_|refine zO ?_|refine zP ?_|refine zQ ?_)
  refine Zgb ?_
  first|refine Zhg (Zaz rfl) ?_|refine Zhg (Zas rfl) ?_
  refine Zg3 ?_
  repeat (first|refine zA ?_|refine zB ?_|refine zC ?_|refine zD ?_|refine zE ?_|refine zF ?_|refine zG ?_|refine zH ?_|refine zI ?_|refine zJ ?_|refine zK ?_|refine zL ?_|refine zM rfl ?_|refine zN ?_|refine zO ?_|refine zP ?_|refine zQ ?_)
  refine Zgo [(4, 4), (14, 24)] (by kernel_rfl) (fun i : Nat => i ≤ 16) (fun i => [cl b3 ((keyI x.S i).map u8b).toArray 24, cl b1 x.cells.toArray 61, old W])
    (fun i => [(4, .int .i64 (i : Int))]) (fun i => 16 - i) 0 (by omega) (by exact Imp.arr (by repeat (first|exact Arr.nil|exact Arr.stop|refine Arr.cons (by repeat constructor) ?_|refine Arr.skip ?_))) ⟨rfl, trivial⟩ ?_
  intro i u hi16
  have hkl := keyI_len x.S hS i hi16
  repeat (first|refine zA ?_|refine zB ?_|refine zC ?_|refine zD ?_|refine zE ?_|refine zF ?_|refine zG ?_|refine zH ?_|refine zI ?_|refine zJ ?_|refine zK ?_|refine zL ?_|refine zM rfl ?_|refine zN ?_|refine zO ?_|refine zP ?_|refine zQ ?_)
  refine Zgb ?_
  first|refine Zhg (Zat rfl) ?_|refine Zhg (Zar rfl) ?_
  first|refine Zhg (Zmf (b := 16) rfl rfl) ?_|refine Zhg (Zbn rfl rfl) ?_
  refine Zg3 ?_
  repeat (first|refine zA ?_|refine zB ?_|refine zC ?_|refine zD ?_|refine zE ?_|refine zF ?_|refine zG ?_|refine zH ?_|refine zI ?_|refine zJ ?_|refine zK ?_|refine zL ?_|refine zM rfl ?_|refine zN ?_|refine zO ?_|refine zP ?_|refine zQ ?_)
  refine Zgg rfl (fun hB => ?_) (fun hB => ?_)
  · repeat (first|refine zA ?_|refine zB ?_|refine zC ?_|refine zD ?_|refine zE ?_|refine zF ?_|refine zG ?_|refine zH ?_|refine zI ?_|refine zJ ?_|refine zK ?_|refine zL ?_|refine zM rfl ?_|refine zN ?_|refine zO ?_|refine zP ?_|refine zQ ?_)
    refine Zgb ?_
    first|refine Zhg (Zat rfl) ?_|refine Zhg (Zar rfl) ?_
    first|refine Zhg (Zma (a := 16) rfl rfl) ?_|refine Zhg (Zbg rfl rfl) ?_
    first|refine Zhg (Zat rfl) ?_|refine Zhg (Zar rfl) ?_
    first|refine Zhg (Zl8 rfl) ?_|refine Zhg (Zce rfl) ?_
    first|refine Zhg (Zl5 rfl rfl) ?_|refine Zhg (Zl3 rfl rfl) ?_
    refine Zhp rfl (by repeat constructor) (cO_S x hS i hB) ?_
    first|refine Zhg (Zl5 rfl rfl) ?_|refine Zhg (Zl3 rfl rfl) ?_
    refine Zht rfl rfl (by repeat constructor) (by first|rfl|omega|(rw [szL]; omega)|exact Nat.le_of_ble_eq_true rfl|(simp; done)|(simp; omega)) (setL (f := u8b) (l := keyI x.S i)) ?_
    refine Zg3 ?_
    repeat (first|refine zA ?_|refine zB ?_|refine zC ?_|refine zD ?_|refine zE ?_|refine zF ?_|refine zG ?_|refine zH ?_|refine zI ?_|refine zJ ?_|refine zK ?_|refine zL ?_|refine zM rfl ?_|refine zN ?_|refine zO ?_|refine zP ?_|refine zQ ?_)
    rw [keyI_set x.S hS i hB]
    repeat (first|refine zA ?_|refine zB ?_|refine zC ?_|refine zD ?_|refine zE ?_|refine zF ?_|refine zG ?_|refine zH ?_|refine zI ?_|refine zJ ?_|refine zK ?_|refine zL ?_|refine zM rfl ?_|refine zN ?_|refine zO ?_|refine zP ?_|refine zQ ?_)
    refine Zgb ?_
    first|refine Zhg (Zat rfl) ?_|refine Zhg (Zar rfl) ?_
    first|refine Zhg (Zma (b := 1) rfl rfl) ?_|refine Zhg (Zbg rfl rfl) ?_
    first|refine Zhg (Zaz rfl) ?_|refine Zhg (Zas rfl) ?_
    refine Zg3 ?_
    repeat (first|refine zA ?_|refine zB ?_|refine zC ?_|refine zD ?_|refine zE ?_|refine zF ?_|refine zG ?_|refine zH ?_|refine zI ?_|refine zJ ?_|refine zK ?_|refine zL ?_|refine zM rfl ?_|refine zN ?_|refine zO ?_|refine zP ?_|refine zQ ?_)
    exact Zgl (i + 1) (by first|omega|(dsimp only; omega)|(simp only []; omega)) (by first|omega|(dsimp only; omega)|(simp only []; omega)) (by exact Imp.arr (by repeat (first|exact Arr.nil|exact Arr.stop|refine Arr.cons (by repeat constructor) ?_|refine Arr.skip ?_))) ⟨rfl, trivial⟩
  · have h16 : i = 16 := by omega
    subst h16
    have hko : keyI x.S 16 = keyO x.S := by unfold keyI keyO; rw [List.take_of_length_le (by omega)]; simp
    rw [hko] at hkl ⊢
    repeat (first|refine zA ?_|refine zB ?_|refine zC ?_|refine zD ?_|refine zE ?_|refine zF ?_|refine zG ?_|refine zH ?_|refine zI ?_|refine zJ ?_|refine zK ?_|refine zL ?_|refine zM rfl ?_|refine zN ?_|refine zO ?_|refine zP ?_|refine zQ ?_)
    refine Zgb ?_
    first|refine Zhg (Zl8 rfl) ?_|refine Zhg (Zce rfl) ?_
    refine Zhp rfl (by repeat constructor) (hm16) ?_
    first|refine Zhg (Zcr rfl) ?_|refine Zhg (Zct) ?_|refine Zhg (Zcu rfl) ?_
    first|refine Zhg (Zmd (b := 16) rfl rfl) ?_|refine Zhg (Zbj rfl rfl) ?_
    first|refine Zhg (Zaz rfl) ?_|refine Zhg (Zas rfl) ?_
    refine Zg3 ?_
    repeat (first|refine zA ?_|refine zB ?_|refine zC ?_|refine zD ?_|refine zE ?_|refine zF ?_|refine zG ?_|refine zH ?_|refine zI ?_|refine zJ ?_|refine zK ?_|refine zL ?_|refine zM rfl ?_|refine zN ?_|refine zO ?_|refine zP ?_|refine zQ ?_)
    obtain ⟨n, hn⟩ : ∃ n, n = m.length / 16 := ⟨_, rfl⟩
    obtain ⟨A, hA⟩ : ∃ A, A = m.take (16 * n) := ⟨_, rfl⟩
    have hAl : A.length = 16 * n := by rw [hA, List.length_take]; omega
    rw [← hn]
    have hbsA : Bs [old W] (.slice va A.length vc) A := by
      rw [hAl, hA]; exact (hin.bs .here).takeA (by omega)
    repeat (first|refine zA ?_|refine zB ?_|refine zC ?_|refine zD ?_|refine zE ?_|refine zF ?_|refine zG ?_|refine zH ?_|refine zI ?_|refine zJ ?_|refine zK ?_|refine zL ?_|refine zM rfl ?_|refine zN ?_|refine zO ?_|refine zP ?_|refine zQ ?_)
    refine Zgb ?_
    first|refine Zhg (Zl8 rfl) ?_|refine Zhg (Zce rfl) ?_
    refine Zhp rfl (by repeat constructor) (hm16) ?_
    first|refine Zhg (Zat rfl) ?_|refine Zhg (Zar rfl) ?_
    first|refine Zhg (Zmc (a := 16) rfl rfl) ?_|refine Zhg (Zbi rfl rfl) ?_
    refine Zhg (Zm8 (h := A.length) rfl (by show some _ = some _; rw [hAl]) (by omega)) ?_
    refine Zh8 rfl (by kernel_rfl) (copyBytes_x (L := [old W]) hbsA (by omega)) rfl (by repeat (first|exact Take.nil|exact Take.all|(apply Take.cons; (next => (repeat constructor); done))|apply Take.skip)) ?_
    rintro _ _ ⟨a1, c1, rfl, rfl⟩
    refine Zg2 (by repeat (first|exact App.nil|apply App.cons|(apply App.flip; first|exact App.nil|apply App.cons)|exact App.any)) ?_
    first|refine Zhg (Za2 rfl) ?_|refine Zhg (Zas rfl) ?_
    refine Zg3 ?_
    repeat (first|refine zA ?_|refine zB ?_|refine zC ?_|refine zD ?_|refine zE ?_|refine zF ?_|refine zG ?_|refine zH ?_|refine zI ?_|refine zJ ?_|refine zK ?_|refine zL ?_|refine zM rfl ?_|refine zN ?_|refine zO ?_|refine zP ?_|refine zQ ?_)
    refine Zgb ?_
    first|refine Zhg (Zaw rfl) ?_|refine Zhg (Zar rfl) ?_
    refine Zh8 rfl (by kernel_rfl) (copyBytes_x (L := [own 5 1 (.slice a1 A.length c1) A.length (A.map u8b)]) (Bs.own .here) (by omega)) rfl (by repeat (first|exact Take.nil|exact Take.all|(apply Take.cons; (next => (repeat constructor); done))|apply Take.skip)) ?_
    rintro _ _ ⟨a2, c2, rfl, rfl⟩
    refine Zg2 (by repeat (first|exact App.nil|apply App.cons|(apply App.flip; first|exact App.nil|apply App.cons)|exact App.any)) ?_
    first|refine Zhg (Za2 rfl) ?_|refine Zhg (Zas rfl) ?_
    refine Zg3 ?_
    repeat (first|refine zA ?_|refine zB ?_|refine zC ?_|refine zD ?_|refine zE ?_|refine zF ?_|refine zG ?_|refine zH ?_|refine zI ?_|refine zJ ?_|refine zK ?_|refine zL ?_|refine zM rfl ?_|refine zN ?_|refine zO ?_|refine zP ?_|refine zQ ?_)
    refine Zgb ?_
    first|refine Zhg (Zat rfl) ?_|refine Zhg (Zar rfl) ?_
    first|refine Zhg (Zmh (b := 0) rfl rfl) ?_|refine Zhg (Zbp rfl rfl) ?_
    refine Zg3 ?_
    repeat (first|refine zA ?_|refine zB ?_|refine zC ?_|refine zD ?_|refine zE ?_|refine zF ?_|refine zG ?_|refine zH ?_|refine zI ?_|refine zJ ?_|refine zK ?_|refine zL ?_|refine zM rfl ?_|refine zN ?_|refine zO ?_|refine zP ?_|refine zQ ?_)
    refine Zgn [(8, 10), (39, 74)] (by kernel_rfl) (fun bl : List Byte => bl.length = A.length ∧ code (keyO x.S) A = code (keyO x.S) bl) (fun bl => [own 5 1 (.slice a1 A.length c1) A.length (A.map u8b), own 5 1 (.slice a2 A.length c2) A.length (bl.map u8b), cl b3 ((keyO x.S).map u8b).toArray 24, cl b1 x.cells.toArray 61, old W]) (fun _ => []) ?_ ?_
    · refine Zgg rfl (fun hN => ?_) (fun hN => ?_)
      · refine Zgt (fun F w H => own_some (a := a1) (by repeat constructor) (by omega) H) ?_
        rintro ⟨g1, rfl⟩
        refine Zgt (fun F w H => own_some (a := a2) (by repeat constructor) (by omega) H) ?_
        rintro ⟨g2, rfl⟩
        obtain ⟨p, hp⟩ : ∃ p, p = (x.i % (n : Int)).toNat := ⟨_, rfl⟩
        obtain ⟨q, hq⟩ : ∃ q, q = (x.k % (n : Int)).toNat := ⟨_, rfl⟩
        have hpn : p < n := by have := Int.emod_nonneg x.i (show (n : Int) ≠ 0 by omega); have := Int.emod_lt_of_pos x.i (show (0 : Int) < n by omega); omega
        have hqn : q < n := by have := Int.emod_nonneg x.k (show (n : Int) ≠ 0 by omega); have := Int.emod_lt_of_pos x.k (show (0 : Int) < n by omega); omega
        repeat (first|refine zA ?_|refine zB ?_|refine zC ?_|refine zD ?_|refine zE ?_|refine zF ?_|refine zG ?_|refine zH ?_|refine zI ?_|refine zJ ?_|refine zK ?_|refine zL ?_|refine zM rfl ?_|refine zN ?_|refine zO ?_|refine zP ?_|refine zQ ?_)
        refine Zgb ?_
        first|refine Zhg (Zl8 rfl) ?_|refine Zhg (Zce rfl) ?_
        refine Zhp rfl (by repeat constructor) (cO_i x hS) ?_
        first|refine Zhg (Zat rfl) ?_|refine Zhg (Zar rfl) ?_
        refine Zh8 rfl (by kernel_rfl) (within_n x.i n (by omega) (by omega) hi) rfl (by repeat (first|exact Take.nil|exact Take.all|(apply Take.cons; (next => (repeat constructor); done))|apply Take.skip)) ?_
        rintro _ _ ⟨rfl, rfl⟩
        refine Zg2 (by repeat (first|exact App.nil|apply App.cons|(apply App.flip; first|exact App.nil|apply App.cons)|exact App.any)) ?_
        first|refine Zhg (Zmc (a := 16) rfl rfl) ?_|refine Zhg (Zbi rfl rfl) ?_
        first|refine Zhg (Zaz rfl) ?_|refine Zhg (Zas rfl) ?_
        refine Zg3 ?_
        repeat (first|refine zA ?_|refine zB ?_|refine zC ?_|refine zD ?_|refine zE ?_|refine zF ?_|refine zG ?_|refine zH ?_|refine zI ?_|refine zJ ?_|refine zK ?_|refine zL ?_|refine zM rfl ?_|refine zN ?_|refine zO ?_|refine zP ?_|refine zQ ?_)
        rw [← hp]
        repeat (first|refine zA ?_|refine zB ?_|refine zC ?_|refine zD ?_|refine zE ?_|refine zF ?_|refine zG ?_|refine zH ?_|refine zI ?_|refine zJ ?_|refine zK ?_|refine zL ?_|refine zM rfl ?_|refine zN ?_|refine zO ?_|refine zP ?_|refine zQ ?_)
        refine Zgb ?_
        first|refine Zhg (Zl8 rfl) ?_|refine Zhg (Zce rfl) ?_
        refine Zhp rfl (by repeat constructor) (cO_k x hS) ?_
        first|refine Zhg (Zat rfl) ?_|refine Zhg (Zar rfl) ?_
        refine Zh8 rfl (by kernel_rfl) (within_n x.k n (by omega) (by omega) hk) rfl (by repeat (first|exact Take.nil|exact Take.all|(apply Take.cons; (next => (repeat constructor); done))|apply Take.skip)) ?_
        rintro _ _ ⟨rfl, rfl⟩
        refine Zg2 (by repeat (first|exact App.nil|apply App.cons|(apply App.flip; first|exact App.nil|apply App.cons)|exact App.any)) ?_
        first|refine Zhg (Zmc (a := 16) rfl rfl) ?_|refine Zhg (Zbi rfl rfl) ?_
        first|refine Zhg (Zaz rfl) ?_|refine Zhg (Zas rfl) ?_
        refine Zg3 ?_
        repeat (first|refine zA ?_|refine zB ?_|refine zC ?_|refine zD ?_|refine zE ?_|refine zF ?_|refine zG ?_|refine zH ?_|refine zI ?_|refine zJ ?_|refine zK ?_|refine zL ?_|refine zM rfl ?_|refine zN ?_|refine zO ?_|refine zP ?_|refine zQ ?_)
        rw [← hq]
        repeat (first|refine zA ?_|refine zB ?_|refine zC ?_|refine zD ?_|refine zE ?_|refine zF ?_|refine zG ?_|refine zH ?_|refine zI ?_|refine zJ ?_|refine zK ?_|refine zL ?_|refine zM rfl ?_|refine zN ?_|refine zO ?_|refine zP ?_|refine zQ ?_)
        refine Zgb ?_
        first|refine Zhg (Zaz rfl) ?_|refine Zhg (Zas rfl) ?_
        refine Zg3 ?_
        repeat (first|refine zA ?_|refine zB ?_|refine zC ?_|refine zD ?_|refine zE ?_|refine zF ?_|refine zG ?_|refine zH ?_|refine zI ?_|refine zJ ?_|refine zK ?_|refine zL ?_|refine zM rfl ?_|refine zN ?_|refine zO ?_|refine zP ?_|refine zQ ?_)
        refine Zgo [(10, 10), (49, 74)] (by kernel_rfl) (fun j : Nat => j ≤ 16) (fun j => [own 5 1 (.slice (some ⟨g1, 0, none⟩) A.length c1) A.length (A.map u8b), own 5 1 (.slice (some ⟨g2, 0, none⟩) A.length c2) A.length ((swL A (16 * p) (16 * q) j).map u8b), cl b3 ((keyO x.S).map u8b).toArray 24, cl b1 x.cells.toArray 61, old W])
          (fun j => [(10, .int .i64 (j : Int))]) (fun j => 16 - j) 0 (by omega) (by rw [swL_zero]; exact Imp.arr (by repeat (first|exact Arr.nil|exact Arr.stop|refine Arr.cons (by repeat constructor) ?_|refine Arr.skip ?_))) ⟨rfl, trivial⟩ ?_
        intro j u2 hj
        have hsl := swL_len A (16 * p) (16 * q) j
        repeat (first|refine zA ?_|refine zB ?_|refine zC ?_|refine zD ?_|refine zE ?_|refine zF ?_|refine zG ?_|refine zH ?_|refine zI ?_|refine zJ ?_|refine zK ?_|refine zL ?_|refine zM rfl ?_|refine zN ?_|refine zO ?_|refine zP ?_|refine zQ ?_)
        refine Zgb ?_
        first|refine Zhg (Zat rfl) ?_|refine Zhg (Zar rfl) ?_
        first|refine Zhg (Zmf (b := 16) rfl rfl) ?_|refine Zhg (Zbn rfl rfl) ?_
        refine Zg3 ?_
        repeat (first|refine zA ?_|refine zB ?_|refine zC ?_|refine zD ?_|refine zE ?_|refine zF ?_|refine zG ?_|refine zH ?_|refine zI ?_|refine zJ ?_|refine zK ?_|refine zL ?_|refine zM rfl ?_|refine zN ?_|refine zO ?_|refine zP ?_|refine zQ ?_)
        refine Zgg rfl (fun hJ => ?_) (fun hJ => ?_)
        · have hxj : 16 * p + j < A.length := by omega
          have hyj : 16 * q + j < A.length := by omega
          have gx : (A.map u8b)[16 * p + j]? = some (u8b (A.getD (16 * p + j) 0#8)) := by rw [getM hxj, List.getD_eq_getElem?_getD, List.getElem?_eq_getElem hxj]; rfl
          have gy : (A.map u8b)[16 * q + j]? = some (u8b (A.getD (16 * q + j) 0#8)) := by rw [getM hyj, List.getD_eq_getElem?_getD, List.getElem?_eq_getElem hyj]; rfl
          repeat (first|refine zA ?_|refine zB ?_|refine zC ?_|refine zD ?_|refine zE ?_|refine zF ?_|refine zG ?_|refine zH ?_|refine zI ?_|refine zJ ?_|refine zK ?_|refine zL ?_|refine zM rfl ?_|refine zN ?_|refine zO ?_|refine zP ?_|refine zQ ?_)
          refine Zgb ?_
          first|refine Zhg (Zaw rfl) ?_|refine Zhg (Zar rfl) ?_
          first|refine Zhg (Zat rfl) ?_|refine Zhg (Zar rfl) ?_
          first|refine Zhg (Zat rfl) ?_|refine Zhg (Zar rfl) ?_
          first|refine Zhg (Zma rfl rfl) ?_|refine Zhg (Zbg rfl rfl) ?_
          first|refine Zhg (Zaw rfl) ?_|refine Zhg (Zar rfl) ?_
          first|refine Zhg (Zat rfl) ?_|refine Zhg (Zar rfl) ?_
          first|refine Zhg (Zat rfl) ?_|refine Zhg (Zar rfl) ?_
          first|refine Zhg (Zma rfl rfl) ?_|refine Zhg (Zbg rfl rfl) ?_
          first|refine Zhg (Zl4 rfl rfl) ?_|refine Zhg (Zl1 rfl rfl) ?_
          refine Zm6 (j := 16 * q + j) rfl (Rd.own (by repeat constructor)) hyj gy ?_
          first|refine Zhg (Zl4 rfl rfl) ?_|refine Zhg (Zl1 rfl rfl) ?_
          refine Zm7 (u := u8b (A.getD (16 * q + j) 0#8)) (i := 16 * p + j) (xs := (swL A (16 * p) (16 * q) j).map u8b) (ys := ((swL A (16 * p) (16 * q) j).set (16 * p + j) (A.getD (16 * q + j) 0#8)).map u8b) rfl rfl rfl (by repeat constructor) hxj (by rw [List.map_set]) ?_
          refine Zg3 ?_
          repeat (first|refine zA ?_|refine zB ?_|refine zC ?_|refine zD ?_|refine zE ?_|refine zF ?_|refine zG ?_|refine zH ?_|refine zI ?_|refine zJ ?_|refine zK ?_|refine zL ?_|refine zM rfl ?_|refine zN ?_|refine zO ?_|refine zP ?_|refine zQ ?_)
          refine Zgb ?_
          first|refine Zhg (Zaw rfl) ?_|refine Zhg (Zar rfl) ?_
          first|refine Zhg (Zat rfl) ?_|refine Zhg (Zar rfl) ?_
          first|refine Zhg (Zat rfl) ?_|refine Zhg (Zar rfl) ?_
          first|refine Zhg (Zma rfl rfl) ?_|refine Zhg (Zbg rfl rfl) ?_
          first|refine Zhg (Zaw rfl) ?_|refine Zhg (Zar rfl) ?_
          first|refine Zhg (Zat rfl) ?_|refine Zhg (Zar rfl) ?_
          first|refine Zhg (Zat rfl) ?_|refine Zhg (Zar rfl) ?_
          first|refine Zhg (Zma rfl rfl) ?_|refine Zhg (Zbg rfl rfl) ?_
          first|refine Zhg (Zl4 rfl rfl) ?_|refine Zhg (Zl1 rfl rfl) ?_
          refine Zm6 (j := 16 * p + j) rfl (Rd.own (by repeat constructor)) hxj gx ?_
          first|refine Zhg (Zl4 rfl rfl) ?_|refine Zhg (Zl1 rfl rfl) ?_
          refine Zm7 (u := u8b (A.getD (16 * p + j) 0#8)) (i := 16 * q + j) (xs := ((swL A (16 * p) (16 * q) j).set (16 * p + j) (A.getD (16 * q + j) 0#8)).map u8b) (ys := (swL A (16 * p) (16 * q) (j + 1)).map u8b) rfl rfl rfl (by repeat constructor) hyj (by rw [← swL_step A _ _ j hJ (by omega), List.map_set (l := (swL A (16 * p) (16 * q) j).set (16 * p + j) (A.getD (16 * q + j) 0#8))]) ?_
          refine Zg3 ?_
          repeat (first|refine zA ?_|refine zB ?_|refine zC ?_|refine zD ?_|refine zE ?_|refine zF ?_|refine zG ?_|refine zH ?_|refine zI ?_|refine zJ ?_|refine zK ?_|refine zL ?_|refine zM rfl ?_|refine zN ?_|refine zO ?_|refine zP ?_|refine zQ ?_)
          refine Zgb ?_
          first|refine Zhg (Zat rfl) ?_|refine Zhg (Zar rfl) ?_
          first|refine Zhg (Zma (b := 1) rfl rfl) ?_|refine Zhg (Zbg rfl rfl) ?_
          first|refine Zhg (Zaz rfl) ?_|refine Zhg (Zas rfl) ?_
          refine Zg3 ?_
          repeat (first|refine zA ?_|refine zB ?_|refine zC ?_|refine zD ?_|refine zE ?_|refine zF ?_|refine zG ?_|refine zH ?_|refine zI ?_|refine zJ ?_|refine zK ?_|refine zL ?_|refine zM rfl ?_|refine zN ?_|refine zO ?_|refine zP ?_|refine zQ ?_)
          exact Zgl (j + 1) (by first|omega|(dsimp only; omega)|(simp only []; omega)) (by first|omega|(dsimp only; omega)|(simp only []; omega)) (by exact Imp.arr (by repeat (first|exact Arr.nil|exact Arr.stop|refine Arr.cons (by repeat constructor) ?_|refine Arr.skip ?_))) ⟨rfl, trivial⟩
        · have hj16 : j = 16 := by omega
          subst hj16
          repeat (first|refine zA ?_|refine zB ?_|refine zC ?_|refine zD ?_|refine zE ?_|refine zF ?_|refine zG ?_|refine zH ?_|refine zI ?_|refine zJ ?_|refine zK ?_|refine zL ?_|refine zM rfl ?_|refine zN ?_|refine zO ?_|refine zP ?_|refine zQ ?_)
          exact Zgk (swL A (16 * p) (16 * q) 16) ⟨hsl, orderless_law _ A hkl (keyO_r x.S) n p q hAl hpn hqn⟩ (by exact Imp.arr (by repeat (first|exact Arr.nil|exact Arr.stop|refine Arr.cons (by repeat constructor) ?_|refine Arr.skip ?_))) trivial
      · repeat (first|refine zA ?_|refine zB ?_|refine zC ?_|refine zD ?_|refine zE ?_|refine zF ?_|refine zG ?_|refine zH ?_|refine zI ?_|refine zJ ?_|refine zK ?_|refine zL ?_|refine zM rfl ?_|refine zN ?_|refine zO ?_|refine zP ?_|refine zQ ?_)
        exact Zgk A ⟨rfl, rfl⟩ (by exact Imp.arr (by repeat (first|exact Arr.nil|exact Arr.stop|refine Arr.cons (by repeat constructor) ?_|refine Arr.skip ?_))) trivial
    · rintro bl u2 ⟨hbl, hcode⟩
      try dsimp only
      rw [← hbl]
      repeat (first|refine zA ?_|refine zB ?_|refine zC ?_|refine zD ?_|refine zE ?_|refine zF ?_|refine zG ?_|refine zH ?_|refine zI ?_|refine zJ ?_|refine zK ?_|refine zL ?_|refine zM rfl ?_|refine zN ?_|refine zO ?_|refine zP ?_|refine zQ ?_)
      refine Zij ([cl b3 ((keyO x.S).map u8b).toArray 24]) [0, 1, 2, 3, 4, 5, 6] (.r 0 (.r 1 (.r 4 (.r 5 (.alt (.e 2 true (.alt (.e 3 true (.e 6 true (.e 7 false (.q 8 (.q 9 .nil))))) (.e 6 true (.e 3 true (.e 7 false (.q 8 (.q 9 .nil))))))) (.e 6 true (.e 2 true (.e 3 true (.e 7 false (.q 8 (.q 9 .nil))))))))))) (by kernel_rfl) (by kernel_rfl) (Imp.arr (by repeat (first|exact Arr.nil|exact Arr.stop|refine Arr.cons (by repeat constructor) ?_|refine Arr.skip ?_))) ?_
      first|refine Ziy rfl rfl (by repeat constructor) (by first|rfl|omega|(rw [szL]; omega)|exact Nat.le_of_ble_eq_true rfl|(simp; done)|(simp; omega)) ?_|refine Zix rfl rfl (by repeat constructor) (by first|rfl|omega|(rw [szL]; omega)|exact Nat.le_of_ble_eq_true rfl|(simp; done)|(simp; omega)) rfl ?_
      first|refine Ziz rfl (Zaw rfl) ?_|refine Ziz rfl (Zar rfl) ?_
      first|refine Ziy rfl rfl (by repeat constructor) (by first|rfl|omega|(rw [szL]; omega)|exact Nat.le_of_ble_eq_true rfl|(simp; done)|(simp; omega)) ?_|refine Zix rfl rfl (by repeat constructor) (by first|rfl|omega|(rw [szL]; omega)|exact Nat.le_of_ble_eq_true rfl|(simp; done)|(simp; omega)) rfl ?_
      first|refine Ziz rfl (Zaw rfl) ?_|refine Ziz rfl (Zar rfl) ?_
      refine Zis ?altA1 ?altB1
      case' altA1 =>
        refine Ziq rfl ?_
        refine Zh7 (cs := #[.slice _ _ _]) (by omega) (by omega) rfl ?_; intro b77
        refine Zg3 ⟨fun _ => Imp.arr (by repeat (first|exact Arr.nil|exact Arr.stop|refine Arr.cons (by repeat constructor) ?_|refine Arr.skip ?_)), ?_⟩
        refine Zis ?altA2 ?altB2
        case' altA2 =>
          refine Ziq rfl ?_
          refine Zh8 rfl (by kernel_rfl) (tsum1_c (L := [cl b77 #[.slice a1 bl.length c1] 31, own 5 1 (.slice a1 bl.length c1) bl.length (A.map u8b)]) (keyO x.S) hkl (by repeat constructor) (by rw [hbl]; exact Bs.own (by repeat constructor))) rfl (by repeat (first|exact Take.nil|exact Take.all|(apply Take.cons; (next => (repeat constructor); done))|apply Take.skip)) ?_
          rintro _ _ ⟨rfl, rfl⟩
          refine Zg2 (by repeat (first|exact App.nil|apply App.cons|(apply App.flip; first|exact App.nil|apply App.cons)|exact App.any)) ?_
          refine Zg3 ⟨fun _ => Imp.arr (by repeat (first|exact Arr.nil|exact Arr.stop|refine Arr.cons (by repeat constructor) ?_|refine Arr.skip ?_)), ?_⟩
          refine Ziq rfl ?_
          refine Zh7 (cs := #[.slice _ _ _]) (by omega) (by omega) rfl ?_; intro b81
          refine Zg3 ⟨fun _ => Imp.arr (by repeat (first|exact Arr.nil|exact Arr.stop|refine Arr.cons (by repeat constructor) ?_|refine Arr.skip ?_)), ?_⟩
          refine Ziq rfl ?_
          refine Zh8 rfl (by kernel_rfl) (tsum1_c (L := [cl b81 #[.slice a2 bl.length c2] 31, own 5 1 (.slice a2 bl.length c2) bl.length (bl.map u8b)]) (keyO x.S) hkl (by repeat constructor) (Bs.own (by repeat constructor))) rfl (by repeat (first|exact Take.nil|exact Take.all|(apply Take.cons; (next => (repeat constructor); done))|apply Take.skip)) ?_
          rintro _ _ ⟨rfl, rfl⟩
          refine Zg2 (by repeat (first|exact App.nil|apply App.cons|(apply App.flip; first|exact App.nil|apply App.cons)|exact App.any)) ?_
          refine Zg3 ⟨(fun hh => Bool.noConfusion hh), ?_⟩
          refine Zim rfl (Zm4 (n := 16) (code_len _ _) (code_len _ _) rfl rfl) ?_
          refine Zi5 83 rfl (decide_eq_true hcode) ?_
          first|refine Zim rfl (Za0 rfl) ?_|refine Zim rfl (Zas rfl) ?_
          refine Zik ?_
        case' altB2 =>
          refine Ziq rfl ?_
          refine Zh7 (cs := #[.slice _ _ _]) (by omega) (by omega) rfl ?_; intro b81
          refine Zg3 ⟨fun _ => Imp.arr (by repeat (first|exact Arr.nil|exact Arr.stop|refine Arr.cons (by repeat constructor) ?_|refine Arr.skip ?_)), ?_⟩
          refine Ziq rfl ?_
          refine Zh8 rfl (by kernel_rfl) (tsum1_c (L := [cl b77 #[.slice a1 bl.length c1] 31, own 5 1 (.slice a1 bl.length c1) bl.length (A.map u8b)]) (keyO x.S) hkl (by repeat constructor) (by rw [hbl]; exact Bs.own (by repeat constructor))) rfl (by repeat (first|exact Take.nil|exact Take.all|(apply Take.cons; (next => (repeat constructor); done))|apply Take.skip)) ?_
          rintro _ _ ⟨rfl, rfl⟩
          refine Zg2 (by repeat (first|exact App.nil|apply App.cons|(apply App.flip; first|exact App.nil|apply App.cons)|exact App.any)) ?_
          refine Zg3 ⟨fun _ => Imp.arr (by repeat (first|exact Arr.nil|exact Arr.stop|refine Arr.cons (by repeat constructor) ?_|refine Arr.skip ?_)), ?_⟩
          refine Ziq rfl ?_
          refine Zh8 rfl (by kernel_rfl) (tsum1_c (L := [cl b81 #[.slice a2 bl.length c2] 31, own 5 1 (.slice a2 bl.length c2) bl.length (bl.map u8b)]) (keyO x.S) hkl (by repeat constructor) (Bs.own (by repeat constructor))) rfl (by repeat (first|exact Take.nil|exact Take.all|(apply Take.cons; (next => (repeat constructor); done))|apply Take.skip)) ?_
          rintro _ _ ⟨rfl, rfl⟩
          refine Zg2 (by repeat (first|exact App.nil|apply App.cons|(apply App.flip; first|exact App.nil|apply App.cons)|exact App.any)) ?_
          refine Zg3 ⟨(fun hh => Bool.noConfusion hh), ?_⟩
          refine Zim rfl (Zm4 (n := 16) (code_len _ _) (code_len _ _) rfl rfl) ?_
          refine Zi5 83 rfl (decide_eq_true hcode) ?_
          first|refine Zim rfl (Za0 rfl) ?_|refine Zim rfl (Zas rfl) ?_
          refine Zik ?_
      case' altB1 =>
        refine Ziq rfl ?_
        refine Zh7 (cs := #[.slice _ _ _]) (by omega) (by omega) rfl ?_; intro b81
        refine Zg3 ⟨fun _ => Imp.arr (by repeat (first|exact Arr.nil|exact Arr.stop|refine Arr.cons (by repeat constructor) ?_|refine Arr.skip ?_)), ?_⟩
        refine Ziq rfl ?_
        refine Zh7 (cs := #[.slice _ _ _]) (by omega) (by omega) rfl ?_; intro b77
        refine Zg3 ⟨fun _ => Imp.arr (by repeat (first|exact Arr.nil|exact Arr.stop|refine Arr.cons (by repeat constructor) ?_|refine Arr.skip ?_)), ?_⟩
        refine Ziq rfl ?_
        refine Zh8 rfl (by kernel_rfl) (tsum1_c (L := [cl b77 #[.slice a1 bl.length c1] 31, own 5 1 (.slice a1 bl.length c1) bl.length (A.map u8b)]) (keyO x.S) hkl (by repeat constructor) (by rw [hbl]; exact Bs.own (by repeat constructor))) rfl (by repeat (first|exact Take.nil|exact Take.all|(apply Take.cons; (next => (repeat constructor); done))|apply Take.skip)) ?_
        rintro _ _ ⟨rfl, rfl⟩
        refine Zg2 (by repeat (first|exact App.nil|apply App.cons|(apply App.flip; first|exact App.nil|apply App.cons)|exact App.any)) ?_
        refine Zg3 ⟨fun _ => Imp.arr (by repeat (first|exact Arr.nil|exact Arr.stop|refine Arr.cons (by repeat constructor) ?_|refine Arr.skip ?_)), ?_⟩
        refine Ziq rfl ?_
        refine Zh8 rfl (by kernel_rfl) (tsum1_c (L := [cl b81 #[.slice a2 bl.length c2] 31, own 5 1 (.slice a2 bl.length c2) bl.length (bl.map u8b)]) (keyO x.S) hkl (by repeat constructor) (Bs.own (by repeat constructor))) rfl (by repeat (first|exact Take.nil|exact Take.all|(apply Take.cons; (next => (repeat constructor); done))|apply Take.skip)) ?_
        rintro _ _ ⟨rfl, rfl⟩
        refine Zg2 (by repeat (first|exact App.nil|apply App.cons|(apply App.flip; first|exact App.nil|apply App.cons)|exact App.any)) ?_
        refine Zg3 ⟨(fun hh => Bool.noConfusion hh), ?_⟩
        refine Zim rfl (Zm4 (n := 16) (code_len _ _) (code_len _ _) rfl rfl) ?_
        refine Zi5 83 rfl (decide_eq_true hcode) ?_
        first|refine Zim rfl (Za0 rfl) ?_|refine Zim rfl (Zas rfl) ?_
        refine Zik ?_
      all_goals (repeat (first|refine zA ?_|refine zB ?_|refine zC ?_|refine zD ?_|refine zE ?_|refine zF ?_|refine zG ?_|refine zH ?_|refine zI ?_|refine zJ ?_|refine zK ?_|refine zL ?_|refine zM rfl ?_|refine zN ?_|refine zO ?_|refine zP ?_|refine zQ ?_))
      all_goals
        refine rx1 (Zha rfl (Zg7)) ?_
        exact ⟨_, ⟨rfl, rfl⟩, by exact Imp.arr (by repeat (first|exact Arr.nil|exact Arr.stop|refine Arr.cons (by repeat constructor) ?_|refine Arr.skip ?_))⟩
section
open Go.ChangeShapes Go.WideShapes Go.ChangeAt Go.RowKit
variable {H : Type} {enc : TypeId × Value → H} {w : World} {base : Nat} {spare : Nat → Bool} {held : Bool}
theorem int_wf {n : Int} (h : (Lit.int .i64 n).wf = true) : -9223372036854775808 ≤ n ∧ n ≤ 9223372036854775807 := by
  simp only [Lit.wf, Bool.and_eq_true, decide_eq_true_eq] at h
  have hlo : IntKind.i64.min = -9223372036854775808 := by decide
  have hhi : IntKind.i64.max = 9223372036854775807 := by decide
  omega
theorem open_chunks {n : Nat} {cs : List Value} {y : DataW H × List MemPlace} (h : DataW.trod enc Try.prog w base spare held n 61 cs = some y) (hs : Small Try.prog 61 y.1) : ∃ x : ChunksV, cs = x.cells ∧ ChunksOk w x := by
  obtain ⟨xs, m, _, hx, hl, hn, hf⟩ := DataW.trod_struct Try.underlying61 h
  have cC : Try.prog.cellsOf 61 = 19 := by kernel_rfl
  have cS : Try.prog.cellsOf 27 = 16 := by kernel_rfl
  have cM : Try.prog.cellsOf 31 = 1 := by kernel_rfl
  have cI : Try.prog.cellsOf 3 = 1 := by kernel_rfl
  rw [cC] at hl
  have hn : xs.length = 4 := hn
  have g : ∀ i (hi : i < xs.length), xs[i]? = some xs[i] := fun i hi => List.getElem?_eq_getElem hi
  have e0 : DataW.trod enc Try.prog w base spare held m 27 ((cs.drop 0).take (Try.prog.cellsOf 27)) = some (xs[0]'(by omega)) := (hf 0 _ rfl).trans (g 0 (by omega))
  have e1 : DataW.trod enc Try.prog w base spare held m 31 ((cs.drop 16).take (Try.prog.cellsOf 31)) = some (xs[1]'(by omega)) := (hf 1 _ rfl).trans (g 1 (by omega))
  have e2 : DataW.trod enc Try.prog w base spare held m 3 ((cs.drop 17).take (Try.prog.cellsOf 3)) = some (xs[2]'(by omega)) := (hf 2 _ rfl).trans (g 2 (by omega))
  have e3 : DataW.trod enc Try.prog w base spare held m 3 ((cs.drop 18).take (Try.prog.cellsOf 3)) = some (xs[3]'(by omega)) := (hf 3 _ rfl).trans (g 3 (by omega))
  rw [cS] at e0; rw [cM] at e1; rw [cI] at e2 e3
  rw [hx] at hs
  have hs1 := Small.part (j := 1) Try.underlying61 hs rfl (by rw [List.getElem?_map, g 1 (by omega)]; rfl)
  obtain ⟨S, hS, hSl⟩ := open_ba e0
  obtain ⟨v, l, hv, hin⟩ := open_bs Try.underlying31 Try.underlying5 (by kernel_rfl) (by kernel_rfl) e1 hs1
  obtain ⟨i, hi, _, wi⟩ := DataW.trod_int Try.underlying3 e2
  obtain ⟨k, hk, _, wk⟩ := DataW.trod_int Try.underlying3 e3
  refine ⟨⟨S, v, i, k⟩, ?_, hSl, ⟨l, hin⟩, int_wf wi, int_wf wk⟩
  have d1 : cs.drop 16 = (cs.drop 16).take 1 ++ cs.drop 17 := by
    have := (List.take_append_drop 1 (cs.drop 16)).symm
    rwa [List.drop_drop] at this
  have d2 : cs.drop 17 = (cs.drop 17).take 1 ++ cs.drop 18 := by
    have := (List.take_append_drop 1 (cs.drop 17)).symm
    rwa [List.drop_drop] at this
  have d3 : cs.drop 18 = (cs.drop 18).take 1 := by rw [List.take_of_length_le (by simp; omega)]
  have d0 : cs = (cs.drop 0).take 16 ++ cs.drop 16 := (List.take_append_drop 16 cs).symm
  rw [d0, d1, d2, d3, hS, hv, hi, hk]
  rfl
end
end Go.Sl

/- the statements' small helpers: rows copied. -/
set_option maxHeartbeats 4000000
set_option maxRecDepth 10000
set_option linter.unusedVariables false
set_option linter.unusedSimpArgs false
namespace Go.Sl
open Go Go.Proofs
attribute [local irreducible] cl pt own old pur ex all den denOps denS xOps xC cX CX xthen xblk xcut xloop retX resX Calls PV Rd Con
/-- Rows that nobody else holds: each slice with its room. -/
abbrev rowA (x : Value × List Byte) : Asrt := own 5 1 x.1 x.2.length (x.2.map u8b)
theorem bs_rows {M M' : List Asrt} {l : List (Value × List Byte)} (hm : Has M (star rowA l) M') {x : Value × List Byte} (hx : x ∈ l) : Bs M x.1 x.2 := by
  obtain ⟨R, hR⟩ := star_has (A := rowA) hx hm
  exact (Bs.own (M := rowA x :: R) .here).imp hR
theorem rs_rows {M M' M2 : List Asrt} {l : List (Value × List Byte)} {v : Value} {E : Nat} (hm : Has M (star rowA l) M') (ho : Has M (own E 1 v l.length (l.map (·.1))) M2) : Rs M v l :=
  Rs.own ho (fun x hx => bs_rows hm hx)
theorem copyRows_x {L : List Asrt} {v : Value} {ps : List (Value × List Byte)} (h : Rs L v ps) (hl : ps.length * 24 ≤ 140737488355328) (hel : ∀ x ∈ ps, x.2.length ≤ 140737488355328) :
    Con Try.prog 17 [v] L (fun r M => ∃ qs a c, qs.map (·.2) = ps.map (·.2) ∧ r = .slice a qs.length c ∧ M = own 31 1 r qs.length (qs.map (·.1)) :: star rowA qs :: L) := by
  refine Con.get (fun w0 w F H => h.sh _ _ _ H) ?_
  rintro ⟨aa, ac, rfl, hac, hacm⟩
  refine fn_x Try.func17 rfl rfl rfl Try.mixed (by kernel_rfl) ?_
  intro w0
  repeat (first|refine zA ?_|refine zB ?_|refine zC ?_|refine zD ?_|refine zE ?_|refine zF ?_|refine zG ?_|refine zH ?_|refine zI ?_|refine zJ ?_|refine zK ?_|refine zL ?_|refine zM rfl ?_|refine zN ?_|refine zO ?_|refine zP ?_|refine zQ ?_)
  refine Zgb ?_
  first|refine Zhg (Za2 rfl) ?_|refine Zhg (Zas rfl) ?_
  refine Zg3 ?_
  repeat (first|refine zA ?_|refine zB ?_|refine zC ?_|refine zD ?_|refine zE ?_|refine zF ?_|refine zG ?_|refine zH ?_|refine zI ?_|refine zJ ?_|refine zK ?_|refine zL ?_|refine zM rfl ?_|refine zN ?_|refine zO ?_|refine zP ?_|refine zQ ?_)
  refine Zgb ?_
  first|refine Zhg (Za2 rfl) ?_|refine Zhg (Zas rfl) ?_
  refine Zg3 ?_
  repeat (first|refine zA ?_|refine zB ?_|refine zC ?_|refine zD ?_|refine zE ?_|refine zF ?_|refine zG ?_|refine zH ?_|refine zI ?_|refine zJ ?_|refine zK ?_|refine zL ?_|refine zM rfl ?_|refine zN ?_|refine zO ?_|refine zP ?_|refine zQ ?_)
  refine Zgb ?_
  first|refine Zhg (Zaz rfl) ?_|refine Zhg (Zas rfl) ?_
  refine Zg3 ?_
  repeat (first|refine zA ?_|refine zB ?_|refine zC ?_|refine zD ?_|refine zE ?_|refine zF ?_|refine zG ?_|refine zH ?_|refine zI ?_|refine zJ ?_|refine zK ?_|refine zL ?_|refine zM rfl ?_|refine zN ?_|refine zO ?_|refine zP ?_|refine zQ ?_)
  refine Zgo [(3, 18)] (by kernel_rfl) (fun s : Nat × Option Addr × Nat × Nat × List (Value × List Byte) => s.1 ≤ ps.length ∧ s.2.2.2.1 = s.1 ∧ s.2.2.2.2.length = s.1 ∧ s.2.2.2.2.map (·.2) = (ps.take s.1).map (·.2))
    (fun s => own 31 1 (.slice s.2.1 s.2.2.2.2.length s.2.2.1) s.2.2.2.2.length (s.2.2.2.2.map (·.1)) :: star rowA s.2.2.2.2 :: L)
    (fun s => [(4, .int .i64 (s.1 : Int)), (3, .slice s.2.1 s.2.2.2.1 s.2.2.1)]) (fun s => ps.length - s.1) (0, none, 0, 0, []) ⟨Nat.zero_le _, rfl, rfl, rfl⟩ (star_nil.trans Imp.own_nil) ⟨rfl, rfl, trivial⟩ ?_
  rintro ⟨i, a, c, n, qs⟩ u ⟨hi, hn, hq, hqs⟩
  dsimp only at hi hn hq hqs ⊢
  subst hn
  rw [hq]
  repeat (first|refine zA ?_|refine zB ?_|refine zC ?_|refine zD ?_|refine zE ?_|refine zF ?_|refine zG ?_|refine zH ?_|refine zI ?_|refine zJ ?_|refine zK ?_|refine zL ?_|refine zM rfl ?_|refine zN ?_|refine zO ?_|refine zP ?_|refine zQ ?_)
  refine Zgb ?_
  first|refine Zhg (Zat rfl) ?_|refine Zhg (Zar rfl) ?_
  first|refine Zhg (Zaw rfl) ?_|refine Zhg (Zar rfl) ?_
  first|refine Zhg (Zcr rfl) ?_|refine Zhg (Zct) ?_|refine Zhg (Zcu rfl) ?_
  first|refine Zhg (Zmf rfl rfl) ?_|refine Zhg (Zbn rfl rfl) ?_
  refine Zg3 ?_
  repeat (first|refine zA ?_|refine zB ?_|refine zC ?_|refine zD ?_|refine zE ?_|refine zF ?_|refine zG ?_|refine zH ?_|refine zI ?_|refine zJ ?_|refine zK ?_|refine zL ?_|refine zM rfl ?_|refine zN ?_|refine zO ?_|refine zP ?_|refine zQ ?_)
  refine Zgg rfl (fun hB => ?_) (fun hB => ?_)
  · have hbs := h.el _ (List.getElem_mem hB)
    have hln := hel _ (List.getElem_mem hB)
    refine Zgt (fun F w H => (h.rd.imp (by exact Imp.arr (by repeat (first|exact Arr.nil|exact Arr.stop|refine Arr.cons (by repeat constructor) ?_|refine Arr.skip ?_)))).someAt (by omega) H) ?_
    rintro ⟨a1, a2, rfl⟩
    refine Zgt (fun F w H => (hbs.imp (by exact Imp.arr (by repeat (first|exact Arr.nil|exact Arr.stop|refine Arr.cons (by repeat constructor) ?_|refine Arr.skip ?_)))).sh _ _ _ H) ?_
    rintro ⟨ea, ec, hev, hecl, hecm⟩
    generalize hrow : ps[n].2 = row at hbs hev hecl hln
    have hgi : (ps.map (·.1))[n]? = some (.slice ea row.length ec) := by simp [hB, hev]
    rw [hev] at hbs
    repeat (first|refine zA ?_|refine zB ?_|refine zC ?_|refine zD ?_|refine zE ?_|refine zF ?_|refine zG ?_|refine zH ?_|refine zI ?_|refine zJ ?_|refine zK ?_|refine zL ?_|refine zM rfl ?_|refine zN ?_|refine zO ?_|refine zP ?_|refine zQ ?_)
    refine Zgb ?_
    first|refine Zhg (Zaw rfl) ?_|refine Zhg (Zar rfl) ?_
    first|refine Zhg (Zaw rfl) ?_|refine Zhg (Zar rfl) ?_
    first|refine Zhg (Zat rfl) ?_|refine Zhg (Zar rfl) ?_
    first|refine Zhg (Zl4 rfl rfl) ?_|refine Zhg (Zl1 rfl rfl) ?_
    refine Zic (j := n) rfl (h.rd.imp (by exact Imp.arr (by repeat (first|exact Arr.nil|exact Arr.stop|refine Arr.cons (by repeat constructor) ?_|refine Arr.skip ?_)))) hB hgi ?_
    refine Zh8 rfl (by kernel_rfl) (copyBytes_x (L := L) hbs hln) rfl (by repeat (first|exact Take.nil|exact Take.all|(apply Take.cons; (next => (repeat constructor); done))|apply Take.skip)) ?_
    rintro _ _ ⟨ra, rc, rfl, rfl⟩
    refine Zg2 (by repeat (first|exact App.nil|apply App.cons|(apply App.flip; first|exact App.nil|apply App.cons)|exact App.any)) ?_
    refine Zh7 (cs := #[.slice _ _ _]) (by omega) (by omega) rfl ?_; intro b17
    refine Zia rfl rfl (by repeat constructor) (Rd.cl (xs := [.slice ra row.length rc]) (by repeat constructor) rfl (by first|rfl|omega|(rw [szL]; omega)|exact Nat.le_of_ble_eq_true rfl|(simp; done)|(simp; omega)) rfl) (by first|rfl|exact oneM_u8 _|exact oneL_u8 _|(simp [oneC]; done)) (by omega) (by first|omega|exact Nat.le_of_ble_eq_true rfl|(simp; done)|(simp; omega)|decide) ?_; intro a3 c3
    first|refine Zhg (Za2 rfl) ?_|refine Zhg (Zas rfl) ?_
    refine Zg3 ?_
    repeat (first|refine zA ?_|refine zB ?_|refine zC ?_|refine zD ?_|refine zE ?_|refine zF ?_|refine zG ?_|refine zH ?_|refine zI ?_|refine zJ ?_|refine zK ?_|refine zL ?_|refine zM rfl ?_|refine zN ?_|refine zO ?_|refine zP ?_|refine zQ ?_)
    refine Zgb ?_
    first|refine Zhg (Zat rfl) ?_|refine Zhg (Zar rfl) ?_
    first|refine Zhg (Zma (b := 1) rfl rfl) ?_|refine Zhg (Zbg rfl rfl) ?_
    first|refine Zhg (Zaz rfl) ?_|refine Zhg (Zas rfl) ?_
    refine Zg3 ?_
    repeat (first|refine zA ?_|refine zB ?_|refine zC ?_|refine zD ?_|refine zE ?_|refine zF ?_|refine zG ?_|refine zH ?_|refine zI ?_|refine zJ ?_|refine zK ?_|refine zL ?_|refine zM rfl ?_|refine zN ?_|refine zO ?_|refine zP ?_|refine zQ ?_)
    refine Zgl (n + 1, a3, c3, n + 1, qs ++ [(.slice ra row.length rc, row)]) (by first|omega|(dsimp only; omega)|(simp only []; omega)) ⟨by dsimp only; omega, rfl, by dsimp only; simp [hq], by dsimp only; rw [List.map_append, hqs, List.take_succ_eq_append_getElem hB, List.map_append]; simp [hrow]⟩ ?_ ⟨rfl, rfl, trivial⟩
    dsimp only
    rw [show (qs ++ [((.slice ra row.length rc, row) : Value × List Byte)]).length = n + 1 by simp [hq], List.map_append]
    exact Imp.trans (Imp.arr (N := own 31 1 (.slice a3 (n + 1) c3) (n + 1) (qs.map (·.1) ++ [.slice ra row.length rc]) :: rowA (.slice ra row.length rc, row) :: star rowA qs :: L) (by repeat (first|exact Arr.nil|exact Arr.stop|refine Arr.cons (by repeat constructor) ?_|refine Arr.skip ?_))) (Imp.cons star_snoc)
  · have hie : n = ps.length := by omega
    subst hie
    rw [List.take_length] at hqs
    repeat (first|refine zA ?_|refine zB ?_|refine zC ?_|refine zD ?_|refine zE ?_|refine zF ?_|refine zG ?_|refine zH ?_|refine zI ?_|refine zJ ?_|refine zK ?_|refine zL ?_|refine zM rfl ?_|refine zN ?_|refine zO ?_|refine zP ?_|refine zQ ?_)
    refine Zgb ?_
    first|refine Zhg (Zaw rfl) ?_|refine Zhg (Zar rfl) ?_
    first|refine Zhg (Za2 rfl) ?_|refine Zhg (Zas rfl) ?_
    refine Zg3 ?_
    repeat (first|refine zA ?_|refine zB ?_|refine zC ?_|refine zD ?_|refine zE ?_|refine zF ?_|refine zG ?_|refine zH ?_|refine zI ?_|refine zJ ?_|refine zK ?_|refine zL ?_|refine zM rfl ?_|refine zN ?_|refine zO ?_|refine zP ?_|refine zQ ?_)
    refine rx1 (Zhc rfl (Zg7)) ?_
    exact ⟨_, ⟨qs, a, c, hqs, by rw [hq], by rw [hq]⟩, by exact Imp.arr (by repeat (first|exact Arr.nil|exact Arr.stop|refine Arr.cons (by repeat constructor) ?_|refine Arr.skip ?_))⟩
end Go.Sl
