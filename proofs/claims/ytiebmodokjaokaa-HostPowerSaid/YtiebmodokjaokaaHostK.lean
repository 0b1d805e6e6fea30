/- host: what a host tells whose power goes. -/
import Derived.Test.YtiebmodokjaokaaHostS
import Derived.KernelRfl
namespace Go.Sl.HostS
def P0 (b : Bytes) (k : Int) : HS := fresh 1 b.length [⟨0, k, 0, 0, 0, 0⟩, ⟨1, k, 0, 0, 0, 0⟩, ⟨2, k, 0, 0, 0, 0⟩]
def P1 (b : Bytes) (k : Int) : HS := (does (P0 b k) 1 0 b (wrote 0 b)).1
def P2 (b : Bytes) (k : Int) : HS := (does (P1 b k) 1 0 b (wrote 0 b)).1
def P3 (b : Bytes) (k v : Int) : HS := (raiseR (P2 b k) v).2
def P4 (b : Bytes) (k v : Int) : HS := { P3 b k v with down := false }
def P5 (b : Bytes) (k v : Int) : HS := (raiseR (P4 b k v) v).2
def P6 (b : Bytes) (k v : Int) : HS := { P5 b k v with down := false }
def P7 (b : Bytes) (k v : Int) : HS := (readR (P6 b k v) 0).2.2
def P8 (b : Bytes) (k v : Int) : HS := (askR (P7 b k v)).2.2
def P9 (b : Bytes) (k v : Int) : HS := { { P8 b k v with down := false } with down := false }
def P10 (b : Bytes) (k v : Int) : HS := (readR (P9 b k v) 0).2.2
def P11 (b : Bytes) (k v : Int) : HS := (askR (P10 b k v)).2.2
structure PF (b : Bytes) (k v : Int) (c : Bytes) (r : Int) (n : Nat) : Prop where
  a1 : writeR (P0 b k) 0 b = (110, P1 b k)
  a2 : writeR (P1 b k) 0 b = (110, P2 b k)
  a3 : (raiseR (P2 b k) v).1 = 110
  a4 : (P3 b k v).down = true
  a5 : (P3 b k v).ops = 1
  a6 : (raiseR (P4 b k v) v).1 = 110
  a7 : (P5 b k v).ops = 2
  a8 : (readR (P6 b k v) 0).1 = []
  a9 : (readR (P6 b k v) 0).2.1 = 110
  b1 : (askR (P7 b k v)).2.1 = 110
  b2 : (P8 b k v).ops = 3
  b3 : (readR (P9 b k v) 0).1 = c
  b4 : (readR (P9 b k v) 0).2.1 = 0
  b5 : (askR (P10 b k v)).1 = r
  b6 : (askR (P10 b k v)).2.1 = 0
  b7 : (P11 b k v).ops = 5
  b8 : (P11 b k v).log.length = n
  o0 : (P0 b k).ops < 1099511627776
  o1 : (P1 b k).ops < 1099511627776
  o2 : (P2 b k).ops < 1099511627776
  o4 : (P4 b k v).ops < 1099511627776
  o6 : (P6 b k v).ops < 1099511627776
  o7 : (P7 b k v).ops < 1099511627776
  o9 : (P9 b k v).ops < 1099511627776
  o10 : (P10 b k v).ops < 1099511627776
  o11 : (P11 b k v).ops ≤ 1099511627776
theorem writeR_is {s : HS} {page : Int} {b : Bytes} (h : there s page) (hl : b.length = s.size) : writeR s page b = ((does s 1 page b (wrote page b)).2, (does s 1 page b (wrote page b)).1) := by
  simp [writeR, h, hl]
theorem pf4 (b : Bytes) (v : Int) : PF b 4 v b (max 0 v) 5 := by
  refine ⟨?_, ?_, ?_, ?_, ?_, ?_, ?_, ?_, ?_, ?_, ?_, ?_, ?_, ?_, ?_, ?_, ?_, ?_, ?_, ?_, ?_, ?_, ?_, ?_, ?_, ?_⟩
  · rw [writeR_is ⟨by decide, (by decide : (0 : Int) < 1)⟩ rfl]; kernel_rfl
  · rw [writeR_is ⟨by decide, of_decide_eq_true (by kernel_rfl : decide ((0 : Int) < (P1 b 4).pages) = true)⟩ (by kernel_rfl : b.length = (P1 b 4).size)]; kernel_rfl
  all_goals first | kernel_rfl | (refine of_decide_eq_true ?_; kernel_rfl)
theorem pf3 (b : Bytes) (v : Int) : PF b 3 v (List.replicate b.length 0) 0 2 := by
  refine ⟨?_, ?_, ?_, ?_, ?_, ?_, ?_, ?_, ?_, ?_, ?_, ?_, ?_, ?_, ?_, ?_, ?_, ?_, ?_, ?_, ?_, ?_, ?_, ?_, ?_, ?_⟩
  · rw [writeR_is ⟨by decide, (by decide : (0 : Int) < 1)⟩ rfl]; kernel_rfl
  · rw [writeR_is ⟨by decide, of_decide_eq_true (by kernel_rfl : decide ((0 : Int) < (P1 b 3).pages) = true)⟩ (by kernel_rfl : b.length = (P1 b 3).size)]; kernel_rfl
  all_goals first | kernel_rfl | (refine of_decide_eq_true ?_; kernel_rfl)
end Go.Sl.HostS
