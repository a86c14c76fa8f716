/- Contracts of Do and of the law's do. -/
import Derived.Test.YtihdnjgjjhhpgaaFlD
namespace Go.Proofs.Ytihdnjgjjhhpgaa
open Go.RowKit

theorem EnvAt.alloc {w : World} {b : Nat} {f m : Int} (h : EnvAt w b f m) (o : Obj) : EnvAt (w.alloc o) b f m := by
  unfold EnvAt; rw [Below.heap_alloc _ _ _ h.lt]; exact h
theorem do8 {k a f m : Int} (h1 : (k == 1) = false) (h2 : (k == 2) = false) (h3 : (k == 3) = false) (h4 : (k == 4) = false) (h5 : (k == 5) = false) (h6 : (k == 6) = false) (h7 : (k == 7) = false) :
    doVal k a f = 0 ∧ doErr k a = 2 ∧ doFl k a f = f ∧ doMa k a m = m := by
  simp only [doVal, doErr, doFl, doMa, h1, h2, h3, h4, h5, h6, h7, Bool.false_eq_true, if_false, and_self]

set_option maxRecDepth 100000 in
set_option maxHeartbeats 1000000 in
theorem Do_1 (b : Nat) (f m a : Int) (w : World) (he : EnvAt w b f m) :
    Calls Try.prog 49 #[.pointer (some ⟨b, 0, none⟩), .agg #[.int .u8 1, .int .u8 a]] w (DoPost b f m 1 a w) := by
  have he' := he.alloc (.cells #[.int .u8 1, .int .u8 a] 50)
  go_enter Try.func49, Try.ntmps49
  go_wp2_with (first
      | (go_at_call 27; refine (Raise_any _ _ _ _ _ he').mono ?_; rintro e w1 ⟨rfl, he1, hg1⟩)
      | (go_at_call 29; refine (Test_any _ _ _ _ _ he').mono ?_; rintro e w1 ⟨rfl, rfl⟩)
      | (go_at_call 28; refine (Clear_any _ _ _ _ _ he').mono ?_; rintro e w1 ⟨rfl, he1, hg1⟩)
      | (go_at_call 30; refine (Hold_any _ _ _ _ he').mono ?_; rintro e w1 ⟨rfl, he1, hg1⟩)
      | (go_at_call 50; refine (Set_any _ _ _ _ _ he').mono ?_; rintro e w1 ⟨rfl, he1, hg1⟩)
      | (go_at_call 31; refine (Update_any _ _ _ _ _ he').mono ?_; rintro e w1 ⟨rfl, he1, hg1⟩)
      | (go_at_call 51; refine (Forget_any _ _ _ _ he').mono ?_; rintro e w1 ⟨rfl, he1, hg1⟩))
  go_ret2
  exact ⟨rfl, he1, gb_trans (gb_alloc _ _ _) hg1⟩

set_option maxRecDepth 100000 in
set_option maxHeartbeats 1000000 in
theorem Do_2 (b : Nat) (f m a : Int) (w : World) (he : EnvAt w b f m) :
    Calls Try.prog 49 #[.pointer (some ⟨b, 0, none⟩), .agg #[.int .u8 2, .int .u8 a]] w (DoPost b f m 2 a w) := by
  have he' := he.alloc (.cells #[.int .u8 2, .int .u8 a] 50)
  go_enter Try.func49, Try.ntmps49
  go_wp2_with (first
      | (go_at_call 27; refine (Raise_any _ _ _ _ _ he').mono ?_; rintro e w1 ⟨rfl, he1, hg1⟩)
      | (go_at_call 29; refine (Test_any _ _ _ _ _ he').mono ?_; rintro e w1 ⟨rfl, rfl⟩)
      | (go_at_call 28; refine (Clear_any _ _ _ _ _ he').mono ?_; rintro e w1 ⟨rfl, he1, hg1⟩)
      | (go_at_call 30; refine (Hold_any _ _ _ _ he').mono ?_; rintro e w1 ⟨rfl, he1, hg1⟩)
      | (go_at_call 50; refine (Set_any _ _ _ _ _ he').mono ?_; rintro e w1 ⟨rfl, he1, hg1⟩)
      | (go_at_call 31; refine (Update_any _ _ _ _ _ he').mono ?_; rintro e w1 ⟨rfl, he1, hg1⟩)
      | (go_at_call 51; refine (Forget_any _ _ _ _ he').mono ?_; rintro e w1 ⟨rfl, he1, hg1⟩))
  go_ret2
  exact ⟨rfl, he', gb_alloc _ _ _⟩

set_option maxRecDepth 100000 in
set_option maxHeartbeats 1000000 in
theorem Do_3 (b : Nat) (f m a : Int) (w : World) (he : EnvAt w b f m) :
    Calls Try.prog 49 #[.pointer (some ⟨b, 0, none⟩), .agg #[.int .u8 3, .int .u8 a]] w (DoPost b f m 3 a w) := by
  have he' := he.alloc (.cells #[.int .u8 3, .int .u8 a] 50)
  go_enter Try.func49, Try.ntmps49
  go_wp2_with (first
      | (go_at_call 27; refine (Raise_any _ _ _ _ _ he').mono ?_; rintro e w1 ⟨rfl, he1, hg1⟩)
      | (go_at_call 29; refine (Test_any _ _ _ _ _ he').mono ?_; rintro e w1 ⟨rfl, rfl⟩)
      | (go_at_call 28; refine (Clear_any _ _ _ _ _ he').mono ?_; rintro e w1 ⟨rfl, he1, hg1⟩)
      | (go_at_call 30; refine (Hold_any _ _ _ _ he').mono ?_; rintro e w1 ⟨rfl, he1, hg1⟩)
      | (go_at_call 50; refine (Set_any _ _ _ _ _ he').mono ?_; rintro e w1 ⟨rfl, he1, hg1⟩)
      | (go_at_call 31; refine (Update_any _ _ _ _ _ he').mono ?_; rintro e w1 ⟨rfl, he1, hg1⟩)
      | (go_at_call 51; refine (Forget_any _ _ _ _ he').mono ?_; rintro e w1 ⟨rfl, he1, hg1⟩))
  go_ret2
  exact ⟨rfl, he1, gb_trans (gb_alloc _ _ _) hg1⟩

set_option maxRecDepth 100000 in
set_option maxHeartbeats 1000000 in
theorem Do_4 (b : Nat) (f m a : Int) (w : World) (he : EnvAt w b f m) :
    Calls Try.prog 49 #[.pointer (some ⟨b, 0, none⟩), .agg #[.int .u8 4, .int .u8 a]] w (DoPost b f m 4 a w) := by
  have he' := he.alloc (.cells #[.int .u8 4, .int .u8 a] 50)
  go_enter Try.func49, Try.ntmps49
  go_wp2_with (first
      | (go_at_call 27; refine (Raise_any _ _ _ _ _ he').mono ?_; rintro e w1 ⟨rfl, he1, hg1⟩)
      | (go_at_call 29; refine (Test_any _ _ _ _ _ he').mono ?_; rintro e w1 ⟨rfl, rfl⟩)
      | (go_at_call 28; refine (Clear_any _ _ _ _ _ he').mono ?_; rintro e w1 ⟨rfl, he1, hg1⟩)
      | (go_at_call 30; refine (Hold_any _ _ _ _ he').mono ?_; rintro e w1 ⟨rfl, he1, hg1⟩)
      | (go_at_call 50; refine (Set_any _ _ _ _ _ he').mono ?_; rintro e w1 ⟨rfl, he1, hg1⟩)
      | (go_at_call 31; refine (Update_any _ _ _ _ _ he').mono ?_; rintro e w1 ⟨rfl, he1, hg1⟩)
      | (go_at_call 51; refine (Forget_any _ _ _ _ he').mono ?_; rintro e w1 ⟨rfl, he1, hg1⟩))
  go_ret2
  exact ⟨rfl, he1, gb_trans (gb_alloc _ _ _) hg1⟩

set_option maxRecDepth 100000 in
set_option maxHeartbeats 1000000 in
theorem Do_5 (b : Nat) (f m a : Int) (w : World) (he : EnvAt w b f m) :
    Calls Try.prog 49 #[.pointer (some ⟨b, 0, none⟩), .agg #[.int .u8 5, .int .u8 a]] w (DoPost b f m 5 a w) := by
  have he' := he.alloc (.cells #[.int .u8 5, .int .u8 a] 50)
  go_enter Try.func49, Try.ntmps49
  go_wp2_with (first
      | (go_at_call 27; refine (Raise_any _ _ _ _ _ he').mono ?_; rintro e w1 ⟨rfl, he1, hg1⟩)
      | (go_at_call 29; refine (Test_any _ _ _ _ _ he').mono ?_; rintro e w1 ⟨rfl, rfl⟩)
      | (go_at_call 28; refine (Clear_any _ _ _ _ _ he').mono ?_; rintro e w1 ⟨rfl, he1, hg1⟩)
      | (go_at_call 30; refine (Hold_any _ _ _ _ he').mono ?_; rintro e w1 ⟨rfl, he1, hg1⟩)
      | (go_at_call 50; refine (Set_any _ _ _ _ _ he').mono ?_; rintro e w1 ⟨rfl, he1, hg1⟩)
      | (go_at_call 31; refine (Update_any _ _ _ _ _ he').mono ?_; rintro e w1 ⟨rfl, he1, hg1⟩)
      | (go_at_call 51; refine (Forget_any _ _ _ _ he').mono ?_; rintro e w1 ⟨rfl, he1, hg1⟩))
  go_ret2
  exact ⟨rfl, he1, gb_trans (gb_alloc _ _ _) hg1⟩

set_option maxRecDepth 100000 in
set_option maxHeartbeats 1000000 in
theorem Do_6 (b : Nat) (f m a : Int) (w : World) (he : EnvAt w b f m) :
    Calls Try.prog 49 #[.pointer (some ⟨b, 0, none⟩), .agg #[.int .u8 6, .int .u8 a]] w (DoPost b f m 6 a w) := by
  have he' := he.alloc (.cells #[.int .u8 6, .int .u8 a] 50)
  go_enter Try.func49, Try.ntmps49
  go_wp2_with (first
      | (go_at_call 27; refine (Raise_any _ _ _ _ _ he').mono ?_; rintro e w1 ⟨rfl, he1, hg1⟩)
      | (go_at_call 29; refine (Test_any _ _ _ _ _ he').mono ?_; rintro e w1 ⟨rfl, rfl⟩)
      | (go_at_call 28; refine (Clear_any _ _ _ _ _ he').mono ?_; rintro e w1 ⟨rfl, he1, hg1⟩)
      | (go_at_call 30; refine (Hold_any _ _ _ _ he').mono ?_; rintro e w1 ⟨rfl, he1, hg1⟩)
      | (go_at_call 50; refine (Set_any _ _ _ _ _ he').mono ?_; rintro e w1 ⟨rfl, he1, hg1⟩)
      | (go_at_call 31; refine (Update_any _ _ _ _ _ he').mono ?_; rintro e w1 ⟨rfl, he1, hg1⟩)
      | (go_at_call 51; refine (Forget_any _ _ _ _ he').mono ?_; rintro e w1 ⟨rfl, he1, hg1⟩))
  go_ret2
  exact ⟨rfl, he1, gb_trans (gb_alloc _ _ _) hg1⟩

set_option maxRecDepth 100000 in
set_option maxHeartbeats 1000000 in
theorem Do_7 (b : Nat) (f m a : Int) (w : World) (he : EnvAt w b f m) :
    Calls Try.prog 49 #[.pointer (some ⟨b, 0, none⟩), .agg #[.int .u8 7, .int .u8 a]] w (DoPost b f m 7 a w) := by
  have he' := he.alloc (.cells #[.int .u8 7, .int .u8 a] 50)
  go_enter Try.func49, Try.ntmps49
  go_wp2_with (first
      | (go_at_call 27; refine (Raise_any _ _ _ _ _ he').mono ?_; rintro e w1 ⟨rfl, he1, hg1⟩)
      | (go_at_call 29; refine (Test_any _ _ _ _ _ he').mono ?_; rintro e w1 ⟨rfl, rfl⟩)
      | (go_at_call 28; refine (Clear_any _ _ _ _ _ he').mono ?_; rintro e w1 ⟨rfl, he1, hg1⟩)
      | (go_at_call 30; refine (Hold_any _ _ _ _ he').mono ?_; rintro e w1 ⟨rfl, he1, hg1⟩)
      | (go_at_call 50; refine (Set_any _ _ _ _ _ he').mono ?_; rintro e w1 ⟨rfl, he1, hg1⟩)
      | (go_at_call 31; refine (Update_any _ _ _ _ _ he').mono ?_; rintro e w1 ⟨rfl, he1, hg1⟩)
      | (go_at_call 51; refine (Forget_any _ _ _ _ he').mono ?_; rintro e w1 ⟨rfl, he1, hg1⟩))
  go_ret2
  exact ⟨rfl, he1, gb_trans (gb_alloc _ _ _) hg1⟩

set_option maxRecDepth 100000 in
set_option maxHeartbeats 1000000 in
theorem Do_8 (b : Nat) (f m a : Int) (w : World) (he : EnvAt w b f m) (k : Int) (h1 : (k == 1) = false) (h2 : (k == 2) = false) (h3 : (k == 3) = false) (h4 : (k == 4) = false) (h5 : (k == 5) = false) (h6 : (k == 6) = false) (h7 : (k == 7) = false) :
    Calls Try.prog 49 #[.pointer (some ⟨b, 0, none⟩), .agg #[.int .u8 k, .int .u8 a]] w (DoPost b f m k a w) := by
  obtain ⟨d1, d2, d3, d4⟩ := @do8 k a f m h1 h2 h3 h4 h5 h6 h7
  have D1 := Lib.hid d1
  have D2 := Lib.hid d2
  have D3 := Lib.hid d3
  have D4 := Lib.hid d4
  clear d1 d2 d3 d4
  have he' := he.alloc (.cells #[.int .u8 k, .int .u8 a] 50)
  go_enter Try.func49, Try.ntmps49
  go_wp2_with (first
      | (go_at_call 27; refine (Raise_any _ _ _ _ _ he').mono ?_; rintro e w1 ⟨rfl, he1, hg1⟩)
      | (go_at_call 29; refine (Test_any _ _ _ _ _ he').mono ?_; rintro e w1 ⟨rfl, rfl⟩)
      | (go_at_call 28; refine (Clear_any _ _ _ _ _ he').mono ?_; rintro e w1 ⟨rfl, he1, hg1⟩)
      | (go_at_call 30; refine (Hold_any _ _ _ _ he').mono ?_; rintro e w1 ⟨rfl, he1, hg1⟩)
      | (go_at_call 50; refine (Set_any _ _ _ _ _ he').mono ?_; rintro e w1 ⟨rfl, he1, hg1⟩)
      | (go_at_call 31; refine (Update_any _ _ _ _ _ he').mono ?_; rintro e w1 ⟨rfl, he1, hg1⟩)
      | (go_at_call 51; refine (Forget_any _ _ _ _ he').mono ?_; rintro e w1 ⟨rfl, he1, hg1⟩))
  go_ret2
  exact ⟨by rw [D1.out, D2.out]; rfl, by rw [D3.out, D4.out]; exact he', gb_alloc _ _ _⟩

theorem Do_any (b : Nat) (f m k a : Int) (w : World) (he : EnvAt w b f m) :
    Calls Try.prog 49 #[.pointer (some ⟨b, 0, none⟩), .agg #[.int .u8 k, .int .u8 a]] w (DoPost b f m k a w) := by
  cases h1 : (k == 1)
  case true => obtain rfl : k = 1 := by simpa using h1
               exact Do_1 b f m a w he
  cases h2 : (k == 2)
  case true => obtain rfl : k = 2 := by simpa using h2
               exact Do_2 b f m a w he
  cases h3 : (k == 3)
  case true => obtain rfl : k = 3 := by simpa using h3
               exact Do_3 b f m a w he
  cases h4 : (k == 4)
  case true => obtain rfl : k = 4 := by simpa using h4
               exact Do_4 b f m a w he
  cases h5 : (k == 5)
  case true => obtain rfl : k = 5 := by simpa using h5
               exact Do_5 b f m a w he
  cases h6 : (k == 6)
  case true => obtain rfl : k = 6 := by simpa using h6
               exact Do_6 b f m a w he
  cases h7 : (k == 7)
  case true => obtain rfl : k = 7 := by simpa using h7
               exact Do_7 b f m a w he
  exact Do_8 b f m a w he k h1 h2 h3 h4 h5 h6 h7

set_option maxRecDepth 100000 in
set_option maxHeartbeats 1000000 in
theorem do_1 (b : Nat) (f m a : Int) (w : World) (he : EnvAt w b f m) :
    Calls Try.prog 34 #[.pointer (some ⟨b, 0, none⟩), .agg #[.int .u8 1, .int .u8 a], .bool true] w (DoPost b f m 1 a w) := by
  have he' := he.alloc (.cells #[.int .u8 1, .int .u8 a] 50)
  go_enter Try.func34, Try.ntmps34
  go_wp2_with (first
      | (go_at_call 27; refine (Raise_any _ _ _ _ _ he').mono ?_; rintro e w1 ⟨rfl, he1, hg1⟩)
      | (go_at_call 29; refine (Test_any _ _ _ _ _ he').mono ?_; rintro e w1 ⟨rfl, rfl⟩)
      | (go_at_call 28; refine (Clear_any _ _ _ _ _ he').mono ?_; rintro e w1 ⟨rfl, he1, hg1⟩)
      | (go_at_call 30; refine (Hold_any _ _ _ _ he').mono ?_; rintro e w1 ⟨rfl, he1, hg1⟩)
      | (go_at_call 50; refine (Set_any _ _ _ _ _ he').mono ?_; rintro e w1 ⟨rfl, he1, hg1⟩)
      | (go_at_call 31; refine (Update_any _ _ _ _ _ he').mono ?_; rintro e w1 ⟨rfl, he1, hg1⟩)
      | (go_at_call 51; refine (Forget_any _ _ _ _ he').mono ?_; rintro e w1 ⟨rfl, he1, hg1⟩)
      | (go_at_call 49; refine (Do_any _ _ _ _ _ _ he').mono ?_; rintro e w1 ⟨rfl, he1, hg1⟩))
  go_ret2
  exact ⟨rfl, he1, gb_trans (gb_alloc _ _ _) hg1⟩

set_option maxRecDepth 100000 in
set_option maxHeartbeats 1000000 in
theorem do_2 (b : Nat) (f m a : Int) (w : World) (he : EnvAt w b f m) :
    Calls Try.prog 34 #[.pointer (some ⟨b, 0, none⟩), .agg #[.int .u8 2, .int .u8 a], .bool true] w (DoPost b f m 2 a w) := by
  have he' := he.alloc (.cells #[.int .u8 2, .int .u8 a] 50)
  go_enter Try.func34, Try.ntmps34
  go_wp2_with (first
      | (go_at_call 27; refine (Raise_any _ _ _ _ _ he').mono ?_; rintro e w1 ⟨rfl, he1, hg1⟩)
      | (go_at_call 29; refine (Test_any _ _ _ _ _ he').mono ?_; rintro e w1 ⟨rfl, rfl⟩)
      | (go_at_call 28; refine (Clear_any _ _ _ _ _ he').mono ?_; rintro e w1 ⟨rfl, he1, hg1⟩)
      | (go_at_call 30; refine (Hold_any _ _ _ _ he').mono ?_; rintro e w1 ⟨rfl, he1, hg1⟩)
      | (go_at_call 50; refine (Set_any _ _ _ _ _ he').mono ?_; rintro e w1 ⟨rfl, he1, hg1⟩)
      | (go_at_call 31; refine (Update_any _ _ _ _ _ he').mono ?_; rintro e w1 ⟨rfl, he1, hg1⟩)
      | (go_at_call 51; refine (Forget_any _ _ _ _ he').mono ?_; rintro e w1 ⟨rfl, he1, hg1⟩)
      | (go_at_call 49; refine (Do_any _ _ _ _ _ _ he').mono ?_; rintro e w1 ⟨rfl, he1, hg1⟩))
  go_ret2
  exact ⟨rfl, he', gb_alloc _ _ _⟩

set_option maxRecDepth 100000 in
set_option maxHeartbeats 1000000 in
theorem do_3 (b : Nat) (f m a : Int) (w : World) (he : EnvAt w b f m) :
    Calls Try.prog 34 #[.pointer (some ⟨b, 0, none⟩), .agg #[.int .u8 3, .int .u8 a], .bool true] w (DoPost b f m 3 a w) := by
  have he' := he.alloc (.cells #[.int .u8 3, .int .u8 a] 50)
  go_enter Try.func34, Try.ntmps34
  go_wp2_with (first
      | (go_at_call 27; refine (Raise_any _ _ _ _ _ he').mono ?_; rintro e w1 ⟨rfl, he1, hg1⟩)
      | (go_at_call 29; refine (Test_any _ _ _ _ _ he').mono ?_; rintro e w1 ⟨rfl, rfl⟩)
      | (go_at_call 28; refine (Clear_any _ _ _ _ _ he').mono ?_; rintro e w1 ⟨rfl, he1, hg1⟩)
      | (go_at_call 30; refine (Hold_any _ _ _ _ he').mono ?_; rintro e w1 ⟨rfl, he1, hg1⟩)
      | (go_at_call 50; refine (Set_any _ _ _ _ _ he').mono ?_; rintro e w1 ⟨rfl, he1, hg1⟩)
      | (go_at_call 31; refine (Update_any _ _ _ _ _ he').mono ?_; rintro e w1 ⟨rfl, he1, hg1⟩)
      | (go_at_call 51; refine (Forget_any _ _ _ _ he').mono ?_; rintro e w1 ⟨rfl, he1, hg1⟩)
      | (go_at_call 49; refine (Do_any _ _ _ _ _ _ he').mono ?_; rintro e w1 ⟨rfl, he1, hg1⟩))
  go_ret2
  exact ⟨rfl, he1, gb_trans (gb_alloc _ _ _) hg1⟩

set_option maxRecDepth 100000 in
set_option maxHeartbeats 1000000 in
theorem do_4 (b : Nat) (f m a : Int) (w : World) (he : EnvAt w b f m) :
    Calls Try.prog 34 #[.pointer (some ⟨b, 0, none⟩), .agg #[.int .u8 4, .int .u8 a], .bool true] w (DoPost b f m 4 a w) := by
  have he' := he.alloc (.cells #[.int .u8 4, .int .u8 a] 50)
  go_enter Try.func34, Try.ntmps34
  go_wp2_with (first
      | (go_at_call 27; refine (Raise_any _ _ _ _ _ he').mono ?_; rintro e w1 ⟨rfl, he1, hg1⟩)
      | (go_at_call 29; refine (Test_any _ _ _ _ _ he').mono ?_; rintro e w1 ⟨rfl, rfl⟩)
      | (go_at_call 28; refine (Clear_any _ _ _ _ _ he').mono ?_; rintro e w1 ⟨rfl, he1, hg1⟩)
      | (go_at_call 30; refine (Hold_any _ _ _ _ he').mono ?_; rintro e w1 ⟨rfl, he1, hg1⟩)
      | (go_at_call 50; refine (Set_any _ _ _ _ _ he').mono ?_; rintro e w1 ⟨rfl, he1, hg1⟩)
      | (go_at_call 31; refine (Update_any _ _ _ _ _ he').mono ?_; rintro e w1 ⟨rfl, he1, hg1⟩)
      | (go_at_call 51; refine (Forget_any _ _ _ _ he').mono ?_; rintro e w1 ⟨rfl, he1, hg1⟩)
      | (go_at_call 49; refine (Do_any _ _ _ _ _ _ he').mono ?_; rintro e w1 ⟨rfl, he1, hg1⟩))
  go_ret2
  exact ⟨rfl, he1, gb_trans (gb_alloc _ _ _) hg1⟩

set_option maxRecDepth 100000 in
set_option maxHeartbeats 1000000 in
theorem do_5 (b : Nat) (f m a : Int) (w : World) (he : EnvAt w b f m) :
    Calls Try.prog 34 #[.pointer (some ⟨b, 0, none⟩), .agg #[.int .u8 5, .int .u8 a], .bool true] w (DoPost b f m 5 a w) := by
  have he' := he.alloc (.cells #[.int .u8 5, .int .u8 a] 50)
  go_enter Try.func34, Try.ntmps34
  go_wp2_with (first
      | (go_at_call 27; refine (Raise_any _ _ _ _ _ he').mono ?_; rintro e w1 ⟨rfl, he1, hg1⟩)
      | (go_at_call 29; refine (Test_any _ _ _ _ _ he').mono ?_; rintro e w1 ⟨rfl, rfl⟩)
      | (go_at_call 28; refine (Clear_any _ _ _ _ _ he').mono ?_; rintro e w1 ⟨rfl, he1, hg1⟩)
      | (go_at_call 30; refine (Hold_any _ _ _ _ he').mono ?_; rintro e w1 ⟨rfl, he1, hg1⟩)
      | (go_at_call 50; refine (Set_any _ _ _ _ _ he').mono ?_; rintro e w1 ⟨rfl, he1, hg1⟩)
      | (go_at_call 31; refine (Update_any _ _ _ _ _ he').mono ?_; rintro e w1 ⟨rfl, he1, hg1⟩)
      | (go_at_call 51; refine (Forget_any _ _ _ _ he').mono ?_; rintro e w1 ⟨rfl, he1, hg1⟩)
      | (go_at_call 49; refine (Do_any _ _ _ _ _ _ he').mono ?_; rintro e w1 ⟨rfl, he1, hg1⟩))
  go_ret2
  exact ⟨rfl, he1, gb_trans (gb_alloc _ _ _) hg1⟩

set_option maxRecDepth 100000 in
set_option maxHeartbeats 1000000 in
theorem do_6 (b : Nat) (f m a : Int) (w : World) (he : EnvAt w b f m) :
    Calls Try.prog 34 #[.pointer (some ⟨b, 0, none⟩), .agg #[.int .u8 6, .int .u8 a], .bool true] w (DoPost b f m 6 a w) := by
  have he' := he.alloc (.cells #[.int .u8 6, .int .u8 a] 50)
  go_enter Try.func34, Try.ntmps34
  go_wp2_with (first
      | (go_at_call 27; refine (Raise_any _ _ _ _ _ he').mono ?_; rintro e w1 ⟨rfl, he1, hg1⟩)
      | (go_at_call 29; refine (Test_any _ _ _ _ _ he').mono ?_; rintro e w1 ⟨rfl, rfl⟩)
      | (go_at_call 28; refine (Clear_any _ _ _ _ _ he').mono ?_; rintro e w1 ⟨rfl, he1, hg1⟩)
      | (go_at_call 30; refine (Hold_any _ _ _ _ he').mono ?_; rintro e w1 ⟨rfl, he1, hg1⟩)
      | (go_at_call 50; refine (Set_any _ _ _ _ _ he').mono ?_; rintro e w1 ⟨rfl, he1, hg1⟩)
      | (go_at_call 31; refine (Update_any _ _ _ _ _ he').mono ?_; rintro e w1 ⟨rfl, he1, hg1⟩)
      | (go_at_call 51; refine (Forget_any _ _ _ _ he').mono ?_; rintro e w1 ⟨rfl, he1, hg1⟩)
      | (go_at_call 49; refine (Do_any _ _ _ _ _ _ he').mono ?_; rintro e w1 ⟨rfl, he1, hg1⟩))
  go_ret2
  exact ⟨rfl, he1, gb_trans (gb_alloc _ _ _) hg1⟩

set_option maxRecDepth 100000 in
set_option maxHeartbeats 1000000 in
theorem do_7 (b : Nat) (f m a : Int) (w : World) (he : EnvAt w b f m) :
    Calls Try.prog 34 #[.pointer (some ⟨b, 0, none⟩), .agg #[.int .u8 7, .int .u8 a], .bool true] w (DoPost b f m 7 a w) := by
  have he' := he.alloc (.cells #[.int .u8 7, .int .u8 a] 50)
  go_enter Try.func34, Try.ntmps34
  go_wp2_with (first
      | (go_at_call 27; refine (Raise_any _ _ _ _ _ he').mono ?_; rintro e w1 ⟨rfl, he1, hg1⟩)
      | (go_at_call 29; refine (Test_any _ _ _ _ _ he').mono ?_; rintro e w1 ⟨rfl, rfl⟩)
      | (go_at_call 28; refine (Clear_any _ _ _ _ _ he').mono ?_; rintro e w1 ⟨rfl, he1, hg1⟩)
      | (go_at_call 30; refine (Hold_any _ _ _ _ he').mono ?_; rintro e w1 ⟨rfl, he1, hg1⟩)
      | (go_at_call 50; refine (Set_any _ _ _ _ _ he').mono ?_; rintro e w1 ⟨rfl, he1, hg1⟩)
      | (go_at_call 31; refine (Update_any _ _ _ _ _ he').mono ?_; rintro e w1 ⟨rfl, he1, hg1⟩)
      | (go_at_call 51; refine (Forget_any _ _ _ _ he').mono ?_; rintro e w1 ⟨rfl, he1, hg1⟩)
      | (go_at_call 49; refine (Do_any _ _ _ _ _ _ he').mono ?_; rintro e w1 ⟨rfl, he1, hg1⟩))
  go_ret2
  exact ⟨rfl, he1, gb_trans (gb_alloc _ _ _) hg1⟩

set_option maxRecDepth 100000 in
set_option maxHeartbeats 1000000 in
theorem do_8 (b : Nat) (f m a : Int) (w : World) (he : EnvAt w b f m) (k : Int) (h1 : (k == 1) = false) (h2 : (k == 2) = false) (h3 : (k == 3) = false) (h4 : (k == 4) = false) (h5 : (k == 5) = false) (h6 : (k == 6) = false) (h7 : (k == 7) = false) :
    Calls Try.prog 34 #[.pointer (some ⟨b, 0, none⟩), .agg #[.int .u8 k, .int .u8 a], .bool true] w (DoPost b f m k a w) := by
  have he' := he.alloc (.cells #[.int .u8 k, .int .u8 a] 50)
  go_enter Try.func34, Try.ntmps34
  go_wp2_with (first
      | (go_at_call 27; refine (Raise_any _ _ _ _ _ he').mono ?_; rintro e w1 ⟨rfl, he1, hg1⟩)
      | (go_at_call 29; refine (Test_any _ _ _ _ _ he').mono ?_; rintro e w1 ⟨rfl, rfl⟩)
      | (go_at_call 28; refine (Clear_any _ _ _ _ _ he').mono ?_; rintro e w1 ⟨rfl, he1, hg1⟩)
      | (go_at_call 30; refine (Hold_any _ _ _ _ he').mono ?_; rintro e w1 ⟨rfl, he1, hg1⟩)
      | (go_at_call 50; refine (Set_any _ _ _ _ _ he').mono ?_; rintro e w1 ⟨rfl, he1, hg1⟩)
      | (go_at_call 31; refine (Update_any _ _ _ _ _ he').mono ?_; rintro e w1 ⟨rfl, he1, hg1⟩)
      | (go_at_call 51; refine (Forget_any _ _ _ _ he').mono ?_; rintro e w1 ⟨rfl, he1, hg1⟩)
      | (go_at_call 49; refine (Do_any _ _ _ _ _ _ he').mono ?_; rintro e w1 ⟨rfl, he1, hg1⟩))
  go_ret2
  exact ⟨rfl, he1, gb_trans (gb_alloc _ _ _) hg1⟩

theorem do_any (b : Nat) (f m k a : Int) (w : World) (he : EnvAt w b f m) :
    Calls Try.prog 34 #[.pointer (some ⟨b, 0, none⟩), .agg #[.int .u8 k, .int .u8 a], .bool true] w (DoPost b f m k a w) := by
  cases h1 : (k == 1)
  case true => obtain rfl : k = 1 := by simpa using h1
               exact do_1 b f m a w he
  cases h2 : (k == 2)
  case true => obtain rfl : k = 2 := by simpa using h2
               exact do_2 b f m a w he
  cases h3 : (k == 3)
  case true => obtain rfl : k = 3 := by simpa using h3
               exact do_3 b f m a w he
  cases h4 : (k == 4)
  case true => obtain rfl : k = 4 := by simpa using h4
               exact do_4 b f m a w he
  cases h5 : (k == 5)
  case true => obtain rfl : k = 5 := by simpa using h5
               exact do_5 b f m a w he
  cases h6 : (k == 6)
  case true => obtain rfl : k = 6 := by simpa using h6
               exact do_6 b f m a w he
  cases h7 : (k == 7)
  case true => obtain rfl : k = 7 := by simpa using h7
               exact do_7 b f m a w he
  exact do_8 b f m a w he k h1 h2 h3 h4 h5 h6 h7

set_option maxRecDepth 100000 in
set_option maxHeartbeats 1000000 in
theorem do_not (b : Nat) (f m k a : Int) (w : World) (he : EnvAt w b f m) :
    Calls Try.prog 34 #[.pointer (some ⟨b, 0, none⟩), .agg #[.int .u8 k, .int .u8 a], .bool false] w (DoPost b f m k a w) := by
  have he' := he.alloc (.cells #[.int .u8 k, .int .u8 a] 50)
  go_enter Try.func34, Try.ntmps34
  go_wp2_with (go_at_call 49; refine (Do_any _ _ _ _ _ _ he').mono ?_; rintro e w1 ⟨rfl, he1, hg1⟩)
  go_ret2
  exact ⟨rfl, he1, gb_trans (gb_alloc _ _ _) hg1⟩

end Go.Proofs.Ytihdnjgjjhhpgaa
