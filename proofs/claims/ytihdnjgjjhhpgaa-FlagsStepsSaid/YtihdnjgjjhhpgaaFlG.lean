/- The law's own same and begins. -/
import Derived.Test.YtihdnjgjjhhpgaaFlF
namespace Go.Proofs.Ytihdnjgjjhhpgaa
open Go.RowKit

def SamePost (w : World) (e : Ending) (w' : World) : Prop := e = .returned (.bool true) ∧ Below w.heap.size w w'
set_option maxHeartbeats 1000000 in
theorem same_true (b : Nat) (f m : Int) (w : World) (he : EnvAt w b f m) (hf : (andF f 31 == f) = true) :
    Calls Try.prog 35 #[.pointer (some ⟨b, 0, none⟩), .agg #[.int .u8 f, .int .u8 m]] w (SamePost w) := by
  have he' := he.alloc (.cells #[.int .u8 f, .int .u8 m] 45)
  have h31 : rightB 31 = true := by decide
  have t1 := okSel_t h31 (andF f 31) 0
  have t2 := okSel_t h31 0 20
  have T1 := Lib.hid t1
  have T2 := Lib.hid t2
  clear t1 t2
  go_enter Try.func35, Try.ntmps35
  go_wp2_with (go_at_call 29; refine (Test_any _ _ _ _ _ he').mono ?_; rintro e w1 ⟨rfl, rfl⟩; rw [T1.out, T2.out])
  go_quiet ((go_at_call 42; exact Calls.quiet_of_same ((EnvMath_any _ _ _ _ (he'.drewN _)).mono fun _ _ ⟨h, h2⟩ => ⟨h, h2.symm⟩)))
  go_wp2
  go_ret
  exact ⟨rfl, ((Below.refl _ _).alloc (Nat.le_refl _) _).trans (below_drewN _ _ _)⟩

def invInex : ByteArray := ⟨#[105, 110, 118, 97, 108, 105, 100, 32, 105, 110, 101, 120, 97, 99, 116]⟩
theorem b1 : okSel 20 0 20 = 0 ∧ okSel 20 (orF 0 20) 0 = 20 ∧ okSel 20 (raiseM 20 0) 0 = 2 := by decide
theorem b2 : okSel 16 0 20 = 0 ∧ okSel 16 (orF 20 16) 20 = 20 ∧ okSel 16 (raiseM 16 2) 2 = 2 := by decide
theorem b3 : okSel 31 (andF 20 31) 0 = 20 ∧ okSel 31 0 20 = 0 := by decide
theorem b4 : parseF invInex = (17, 0) := by decide +kernel
theorem b5 : showF 17 = ⟨#[105, 110, 118, 97, 108, 105, 100, 32, 105, 110, 101, 120, 97, 99, 116]⟩ := by decide +kernel
theorem b6 : hasB 17 16 = true := by decide

set_option maxRecDepth 100000 in
set_option maxHeartbeats 2000000 in
theorem begins_any (w : World) :
    Calls Try.prog 18 #[] w (SamePost w) := by
  go_enter Try.func18, Try.ntmps18
  go_wp2_with (go_at_call 26; refine (New_any _).mono ?_; rintro e w1 ⟨rfl, he1, hb1⟩)
  refine (Raise_any _ _ _ _ _ he1).mono ?_
  rintro e w2 ⟨rfl, he2, hg2⟩
  rw [b1.1]
  rw [b1.2.1, b1.2.2] at he2
  have hb2 := hb1.trans (below_of_gb hg2 (Nat.le_refl _) hb1.size)
  clear hg2 he1 hb1
  go_wp2_with fail
  refine (Raise_any _ _ _ _ _ he2).mono ?_
  rintro e w3 ⟨rfl, he3, hg3⟩
  rw [b2.1]
  rw [b2.2.1, b2.2.2] at he3
  have hb3 := hb2.trans (below_of_gb hg3 (Nat.le_refl _) hb2.size)
  clear hg3 he2 hb2
  go_wp2_with fail
  refine (Test_any _ _ _ _ _ he3).mono ?_
  rintro e w4 ⟨rfl, rfl⟩
  rw [b3.1, b3.2]
  go_wp2_with fail
  refine (Parse_any invInex _).mono ?_
  rintro e w5 ⟨rfl, hb5⟩
  rw [b4]
  have he5 := he3.below hb5 he3.lt
  have hb6 := hb3.trans (hb5.mono hb3.size)
  clear he3 hb3 hb5
  go_wp2_with fail
  refine (EnvMath_any _ _ _ _ he5).mono ?_
  rintro e w6 ⟨rfl, rfl⟩
  go_wp2_with fail
  refine (Show_any _ _).mono ?_
  rintro e w7 ⟨rfl, hb7⟩
  rw [b5]
  have hb8 := hb6.trans (hb7.mono hb6.size)
  clear hb6 hb7 he5
  have h17 := b6
  go_wp2_with (go_at_call 12; refine (Has_any _ _ _).mono ?_; rintro e w8 ⟨rfl, rfl⟩)
  go_ret
  exact ⟨rfl, hb8⟩
end Go.Proofs.Ytihdnjgjjhhpgaa
