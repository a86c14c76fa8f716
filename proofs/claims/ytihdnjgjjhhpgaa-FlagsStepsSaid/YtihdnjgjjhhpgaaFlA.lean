/- Contracts of package flags' functions on sets, and of the reference's. -/
import Derived.Test.YtihdnjgjjhhpgaaAid
namespace Go.Proofs.Ytihdnjgjjhhpgaa
open Go.RowKit

def rightB (a : Int) : Bool := bits .andNot .u8 a 31 == 0
def hasB (a b : Int) : Bool := bits .and .u8 a b == b
def orF (a b : Int) : Int := bits .or .u8 a b
def andF (a b : Int) : Int := bits .and .u8 a b
def takeF (a b : Int) : Int := bits .andNot .u8 a b
def mathF (a : Int) : Int := if hasB a 1 = true then 1 else if (andF a 14 != 0) = true then 2 else 0

set_option maxHeartbeats 400000 in
theorem Right_any (a : Int) (w : World) :
    Calls Try.prog 10 #[.int .u8 a] w fun e w' => e = .returned (.bool (rightB a)) ∧ w = w' := by
  go_enter Try.func10, Try.ntmps10
  go_wp2
  go_ret
  exact ⟨rfl, rfl⟩

set_option maxHeartbeats 400000 in
theorem Has_any (a b : Int) (w : World) :
    Calls Try.prog 12 #[.int .u8 a, .int .u8 b] w fun e w' => e = .returned (.bool (hasB a b)) ∧ w = w' := by
  go_enter Try.func12, Try.ntmps12
  go_wp2
  go_ret
  exact ⟨rfl, rfl⟩

set_option maxHeartbeats 400000 in
theorem Join_any (a b : Int) (w : World) :
    Calls Try.prog 13 #[.int .u8 a, .int .u8 b] w fun e w' => e = .returned (.int .u8 (orF a b)) ∧ w = w' := by
  go_enter Try.func13, Try.ntmps13
  go_wp2
  go_ret
  exact ⟨rfl, rfl⟩

set_option maxHeartbeats 400000 in
theorem Meet_any (a b : Int) (w : World) :
    Calls Try.prog 14 #[.int .u8 a, .int .u8 b] w fun e w' => e = .returned (.int .u8 (andF a b)) ∧ w = w' := by
  go_enter Try.func14, Try.ntmps14
  go_wp2
  go_ret
  exact ⟨rfl, rfl⟩

set_option maxHeartbeats 400000 in
theorem Take_any (a b : Int) (w : World) :
    Calls Try.prog 15 #[.int .u8 a, .int .u8 b] w fun e w' => e = .returned (.int .u8 (takeF a b)) ∧ w = w' := by
  go_enter Try.func15, Try.ntmps15
  go_wp2
  go_ret
  exact ⟨rfl, rfl⟩

set_option maxHeartbeats 400000 in
theorem Math_any (a : Int) (w : World) :
    Calls Try.prog 16 #[.int .u8 a] w fun e w' => e = .returned (.int .u8 (mathF a)) ∧ w = w' := by
  by_cases h1 : hasB a 1 = true
  · go_enter Try.func16, Try.ntmps16
    go_wp2_with (go_at_call 12; refine (Has_any _ _ _).mono ?_; rintro e w' ⟨rfl, rfl⟩)
    go_ret
    exact ⟨by simp [mathF, h1], rfl⟩
  · by_cases h2 : (andF a 14 != 0) = true
    · go_enter Try.func16, Try.ntmps16
      go_wp2_with (first | (go_at_call 12; refine (Has_any _ _ _).mono ?_; rintro e w' ⟨rfl, rfl⟩) | (go_at_call 14; refine (Meet_any _ _ _).mono ?_; rintro e w' ⟨rfl, rfl⟩))
      go_ret
      exact ⟨by simp [mathF, h1, h2], rfl⟩
    · go_enter Try.func16, Try.ntmps16
      go_wp2_with (first | (go_at_call 12; refine (Has_any _ _ _).mono ?_; rintro e w' ⟨rfl, rfl⟩) | (go_at_call 14; refine (Meet_any _ _ _).mono ?_; rintro e w' ⟨rfl, rfl⟩))
      go_ret
      exact ⟨by simp [mathF, h1, h2], rfl⟩

set_option maxHeartbeats 400000 in
theorem refRight_any (a : Int) (w : World) :
    Calls Try.prog 11 #[.int .u8 a] w fun e w' => e = .returned (.bool (decide (a ≤ 31))) ∧ w = w' := by
  go_enter Try.func11, Try.ntmps11
  go_wp2
  go_ret
  exact ⟨rfl, rfl⟩

def refMathF (a : Int) : Int := if (andF a 1 != 0) = true then 1 else if (andF a 14 != 0) = true then 2 else 0
set_option maxHeartbeats 400000 in
theorem refMath_any (a : Int) (w : World) :
    Calls Try.prog 17 #[.int .u8 a] w fun e w' => e = .returned (.int .u8 (refMathF a)) ∧ w = w' := by
  go_enter Try.func17, Try.ntmps17
  go_wp2
  all_goals go_ret
  all_goals (refine ⟨?_, rfl⟩; simp_all [refMathF, andF])
end Go.Proofs.Ytihdnjgjjhhpgaa
