/- The walks of the laws on sets. -/
import Derived.Test.YtihdnjgjjhhpgaaFlH
namespace Go.Proofs.Ytihdnjgjjhhpgaa
open Go.RowKit

set_option maxRecDepth 100000 in
set_option maxHeartbeats 2000000 in
theorem Sets_law (a b : Int) (w : World) (a0 : 0 ≤ a) (a1 : a < 256) :
    Calls Try.prog 3 #[.int .u8 a, .int .u8 b] w (SamePost w) := by
  have k1 : (rightB a == decide (a ≤ 31)) = true := by rw [rightB_u8 a a0 a1]; simp
  have k2 : (hasB a b == (bits .and .u8 a b == b)) = true := by simp [hasB]
  have k3 : (orF a b == bits .or .u8 a b) = true := by simp [orF]
  have k4 : (andF a b == bits .and .u8 a b) = true := by simp [andF]
  have k5 : (takeF a b == bits .andNot .u8 a b) = true := by simp [takeF]
  have k6 : (mathF a == refMathF a) = true := by rw [refMath_u8 a a0 a1]; simp
  clear a0 a1
  go_enter Try.func3, Try.ntmps3
  go_wp2_with (first
    | (go_at_call 10; refine (Right_any _ _).mono ?_; rintro e w1 ⟨rfl, rfl⟩)
    | (go_at_call 11; refine (refRight_any _ _).mono ?_; rintro e w1 ⟨rfl, rfl⟩)
    | (go_at_call 12; refine (Has_any _ _ _).mono ?_; rintro e w1 ⟨rfl, rfl⟩)
    | (go_at_call 13; refine (Join_any _ _ _).mono ?_; rintro e w1 ⟨rfl, rfl⟩)
    | (go_at_call 14; refine (Meet_any _ _ _).mono ?_; rintro e w1 ⟨rfl, rfl⟩)
    | (go_at_call 15; refine (Take_any _ _ _).mono ?_; rintro e w1 ⟨rfl, rfl⟩)
    | (go_at_call 16; refine (Math_any _ _).mono ?_; rintro e w1 ⟨rfl, rfl⟩)
    | (go_at_call 17; refine (refMath_any _ _).mono ?_; rintro e w1 ⟨rfl, rfl⟩)
    | (go_at_call 18; refine (begins_any _).mono ?_; rintro e w1 ⟨rfl, hb1⟩))
  go_ret
  exact ⟨rfl, hb1⟩

set_option maxRecDepth 100000 in
set_option maxHeartbeats 4000000 in
theorem Rules_law (a b c : Int) (w : World) (a0 : 0 ≤ a) (a1 : a < 256) (b0 : 0 ≤ b) (b1 : b < 256) (c0 : 0 ≤ c) (c1 : c < 256) :
    Calls Try.prog 4 #[.int .u8 a, .int .u8 b, .int .u8 c] w (SamePost w) := by
  have k1 : (orF a b != orF b a) = false := by rw [or_comm8 a b a0 a1 b0 b1]; simp
  have k2 : (andF a b != andF b a) = false := by rw [and_comm8 a b a0 a1 b0 b1]; simp
  have k3 : (orF a (orF b c) != orF (orF a b) c) = false := by rw [or_assoc8 a b c a0 a1 b0 b1 c0 c1]; simp
  have k4 : (andF a (andF b c) != andF (andF a b) c) = false := by rw [and_assoc8 a b c a0 a1 b0 b1 c0 c1]; simp
  have k5 : (andF a (orF b c) != orF (andF a b) (andF a c)) = false := by rw [and_or8 a b c a0 a1 b0 b1 c0 c1]; simp
  have k6 : (orF a (andF b c) != andF (orF a b) (orF a c)) = false := by rw [or_and8 a b c a0 a1 b0 b1 c0 c1]; simp
  have k7 : (orF (takeF a b) (andF a b) == a) = true := by rw [take_meet a b a0 a1 b0 b1]; simp
  have k8 : (andF (takeF a b) b == 0) = true := by rw [take_none a b a0 a1 b0 b1]; simp
  have k9 : (hasB a b == (orF a b == a)) = true := by rw [has_join a b a0 a1 b0 b1]; simp
  clear a0 a1 b0 b1 c0 c1
  go_enter Try.func4, Try.ntmps4
  go_wp2_with (first
    | (go_at_call 18; refine (begins_any _).mono ?_; rintro e w1 ⟨rfl, hb1⟩)
    | (go_at_call 12; refine (Has_any _ _ _).mono ?_; rintro e w1 ⟨rfl, rfl⟩)
    | (go_at_call 13; refine (Join_any _ _ _).mono ?_; rintro e w1 ⟨rfl, rfl⟩)
    | (go_at_call 14; refine (Meet_any _ _ _).mono ?_; rintro e w1 ⟨rfl, rfl⟩)
    | (go_at_call 15; refine (Take_any _ _ _).mono ?_; rintro e w1 ⟨rfl, rfl⟩))
  go_ret
  exact ⟨rfl, hb1⟩

theorem Sets_walk (a b : Int) (w : World) (ha : 0 ≤ a ∧ a ≤ 255) (_ : 0 ≤ b ∧ b ≤ 255) : Calls Try.prog 3 #[.int .u8 a, .int .u8 b] w (SamePost w) :=
  Sets_law a b w ha.1 (by omega)
theorem Rules_walk (a b c : Int) (w : World) (ha : 0 ≤ a ∧ a ≤ 255) (hb : 0 ≤ b ∧ b ≤ 255) (hc : 0 ≤ c ∧ c ≤ 255) : Calls Try.prog 4 #[.int .u8 a, .int .u8 b, .int .u8 c] w (SamePost w) :=
  Rules_law a b c w ha.1 (by omega) hb.1 (by omega) hc.1 (by omega)
end Go.Proofs.Ytihdnjgjjhhpgaa
