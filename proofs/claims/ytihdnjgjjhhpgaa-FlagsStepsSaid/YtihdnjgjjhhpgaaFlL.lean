/- The walks of the laws FlagsHeld and FlagsSticky. -/
import Derived.Test.YtihdnjgjjhhpgaaFlJ
namespace Go.Proofs.Ytihdnjgjjhhpgaa
open Go.RowKit

theorem and31 (a : Int) (h0 : 0 ≤ a) (h1 : a < 256) : rightB (andF a 31) = true ∧ andF (andF a 31) 31 = andF a 31 ∧ orF 0 (andF a 31) = andF a 31 :=
  u8_all (p := fun a => rightB (andF a 31) = true ∧ andF (andF a 31) 31 = andF a 31 ∧ orF 0 (andF a 31) = andF a 31) (by decide +kernel) a h0 h1
theorem u8_lit31 : (31 : Int) = (((31#8 : BitVec 8).toNat : Nat) : Int) := rfl
theorem or31 (a b : Int) (a0 : 0 ≤ a) (a1 : a < 256) (b0 : 0 ≤ b) (b1 : b < 256) : andF (orF (andF b 31) (andF a 31)) 31 = orF (andF a 31) (andF b 31) := by
  obtain ⟨x, rfl⟩ := u8v a a0 a1; obtain ⟨y, rfl⟩ := u8v b b0 b1
  rw [u8_lit31]
  simp only [andF_bv, orF_bv, cast_inj]
  generalize (31#8 : BitVec 8) = z
  ext i hi; simp only [BitVec.getElem_or, BitVec.getElem_and]; cases x[i] <;> cases y[i] <;> cases z[i] <;> rfl

set_option maxRecDepth 100000 in
set_option maxHeartbeats 2000000 in
theorem Held_law (a b : Int) (w : World) (a0 : 0 ≤ a) (a1 : a < 256) (b0 : 0 ≤ b) (b1 : b < 256) :
    Calls Try.prog 8 #[.int .u8 a, .int .u8 b] w (SamePost w) := by
  obtain ⟨ra, aa, oa⟩ := and31 a a0 a1
  obtain ⟨rb, ab, ob⟩ := and31 b b0 b1
  have hor := or31 a b a0 a1 b0 b1
  have r31 : rightB 31 = true := by decide
  have A1 : Hid (rightB (bits .and .u8 a 31) = true ∧ andF (bits .and .u8 a 31) 31 = (bits .and .u8 a 31) ∧ orF 0 (bits .and .u8 a 31) = (bits .and .u8 a 31)) := And.intro ra (And.intro aa oa)
  have B1 : Hid (rightB (bits .and .u8 b 31) = true ∧ andF (bits .and .u8 b 31) 31 = (bits .and .u8 b 31) ∧ orF 0 (bits .and .u8 b 31) = (bits .and .u8 b 31)) := And.intro rb (And.intro ab ob)
  have HOR : Hid (andF (orF (bits .and .u8 b 31) (bits .and .u8 a 31)) 31 = bits .or .u8 (bits .and .u8 a 31) (bits .and .u8 b 31)) := hor
  have R31 := Lib.hid r31
  clear ra aa oa rb ab ob hor r31 a0 a1 b0 b1
  go_enter Try.func8, Try.ntmps8
  go_wp2_with fail
  refine (New_any _).mono ?_
  rintro e w1 ⟨rfl, he1, hb1⟩
  go_wp2_with fail
  refine (begins_any _).mono ?_
  rintro e w2 ⟨rfl, hb2⟩
  have he2 := he1.below hb2 he1.lt
  have hb3 := hb1.trans (hb2.mono hb1.size)
  clear he1 hb1 hb2
  go_wp2_with fail
  generalize bits BinOp.and IntKind.u8 a 31 = x at *
  generalize bits BinOp.and IntKind.u8 b 31 = y at *
  refine (Raise_any _ _ _ _ _ he2).mono ?_
  rintro e w3 ⟨rfl, he3, hg3⟩
  rw [okSel_t A1.out.1]
  rw [okSel_t A1.out.1, okSel_t A1.out.1, A1.out.2.2] at he3
  generalize raiseM x 0 = m3 at *
  have hb4 := hb3.trans (below_of_gb hg3 (Nat.le_refl _) hb3.size)
  clear hb3 hg3 he2
  go_wp2_with fail
  refine (Hold_any _ _ _ _ he3).mono ?_
  rintro e w4 ⟨rfl, he4, hg4⟩
  have hb5 := hb4.trans (below_of_gb hg4 (Nat.le_refl _) hb4.size)
  clear hb4 hg4 he3
  go_wp2_with fail
  refine (Test_any _ _ _ _ _ he4).mono ?_
  rintro e w5 ⟨rfl, rfl⟩
  rw [okSel_t R31.out, okSel_t R31.out, show andF 0 31 = 0 from rfl]
  go_wp2_with fail
  refine (Raise_any _ _ _ _ _ he4).mono ?_
  rintro e w6 ⟨rfl, he6, hg6⟩
  rw [okSel_t B1.out.1]
  rw [okSel_t B1.out.1, okSel_t B1.out.1, B1.out.2.2] at he6
  generalize raiseM y m3 = m6 at *
  have hb7 := hb5.trans (below_of_gb hg6 (Nat.le_refl _) hb5.size)
  clear hb5 hg6 he4
  go_wp2_with fail
  refine (Update_any _ _ _ _ _ he6).mono ?_
  rintro e w7 ⟨rfl, he7, hg7⟩
  rw [okSel_t A1.out.1]
  rw [okSel_t A1.out.1] at he7
  have hb8 := hb7.trans (below_of_gb hg7 (Nat.le_refl _) hb7.size)
  clear hb7 hg7 he6
  go_wp2_with fail
  refine (Test_any _ _ _ _ _ he7).mono ?_
  rintro e w8 ⟨rfl, rfl⟩
  rw [okSel_t R31.out, okSel_t R31.out, HOR.out]
  go_wp2
  go_ret
  exact ⟨rfl, hb8⟩

theorem Held_walk (a b : Int) (w : World) (ha : 0 ≤ a ∧ a ≤ 255) (hb : 0 ≤ b ∧ b ≤ 255) : Calls Try.prog 8 #[.int .u8 a, .int .u8 b] w (SamePost w) :=
  Held_law a b w ha.1 (by omega) hb.1 (by omega)

end Go.Proofs.Ytihdnjgjjhhpgaa
