/- Contracts of functions and plain lemmas that the laws of this seat lean on. -/
import Derived.Test.YtgdkokgeldnliaaGreatDoorKEfaa
import Derived.Test.YtgdkokgeldnliaaGreatDoorKEfab
import Derived.Test.YtgdkokgeldnliaaGreatDoorKEfac
import Derived.Test.YtgdkokgeldnliaaGreatDoorKEfad
import Derived.Test.YtgdkokgeldnliaaGreatDoorKEfae
import Derived.Test.YtgdkokgeldnliaaGreatDoorKEfaf
import Derived.Test.YtgdkokgeldnliaaGreatDoorKEfag
import Derived.Test.YtgdkokgeldnliaaGreatDoorRows
import Derived.WalkKit
import Derived.WalkSpells
import Derived.WalkLawsBesides
import Derived.Lib.Hide
import Derived.Deep.QuietTactic
import Derived.BigQuiet
import Derived.StillTail
import Derived.Below
import Derived.Deep.MidRow
import Derived.Laws.Tables
import Derived.Laws.CopyRow
import Derived.IntWalk
import Derived.Test.YtgdkokgeldnliaaGreatDoorShelf
import Derived.Lib.BitFns
import Derived.Lib.ItoaNum
import Derived.Lib.TrailingZeros
import Derived.Deep.DeepCutAuto
import Derived.Deep.CutBlock
import Derived.Laws.AppendOwn
import Derived.Laws.AppendOwnNone
import Derived.Laws.CopyOwn
namespace Go.Proofs.YtgdkokgeldnliaaGreatDoor
set_option linter.unusedSimpArgs false
set_option linter.unusedVariables false
set_option linter.unusedSectionVars false
set_option linter.constructorNameAsVariable false
set_option linter.unnecessarySimpa false
section
set_option maxRecDepth 10000
set_option maxHeartbeats 1000000
open Go.RowKit
theorem aWS {w : Nat} (h1 : 16 <= w) (h2 : w <= 1000000) : (aAA 4801 2 w).a + (aAA 4801 2 w).e <= (aAA 26 18 w).a := by
 obtain ⟨K1, a1, a2, a3⟩ := aB3 (n := 26) (times := 18) (w := w) (by decide) (by decide) h2
 obtain ⟨K2, b1, b2, b3⟩ := aB3 (n := 4801) (times := 2) (w := w) (by decide) (by decide) h2
 have h3 := b1.1
 have h4 := aUP (n := 4801) (by decide) K2
 have h5 := Rat.mul_le_mul_of_nonneg_right (Rat.mul_le_mul_of_nonneg_left h4 (show (0 : Rat) <= ((2 : Nat) : Rat) by decide)) (Rat.le_of_lt (aCS w))
 have h6 := Rat.le_trans h3 h5
 have h7 : (((aAA 4801 2 w).a * 2000 : Nat) : Rat) <= ((2 ^ w : Nat) : Rat) := by
   rw [Rat.natCast_mul]
   have e1 : ((2000 : Nat) : Rat) = 2000 := rfl
   have e2 : ((2 : Nat) : Rat) * (9 / 8 * (1 / ((4801 : Nat) : Rat))) <= 1 / 2000 := by decide +kernel
   have := Rat.mul_le_mul_of_nonneg_right e2 (Rat.le_of_lt (aCS w))
   rw [e1]; grind
 have h8 := Rat.natCast_le_natCast.1 h7
 have h9 := aIW w h1
 omega
theorem aR6 (w : Nat) (hw : 16 <= w /\ w <= 1000000) : AC Tryz.prog TabW 184 [.lit (.int .i64 ((w : Nat) : Int))] (fxV (ln2F w)) /\ (bl (ln2F w).a <= 2 * w + 70 /\ (ln2F w).e < 18446744073709551616) := by
 have i1 := (aDN 26 18 w (by decide) (by decide) hw.2)
 have i2 := (aDN 4801 2 w (by decide) (by decide) hw.2)
 have i3 := (aDN 8749 8 w (by decide) (by decide) hw.2)
 have s1 := aVO (aAA 26 18 w) (aAA 4801 2 w) (by omega) (aWS hw.1 hw.2)
 have s2 := aDJ (subF (aAA 26 18 w) (aAA 4801 2 w)) (aAA 8749 8 w) (by omega)
 have hr : ln2F w = addF (subF (aAA 26 18 w) (aAA 4801 2 w)) (aAA 8749 8 w) := rfl
 rw [hr]
 refine ⟨?_, by omega⟩
 refine aAd Tryz.func184 rfl (by kernel_rfl) aAc Tryz.mixed rfl rfl (by kernel_rfl) ?_
 simp only [aAl, Tryz.ntmps184, dyV, ivV, fxV]
 refine aAa fun K1 g1 => ?_
 refine aAb fun os => ?_
 try simp (disch := omega) only [xq, simprocAttr, dyV, ivV, fxV]
 refine g1 _ ?_
 refine aAa fun K2 g2 => ?_
 refine aAb fun os => ?_
 try simp (disch := omega) only [xq, simprocAttr, dyV, ivV, fxV]
 refine cxo (i1.1) ?_
 try simp (disch := omega) only [xq, simprocAttr, dyV, ivV, fxV]
 refine cxo (i2.1) ?_
 try simp (disch := omega) only [xq, simprocAttr, dyV, ivV, fxV]
 refine cxo (s1.1) ?_
 try simp (disch := omega) only [xq, simprocAttr, dyV, ivV, fxV]
 refine cxo (i3.1) ?_
 try simp (disch := omega) only [xq, simprocAttr, dyV, ivV, fxV]
 refine cxo (s2.1) ?_
 try simp (disch := omega) only [xq, simprocAttr, dyV, ivV, fxV]
 refine g2 _ ?_
 refine aAe ?_
 simp only [endX, resX, resV, Tryz.results184]
 try simp (disch := omega) only [xq, simprocAttr, dyV, ivV, fxV]
 first | done | rfl
theorem aOK (w : Nat) (hw : 16 <= w /\ w <= 1000000) : AC Tryz.prog TabW 185 [.lit (.int .i64 ((w : Nat) : Int))] (fxV (aDV w)) /\ (bl (aDV w).a <= 2 * w + 70 /\ (aDV w).e < 18446744073709551616) := by
 have i1 := (aDN 31 46 w (by decide) (by decide) hw.2)
 have i2 := (aDN 49 34 w (by decide) (by decide) hw.2)
 have i3 := (aDN 161 20 w (by decide) (by decide) hw.2)
 have s1 := aDJ (aAA 31 46 w) (aAA 49 34 w) (by omega)
 have s2 := aDJ (addF (aAA 31 46 w) (aAA 49 34 w)) (aAA 161 20 w) (by omega)
 have hr : aDV w = addF (addF (aAA 31 46 w) (aAA 49 34 w)) (aAA 161 20 w) := rfl
 rw [hr]
 refine ⟨?_, by omega⟩
 refine aAd Tryz.func185 rfl (by kernel_rfl) aAc Tryz.mixed rfl rfl (by kernel_rfl) ?_
 simp only [aAl, Tryz.ntmps185, dyV, ivV, fxV]
 refine aAa fun K1 g1 => ?_
 refine aAb fun os => ?_
 try simp (disch := omega) only [xq, simprocAttr, dyV, ivV, fxV]
 refine g1 _ ?_
 refine aAa fun K2 g2 => ?_
 refine aAb fun os => ?_
 try simp (disch := omega) only [xq, simprocAttr, dyV, ivV, fxV]
 refine cxo (i1.1) ?_
 try simp (disch := omega) only [xq, simprocAttr, dyV, ivV, fxV]
 refine cxo (i2.1) ?_
 try simp (disch := omega) only [xq, simprocAttr, dyV, ivV, fxV]
 refine cxo (s1.1) ?_
 try simp (disch := omega) only [xq, simprocAttr, dyV, ivV, fxV]
 refine cxo (i3.1) ?_
 try simp (disch := omega) only [xq, simprocAttr, dyV, ivV, fxV]
 refine cxo (s2.1) ?_
 try simp (disch := omega) only [xq, simprocAttr, dyV, ivV, fxV]
 refine g2 _ ?_
 refine aAe ?_
 simp only [endX, resX, resV, Tryz.results185]
 try simp (disch := omega) only [xq, simprocAttr, dyV, ivV, fxV]
 first | done | rfl
theorem aR7 (p : Nat) (hw : p <= 900000) : AC Tryz.prog TabW 131 [.lit (.int .u8 2), .lit (.int .i64 ((p : Nat) : Int))] (ivV (aBt (ln2F (p + 64)) (p + 64))) /\ (ib (aBt (ln2F (p + 64)) (p + 64)) <= 2 * p + 300 /\ ie (aBt (ln2F (p + 64)) (p + 64)) <= 3 * p + 400) := by
 have h1 := aR6 (p + 64) (by omega)
 have h2 := aLe (ln2F (p + 64)) (p + 64) (by omega)
 refine ⟨?_, by omega⟩
 have hc : ((p : Nat) : Int) + 64 = ((p + 64 : Nat) : Int) := by omega
 refine aAd Tryz.func131 rfl (by kernel_rfl) aAc Tryz.mixed rfl rfl (by kernel_rfl) ?_
 simp only [aAl, Tryz.ntmps131, dyV, ivV, fxV]
 repeat' first
  | refine aAa fun K g => ?_
  | refine goK (by assumption) ?_
  | ((first | refine aAk ?_ | refine aAe ?_) <;> try simp only [aAm, aAg, reduceIte, Nat.reduceEqDiff])
  | ((first
  | refine aAU rfl fun os => ?_
  | refine aCR rfl (by kernel_rfl) fun os => ?_
  | (refine cxin Tryz.func162 rfl (by kernel_rfl) aAc Tryz.mixed (by kernel_rfl) ?_; simp only [aAl, Tryz.ntmps162, dyV, ivV, fxV])
  | refine cxo (h1.1) ?_
  | refine cxo (h2.1) ?_
  | refine cxdz (aBX _ (by omega)) (fun z => ?_)
  | refine cxdz (aBS _ (by omega)) (fun z => ?_)
  | refine cxdz (aKL _ _ _ (by omega) (by omega) (by omega)) (fun z => ?_)
  | (refine aCU (by simp only [resX, resV, Tryz.results162]; simp (disch := omega) only [xq, simprocAttr, dyV, ivV, fxV, hc]; rfl) ?_; simp only [opsY])
  | (refine aIo (by simp only [resX, resV, Tryz.results162]; simp (disch := omega) only [xq, simprocAttr, dyV, ivV, fxV, hc]; rfl) ?_; simp only [opsY])
  | simp only [endX, resX, resV, Tryz.results131]) <;> try (simp (disch := omega) only [xq, simprocAttr, dyV, ivV, fxV, hc]))
  | (refine aAf (by first | rfl | assumption) (fun c => ?_) (fun c => ?_) <;> first | exact absurd c (by decide) | ((try rw [c]); try simp only [xn] at c))
  | (first | done | rfl
     done)
theorem aPG (p : Nat) (hw : p <= 900000) : AC Tryz.prog TabW 131 [.lit (.int .u8 3), .lit (.int .i64 ((p : Nat) : Int))] (ivV (aBt (aDV (p + 64)) (p + 64))) /\ (ib (aBt (aDV (p + 64)) (p + 64)) <= 2 * p + 300 /\ ie (aBt (aDV (p + 64)) (p + 64)) <= 3 * p + 400) := by
 have h1 := aOK (p + 64) (by omega)
 have h2 := aLe (aDV (p + 64)) (p + 64) (by omega)
 refine ⟨?_, by omega⟩
 have hc : ((p : Nat) : Int) + 64 = ((p + 64 : Nat) : Int) := by omega
 refine aAd Tryz.func131 rfl (by kernel_rfl) aAc Tryz.mixed rfl rfl (by kernel_rfl) ?_
 simp only [aAl, Tryz.ntmps131, dyV, ivV, fxV]
 repeat' first
  | refine aAa fun K g => ?_
  | refine goK (by assumption) ?_
  | ((first | refine aAk ?_ | refine aAe ?_) <;> try simp only [aAm, aAg, reduceIte, Nat.reduceEqDiff])
  | ((first
  | refine aAU rfl fun os => ?_
  | refine aCR rfl (by kernel_rfl) fun os => ?_
  | (refine cxin Tryz.func162 rfl (by kernel_rfl) aAc Tryz.mixed (by kernel_rfl) ?_; simp only [aAl, Tryz.ntmps162, dyV, ivV, fxV])
  | refine cxo (h1.1) ?_
  | refine cxo (h2.1) ?_
  | refine cxdz (aBX _ (by omega)) (fun z => ?_)
  | refine cxdz (aBS _ (by omega)) (fun z => ?_)
  | refine cxdz (aKL _ _ _ (by omega) (by omega) (by omega)) (fun z => ?_)
  | (refine aCU (by simp only [resX, resV, Tryz.results162]; simp (disch := omega) only [xq, simprocAttr, dyV, ivV, fxV, hc]; rfl) ?_; simp only [opsY])
  | (refine aIo (by simp only [resX, resV, Tryz.results162]; simp (disch := omega) only [xq, simprocAttr, dyV, ivV, fxV, hc]; rfl) ?_; simp only [opsY])
  | simp only [endX, resX, resV, Tryz.results131]) <;> try (simp (disch := omega) only [xq, simprocAttr, dyV, ivV, fxV, hc]))
  | (refine aAf (by first | rfl | assumption) (fun c => ?_) (fun c => ?_) <;> first | exact absurd c (by decide) | ((try rw [c]); try simp only [xn] at c))
  | (first | done | rfl
     done)
theorem aS0 (v : Iv) (h1 : aAT v.lo = true) (h2 : aAT v.hi = true) : AC Tryz.prog TabW 187 [ivV v] (.tup [ivV v, .lit (.int .i64 0)]) := by
 have f1 := aE9 v.lo
 have f2 := aE9 v.hi
 rw [h1] at f1
 rw [h2] at f2
 refine aAd Tryz.func187 rfl (by kernel_rfl) aAc Tryz.mixed rfl rfl (by kernel_rfl) ?_
 simp only [aAl, Tryz.ntmps187, dyV, ivV, fxV]
 refine aAa fun K1 g1 => ?_
 refine aAb fun os => ?_
 try simp (disch := omega) only [xq, simprocAttr, dyV, ivV, fxV]
 refine g1 _ ?_
 refine aAa fun K2 g2 => ?_
 refine aAa fun K3 g3 => ?_
 refine aAx ?_
 try simp (disch := omega) only [xq, simprocAttr, dyV, ivV, fxV]
 refine cxo (f1) ?_
 try simp (disch := omega) only [xq, simprocAttr, dyV, ivV, fxV]
 refine cxo (f2) ?_
 try simp (disch := omega) only [xq, simprocAttr, dyV, ivV, fxV]
 refine g3 _ ?_
 refine aAf (by first | rfl | assumption) (fun c1 => ?_) (fun c1 => ?_)
 ·exact absurd c1 (by decide)
 ·try simp only [xn] at c1
  refine aAk ?_
  simp only [aAm, aAg, reduceIte, Nat.reduceEqDiff]
  refine g2 _ ?_
  refine aAa fun K4 g4 => ?_
  refine aAb fun os => ?_
  try simp (disch := omega) only [xq, simprocAttr, dyV, ivV, fxV]
  refine g4 _ ?_
  refine aAe ?_
  simp only [endX, resX, resV, Tryz.results187]
  try simp (disch := omega) only [xq, simprocAttr, dyV, ivV, fxV]
  first | done | rfl
def aXP (v : Iv) (p : Int) (ms : Nat) (σ : St) : Prop := ∃ (t : List (Nat × AV)) (rest : AMem) (i : Nat), σ = ⟨t, 30, (29, [.lit (.bool v.lo.neg), .num v.lo.m, .lit (.int .i64 v.lo.e), .lit (.bool v.hi.neg), .num v.hi.m, .lit (.int .i64 v.hi.e)]) :: (3, [.lit (.int .i64 p)]) :: (29, [.lit (.bool false), .num 0, .lit (.int .i64 0), .lit (.bool false), .num 0, .lit (.int .i64 0)]) :: (29, [.lit (.bool false), .num 0, .lit (.int .i64 0), .lit (.bool false), .num 0, .lit (.int .i64 0)]) :: rest⟩ /\ getT t 0 = .lit (.bool true) /\ getT t 1 = .clo 164 [.ptr 0 0, .ptr 1 0] /\ getT t 6 = .ptr 3 0 /\ getT t 10 = .arr 1 [.lit (.bool v.lo.neg), .num v.lo.m, .lit (.int .i64 v.lo.e), .lit (.bool v.hi.neg), .num v.hi.m, .lit (.int .i64 v.hi.e)] /\ getT t 11 = .lit (.int .i64 1) /\ getT t 12 = .lit (.int .i64 ((i : Nat) : Int)) /\ getT t 7 = .lit (.int .i64 0) /\ (i <= 1) /\ ms = 1 - i
theorem aLW (v : Iv) (p : Int) (h : ib v <= 200000000000 /\ ie v <= 1000000000000000) (hright : aBb v = true) (hp : 1 <= p /\ p <= 8192) (f1 : aAT (aAD v p).lo = true) (f2 : aAT (aAD v p).hi = true) : AC Tryz.prog TabW 132 [ivV v, .lit (.int .i64 p)] (.tup [ivV (aAD v p), .lit (.int .i64 0)]) := by
 have hr := aFy v h
 rw [hright] at hr
 have ht := aDm v p (by omega)
 have hm := aS0 (aAD v p) f1 f2
 obtain ⟨hp1, hp2⟩ := hp
 refine aAd Tryz.func132 rfl (by kernel_rfl) aAc Tryz.mixed rfl rfl (by kernel_rfl) ?_
 simp only [aAl, Tryz.ntmps132, dyV, ivV, fxV]
 refine aAa fun K1 g1 => ?_
 refine aAb fun os => ?_
 try simp (disch := omega) only [xq, simprocAttr, dyV, ivV, fxV, hp1, hp2]
 refine g1 _ ?_
 refine aAa fun K2 g2 => ?_
 refine aAx ?_
 try simp (disch := omega) only [xq, simprocAttr, dyV, ivV, fxV, hp1, hp2]
 refine cxin Tryz.func163 rfl (by kernel_rfl) aAc Tryz.mixed (by kernel_rfl) ?_
 simp only [aAl, Tryz.ntmps163, dyV, ivV, fxV]
 refine aAa fun K3 g3 => ?_
 refine aAb fun os => ?_
 try simp (disch := omega) only [xq, simprocAttr, dyV, ivV, fxV, hp1, hp2]
 refine g3 _ ?_
 refine aAa fun K4 g4 => ?_
 refine aAa fun K5 g5 => ?_
 refine aAb fun os => ?_
 try simp (disch := omega) only [xq, simprocAttr, dyV, ivV, fxV, hp1, hp2]
 refine g5 _ ?_
 refine aAv ?_
 refine aDg (aXP v p) _ ⟨_, [], 0, rfl, (by first | rfl | assumption | (simp (disch := omega) only [xq, simprocAttr, dyV, ivV, fxV, hp1, hp2] <;> rfl)), (by first | rfl | assumption | (simp (disch := omega) only [xq, simprocAttr, dyV, ivV, fxV, hp1, hp2] <;> rfl)), (by first | rfl | assumption | (simp (disch := omega) only [xq, simprocAttr, dyV, ivV, fxV, hp1, hp2] <;> rfl)), (by first | rfl | assumption | (simp (disch := omega) only [xq, simprocAttr, dyV, ivV, fxV, hp1, hp2] <;> rfl)), (by first | rfl | assumption | (simp (disch := omega) only [xq, simprocAttr, dyV, ivV, fxV, hp1, hp2] <;> rfl)), (by first | rfl | assumption | (simp (disch := omega) only [xq, simprocAttr, dyV, ivV, fxV, hp1, hp2] <;> rfl)), (by first | rfl | assumption | (simp (disch := omega) only [xq, simprocAttr, dyV, ivV, fxV, hp1, hp2] <;> rfl)), (by omega), rfl⟩ ?_
 rintro ms _ ⟨t, rest, i, rfl, IvOfR_t0, IvOfR_t1, IvOfR_t6, IvOfR_t10, IvOfR_t11, IvOfR_t12, IvOfR_t7, hi, rfl⟩
 refine aAa fun K6 g6 => ?_
 refine aAb fun os => ?_
 try simp (disch := omega) only [xq, simprocAttr, dyV, ivV, fxV, hp1, hp2, IvOfR_t0, IvOfR_t1, IvOfR_t6, IvOfR_t10, IvOfR_t11, IvOfR_t12, IvOfR_t7]
 refine g6 _ ?_
 refine aAa fun K7 g7 => ?_
 refine aAf (by first | rfl | assumption) (fun c1 => ?_) (fun c1 => ?_)
 ·try simp only [xn] at c1
  refine aAk ?_
  simp only [aAm, aAg, reduceIte, Nat.reduceEqDiff]
  refine g7 _ ?_
  refine aAa fun K8 g8 => ?_
  refine aAv ?_
  refine aAa fun K9 g9 => ?_
  obtain rfl : i = 0 := by omega
  refine aAb fun os => ?_
  try simp (disch := omega) only [xq, simprocAttr, dyV, ivV, fxV, hp1, hp2, IvOfR_t0, IvOfR_t1, IvOfR_t6, IvOfR_t10, IvOfR_t11, IvOfR_t12, IvOfR_t7]
  refine g9 _ ?_
  refine aAx ?_
  try simp (disch := omega) only [xq, simprocAttr, dyV, ivV, fxV, hp1, hp2, IvOfR_t0, IvOfR_t1, IvOfR_t6, IvOfR_t10, IvOfR_t11, IvOfR_t12, IvOfR_t7]
  refine cxo (hr) ?_
  try simp (disch := omega) only [xq, simprocAttr, dyV, ivV, fxV, hp1, hp2, IvOfR_t0, IvOfR_t1, IvOfR_t6, IvOfR_t10, IvOfR_t11, IvOfR_t12, IvOfR_t7]
  refine g8 _ ?_
  refine aAb fun os => ?_
  try simp (disch := omega) only [xq, simprocAttr, dyV, ivV, fxV, hp1, hp2, IvOfR_t0, IvOfR_t1, IvOfR_t6, IvOfR_t10, IvOfR_t11, IvOfR_t12, IvOfR_t7]
  exact ⟨_, (by omega), ⟨_, _, 1, rfl, (by first | rfl | assumption | (simp (disch := omega) only [xq, simprocAttr, dyV, ivV, fxV, hp1, hp2, IvOfR_t0, IvOfR_t1, IvOfR_t6, IvOfR_t10, IvOfR_t11, IvOfR_t12, IvOfR_t7] <;> rfl)), (by first | rfl | assumption | (simp (disch := omega) only [xq, simprocAttr, dyV, ivV, fxV, hp1, hp2, IvOfR_t0, IvOfR_t1, IvOfR_t6, IvOfR_t10, IvOfR_t11, IvOfR_t12, IvOfR_t7] <;> rfl)), (by first | rfl | assumption | (simp (disch := omega) only [xq, simprocAttr, dyV, ivV, fxV, hp1, hp2, IvOfR_t0, IvOfR_t1, IvOfR_t6, IvOfR_t10, IvOfR_t11, IvOfR_t12, IvOfR_t7] <;> rfl)), (by first | rfl | assumption | (simp (disch := omega) only [xq, simprocAttr, dyV, ivV, fxV, hp1, hp2, IvOfR_t0, IvOfR_t1, IvOfR_t6, IvOfR_t10, IvOfR_t11, IvOfR_t12, IvOfR_t7] <;> rfl)), (by first | rfl | assumption | (simp (disch := omega) only [xq, simprocAttr, dyV, ivV, fxV, hp1, hp2, IvOfR_t0, IvOfR_t1, IvOfR_t6, IvOfR_t10, IvOfR_t11, IvOfR_t12, IvOfR_t7] <;> rfl)), (by first | rfl | assumption | (simp (disch := omega) only [xq, simprocAttr, dyV, ivV, fxV, hp1, hp2, IvOfR_t0, IvOfR_t1, IvOfR_t6, IvOfR_t10, IvOfR_t11, IvOfR_t12, IvOfR_t7] <;> rfl)), (by first | rfl | assumption | (simp (disch := omega) only [xq, simprocAttr, dyV, ivV, fxV, hp1, hp2, IvOfR_t0, IvOfR_t1, IvOfR_t6, IvOfR_t10, IvOfR_t11, IvOfR_t12, IvOfR_t7] <;> rfl)), (by omega), rfl⟩⟩
 ·try simp only [xn] at c1
  refine aDh ?_
  simp only [aAm, aAg, reduceIte, Nat.reduceEqDiff]
  refine g4 _ ?_
  refine aAa fun K10 g10 => ?_
  refine aAa fun K11 g11 => ?_
  refine aAb fun os => ?_
  try simp (disch := omega) only [xq, simprocAttr, dyV, ivV, fxV, hp1, hp2, IvOfR_t0, IvOfR_t1, IvOfR_t6, IvOfR_t10, IvOfR_t11, IvOfR_t12, IvOfR_t7]
  refine g11 _ ?_
  refine aAf (by first | rfl | assumption) (fun c2 => ?_) (fun c2 => ?_)
  ·exact absurd c2 (by decide)
  ·try simp only [xn] at c2
   refine aAk ?_
   simp only [aAm, aAg, reduceIte, Nat.reduceEqDiff]
   refine g10 _ ?_
   refine aAa fun K12 g12 => ?_
   refine aAb fun os => ?_
   try simp (disch := omega) only [xq, simprocAttr, dyV, ivV, fxV, hp1, hp2, IvOfR_t0, IvOfR_t1, IvOfR_t6, IvOfR_t10, IvOfR_t11, IvOfR_t12, IvOfR_t7]
   refine cxin Tryz.func164 rfl (by kernel_rfl) aAc Tryz.mixed (by kernel_rfl) ?_
   simp only [aAl, Tryz.ntmps164, dyV, ivV, fxV]
   refine aAa fun K13 g13 => ?_
   refine aAb fun os => ?_
   try simp (disch := omega) only [xq, simprocAttr, dyV, ivV, fxV, hp1, hp2, IvOfR_t0, IvOfR_t1, IvOfR_t6, IvOfR_t10, IvOfR_t11, IvOfR_t12, IvOfR_t7]
   refine g13 _ ?_
   refine aAa fun K14 g14 => ?_
   refine aAb fun os => ?_
   try simp (disch := omega) only [xq, simprocAttr, dyV, ivV, fxV, hp1, hp2, IvOfR_t0, IvOfR_t1, IvOfR_t6, IvOfR_t10, IvOfR_t11, IvOfR_t12, IvOfR_t7]
   refine cxo (ht.1) ?_
   try simp (disch := omega) only [xq, simprocAttr, dyV, ivV, fxV, hp1, hp2, IvOfR_t0, IvOfR_t1, IvOfR_t6, IvOfR_t10, IvOfR_t11, IvOfR_t12, IvOfR_t7]
   refine g14 _ ?_
   refine aAe ?_
   refine aCU (by simp only [resX, resV, Tryz.results164]; simp (disch := omega) only [xq, simprocAttr, dyV, ivV, fxV, hp1, hp2, IvOfR_t0, IvOfR_t1, IvOfR_t6, IvOfR_t10, IvOfR_t11, IvOfR_t12, IvOfR_t7]; rfl) ?_
   simp only [opsY]
   try simp (disch := omega) only [xq, simprocAttr, dyV, ivV, fxV, hp1, hp2, IvOfR_t0, IvOfR_t1, IvOfR_t6, IvOfR_t10, IvOfR_t11, IvOfR_t12, IvOfR_t7]
   refine cxo (hm) ?_
   try simp (disch := omega) only [xq, simprocAttr, dyV, ivV, fxV, hp1, hp2, IvOfR_t0, IvOfR_t1, IvOfR_t6, IvOfR_t10, IvOfR_t11, IvOfR_t12, IvOfR_t7]
   refine g12 _ ?_
   refine aAe ?_
   refine aCU (by simp only [resX, resV, Tryz.results163]; simp (disch := omega) only [xq, simprocAttr, dyV, ivV, fxV, hp1, hp2, IvOfR_t0, IvOfR_t1, IvOfR_t6, IvOfR_t10, IvOfR_t11, IvOfR_t12, IvOfR_t7]; rfl) ?_
   simp only [opsY]
   try simp (disch := omega) only [xq, simprocAttr, dyV, ivV, fxV, hp1, hp2, IvOfR_t0, IvOfR_t1, IvOfR_t6, IvOfR_t10, IvOfR_t11, IvOfR_t12, IvOfR_t7]
   refine g2 _ ?_
   refine aAe ?_
   simp only [endX, resX, resV, Tryz.results132]
   try simp (disch := omega) only [xq, simprocAttr, dyV, ivV, fxV, hp1, hp2, IvOfR_t0, IvOfR_t1, IvOfR_t6, IvOfR_t10, IvOfR_t11, IvOfR_t12, IvOfR_t7]
   first | done | rfl
theorem aWa  : AC Tryz.prog TabW 130 [.lit (.int .u8 2)] (.lit (.bool true)) := by
 refine aAd Tryz.func130 rfl (by kernel_rfl) aAc Tryz.mixed rfl rfl (by kernel_rfl) ?_
 simp only [aAl, Tryz.ntmps130, dyV, ivV, fxV]
 refine aAa fun K1 g1 => ?_
 refine aAb fun os => ?_
 try simp (disch := omega) only [xq, simprocAttr, dyV, ivV, fxV]
 refine g1 _ ?_
 refine aAa fun K2 g2 => ?_
 refine aAx ?_
 try simp (disch := omega) only [xq, simprocAttr, dyV, ivV, fxV]
 refine g2 _ ?_
 refine aAe ?_
 simp only [endX, resX, resV, Tryz.results130]
 try simp (disch := omega) only [xq, simprocAttr, dyV, ivV, fxV]
 first | done | rfl
theorem aPH (p : Nat) (hp : 8 <= p /\ p <= 8184) (hright : aBb (aBt (ln2F (p + 64)) (p + 64)) = true) (f1 : aAT (lnV 2 p).lo = true) (f2 : aAT (lnV 2 p).hi = true) : AC Tryz.prog TabW 99 [.lit (.int .u8 2), .lit (.int .i64 ((p : Nat) : Int))] (.tup [ivV (lnV 2 p), .lit (.int .i64 0)]) := by
 have he := aR7 p (by omega)
 have hx := aLW (aBt (ln2F (p + 64)) (p + 64)) ((p : Int) + 8) (by omega) hright (by omega) f1 f2
 have hr : lnV 2 p = aAD (aBt (ln2F (p + 64)) (p + 64)) ((p : Int) + 8) := rfl
 have hp1 : (8 : Int) <= ((p : Nat) : Int) := by omega
 have hp2 : ((p : Nat) : Int) <= 8192 := by omega
 have hp3 : ¬ (8192 : Int) < ((p : Nat) : Int) + 8 := by omega
 have hp4 : ¬ ((p : Nat) : Int) < 8 := by omega
 have hp5 : ¬ (8192 : Int) < ((p : Nat) : Int) := by omega
 rw [hr]
 refine aAd Tryz.func99 rfl (by kernel_rfl) aAc Tryz.mixed rfl rfl (by kernel_rfl) ?_
 simp only [aAl, Tryz.ntmps99, dyV, ivV, fxV]
 repeat' first
  | refine aAa fun K g => ?_
  | refine goK (by assumption) ?_
  | ((first | refine aAk ?_ | refine aAe ?_) <;> try simp only [aAm, aAg, reduceIte, Nat.reduceEqDiff])
  | ((first
  | refine aAU rfl fun os => ?_
  | refine aB7 ?_
  | refine cxo (aWa) ?_
  | refine cxo (he.1) ?_
  | refine cxoz (aDm _ _ (by omega)) (fun z => ?_)
  | refine cxo (hx) ?_
  | simp only [endX, resX, resV, Tryz.results99]) <;> try (simp (disch := omega) only [xq, simprocAttr, dyV, ivV, fxV, hp1, hp2, hp3, hp4, hp5]))
  | (refine gx (fun c => ?_) (fun c => ?_) <;> first | exact absurd c (by decide) | ((try rw [c]); (try simp only [xn] at c); try (simp (disch := omega) only [xq, simprocAttr, dyV, ivV, fxV, hp1, hp2, hp3, hp4, hp5])))
  | (refine aAf (by first | rfl | assumption) (fun c => ?_) (fun c => ?_) <;> first | exact absurd c (by decide) | ((try rw [c]); try simp only [xn] at c))
  | (first | done | rfl
     done)
theorem aT6  : AC Tryz.prog TabW 130 [.lit (.int .u8 3)] (.lit (.bool true)) := by
 refine aAd Tryz.func130 rfl (by kernel_rfl) aAc Tryz.mixed rfl rfl (by kernel_rfl) ?_
 simp only [aAl, Tryz.ntmps130, dyV, ivV, fxV]
 refine aAa fun K1 g1 => ?_
 refine aAb fun os => ?_
 try simp (disch := omega) only [xq, simprocAttr, dyV, ivV, fxV]
 refine g1 _ ?_
 refine aAa fun K2 g2 => ?_
 refine aAx ?_
 try simp (disch := omega) only [xq, simprocAttr, dyV, ivV, fxV]
 refine g2 _ ?_
 refine aAe ?_
 simp only [endX, resX, resV, Tryz.results130]
 try simp (disch := omega) only [xq, simprocAttr, dyV, ivV, fxV]
 first | done | rfl
theorem aNM (p : Nat) (hp : 8 <= p /\ p <= 8184) (hright : aBb (aBt (aDV (p + 64)) (p + 64)) = true) (f1 : aAT (lnV 10 p).lo = true) (f2 : aAT (lnV 10 p).hi = true) : AC Tryz.prog TabW 99 [.lit (.int .u8 3), .lit (.int .i64 ((p : Nat) : Int))] (.tup [ivV (lnV 10 p), .lit (.int .i64 0)]) := by
 have he := aPG p (by omega)
 have hx := aLW (aBt (aDV (p + 64)) (p + 64)) ((p : Int) + 8) (by omega) hright (by omega) f1 f2
 have hr : lnV 10 p = aAD (aBt (aDV (p + 64)) (p + 64)) ((p : Int) + 8) := rfl
 have hp1 : (8 : Int) <= ((p : Nat) : Int) := by omega
 have hp2 : ((p : Nat) : Int) <= 8192 := by omega
 have hp3 : ¬ (8192 : Int) < ((p : Nat) : Int) + 8 := by omega
 have hp4 : ¬ ((p : Nat) : Int) < 8 := by omega
 have hp5 : ¬ (8192 : Int) < ((p : Nat) : Int) := by omega
 rw [hr]
 refine aAd Tryz.func99 rfl (by kernel_rfl) aAc Tryz.mixed rfl rfl (by kernel_rfl) ?_
 simp only [aAl, Tryz.ntmps99, dyV, ivV, fxV]
 repeat' first
  | refine aAa fun K g => ?_
  | refine goK (by assumption) ?_
  | ((first | refine aAk ?_ | refine aAe ?_) <;> try simp only [aAm, aAg, reduceIte, Nat.reduceEqDiff])
  | ((first
  | refine aAU rfl fun os => ?_
  | refine aB7 ?_
  | refine cxo (aT6) ?_
  | refine cxo (he.1) ?_
  | refine cxoz (aDm _ _ (by omega)) (fun z => ?_)
  | refine cxo (hx) ?_
  | simp only [endX, resX, resV, Tryz.results99]) <;> try (simp (disch := omega) only [xq, simprocAttr, dyV, ivV, fxV, hp1, hp2, hp3, hp4, hp5]))
  | (refine gx (fun c => ?_) (fun c => ?_) <;> first | exact absurd c (by decide) | ((try rw [c]); (try simp only [xn] at c); try (simp (disch := omega) only [xq, simprocAttr, dyV, ivV, fxV, hp1, hp2, hp3, hp4, hp5])))
  | (refine aAf (by first | rfl | assumption) (fun c => ?_) (fun c => ?_) <;> first | exact absurd c (by decide) | ((try rw [c]); try simp only [xn] at c))
  | (first | done | rfl
     done)
end
section
theorem aWd (neg : Bool) (m : Nat) (e : Int) : bl (aAL neg m e).m <= bl m := aSb m
theorem aTP (k : Nat) : fAbs (2 ^ k) = 1 := by
 unfold fAbs
 have : tz (2 ^ k) = k := by have := aP2 (m := 1) rfl k; rwa [Nat.mul_one] at this
 rw [this]; exact Nat.div_self (Nat.pow_pos (by decide))
theorem aJr (d : D) {p : Int} (hp : 1 <= p) (up : Bool) : ((bl (cutD d p up).m : Nat) : Int) <= p := by
 unfold cutD
 generalize oneD d = d
 split
 · omega
 rename_i hn
 obtain ⟨n, hn2⟩ : ∃ n : Nat, ((bl d.m : Nat) : Int) - p = ((n : Nat) : Int) := ⟨(((bl d.m : Nat) : Int) - p).toNat, by omega⟩
 rw [hn2, Int.toNat_natCast]
 have h1 := aDO d.m
 have hq : d.m / 2 ^ n < 2 ^ p.toNat := by
   rw [Nat.div_lt_iff_lt_mul (Nat.pow_pos (by decide)), <- Nat.pow_add]
   rwa [show p.toNat + n = bl d.m by omega]
 show ((bl (fAbs (d.m / 2 ^ n + if (up != d.neg) = true then 1 else 0)) : Nat) : Int) <= p
 generalize d.m / 2 ^ n = q at *
 have hi : (if (up != d.neg) = true then 1 else 0) <= 1 := by split <;> omega
 by_cases h2 : q + (if (up != d.neg) = true then 1 else 0) = 2 ^ p.toNat
 · rw [h2, aTP]
   show ((1 : Nat) : Int) <= p
   omega
 · have h3 : q + (if (up != d.neg) = true then 1 else 0) < 2 ^ p.toNat := by omega
   have := aSb (q + (if (up != d.neg) = true then 1 else 0))
   have := aC8 h3
   omega
theorem aD1 (d : D) {p : Int} (hp : 1 <= p) (up : Bool) : (cutD d p up).canon := (aDM d hp up).1
theorem aKd {d : D} (hc : d.canon) (hb : bl d.m <= 15000) (h : d.m = 0 \/ (p2 (-17000) <= d.av /\ d.av <= p2 17000)) : aAT d = true := by
 unfold aAT
 rw [decide_eq_true_iff]
 refine ⟨aDt (k := 1024) (by omega), ?_⟩
 rcases h with h | ⟨h1, h2⟩
 · rcases hc with hc | ⟨_, _, hc⟩ <;> omega
 · by_cases h0 : d.m = 0
   · rcases hc with hc | ⟨_, _, hc⟩ <;> omega
   have t1 := aFq h0
   have t2 := aFk d
   have k1 : topD d <= 17000 := aFC.1 (Rat.le_trans t1 h2)
   have k2 : -17000 < topD d + 1 := by
     apply Int.not_le.1; intro h3
     have := aA7 h3
     grind
   have := aD6 h0
   unfold topD at k1 k2
   omega
theorem aBh (d : D) : d.av = if d.v < 0 then -d.v else d.v := by
 have h := v_av d
 have h2 := aHf d
 cases hn : d.neg with
 | false =>
   rw [hn] at h
   have : sg false = 1 := rfl
   rw [if_neg (by grind)]; grind
 | true =>
   rw [hn] at h
   have e : sg true = -1 := rfl
   rw [e] at h
   split <;> grind
theorem aQA {ρ ε σ : Rat} (h0 : 0 <= ρ) (h1 : 0 < ε) (h2 : ρ <= ε) (h3 : ε <= 1 / 16) (h4 : 4 * ε <= σ) : (1 + ρ) * (1 + ε) <= (1 - ε) * (1 + σ) := by
 have := Rat.mul_le_mul_of_nonneg_left h2 h0
 have := aAO h2 h3 (Rat.le_of_lt h1) (by grind)
 have := Rat.mul_le_mul_of_nonneg_right h3 (show 0 <= σ by grind)
 grind
theorem aSK {v : Iv} {t ρ σ : Rat} {p : Int} (hp : 5 <= p) (h : ExpI v t ρ) (h0 : 0 <= ρ) (hρ : ρ <= p2 (1 - p)) (hσ : 4 * p2 (1 - p) <= σ) : ExpI (aAD v p) t σ := by
 obtain ⟨a1, a2, a3, a4⟩ := h
 have hε0 := aAz (1 - p)
 have hε1 : p2 (1 - p) <= 1 / 16 := by
   have := aA7 (show 1 - p <= -((4 : Nat) : Int) by omega)
   have k := (aCi 4 (k := 16) rfl).2
   have k2 : ((16 : Nat) : Rat) = 16 := rfl
   rw [k2] at k; grind
 have c1 := aDM v.lo (show 1 <= p by omega) false
 have c2 := aDM v.hi (show 1 <= p by omega) true
 have q := aQA h0 hε0 hρ hε1 hσ
 have r1 := (aBU c1).1 (Rat.le_of_lt a1)
 have hle := aAM a2 a3 Rat.le_refl
 have r2 := (aBU c2).1 (by grind)
 have d1 := aDL c1
 have d2 := aDK c2
 unfold ExpI aAD
 dsimp only
 generalize (cutD v.lo p false).v = L at *
 generalize (cutD v.hi p true).v = H at *
 generalize p2 (1 - p) = ε at *
 have p1 : 0 < v.lo.v * (1 - ε) := Rat.mul_pos a1 (by grind)
 refine ⟨by grind, aAV a2 Rat.le_refl d1, aBs a3 Rat.le_refl d2, ?_⟩
 have g1 := Rat.mul_le_mul_of_nonneg_right a4 (show 0 <= 1 + ε by grind)
 have g2 := Rat.mul_le_mul_of_nonneg_left q (Rat.le_of_lt a1)
 have g3 := Rat.mul_le_mul_of_nonneg_right r1.1 (show 0 <= 1 + σ by grind)
 grind
theorem aP6 {v : Iv} {t ρ σ : Rat} {p : Int} (hp : 5 <= p) (h : aJP v t ρ) (h0 : 0 <= ρ) (hρ : ρ <= p2 (1 - p)) (hσ : 4 * p2 (1 - p) <= σ) : aJP (aAD v p) t σ := by
 obtain ⟨a1, a2, a3, a4⟩ := h
 have hε0 := aAz (1 - p)
 have hε1 : p2 (1 - p) <= 1 / 16 := by
   have := aA7 (show 1 - p <= -((4 : Nat) : Int) by omega)
   have k := (aCi 4 (k := 16) rfl).2
   have k2 : ((16 : Nat) : Rat) = 16 := rfl
   rw [k2] at k; grind
 have c1 := aDM v.lo (show 1 <= p by omega) false
 have c2 := aDM v.hi (show 1 <= p by omega) true
 have q := aQA h0 hε0 hρ hε1 hσ
 have r1 := aBU c1
 have r2 := aBU c2
 have d1 := aDL c1
 have d2 := aDK c2
 have hle := aAM a1 a2 Rat.le_refl
 unfold aJP aAD
 dsimp only
 generalize (cutD v.lo p false).v = L at *
 generalize (cutD v.hi p true).v = H at *
 generalize p2 (1 - p) = ε at *
 refine ⟨aAV a1 Rat.le_refl (by grind), aBs a2 Rat.le_refl (by grind), fun ht => ?_, fun ht => ?_⟩
 · obtain ⟨b1, b2⟩ := a3 ht
   obtain ⟨q1, q2⟩ := r1.1 (Rat.le_of_lt b1)
   obtain ⟨q3, q4⟩ := r2.1 (by grind)
   have p1 : 0 < v.lo.v * (1 - ε) := Rat.mul_pos b1 (by grind)
   have g1 := Rat.mul_le_mul_of_nonneg_right b2 (show 0 <= 1 + ε by grind)
   have g2 := Rat.mul_le_mul_of_nonneg_left q (Rat.le_of_lt b1)
   have g3 := Rat.mul_le_mul_of_nonneg_right q1 (show 0 <= 1 + σ by grind)
   exact ⟨by grind, by grind⟩
 · obtain ⟨b1, b2⟩ := a4 ht
   obtain ⟨q1, q2⟩ := r1.2 (by grind)
   obtain ⟨q3, q4⟩ := r2.2 (by grind)
   have p1 : 0 < -v.hi.v * (1 - ε) := Rat.mul_pos (by grind) (by grind)
   have g1 := Rat.mul_le_mul_of_nonneg_right b2 (show 0 <= 1 + ε by grind)
   have g2 := Rat.mul_le_mul_of_nonneg_left q (show 0 <= -v.hi.v by grind)
   have g3 := Rat.mul_le_mul_of_nonneg_right q4 (show 0 <= 1 + σ by grind)
   exact ⟨by grind, by grind⟩
theorem aWL : expH (69 / 100) 2 := aBs (aCK (t := 69 / 100) (by decide +kernel) (aEp (by decide +kernel) 8 (by decide +kernel))) Rat.le_refl (by decide +kernel)
theorem aL3 (n : Nat) : p2 (n : Int) = (2 : Rat) ^ n := Rat.zpow_natCast _ _
theorem aFM {t : Rat} (h : t <= 11109) : expH t (p2 16100) := by
 have := aG9 aWL 16100
 rw [<- aL3] at this
 refine aBs this (Rat.le_trans h ?_) Rat.le_refl
 have : ((16100 : Nat) : Rat) = 16100 := rfl
 rw [this]; grind
theorem aG6 {t : Rat} (h : -11109 <= t) : expL t (p2 (-16100)) := by
 have h1 := aFh (aFM (t := -t) (by grind))
 rw [show - -t = t by grind] at h1
 have h2 := aDA 16100
 have h3 := aAz 16100
 refine aAV h1 Rat.le_refl ?_
 rw [aBw h3, h2]; exact Rat.le_refl
end
section
theorem aLJ {a b : Iv} {p : Int} (hp : 1 <= p) (ha : a.hi.v < 0) (hb : 0 < b.lo.v) (ha2 : a.lo.v <= a.hi.v) (hb2 : b.lo.v <= b.hi.v) :
   (aAF a b p).lo.v <= a.lo.v * b.hi.v /\ a.lo.v * b.hi.v * (1 + p2 (1 - p)) <= (aAF a b p).lo.v /\
   a.hi.v * b.lo.v <= (aAF a b p).hi.v /\ (aAF a b p).hi.v <= a.hi.v * b.lo.v * (1 - p2 (1 - p)) := by
 have g1 : a.lo.v * b.hi.v <= a.lo.v * b.lo.v := by have := Rat.mul_le_mul_of_nonneg_left hb2 (show 0 <= -a.lo.v by grind); grind
 have g2 : a.lo.v * b.lo.v <= a.hi.v * b.lo.v := Rat.mul_le_mul_of_nonneg_right ha2 (Rat.le_of_lt hb)
 have g3 : a.lo.v * b.hi.v <= a.hi.v * b.hi.v := Rat.mul_le_mul_of_nonneg_right ha2 (by grind)
 have g4 : a.hi.v * b.hi.v <= a.hi.v * b.lo.v := by have := Rat.mul_le_mul_of_nonneg_left hb2 (show 0 <= -a.hi.v by grind); grind
 have hab := Rat.mul_pos (show 0 < -a.hi.v by grind) hb
 obtain ⟨_, l2, _, _, l5⟩ := aMb (mulD a.lo b.lo) (mulD a.lo b.hi) (mulD a.hi b.lo) (mulD a.hi b.hi)
 obtain ⟨_, _, h3, _, h5⟩ := aMh (mulD a.lo b.lo) (mulD a.lo b.hi) (mulD a.hi b.lo) (mulD a.hi b.hi)
 have el : (lo4 (mulD a.lo b.lo) (mulD a.lo b.hi) (mulD a.hi b.lo) (mulD a.hi b.hi)).v = a.lo.v * b.hi.v := by
   rw [aGA] at l2
   apply Rat.le_antisymm l2
   rcases l5 with h | h | h | h <;> rw [h, aGA] <;> grind
 have eh : (hi4 (mulD a.lo b.lo) (mulD a.lo b.hi) (mulD a.hi b.lo) (mulD a.hi b.hi)).v = a.hi.v * b.lo.v := by
   rw [aGA] at h3
   apply Rat.le_antisymm ?_ h3
   rcases h5 with h | h | h | h <;> rw [h, aGA] <;> grind
 unfold aAF aAD
 dsimp only
 have c1 := aDM (lo4 (mulD a.lo b.lo) (mulD a.lo b.hi) (mulD a.hi b.lo) (mulD a.hi b.hi)) hp false
 have c2 := aDM (hi4 (mulD a.lo b.lo) (mulD a.lo b.hi) (mulD a.hi b.lo) (mulD a.hi b.hi)) hp true
 rw [el] at c1
 rw [eh] at c2
 obtain ⟨q1, q2⟩ := (aBU c1).2 (by grind)
 obtain ⟨q3, q4⟩ := (aBU c2).2 (by grind)
 exact ⟨aDL c1, q1, aDK c2, q4⟩
def aAt (n : Nat) (t : D) (w : Nat) : Iv := if n = 0 then aAD (aAn t) w else aAF (aAD (aAn t) w) (lnV n w) w
def aMK (v : Iv) (x θ : Rat) : Prop := (0 < x -> 0 < v.lo.v /\ v.hi.v <= v.lo.v * (1 + θ)) /\ (x < 0 -> v.hi.v < 0 /\ v.hi.v * (1 + θ) <= v.lo.v)
theorem aNe (t : D) : (aAn t).lo.v = t.v /\ (aAn t).hi.v = t.v := ⟨aC6 t, aC6 t⟩
theorem aEq {w : Nat} (hw : 16 <= w) : 0 < p2 (1 - (w : Int)) /\ p2 (1 - (w : Int)) * 32768 <= 1 := by
 refine ⟨aAz _, ?_⟩
 have := aA7 (show 1 - (w : Int) <= -((15 : Nat) : Int) by omega)
 have k := (aCi 15 (k := 32768) rfl).2
 have k2 : ((32768 : Nat) : Rat) = 32768 := rfl
 rw [k2] at k; grind
theorem aOZ {t : D} {w : Nat} (hw : 16 <= w) : (aAD (aAn t) w).lo.v <= t.v /\ t.v <= (aAD (aAn t) w).hi.v /\
   (0 < t.v -> t.v * (1 - p2 (1 - (w : Int))) <= (aAD (aAn t) w).lo.v /\ (aAD (aAn t) w).hi.v <= t.v * (1 + p2 (1 - (w : Int)))) /\
   (t.v < 0 -> t.v * (1 + p2 (1 - (w : Int))) <= (aAD (aAn t) w).lo.v /\ (aAD (aAn t) w).hi.v <= t.v * (1 - p2 (1 - (w : Int)))) := by
 have c1 := aDM (aAn t).lo (show 1 <= (w : Int) by omega) false
 have c2 := aDM (aAn t).hi (show 1 <= (w : Int) by omega) true
 rw [(aNe t).1] at c1
 rw [(aNe t).2] at c2
 unfold aAD
 dsimp only
 refine ⟨aDL c1, aDK c2, fun h => ?_, fun h => ?_⟩
 · exact ⟨((aBU c1).1 (Rat.le_of_lt h)).1, ((aBU c2).1 (Rat.le_of_lt h)).2⟩
 · exact ⟨((aBU c1).2 (Rat.le_of_lt h)).1, ((aBU c2).2 (Rat.le_of_lt h)).2⟩
def lnC (n : Nat) : Rat := if n = 0 then 1 else lnB n
theorem aLV {n w : Nat} {t : D} (hn : n = 0 \/ n = 2 \/ n = 10) (hw : 70 <= w) (hw2 : w <= 10000) :
   (aAt n t w).lo.canon /\ (aAt n t w).hi.canon /\ bl (aAt n t w).lo.m <= w /\ bl (aAt n t w).hi.m <= w /\
   aMK (aAt n t w) t.v (32 * p2 (1 - (w : Int))) /\
   (0 < t.v -> t.v / 4 <= (aAt n t w).lo.v /\ (aAt n t w).hi.v <= t.v * lnC n * (1 + 8 * p2 (1 - (w : Int)))) /\
   (t.v < 0 -> (aAt n t w).hi.v <= t.v / 4 /\ t.v * lnC n * (1 + 8 * p2 (1 - (w : Int))) <= (aAt n t w).lo.v) := by
 obtain ⟨e0, e1⟩ := aEq (w := w) (by omega)
 obtain ⟨a1, a2, a3, a4⟩ := aOZ (t := t) (w := w) (by omega)
 have hw1 : 1 <= (w : Int) := by omega
 by_cases h : n = 0
 · subst h
   have es : aAt 0 t w = aAD (aAn t) w := rfl
   have ec : lnC 0 = 1 := rfl
   rw [es, ec]
   have b1 := aJr (aAn t).lo hw1 false
   have b2 := aJr (aAn t).hi hw1 true
   refine ⟨aD1 _ hw1 _, aD1 _ hw1 _, by unfold aAD; dsimp only; omega, by unfold aAD; dsimp only; omega, ⟨fun h => ?_, fun h => ?_⟩, fun h => ?_, fun h => ?_⟩
   all_goals
     generalize (aAD (aAn t) (w : Int)).lo.v = L at *
     generalize (aAD (aAn t) (w : Int)).hi.v = H at *
     generalize p2 (1 - (w : Int)) = ε at *
   · obtain ⟨c1, c2⟩ := a3 h
     have p1 := Rat.mul_pos h (show 0 < 1 - ε by grind)
     have k : (1 + ε) <= (1 - ε) * (1 + 32 * ε) := by
       have := Rat.mul_le_mul_of_nonneg_left (show 32 * ε <= 1 by grind) (Rat.le_of_lt e0); grind
     have k2 := Rat.mul_le_mul_of_nonneg_left k (Rat.le_of_lt h)
     have k3 := Rat.mul_le_mul_of_nonneg_right c1 (show 0 <= 1 + 32 * ε by grind)
     exact ⟨by grind, by grind⟩
   · obtain ⟨c1, c2⟩ := a4 h
     have p1 := Rat.mul_pos (show 0 < -t.v by grind) (show 0 < 1 - ε by grind)
     have k : (1 + ε) <= (1 - ε) * (1 + 32 * ε) := by
       have := Rat.mul_le_mul_of_nonneg_left (show 32 * ε <= 1 by grind) (Rat.le_of_lt e0); grind
     have k2 := Rat.mul_le_mul_of_nonneg_left k (show 0 <= -t.v by grind)
     have k3 := Rat.mul_le_mul_of_nonneg_right c2 (show 0 <= 1 + 32 * ε by grind)
     exact ⟨by grind, by grind⟩
   · obtain ⟨c1, c2⟩ := a3 h
     have k := Rat.mul_nonneg (Rat.le_of_lt h) (Rat.le_of_lt e0)
     have k2 := Rat.mul_le_mul_of_nonneg_left e1 (Rat.le_of_lt h)
     exact ⟨by grind, by grind⟩
   · obtain ⟨c1, c2⟩ := a4 h
     have k := Rat.mul_nonneg (show 0 <= -t.v by grind) (Rat.le_of_lt e0)
     have k2 := Rat.mul_le_mul_of_nonneg_left e1 (show 0 <= -t.v by grind)
     exact ⟨by grind, by grind⟩
 · have hn2 : n = 2 \/ n = 10 := by omega
   have es : aAt n t w = aAF (aAD (aAn t) w) (lnV n w) w := by unfold aAt; rw [if_neg h]
   have ec : lnC n = lnB n := by unfold lnC; rw [if_neg h]
   rw [es, ec]
   obtain ⟨l1, l2, l3, l4⟩ := aI1 hn2 (w := w) (by omega) hw2
   have hA : 1 / 2 <= lnA n := by unfold lnA; split <;> decide +kernel
   have e4 : p2 (-(w : Int) - 4) <= p2 (1 - (w : Int)) := aA7 (by omega)
   have e40 := aAz (-(w : Int) - 4)
   have l5 : (lnV n w).lo.v <= (lnV n w).hi.v := by
     have := aJ2 (w := w) hn2 (by omega)
     exact aFF (by rcases hn2 with rfl | rfl <;> decide +kernel) this.1 this.2
   have hB : 0 <= lnB n := by unfold lnB; split <;> decide +kernel
   have b1 := aJr (lo4 (mulD (aAD (aAn t) w).lo (lnV n w).lo) (mulD (aAD (aAn t) w).lo (lnV n w).hi) (mulD (aAD (aAn t) w).hi (lnV n w).lo) (mulD (aAD (aAn t) w).hi (lnV n w).hi)) hw1 false
   have b2 := aJr (hi4 (mulD (aAD (aAn t) w).lo (lnV n w).lo) (mulD (aAD (aAn t) w).lo (lnV n w).hi) (mulD (aAD (aAn t) w).hi (lnV n w).lo) (mulD (aAD (aAn t) w).hi (lnV n w).hi)) hw1 true
   refine ⟨aD1 _ hw1 _, aD1 _ hw1 _, by unfold aAF; unfold aAD at *; dsimp only at *; omega, by unfold aAF; unfold aAD at *; dsimp only at *; omega, ?_⟩
   clear b1 b2
   unfold aMK
   have tp := aDj (a := aAD (aAn t) w) (b := lnV n w) hw1
   have tn := aLJ (a := aAD (aAn t) w) (b := lnV n w) hw1
   generalize (aAF (aAD (aAn t) w) (lnV n w) w).lo.v = L at *
   generalize (aAF (aAD (aAn t) w) (lnV n w) w).hi.v = H at *
   generalize (aAD (aAn t) (w : Int)).lo.v = a at *
   generalize (aAD (aAn t) (w : Int)).hi.v = b at *
   generalize (lnV n w).lo.v = c at *
   generalize (lnV n w).hi.v = d at *
   generalize p2 (1 - (w : Int)) = ε at *
   generalize p2 (-(w : Int) - 4) = κ at *
   generalize lnA n = A at *
   generalize lnB n = B at *
   have hc3 : 3 / 8 <= c := by
     have := Rat.mul_le_mul_of_nonneg_left (show κ <= 1 / 8 by grind) (show 0 <= A by grind)
     grind
   have k : (1 + ε) * (1 + ε) * (1 + κ) <= (1 - ε) * (1 - ε) * (1 + 32 * ε) /\ (1 + ε) * (1 + ε) * (1 + κ) <= 1 + 8 * ε := by
     have x1 := Rat.mul_le_mul_of_nonneg_left (show 32768 * ε <= 1 by grind) (Rat.le_of_lt e0)
     have x2 := Rat.mul_le_mul_of_nonneg_right x1 (Rat.le_of_lt e0)
     have x3 : (1 + ε) * (1 + ε) * (1 + κ) <= (1 + ε) * (1 + ε) * (1 + ε) := Rat.mul_le_mul_of_nonneg_left (by grind) (Rat.mul_nonneg (by grind) (by grind))
     have x4 : 0 <= ε * ε := Rat.mul_nonneg (Rat.le_of_lt e0) (Rat.le_of_lt e0)
     have x5 : 0 <= ε * ε * ε := Rat.mul_nonneg x4 (Rat.le_of_lt e0)
     constructor <;> grind
   refine ⟨⟨fun h => ?_, fun h => ?_⟩, fun h => ?_, fun h => ?_⟩
   · obtain ⟨c1, c2⟩ := a3 h
     have p1 := Rat.mul_pos h (show 0 < 1 - ε by grind)
     obtain ⟨q1, q2, q3, q4⟩ := tp (by grind) l3 (by grind) l5
     have r1 : b * d <= t.v * (1 + ε) * (c * (1 + κ)) := aAO c2 l4 (by grind) (Rat.mul_nonneg (Rat.le_of_lt h) (by grind))
     have r2 : t.v * (1 - ε) * c <= a * c := Rat.mul_le_mul_of_nonneg_right c1 (Rat.le_of_lt l3)
     have p2' := Rat.mul_pos p1 l3
     have r3 := Rat.mul_le_mul_of_nonneg_right r1 (show 0 <= 1 + ε by grind)
     have r4 := Rat.mul_le_mul_of_nonneg_right r2 (show 0 <= 1 - ε by grind)
     have r5 := Rat.mul_le_mul_of_nonneg_left k.1 (Rat.le_of_lt (Rat.mul_pos h l3))
     have r6 := Rat.mul_le_mul_of_nonneg_right (Rat.le_trans r4 q2) (show 0 <= 1 + 32 * ε by grind)
     have p3 := Rat.mul_pos p2' (show 0 < 1 - ε by grind)
     have q5 := Rat.le_trans q4 r3
     have q6 := Rat.le_trans r4 q2
     clear tp tn q1 q3 q4 q2 r1 r2 r3 r4 k a3 a4 l1 l2
     exact ⟨by grind, by grind⟩
   · obtain ⟨c1, c2⟩ := a4 h
     have p1 := Rat.mul_pos (show 0 < -t.v by grind) (show 0 < 1 - ε by grind)
     obtain ⟨q1, q2, q3, q4⟩ := tn (by grind) l3 (by grind) l5
     have r1 : -a * d <= -t.v * (1 + ε) * (c * (1 + κ)) := aAO (by grind) l4 (by grind) (Rat.mul_nonneg (by grind) (by grind))
     have r2 : -t.v * (1 - ε) * c <= -b * c := Rat.mul_le_mul_of_nonneg_right (by grind) (Rat.le_of_lt l3)
     have p2' := Rat.mul_pos p1 l3
     have r3 := Rat.mul_le_mul_of_nonneg_right r1 (show 0 <= 1 + ε by grind)
     have r4 := Rat.mul_le_mul_of_nonneg_right r2 (show 0 <= 1 - ε by grind)
     have r5 := Rat.mul_le_mul_of_nonneg_left k.1 (Rat.le_of_lt (Rat.mul_pos (show 0 < -t.v by grind) l3))
     have q2' : -L <= -a * d * (1 + ε) := by grind
     have q4' : -b * c * (1 - ε) <= -H := by grind
     have q5 := Rat.le_trans q2' r3
     have q6 := Rat.le_trans r4 q4'
     have r6 := Rat.mul_le_mul_of_nonneg_right q6 (show 0 <= 1 + 32 * ε by grind)
     have p3 := Rat.mul_pos p2' (show 0 < 1 - ε by grind)
     clear tp tn q1 q3 q4 q2 q2' q4' r1 r2 r3 r4 k a3 a4 l1 l2
     exact ⟨by grind, by grind⟩
   · obtain ⟨c1, c2⟩ := a3 h
     have p1 := Rat.mul_pos h (show 0 < 1 - ε by grind)
     obtain ⟨q1, q2, q3, q4⟩ := tp (by grind) l3 (by grind) l5
     have r1 : b * d <= t.v * (1 + ε) * (B * (1 + κ)) := aAO c2 l2 (by grind) (Rat.mul_nonneg (Rat.le_of_lt h) (by grind))
     have r3 := Rat.mul_le_mul_of_nonneg_right r1 (show 0 <= 1 + ε by grind)
     have r5 := Rat.mul_le_mul_of_nonneg_left k.2 (Rat.mul_nonneg (Rat.le_of_lt h) hB)
     have r2 : t.v * (1 - ε) * (3 / 8) <= a * c := aAO c1 hc3 (by grind) (by grind)
     have r4 := Rat.mul_le_mul_of_nonneg_right r2 (show 0 <= 1 - ε by grind)
     have r6 : 2 / 3 <= (1 - ε) * (1 - ε) := by
       have := Rat.mul_nonneg (Rat.le_of_lt e0) (Rat.le_of_lt e0); grind
     have r7 := Rat.mul_le_mul_of_nonneg_left r6 (Rat.le_of_lt h)
     have q5 := Rat.le_trans q4 r3
     have q6 := Rat.le_trans r4 q2
     clear tp tn q1 q3 q4 q2 r1 r2 r3 r4 k a3 a4 l1 l2
     exact ⟨by grind, by grind⟩
   · obtain ⟨c1, c2⟩ := a4 h
     have p1 := Rat.mul_pos (show 0 < -t.v by grind) (show 0 < 1 - ε by grind)
     obtain ⟨q1, q2, q3, q4⟩ := tn (by grind) l3 (by grind) l5
     have r1 : -a * d <= -t.v * (1 + ε) * (B * (1 + κ)) := aAO (by grind) l2 (by grind) (Rat.mul_nonneg (by grind) (by grind))
     have r3 := Rat.mul_le_mul_of_nonneg_right r1 (show 0 <= 1 + ε by grind)
     have r5 := Rat.mul_le_mul_of_nonneg_left k.2 (Rat.mul_nonneg (show 0 <= -t.v by grind) hB)
     have r2 : -t.v * (1 - ε) * (3 / 8) <= -b * c := aAO (by grind) hc3 (by grind) (by grind)
     have r4 := Rat.mul_le_mul_of_nonneg_right r2 (show 0 <= 1 - ε by grind)
     have r6 : 2 / 3 <= (1 - ε) * (1 - ε) := by
       have := Rat.mul_nonneg (Rat.le_of_lt e0) (Rat.le_of_lt e0); grind
     have r7 := Rat.mul_le_mul_of_nonneg_left r6 (show 0 <= -t.v by grind)
     have q2' : -L <= -a * d * (1 + ε) := by grind
     have q4' : -b * c * (1 - ε) <= -H := by grind
     have q5 := Rat.le_trans q2' r3
     have q6 := Rat.le_trans r4 q4'
     clear tp tn q1 q3 q4 q2 q2' q4' r1 r2 r3 r4 k a3 a4 l1 l2
     exact ⟨by grind, by grind⟩
end
section
def aBy (less : Bool) (t : D) (p : Nat) : Iv × Int :=
 if !aAT t then (aAp, 2) else
 if 0 < cmpD (absD (oneD t)) (intD 16384) then (aAp, 3) else
 if aBb (aAD (if less then aCT (oneD t) p else aBG (oneD t) p) ((p : Int) + 8)) then (aAD (if less then aCT (oneD t) p else aBG (oneD t) p) ((p : Int) + 8), 0) else (aAp, 3)
theorem aGS {t : D} (h : t.av <= 11109) (h0 : t.m ≠ 0) : topD t <= 13 := by
 have h1 := aFq h0
 have h2 := (aCi 14 (k := 16384) rfl).1
 have h3 : ((16384 : Nat) : Rat) = 16384 := rfl
 apply Int.not_lt.1; intro h4
 have := aA7 (show ((14 : Nat) : Int) <= topD t by omega)
 rw [h2, h3] at this
 grind
theorem aVr : p2 (-17000) * 2 <= p2 (-16100) /\ p2 16100 * 2 <= p2 17000 := by
 constructor
 · have := aA7 (show (-17000 : Int) + 1 <= -16100 by omega); rw [aA9, aIX] at this; exact this
 · have := aA7 (show (16100 : Int) + 1 <= 17000 by omega); rw [aA9, aIX] at this; exact this
theorem aR3 {t : D} (h : t.av <= 11109) : ¬ 0 < cmpD (absD t) (intD 16384) := by
 rw [aHH, aPK, aEw, <- aBh]
 have : ((16384 : Int) : Rat) = 16384 := rfl
 rw [this]
 intro h2; grind
theorem aGR (v : Iv) {p : Int} (hp : 1 <= p) (hp2 : p <= 15000) : (aAD v p).lo.canon /\ (aAD v p).hi.canon /\ bl (aAD v p).lo.m <= 15000 /\ bl (aAD v p).hi.m <= 15000 := by
 have b1 := aJr v.lo hp false
 have b2 := aJr v.hi hp true
 exact ⟨aD1 _ hp _, aD1 _ hp _, by unfold aAD; dsimp only; omega, by unfold aAD; dsimp only; omega⟩
theorem aEz {v : Iv} (h : v.lo.canon /\ v.hi.canon /\ bl v.lo.m <= 15000 /\ bl v.hi.m <= 15000) (h1 : p2 (-17000) <= v.lo.av /\ v.lo.av <= p2 17000) (h2 : p2 (-17000) <= v.hi.av /\ v.hi.av <= p2 17000) (h3 : v.lo.v <= v.hi.v) : aBb v = true := by
 unfold aBb
 rw [aKd h.1 h.2.2.1 (.inr h1), aKd h.2.1 h.2.2.2 (.inr h2)]
 simp only [Bool.true_and, decide_eq_true_iff]
 exact (aCV _ _).2 h3
theorem aME {t : D} {p : Nat} (hc : t.canon) (hf : aAT t = true) (ht : t.av <= 11109) (hp8 : 8 <= p) (hp : p <= 9000) :
   aBy false t p = (aAD (aBG t p) ((p : Int) + 8), 0) /\ ExpI (aAD (aBG t p) ((p : Int) + 8)) t.v (p2 (-(p : Int) - 5)) := by
 have hI := aIV (t := t) (p := p) (by omega) (by
   by_cases h0 : t.m = 0
   · exact .inr h0
   · have := aGS ht h0; exact .inl (by omega)) hc
 have hT : ExpI (aAD (aBG t p) ((p : Int) + 8)) t.v (p2 (-(p : Int) - 5)) := by
   refine aSK (by omega) hI (Rat.le_of_lt (aAz _)) (aA7 (by omega)) ?_
   have k := (aCi 2 (k := 4) rfl).1
   have k2 : ((4 : Nat) : Rat) = 4 := rfl
   rw [<- k2, <- k, <- aA9]; exact aA7 (by omega)
 refine ⟨?_, hT⟩
 have hb := aGR (aBG t p) (show 1 <= (p : Int) + 8 by omega) (by omega)
 generalize hV : aAD (aBG t p) ((p : Int) + 8) = V at *
 obtain ⟨a1, a2, a3, a4⟩ := hT
 have hle := aAM a2 a3 Rat.le_refl
 have hav := aBh t
 have hlo := aAM (aG6 (t := t.v) (by split at hav <;> grind)) a3 Rat.le_refl
 have hhi := aAM a2 (aFM (t := t.v) (by split at hav <;> grind)) Rat.le_refl
 obtain ⟨k1, k2⟩ := aVr
 have hσ : p2 (-(p : Int) - 5) <= 1 := by have := aA7 (show -(p : Int) - 5 <= 0 by omega); rwa [aCt] at this
 have hw : V.hi.v <= V.lo.v * 2 := by
   have := Rat.mul_le_mul_of_nonneg_left hσ (Rat.le_of_lt a1); grind
 have e1 : V.lo.av = V.lo.v := by rw [aBh, if_neg (by grind)]
 have e2 : V.hi.av = V.hi.v := by rw [aBh, if_neg (by grind)]
 have hp17 := aAz (-17000)
 have hR : aBb V = true := aEz hb (by rw [e1]; constructor <;> grind) (by rw [e2]; constructor <;> grind) hle
 unfold aBy
 rw [hf, aCL hc]
 simp only [Bool.not_true, Bool.false_eq_true, if_false]
 rw [if_neg (aR3 ht), hV, hR, if_pos rfl]
theorem aKq {t : D} {p : Nat} (hc : t.canon) (hf : aAT t = true) (ht : t.av <= 11109) (h0 : t.m ≠ 0) (hl : p2 (-16900) <= t.av) (hp8 : 8 <= p) (hp : p <= 9000) :
   aBy true t p = (aAD (aCT t p) ((p : Int) + 8), 0) /\ aJP (aAD (aCT t p) ((p : Int) + 8)) t.v (p2 (-(p : Int) - 5)) := by
 have hI := aPw (t := t) (p := p) hp (by have := aGS ht h0; omega) hc h0
 have hT : aJP (aAD (aCT t p) ((p : Int) + 8)) t.v (p2 (-(p : Int) - 5)) := by
   refine aP6 (by omega) hI (Rat.le_of_lt (aAz _)) (aA7 (by omega)) ?_
   have k := (aCi 2 (k := 4) rfl).1
   have k2 : ((4 : Nat) : Rat) = 4 := rfl
   rw [<- k2, <- k, <- aA9]; exact aA7 (by omega)
 refine ⟨?_, hT⟩
 have hb := aGR (aCT t p) (show 1 <= (p : Int) + 8 by omega) (by omega)
 generalize hV : aAD (aCT t p) ((p : Int) + 8) = V at *
 obtain ⟨a1, a2, a3, a4⟩ := hT
 have hle : V.lo.v <= V.hi.v := by have := aAM a1 a2 Rat.le_refl; grind
 have hav := aBh t
 obtain ⟨k1, k2⟩ := aVr
 have hσ : p2 (-(p : Int) - 5) <= 1 := by have := aA7 (show -(p : Int) - 5 <= 0 by omega); rwa [aCt] at this
 have hσ0 := aAz (-(p : Int) - 5)
 have e69 : p2 (-17000) * 65536 <= p2 (-16900) := by
   have k := (aCi 16 (k := 65536) rfl).1
   have k2 : ((65536 : Nat) : Rat) = 65536 := rfl
   rw [<- k2, <- k, <- aA9]; exact aA7 (by omega)
 have h1 : (1 : Rat) <= p2 16100 := by have := aA7 (show (0 : Int) <= 16100 by omega); rwa [aCt] at this
 have hp17 := aAz (-17000)
 have hp16 := aAz (-16900)
 have hR : aBb V = true := by
   by_cases hs : t.v < 0
   · rw [if_pos hs] at hav
     obtain ⟨b1, b2⟩ := a4 hs
     have g0 := aDS (x := 1 + t.av) (by have := aHf t; grind) (aDQ (h := t.av) (aHf t))
     rw [show -t.av = t.v by grind] at g0
     have g1 := aAM a1 g0 Rat.le_refl
     have g2 : t.av <= -V.lo.v * 11110 := by
       have g3 := (aBw (show 0 < 1 + t.av by have := aHf t; grind)).1 g1
       have g4 := Rat.mul_le_mul_of_nonneg_left ht (show 0 <= -V.lo.v by grind)
       grind
     have g5 : -1 <= V.hi.v := by
       have g6 := aAM (show expL t.v 0 from aAV (aG6 (t := t.v) (by grind)) Rat.le_refl (Rat.le_of_lt (aAz _))) a2 Rat.le_refl
       grind
     have hw : -V.lo.v <= -V.hi.v * 2 := by
       have := Rat.mul_le_mul_of_nonneg_left hσ (show 0 <= -V.hi.v by grind); grind
     have e1 : V.lo.av = -V.lo.v := by rw [aBh, if_pos (by grind)]
     have e2 : V.hi.av = -V.hi.v := by rw [aBh, if_pos (by grind)]
     exact aEz hb (by rw [e1]; constructor <;> grind) (by rw [e2]; constructor <;> grind) hle
   · rw [if_neg hs] at hav
     have hs2 : 0 < t.v := by have : t.v ≠ 0 := fun h => h0 (aBL.1 h); grind
     obtain ⟨b1, b2⟩ := a3 hs2
     have g1 := aAM (aDQ (h := t.v) (by grind)) a2 Rat.le_refl
     have g2 := aAM a1 (aFM (t := t.v) (by grind)) Rat.le_refl
     have hw : V.hi.v <= V.lo.v * 2 := by
       have := Rat.mul_le_mul_of_nonneg_left hσ (Rat.le_of_lt b1); grind
     have e1 : V.lo.av = V.lo.v := by rw [aBh, if_neg (by grind)]
     have e2 : V.hi.av = V.hi.v := by rw [aBh, if_neg (by grind)]
     exact aEz hb (by rw [e1]; constructor <;> grind) (by rw [e2]; constructor <;> grind) hle
 unfold aBy
 rw [hf, aCL hc]
 simp only [Bool.not_true, Bool.false_eq_true, if_false, if_true]
 rw [if_neg (aR3 ht), hV, hR, if_pos rfl]
end
section
set_option maxRecDepth 10000
set_option maxHeartbeats 4000000
open Go.RowKit
theorem aVN {v : Iv} {q : Nat} {x : Rat} (h : v.has x) (h0 : 0 <= v.lo.v) : aDa (aBm (aAs v.lo q)) <= aDa (negD (aBm (negD (aAs v.hi q)))) := by
 have hp := aCS q
 have s1 : (aAs v.lo q).v = v.lo.v * ((2 ^ q : Nat) : Rat) := by rw [aE6, aBE]
 have s2 : (aAs v.hi q).v = v.hi.v * ((2 ^ q : Nat) : Rat) := by rw [aE6, aBE]
 obtain ⟨c1, e1, f1, g1⟩ := aHC (aAs v.lo q)
 obtain ⟨c2, e2, f2, g2⟩ := aHC (negD (aAs v.hi q))
 rw [aGj, s2] at f2 g2
 rw [s1] at f1 g1
 have l0 : 0 <= v.lo.v * ((2 ^ q : Nat) : Rat) := Rat.mul_nonneg h0 (Rat.le_of_lt hp)
 have hlh := Rat.mul_le_mul_of_nonneg_right h.1 (Rat.le_of_lt hp)
 have hhh := Rat.mul_le_mul_of_nonneg_right h.2 (Rat.le_of_lt hp)
 have w1 : ∃ n : Int, (aBm (aAs v.lo q)).v = (n : Rat) := by
   refine ⟨(if (aBm (aAs v.lo q)).neg then -1 else 1) * ((aBm (aAs v.lo q)).m * 2 ^ (aBm (aAs v.lo q)).e.toNat : Nat), ?_⟩
   rw [Rat.intCast_mul, Rat.intCast_natCast, Rat.natCast_mul, aEC e1]
   unfold D.v sg
   split <;> grind
 obtain ⟨n, hn⟩ := w1
 have hn0 : 0 <= (aBm (aAs v.lo q)).v := by
   rw [hn] at g1 ⊢
   have : (0 : Rat) < ((n + 1 : Int) : Rat) := by rw [Rat.intCast_add]; have : ((1 : Int) : Rat) = 1 := rfl; grind
   have := Rat.intCast_pos.1 this
   exact Rat.intCast_nonneg.2 (by omega)
 have hv2 : (negD (aBm (negD (aAs v.hi q)))).v = -(aBm (negD (aAs v.hi q))).v := aGj _
 have a1 := aKw e1 hn0
 have a2 := aKw (d := negD (aBm (negD (aAs v.hi q)))) (by rw [aWM c2]; exact e2) (by rw [hv2]; grind)
 rw [hv2] at a2
 generalize hL : aDa (aBm (aAs v.lo q)) = L at *
 generalize hH : aDa (negD (aBm (negD (aAs v.hi q)))) = H at *
 have hLH : L <= H := by
   apply Rat.natCast_le_natCast.1
   grind
 exact hLH
theorem aKn {a k w : Nat} (h : a * 256 ^ k <= 2 ^ w) : bl a <= w + 1 := aC8 (by
 have h1 : a <= a * 256 ^ k := Nat.le_mul_of_pos_right _ (Nat.pow_pos (by decide))
 have h2 : 2 ^ w < 2 ^ (w + 1) := Nat.pow_lt_pow_right (by decide) (by omega)
 omega)
theorem aKD {a : D} {w more : Nat} (hw : 16 <= w) (h0 : 0 <= a.v) (h8 : a.v * 256 <= 1) : (bl (aB1 a w).a <= w + 1 /\ (aB1 a w).e <= 1) /\ ∀ k, bl (aCh (aB1 a w) w more k).a <= w + 1 /\ (aCh (aB1 a w) w more k).e <= 8 := by
 obtain ⟨x1, x2, x3⟩ := aFt (w := w) h0 h8
 have hT := aEx (more := more) hw h0 x1 x2 x3
 refine ⟨⟨aKn (k := 1) (by simpa using x2), x3⟩, fun k => ⟨aKn (hT k).2.1, (hT k).2.2⟩⟩
theorem aLQ {a : D} {w more : Nat} (hw : 16 <= w) (h0 : 0 <= a.v) (h8 : a.v * 256 <= 1) : ib (aBv a w more) <= 2 * w + 70 /\ ie (aBv a w more) <= 3 * w + 70 := by
 have hk := (aEy (more := more) hw h0 h8).2.2.1
 have h1 := aQg (T := aCh (aB1 a w) w more) (B := w + 1) (K := aBR a w more) (fun j => ((aKD hw h0 h8).2 j).1)
 have h2 := aIl (sumF (aCh (aB1 a w) w more) (aBR a w more)) w h1.2
 unfold aBv
 omega
def aXg (a : D) (w more : Nat) (c0 c1 c2 : List AV) (ms : Nat) (σ : St) : Prop := ∃ (t : List (Nat × AV)) (rest : AMem) (k : Nat) (ev od tm : Fx), σ = ⟨t, 47, (27, c0) :: (3, [.lit (.int .i64 ((w : Nat) : Int))]) :: (3, [.lit (.int .i64 ((more : Nat) : Int))]) :: (29, c1) :: (146, [.num (aB1 a w).a, .lit (.int .u64 (((aB1 a w).e : Nat) : Int))]) :: (146, c2) :: (146, [.num 0, .lit (.int .u64 0)]) :: (146, [.num 0, .lit (.int .u64 0)]) :: (171, [.num ev.a, .lit (.int .u64 ((ev.e : Nat) : Int)), .num od.a, .lit (.int .u64 ((od.e : Nat) : Int))]) :: (146, [.num tm.a, .lit (.int .u64 ((tm.e : Nat) : Int))]) :: rest⟩ /\ getT t 1 = .clo 156 [.ptr 4 0, .ptr 1 0, .ptr 2 0] /\ getT t 4 = .ptr 6 0 /\ getT t 5 = .ptr 7 0 /\ getT t 6 = .ptr 8 0 /\ getT t 7 = .ptr 9 0 /\ getT t 8 = .lit (.int .i64 ((k : Nat) : Int)) /\ (k <= aBR a w more) /\ (ev = evF (aCh (aB1 a w) w more) k) /\ (od = odF (aCh (aB1 a w) w more) k) /\ (tm = aCh (aB1 a w) w more k) /\ ms = aBR a w more - k
theorem aJl (a : D) (w more : Nat) (hw : 16 <= w /\ w <= 1000000) (hm2 : more <= 2) (h0 : 0 <= a.v) (h8 : a.v * 256 <= 1) (h : bl a.m <= 1000000000 /\ ae a <= 10000000000) : AC Tryz.prog TabW 127 [dyV a, .lit (.int .i64 ((w : Nat) : Int)), .lit (.int .i64 ((more : Nat) : Int))] (ivV (aBv a w more)) /\ (ib (aBv a w more) <= 2 * w + 70 /\ ie (aBv a w more) <= 3 * w + 70) := by
 have hz := aLQ (more := more) hw.1 h0 h8
 refine ⟨?_, hz⟩
 clear hz
 obtain ⟨kf1, kf2, kf3, kf4⟩ := aEy (more := more) hw.1 h0 h8
 have esz := fun k => aLk (T := aCh (aB1 a w) w more) (B := w + 1) (fun j => ((aKD hw.1 h0 h8).2 j).1) k
 obtain ⟨⟨x1, x2⟩, isz⟩ := aKD (more := more) hw.1 h0 h8
 have hpt := aBS a (by omega)
 have hv : (aAn a).lo.v = a.v := aC6 a
 have hfr := aTG (aAn a) w (by omega) (aVN (aCx a) (by rw [hv]; exact h0))
 have hX : aJM (aAn a) w = aB1 a w := rfl
 rw [hX] at hfr
 refine aAd Tryz.func127 rfl (by kernel_rfl) aAc Tryz.mixed rfl rfl (by kernel_rfl) ?_
 simp only [aAl, Tryz.ntmps127, dyV, ivV, fxV]
 refine aAa fun K1 g1 => ?_
 refine aAb fun os => ?_
 try simp (disch := omega) only [xq, simprocAttr, dyV, ivV, fxV, addE, mulE, aAh, xm4]
 refine g1 _ ?_
 refine aAa fun K2 g2 => ?_
 refine aAB (by kernel_rfl) fun os => ?_
 try simp (disch := omega) only [xq, simprocAttr, dyV, ivV, fxV, addE, mulE, aAh, xm4]
 refine cxd (hpt.1) ?_
 try simp (disch := omega) only [xq, simprocAttr, dyV, ivV, fxV, addE, mulE, aAh, xm4]
 refine cxd (hfr.1) ?_
 try simp (disch := omega) only [xq, simprocAttr, dyV, ivV, fxV, addE, mulE, aAh, xm4]
 refine g2 _ ?_
 refine aAa fun K3 g3 => ?_
 refine aAb fun os => ?_
 try simp (disch := omega) only [xq, simprocAttr, dyV, ivV, fxV, addE, mulE, aAh, xm4]
 refine cxoz (aRA _ (by omega)) (fun z1 => ?_)
 try simp (disch := omega) only [xq, simprocAttr, dyV, ivV, fxV, addE, mulE, aAh, xm4]
 refine cxin Tryz.func154 rfl (by kernel_rfl) aAc Tryz.mixed (by kernel_rfl) ?_
 simp only [aAl, Tryz.ntmps154, dyV, ivV, fxV]
 refine aAa fun K4 g4 => ?_
 refine aAb fun os => ?_
 try simp (disch := omega) only [xq, simprocAttr, dyV, ivV, fxV, addE, mulE, aAh, xm4]
 refine g4 _ ?_
 refine aAa fun K5 g5 => ?_
 refine aAb fun os => ?_
 try simp (disch := omega) only [xq, simprocAttr, dyV, ivV, fxV, addE, mulE, aAh, xm4]
 refine g5 _ ?_
 refine aAa fun K6 g6 => ?_
 refine aAb fun os => ?_
 try simp (disch := omega) only [xq, simprocAttr, dyV, ivV, fxV, addE, mulE, aAh, xm4]
 refine g6 _ ?_
 refine aAa fun K7 g7 => ?_
 refine aAa fun K8 g8 => ?_
 refine aAb fun os => ?_
 try simp (disch := omega) only [xq, simprocAttr, dyV, ivV, fxV, addE, mulE, aAh, xm4]
 refine g8 _ ?_
 refine aAv ?_
 refine aDg (aXg a w more _ _ _) _ ⟨_, [], 0, ⟨0, 0⟩, ⟨0, 0⟩, _, rfl, (by first | rfl | assumption | (simp (disch := omega) only [xq, simprocAttr, dyV, ivV, fxV, addE, mulE, aAh, xm4] <;> rfl)), (by first | rfl | assumption | (simp (disch := omega) only [xq, simprocAttr, dyV, ivV, fxV, addE, mulE, aAh, xm4] <;> rfl)), (by first | rfl | assumption | (simp (disch := omega) only [xq, simprocAttr, dyV, ivV, fxV, addE, mulE, aAh, xm4] <;> rfl)), (by first | rfl | assumption | (simp (disch := omega) only [xq, simprocAttr, dyV, ivV, fxV, addE, mulE, aAh, xm4] <;> rfl)), (by first | rfl | assumption | (simp (disch := omega) only [xq, simprocAttr, dyV, ivV, fxV, addE, mulE, aAh, xm4] <;> rfl)), (by first | rfl | assumption | (simp (disch := omega) only [xq, simprocAttr, dyV, ivV, fxV, addE, mulE, aAh, xm4] <;> rfl)), (Nat.zero_le _), rfl, rfl, rfl, rfl⟩ ?_
 rintro ms _ ⟨t, rest, k, ev, od, tm, rfl, SmallR_t1, SmallR_t4, SmallR_t5, SmallR_t6, SmallR_t7, SmallR_t8, hk, hev, hod, htm, rfl⟩
 refine aAa fun K9 g9 => ?_
 refine aAa fun K10 g10 => ?_
 refine aAx ?_
 try simp (disch := omega) only [xq, simprocAttr, dyV, ivV, fxV, addE, mulE, aAh, xm4, SmallR_t1, SmallR_t4, SmallR_t5, SmallR_t6, SmallR_t7, SmallR_t8]
 refine gx (fun c1 => ?_) (fun c1 => ?_)
 ·rw [c1]
  try simp only [xn] at c1
  try simp (disch := omega) only [xq, simprocAttr, dyV, ivV, fxV, addE, mulE, aAh, xm4, SmallR_t1, SmallR_t4, SmallR_t5, SmallR_t6, SmallR_t7, SmallR_t8]
  refine g10 _ ?_
  refine aAf (by first | rfl | assumption) (fun c2 => ?_) (fun c2 => ?_)
  ·try simp only [xn] at c2
   refine aAk ?_
   simp only [aAm, aAg, reduceIte, Nat.reduceEqDiff]
   refine g9 _ ?_
   refine aAa fun K11 g11 => ?_
   refine aAv ?_
   refine aAa fun K12 g12 => ?_
   obtain ⟨i1, i2⟩ := isz k
   obtain ⟨v1, v2, v3, v4⟩ := esz k
   rw [<- htm] at i1 i2
   rw [<- hev] at v1 v3
   rw [<- hod] at v2 v4
   have hcont : tm.a ≠ 0 \/ k = 0 := by first | exact .inr (by omega) | exact .inl ((len0 _).1 c1)
   have hkK : k < aBR a w more := by
     rcases Nat.lt_or_ge k (aBR a w more) with h | h
     · exact h
     · exfalso
       obtain rfl : k = aBR a w more := by omega
       rw [htm] at hcont
       omega
   rcases (show (((k : Nat) : Int).tmod 2 = 0 /\ k % 2 = 0) \/ (((k : Nat) : Int).tmod 2 = 1 /\ k % 2 = 1) from by rw [Int.tmod_eq_emod_of_nonneg (by omega)]; omega) with ⟨hm, hk2⟩ | ⟨hm, hk2⟩
   ·refine aAB (by kernel_rfl) fun os => ?_
    try simp (disch := omega) only [xq, simprocAttr, dyV, ivV, fxV, addE, mulE, aAh, xm4, SmallR_t1, SmallR_t4, SmallR_t5, SmallR_t6, SmallR_t7, SmallR_t8, hm]
    refine cxdz (aDJ _ _ (by omega)) (fun z2 => ?_)
    try simp (disch := omega) only [xq, simprocAttr, dyV, ivV, fxV, addE, mulE, aAh, xm4, SmallR_t1, SmallR_t4, SmallR_t5, SmallR_t6, SmallR_t7, SmallR_t8, hm]
    refine g12 _ ?_
    refine aAb fun os => ?_
    try simp (disch := omega) only [xq, simprocAttr, dyV, ivV, fxV, addE, mulE, aAh, xm4, SmallR_t1, SmallR_t4, SmallR_t5, SmallR_t6, SmallR_t7, SmallR_t8, hm]
    refine cxin Tryz.func156 rfl (by kernel_rfl) aAc Tryz.mixed (by kernel_rfl) ?_
    simp only [aAl, Tryz.ntmps156, dyV, ivV, fxV]
    refine aAa fun K13 g13 => ?_
    refine aAb fun os => ?_
    try simp (disch := omega) only [xq, simprocAttr, dyV, ivV, fxV, addE, mulE, aAh, xm4, SmallR_t1, SmallR_t4, SmallR_t5, SmallR_t6, SmallR_t7, SmallR_t8, hm]
    refine g13 _ ?_
    refine aAa fun K14 g14 => ?_
    refine aAB (by kernel_rfl) fun os => ?_
    try simp (disch := omega) only [xq, simprocAttr, dyV, ivV, fxV, addE, mulE, aAh, xm4, SmallR_t1, SmallR_t4, SmallR_t5, SmallR_t6, SmallR_t7, SmallR_t8, hm]
    refine cxdz (aLd _ _ _ (by omega)) (fun z3 => ?_)
    try simp (disch := omega) only [xq, simprocAttr, dyV, ivV, fxV, addE, mulE, aAh, xm4, SmallR_t1, SmallR_t4, SmallR_t5, SmallR_t6, SmallR_t7, SmallR_t8, hm]
    rw [show IntKind.u64.wrap (((k : Nat) : Int) + 1 + ((more : Nat) : Int)) = ((k + 1 + more : Nat) : Int) from by rw [aCn]; omega]
    refine cxdz (aCm _ _ (by omega) (by omega)) (fun z4 => ?_)
    try simp (disch := omega) only [xq, simprocAttr, dyV, ivV, fxV, addE, mulE, aAh, xm4, SmallR_t1, SmallR_t4, SmallR_t5, SmallR_t6, SmallR_t7, SmallR_t8, hm]
    refine g14 _ ?_
    refine aAe ?_
    refine aCU (by simp only [resX, resV, Tryz.results156]; simp (disch := omega) only [xq, simprocAttr, dyV, ivV, fxV, addE, mulE, aAh, xm4, SmallR_t1, SmallR_t4, SmallR_t5, SmallR_t6, SmallR_t7, SmallR_t8, hm]; rfl) ?_
    simp only [opsY]
    try simp (disch := omega) only [xq, simprocAttr, dyV, ivV, fxV, addE, mulE, aAh, xm4, SmallR_t1, SmallR_t4, SmallR_t5, SmallR_t6, SmallR_t7, SmallR_t8, hm]
    refine g11 _ ?_
    refine aAb fun os => ?_
    try simp (disch := omega) only [xq, simprocAttr, dyV, ivV, fxV, addE, mulE, aAh, xm4, SmallR_t1, SmallR_t4, SmallR_t5, SmallR_t6, SmallR_t7, SmallR_t8, hm]
    exact ⟨_, (by omega), ⟨_, _, (k + 1), _, _, _, rfl, (by first | rfl | assumption | (simp (disch := omega) only [xq, simprocAttr, dyV, ivV, fxV, addE, mulE, aAh, xm4, SmallR_t1, SmallR_t4, SmallR_t5, SmallR_t6, SmallR_t7, SmallR_t8, hm] <;> rfl)), (by first | rfl | assumption | (simp (disch := omega) only [xq, simprocAttr, dyV, ivV, fxV, addE, mulE, aAh, xm4, SmallR_t1, SmallR_t4, SmallR_t5, SmallR_t6, SmallR_t7, SmallR_t8, hm] <;> rfl)), (by first | rfl | assumption | (simp (disch := omega) only [xq, simprocAttr, dyV, ivV, fxV, addE, mulE, aAh, xm4, SmallR_t1, SmallR_t4, SmallR_t5, SmallR_t6, SmallR_t7, SmallR_t8, hm] <;> rfl)), (by first | rfl | assumption | (simp (disch := omega) only [xq, simprocAttr, dyV, ivV, fxV, addE, mulE, aAh, xm4, SmallR_t1, SmallR_t4, SmallR_t5, SmallR_t6, SmallR_t7, SmallR_t8, hm] <;> rfl)), (by first | rfl | assumption | (simp (disch := omega) only [xq, simprocAttr, dyV, ivV, fxV, addE, mulE, aAh, xm4, SmallR_t1, SmallR_t4, SmallR_t5, SmallR_t6, SmallR_t7, SmallR_t8, hm] <;> rfl)), (by first | rfl | assumption | (simp (disch := omega) only [xq, simprocAttr, dyV, ivV, fxV, addE, mulE, aAh, xm4, SmallR_t1, SmallR_t4, SmallR_t5, SmallR_t6, SmallR_t7, SmallR_t8, hm] <;> rfl)), (by omega), (by simp only [evF, hk2, hev, htm, reduceIte, Nat.reduceEqDiff]), (by simp only [odF, hk2, hod, htm, reduceIte, Nat.reduceEqDiff]), (by rw [htm]; rfl), rfl⟩⟩
   ·refine aAB (by kernel_rfl) fun os => ?_
    try simp (disch := omega) only [xq, simprocAttr, dyV, ivV, fxV, addE, mulE, aAh, xm4, SmallR_t1, SmallR_t4, SmallR_t5, SmallR_t6, SmallR_t7, SmallR_t8, hm]
    refine cxdz (aDJ _ _ (by omega)) (fun z5 => ?_)
    try simp (disch := omega) only [xq, simprocAttr, dyV, ivV, fxV, addE, mulE, aAh, xm4, SmallR_t1, SmallR_t4, SmallR_t5, SmallR_t6, SmallR_t7, SmallR_t8, hm]
    refine g12 _ ?_
    refine aAb fun os => ?_
    try simp (disch := omega) only [xq, simprocAttr, dyV, ivV, fxV, addE, mulE, aAh, xm4, SmallR_t1, SmallR_t4, SmallR_t5, SmallR_t6, SmallR_t7, SmallR_t8, hm]
    refine cxin Tryz.func156 rfl (by kernel_rfl) aAc Tryz.mixed (by kernel_rfl) ?_
    simp only [aAl, Tryz.ntmps156, dyV, ivV, fxV]
    refine aAa fun K15 g15 => ?_
    refine aAb fun os => ?_
    try simp (disch := omega) only [xq, simprocAttr, dyV, ivV, fxV, addE, mulE, aAh, xm4, SmallR_t1, SmallR_t4, SmallR_t5, SmallR_t6, SmallR_t7, SmallR_t8, hm]
    refine g15 _ ?_
    refine aAa fun K16 g16 => ?_
    refine aAB (by kernel_rfl) fun os => ?_
    try simp (disch := omega) only [xq, simprocAttr, dyV, ivV, fxV, addE, mulE, aAh, xm4, SmallR_t1, SmallR_t4, SmallR_t5, SmallR_t6, SmallR_t7, SmallR_t8, hm]
    refine cxdz (aLd _ _ _ (by omega)) (fun z6 => ?_)
    try simp (disch := omega) only [xq, simprocAttr, dyV, ivV, fxV, addE, mulE, aAh, xm4, SmallR_t1, SmallR_t4, SmallR_t5, SmallR_t6, SmallR_t7, SmallR_t8, hm]
    rw [show IntKind.u64.wrap (((k : Nat) : Int) + 1 + ((more : Nat) : Int)) = ((k + 1 + more : Nat) : Int) from by rw [aCn]; omega]
    refine cxdz (aCm _ _ (by omega) (by omega)) (fun z7 => ?_)
    try simp (disch := omega) only [xq, simprocAttr, dyV, ivV, fxV, addE, mulE, aAh, xm4, SmallR_t1, SmallR_t4, SmallR_t5, SmallR_t6, SmallR_t7, SmallR_t8, hm]
    refine g16 _ ?_
    refine aAe ?_
    refine aCU (by simp only [resX, resV, Tryz.results156]; simp (disch := omega) only [xq, simprocAttr, dyV, ivV, fxV, addE, mulE, aAh, xm4, SmallR_t1, SmallR_t4, SmallR_t5, SmallR_t6, SmallR_t7, SmallR_t8, hm]; rfl) ?_
    simp only [opsY]
    try simp (disch := omega) only [xq, simprocAttr, dyV, ivV, fxV, addE, mulE, aAh, xm4, SmallR_t1, SmallR_t4, SmallR_t5, SmallR_t6, SmallR_t7, SmallR_t8, hm]
    refine g11 _ ?_
    refine aAb fun os => ?_
    try simp (disch := omega) only [xq, simprocAttr, dyV, ivV, fxV, addE, mulE, aAh, xm4, SmallR_t1, SmallR_t4, SmallR_t5, SmallR_t6, SmallR_t7, SmallR_t8, hm]
    exact ⟨_, (by omega), ⟨_, _, (k + 1), _, _, _, rfl, (by first | rfl | assumption | (simp (disch := omega) only [xq, simprocAttr, dyV, ivV, fxV, addE, mulE, aAh, xm4, SmallR_t1, SmallR_t4, SmallR_t5, SmallR_t6, SmallR_t7, SmallR_t8, hm] <;> rfl)), (by first | rfl | assumption | (simp (disch := omega) only [xq, simprocAttr, dyV, ivV, fxV, addE, mulE, aAh, xm4, SmallR_t1, SmallR_t4, SmallR_t5, SmallR_t6, SmallR_t7, SmallR_t8, hm] <;> rfl)), (by first | rfl | assumption | (simp (disch := omega) only [xq, simprocAttr, dyV, ivV, fxV, addE, mulE, aAh, xm4, SmallR_t1, SmallR_t4, SmallR_t5, SmallR_t6, SmallR_t7, SmallR_t8, hm] <;> rfl)), (by first | rfl | assumption | (simp (disch := omega) only [xq, simprocAttr, dyV, ivV, fxV, addE, mulE, aAh, xm4, SmallR_t1, SmallR_t4, SmallR_t5, SmallR_t6, SmallR_t7, SmallR_t8, hm] <;> rfl)), (by first | rfl | assumption | (simp (disch := omega) only [xq, simprocAttr, dyV, ivV, fxV, addE, mulE, aAh, xm4, SmallR_t1, SmallR_t4, SmallR_t5, SmallR_t6, SmallR_t7, SmallR_t8, hm] <;> rfl)), (by first | rfl | assumption | (simp (disch := omega) only [xq, simprocAttr, dyV, ivV, fxV, addE, mulE, aAh, xm4, SmallR_t1, SmallR_t4, SmallR_t5, SmallR_t6, SmallR_t7, SmallR_t8, hm] <;> rfl)), (by omega), (by simp only [evF, hk2, hev, htm, reduceIte, Nat.reduceEqDiff]), (by simp only [odF, hk2, hod, htm, reduceIte, Nat.reduceEqDiff]), (by rw [htm]; rfl), rfl⟩⟩
  ·try simp only [xn] at c2
   refine aDh ?_
   simp only [aAm, aAg, reduceIte, Nat.reduceEqDiff]
   refine g7 _ ?_
   refine aAa fun K17 g17 => ?_
   obtain ⟨i1, i2⟩ := isz k
   rw [<- htm] at i1 i2
   have w4 : IntKind.u64.wrap (((tm.e : Nat) : Int) + 4) = ((tm.e + 4 : Nat) : Int) := by rw [aCn]; omega
   have fin : k = aBR a w more := by
     apply Classical.byContradiction
     intro hne
     exact kf4 k (by omega) (by omega) (by rw [<- htm]; have := (len0 tm.a).2; omega)
   obtain ⟨v1, v2, v3, v4⟩ := esz k
   rw [<- hev] at v1 v3
   rw [<- hod] at v2 v4
   refine aAB (by kernel_rfl) fun os => ?_
   try simp (disch := omega) only [xq, simprocAttr, dyV, ivV, fxV, addE, mulE, aAh, xm4, SmallR_t1, SmallR_t4, SmallR_t5, SmallR_t6, SmallR_t7, SmallR_t8, w4]
   refine cxdz (aG4 _ _) (fun z8 => ?_)
   try simp (disch := omega) only [xq, simprocAttr, dyV, ivV, fxV, addE, mulE, aAh, xm4, SmallR_t1, SmallR_t4, SmallR_t5, SmallR_t6, SmallR_t7, SmallR_t8, w4]
   refine cxdz (aG4 _ _) (fun z9 => ?_)
   try simp (disch := omega) only [xq, simprocAttr, dyV, ivV, fxV, addE, mulE, aAh, xm4, SmallR_t1, SmallR_t4, SmallR_t5, SmallR_t6, SmallR_t7, SmallR_t8, w4]
   refine g17 _ ?_
   refine aAe ?_
   refine aCU (by simp only [resX, resV, Tryz.results154]; simp (disch := omega) only [xq, simprocAttr, dyV, ivV, fxV, addE, mulE, aAh, xm4, SmallR_t1, SmallR_t4, SmallR_t5, SmallR_t6, SmallR_t7, SmallR_t8, w4]; rfl) ?_
   simp only [opsY]
   try simp (disch := omega) only [xq, simprocAttr, dyV, ivV, fxV, addE, mulE, aAh, xm4, SmallR_t1, SmallR_t4, SmallR_t5, SmallR_t6, SmallR_t7, SmallR_t8, w4]
   refine g3 _ ?_
   refine aAa fun K18 g18 => ?_
   refine aAB (by kernel_rfl) fun os => ?_
   try simp (disch := omega) only [xq, simprocAttr, dyV, ivV, fxV, addE, mulE, aAh, xm4, SmallR_t1, SmallR_t4, SmallR_t5, SmallR_t6, SmallR_t7, SmallR_t8, w4]
   refine cxdz (aDJ _ _ (by omega)) (fun z10 => ?_)
   try simp (disch := omega) only [xq, simprocAttr, dyV, ivV, fxV, addE, mulE, aAh, xm4, SmallR_t1, SmallR_t4, SmallR_t5, SmallR_t6, SmallR_t7, SmallR_t8, w4]
   refine cxdz (aLe _ _ (by omega)) (fun z11 => ?_)
   try simp (disch := omega) only [xq, simprocAttr, dyV, ivV, fxV, addE, mulE, aAh, xm4, SmallR_t1, SmallR_t4, SmallR_t5, SmallR_t6, SmallR_t7, SmallR_t8, w4]
   refine g18 _ ?_
   refine aAe ?_
   simp only [endX, resX, resV, Tryz.results127]
   try simp (disch := omega) only [xq, simprocAttr, dyV, ivV, fxV, addE, mulE, aAh, xm4, SmallR_t1, SmallR_t4, SmallR_t5, SmallR_t6, SmallR_t7, SmallR_t8, w4]
   rw [hev, hod, htm, fin]
   rfl
 ·rw [c1]
  try simp only [xn] at c1
  try simp (disch := omega) only [xq, simprocAttr, dyV, ivV, fxV, addE, mulE, aAh, xm4, SmallR_t1, SmallR_t4, SmallR_t5, SmallR_t6, SmallR_t7, SmallR_t8]
  refine g10 _ ?_
  refine aAf (by first | rfl | assumption) (fun c3 => ?_) (fun c3 => ?_)
  ·try simp only [xn] at c3
   refine aAk ?_
   simp only [aAm, aAg, reduceIte, Nat.reduceEqDiff]
   refine g9 _ ?_
   refine aAa fun K19 g19 => ?_
   refine aAv ?_
   refine aAa fun K20 g20 => ?_
   obtain ⟨i1, i2⟩ := isz k
   obtain ⟨v1, v2, v3, v4⟩ := esz k
   rw [<- htm] at i1 i2
   rw [<- hev] at v1 v3
   rw [<- hod] at v2 v4
   have hcont : tm.a ≠ 0 \/ k = 0 := by first | exact .inr (by omega) | exact .inl ((len0 _).1 c1)
   have hkK : k < aBR a w more := by
     rcases Nat.lt_or_ge k (aBR a w more) with h | h
     · exact h
     · exfalso
       obtain rfl : k = aBR a w more := by omega
       rw [htm] at hcont
       omega
   rcases (show (((k : Nat) : Int).tmod 2 = 0 /\ k % 2 = 0) \/ (((k : Nat) : Int).tmod 2 = 1 /\ k % 2 = 1) from by rw [Int.tmod_eq_emod_of_nonneg (by omega)]; omega) with ⟨hm, hk2⟩ | ⟨hm, hk2⟩
   ·refine aAB (by kernel_rfl) fun os => ?_
    try simp (disch := omega) only [xq, simprocAttr, dyV, ivV, fxV, addE, mulE, aAh, xm4, SmallR_t1, SmallR_t4, SmallR_t5, SmallR_t6, SmallR_t7, SmallR_t8, hm]
    refine cxdz (aDJ _ _ (by omega)) (fun z12 => ?_)
    try simp (disch := omega) only [xq, simprocAttr, dyV, ivV, fxV, addE, mulE, aAh, xm4, SmallR_t1, SmallR_t4, SmallR_t5, SmallR_t6, SmallR_t7, SmallR_t8, hm]
    refine g20 _ ?_
    refine aAb fun os => ?_
    try simp (disch := omega) only [xq, simprocAttr, dyV, ivV, fxV, addE, mulE, aAh, xm4, SmallR_t1, SmallR_t4, SmallR_t5, SmallR_t6, SmallR_t7, SmallR_t8, hm]
    refine cxin Tryz.func156 rfl (by kernel_rfl) aAc Tryz.mixed (by kernel_rfl) ?_
    simp only [aAl, Tryz.ntmps156, dyV, ivV, fxV]
    refine aAa fun K21 g21 => ?_
    refine aAb fun os => ?_
    try simp (disch := omega) only [xq, simprocAttr, dyV, ivV, fxV, addE, mulE, aAh, xm4, SmallR_t1, SmallR_t4, SmallR_t5, SmallR_t6, SmallR_t7, SmallR_t8, hm]
    refine g21 _ ?_
    refine aAa fun K22 g22 => ?_
    refine aAB (by kernel_rfl) fun os => ?_
    try simp (disch := omega) only [xq, simprocAttr, dyV, ivV, fxV, addE, mulE, aAh, xm4, SmallR_t1, SmallR_t4, SmallR_t5, SmallR_t6, SmallR_t7, SmallR_t8, hm]
    refine cxdz (aLd _ _ _ (by omega)) (fun z13 => ?_)
    try simp (disch := omega) only [xq, simprocAttr, dyV, ivV, fxV, addE, mulE, aAh, xm4, SmallR_t1, SmallR_t4, SmallR_t5, SmallR_t6, SmallR_t7, SmallR_t8, hm]
    rw [show IntKind.u64.wrap (((k : Nat) : Int) + 1 + ((more : Nat) : Int)) = ((k + 1 + more : Nat) : Int) from by rw [aCn]; omega]
    refine cxdz (aCm _ _ (by omega) (by omega)) (fun z14 => ?_)
    try simp (disch := omega) only [xq, simprocAttr, dyV, ivV, fxV, addE, mulE, aAh, xm4, SmallR_t1, SmallR_t4, SmallR_t5, SmallR_t6, SmallR_t7, SmallR_t8, hm]
    refine g22 _ ?_
    refine aAe ?_
    refine aCU (by simp only [resX, resV, Tryz.results156]; simp (disch := omega) only [xq, simprocAttr, dyV, ivV, fxV, addE, mulE, aAh, xm4, SmallR_t1, SmallR_t4, SmallR_t5, SmallR_t6, SmallR_t7, SmallR_t8, hm]; rfl) ?_
    simp only [opsY]
    try simp (disch := omega) only [xq, simprocAttr, dyV, ivV, fxV, addE, mulE, aAh, xm4, SmallR_t1, SmallR_t4, SmallR_t5, SmallR_t6, SmallR_t7, SmallR_t8, hm]
    refine g19 _ ?_
    refine aAb fun os => ?_
    try simp (disch := omega) only [xq, simprocAttr, dyV, ivV, fxV, addE, mulE, aAh, xm4, SmallR_t1, SmallR_t4, SmallR_t5, SmallR_t6, SmallR_t7, SmallR_t8, hm]
    exact ⟨_, (by omega), ⟨_, _, (k + 1), _, _, _, rfl, (by first | rfl | assumption | (simp (disch := omega) only [xq, simprocAttr, dyV, ivV, fxV, addE, mulE, aAh, xm4, SmallR_t1, SmallR_t4, SmallR_t5, SmallR_t6, SmallR_t7, SmallR_t8, hm] <;> rfl)), (by first | rfl | assumption | (simp (disch := omega) only [xq, simprocAttr, dyV, ivV, fxV, addE, mulE, aAh, xm4, SmallR_t1, SmallR_t4, SmallR_t5, SmallR_t6, SmallR_t7, SmallR_t8, hm] <;> rfl)), (by first | rfl | assumption | (simp (disch := omega) only [xq, simprocAttr, dyV, ivV, fxV, addE, mulE, aAh, xm4, SmallR_t1, SmallR_t4, SmallR_t5, SmallR_t6, SmallR_t7, SmallR_t8, hm] <;> rfl)), (by first | rfl | assumption | (simp (disch := omega) only [xq, simprocAttr, dyV, ivV, fxV, addE, mulE, aAh, xm4, SmallR_t1, SmallR_t4, SmallR_t5, SmallR_t6, SmallR_t7, SmallR_t8, hm] <;> rfl)), (by first | rfl | assumption | (simp (disch := omega) only [xq, simprocAttr, dyV, ivV, fxV, addE, mulE, aAh, xm4, SmallR_t1, SmallR_t4, SmallR_t5, SmallR_t6, SmallR_t7, SmallR_t8, hm] <;> rfl)), (by first | rfl | assumption | (simp (disch := omega) only [xq, simprocAttr, dyV, ivV, fxV, addE, mulE, aAh, xm4, SmallR_t1, SmallR_t4, SmallR_t5, SmallR_t6, SmallR_t7, SmallR_t8, hm] <;> rfl)), (by omega), (by simp only [evF, hk2, hev, htm, reduceIte, Nat.reduceEqDiff]), (by simp only [odF, hk2, hod, htm, reduceIte, Nat.reduceEqDiff]), (by rw [htm]; rfl), rfl⟩⟩
   ·refine aAB (by kernel_rfl) fun os => ?_
    try simp (disch := omega) only [xq, simprocAttr, dyV, ivV, fxV, addE, mulE, aAh, xm4, SmallR_t1, SmallR_t4, SmallR_t5, SmallR_t6, SmallR_t7, SmallR_t8, hm]
    refine cxdz (aDJ _ _ (by omega)) (fun z15 => ?_)
    try simp (disch := omega) only [xq, simprocAttr, dyV, ivV, fxV, addE, mulE, aAh, xm4, SmallR_t1, SmallR_t4, SmallR_t5, SmallR_t6, SmallR_t7, SmallR_t8, hm]
    refine g20 _ ?_
    refine aAb fun os => ?_
    try simp (disch := omega) only [xq, simprocAttr, dyV, ivV, fxV, addE, mulE, aAh, xm4, SmallR_t1, SmallR_t4, SmallR_t5, SmallR_t6, SmallR_t7, SmallR_t8, hm]
    refine cxin Tryz.func156 rfl (by kernel_rfl) aAc Tryz.mixed (by kernel_rfl) ?_
    simp only [aAl, Tryz.ntmps156, dyV, ivV, fxV]
    refine aAa fun K23 g23 => ?_
    refine aAb fun os => ?_
    try simp (disch := omega) only [xq, simprocAttr, dyV, ivV, fxV, addE, mulE, aAh, xm4, SmallR_t1, SmallR_t4, SmallR_t5, SmallR_t6, SmallR_t7, SmallR_t8, hm]
    refine g23 _ ?_
    refine aAa fun K24 g24 => ?_
    refine aAB (by kernel_rfl) fun os => ?_
    try simp (disch := omega) only [xq, simprocAttr, dyV, ivV, fxV, addE, mulE, aAh, xm4, SmallR_t1, SmallR_t4, SmallR_t5, SmallR_t6, SmallR_t7, SmallR_t8, hm]
    refine cxdz (aLd _ _ _ (by omega)) (fun z16 => ?_)
    try simp (disch := omega) only [xq, simprocAttr, dyV, ivV, fxV, addE, mulE, aAh, xm4, SmallR_t1, SmallR_t4, SmallR_t5, SmallR_t6, SmallR_t7, SmallR_t8, hm]
    rw [show IntKind.u64.wrap (((k : Nat) : Int) + 1 + ((more : Nat) : Int)) = ((k + 1 + more : Nat) : Int) from by rw [aCn]; omega]
    refine cxdz (aCm _ _ (by omega) (by omega)) (fun z17 => ?_)
    try simp (disch := omega) only [xq, simprocAttr, dyV, ivV, fxV, addE, mulE, aAh, xm4, SmallR_t1, SmallR_t4, SmallR_t5, SmallR_t6, SmallR_t7, SmallR_t8, hm]
    refine g24 _ ?_
    refine aAe ?_
    refine aCU (by simp only [resX, resV, Tryz.results156]; simp (disch := omega) only [xq, simprocAttr, dyV, ivV, fxV, addE, mulE, aAh, xm4, SmallR_t1, SmallR_t4, SmallR_t5, SmallR_t6, SmallR_t7, SmallR_t8, hm]; rfl) ?_
    simp only [opsY]
    try simp (disch := omega) only [xq, simprocAttr, dyV, ivV, fxV, addE, mulE, aAh, xm4, SmallR_t1, SmallR_t4, SmallR_t5, SmallR_t6, SmallR_t7, SmallR_t8, hm]
    refine g19 _ ?_
    refine aAb fun os => ?_
    try simp (disch := omega) only [xq, simprocAttr, dyV, ivV, fxV, addE, mulE, aAh, xm4, SmallR_t1, SmallR_t4, SmallR_t5, SmallR_t6, SmallR_t7, SmallR_t8, hm]
    exact ⟨_, (by omega), ⟨_, _, (k + 1), _, _, _, rfl, (by first | rfl | assumption | (simp (disch := omega) only [xq, simprocAttr, dyV, ivV, fxV, addE, mulE, aAh, xm4, SmallR_t1, SmallR_t4, SmallR_t5, SmallR_t6, SmallR_t7, SmallR_t8, hm] <;> rfl)), (by first | rfl | assumption | (simp (disch := omega) only [xq, simprocAttr, dyV, ivV, fxV, addE, mulE, aAh, xm4, SmallR_t1, SmallR_t4, SmallR_t5, SmallR_t6, SmallR_t7, SmallR_t8, hm] <;> rfl)), (by first | rfl | assumption | (simp (disch := omega) only [xq, simprocAttr, dyV, ivV, fxV, addE, mulE, aAh, xm4, SmallR_t1, SmallR_t4, SmallR_t5, SmallR_t6, SmallR_t7, SmallR_t8, hm] <;> rfl)), (by first | rfl | assumption | (simp (disch := omega) only [xq, simprocAttr, dyV, ivV, fxV, addE, mulE, aAh, xm4, SmallR_t1, SmallR_t4, SmallR_t5, SmallR_t6, SmallR_t7, SmallR_t8, hm] <;> rfl)), (by first | rfl | assumption | (simp (disch := omega) only [xq, simprocAttr, dyV, ivV, fxV, addE, mulE, aAh, xm4, SmallR_t1, SmallR_t4, SmallR_t5, SmallR_t6, SmallR_t7, SmallR_t8, hm] <;> rfl)), (by first | rfl | assumption | (simp (disch := omega) only [xq, simprocAttr, dyV, ivV, fxV, addE, mulE, aAh, xm4, SmallR_t1, SmallR_t4, SmallR_t5, SmallR_t6, SmallR_t7, SmallR_t8, hm] <;> rfl)), (by omega), (by simp only [evF, hk2, hev, htm, reduceIte, Nat.reduceEqDiff]), (by simp only [odF, hk2, hod, htm, reduceIte, Nat.reduceEqDiff]), (by rw [htm]; rfl), rfl⟩⟩
  ·exact absurd c3 (by decide)
end
section
set_option maxRecDepth 10000
set_option maxHeartbeats 4000000
open Go.RowKit
theorem aFY {a : D} (hn : a.neg = false) : 0 <= (aAs a (-(aAH a : Int))).v /\ (aAs a (-(aAH a : Int))).v * 256 <= 1 := by
 have hav := aHQ hn
 have hav0 := aHf a
 have h8 : a.av * p2 (-(aAH a : Int)) * 256 <= 1 := by
   by_cases h0 : a.m = 0
   · have : a.av = 0 := by unfold D.av; rw [h0]; have : ((0 : Nat) : Rat) = 0 := rfl; grind
     rw [this]; grind
   · have h1 := aFk a
     have h2 : topD a + 1 <= (aAH a : Int) - 8 := by unfold aAH; rw [if_neg h0]; omega
     have h3 := aA7 h2
     have h4 := aAz (-(aAH a : Int))
     have h5 := Rat.mul_le_mul_of_nonneg_right (Rat.le_trans (Rat.le_of_lt h1) h3) (Rat.le_of_lt h4)
     rw [<- aA9, show (aAH a : Int) - 8 + -(aAH a : Int) = -8 by omega] at h5
     have e8 : p2 (-8) * 256 = 1 := by
       have := aDA 8
       have e : p2 8 = 256 := by have := aBE 8; exact this
       rwa [e] at this
     grind
 generalize hS : aAH a = s at *
 have hv0 : (aAs a (-(s : Int))).v = a.av * p2 (-(s : Int)) := by rw [aE6, hav]
 have h0 : 0 <= (aAs a (-(s : Int))).v := by rw [hv0]; exact Rat.mul_nonneg hav0 (Rat.le_of_lt (aAz _))
 have h8' : (aAs a (-(s : Int))).v * 256 <= 1 := by rw [hv0]; exact h8
 exact ⟨h0, h8'⟩
theorem aNc {i : Nat} (h : i <= 23) : 2 ^ i <= 8388608 := Nat.le_trans (Nat.pow_le_pow_right (by decide) h) (by decide)
theorem aJx {a : D} (ht : topD a <= 14 \/ a.m = 0) : aAH a <= 23 := by unfold aAH; split <;> omega
theorem aUv {w : Nat} : ∀ (n : Nat) (v : Iv) (E : Nat), ib v <= 2 * w + 70 -> ie v + 17 * w + 600 <= E -> ib (sqI ((w : Nat) + 8 : Int) n v) <= 2 * w + 70 /\ ie (sqI ((w : Nat) + 8 : Int) n v) + 17 * w + 600 <= E * 2 ^ n
 | 0, v, E, h1, h2 => ⟨h1, by rw [Nat.pow_zero, Nat.mul_one]; exact h2⟩
 | n + 1, v, E, h1, h2 => by
   have ht := aGT v v ((w : Nat) + 8 : Int)
   have := aUv (w := w) n (aAF v v ((w : Nat) + 8 : Int)) (2 * E) (by omega) (by omega)
   simp only [sqI]
   refine ⟨this.1, ?_⟩
   have h3 := this.2
   rw [Nat.pow_succ]
   rw [Nat.mul_comm 2 E, Nat.mul_assoc, Nat.mul_comm 2 (2 ^ n)] at h3
   exact h3
theorem aSo {a : D} {p : Nat} (hn : a.neg = false) (ht : topD a <= 14 \/ a.m = 0) (hp : p <= 4160) : ib (aBd a p) <= 8700 /\ ie (aBd a p) <= 723000000000 := by
 have hs := aJx ht
 obtain ⟨h0, h8⟩ := aFY hn
 unfold aBd
 obtain ⟨w, hw⟩ : ∃ w : Nat, p + 2 * aAH a + 64 = w := ⟨_, rfl⟩
 rw [hw]
 have h1 := aLQ (w := w) (more := 0) (by omega) h0 h8
 have h2 := aUv (w := w) (aAH a) _ (3 * w + 70 + 17 * w + 600) h1.1 (by omega)
 have h3 : (3 * w + 70 + 17 * w + 600) * 2 ^ aAH a <= 86100 * 8388608 := Nat.mul_le_mul (by omega) (aNc hs)
 omega
def aWr (a : D) (p s : Nat) (c0 : List AV) (ms : Nat) (σ : St) : Prop := ∃ (t : List (Nat × AV)) (rest : AMem) (i : Nat) (v : Iv), σ = ⟨t, 36, (27, c0) :: (29, [.lit (.bool false), .num 0, .lit (.int .i64 0), .lit (.bool false), .num 0, .lit (.int .i64 0)]) :: (29, [.lit (.bool v.lo.neg), .num v.lo.m, .lit (.int .i64 v.lo.e), .lit (.bool v.hi.neg), .num v.hi.m, .lit (.int .i64 v.hi.e)]) :: rest⟩ /\ getT t 4 = .ptr 1 0 /\ getT t 7 = .ptr 2 0 /\ getT t 6 = .lit (.int .i64 ((p + 64 : Nat) : Int)) /\ getT t 26 = .lit (.int .i64 (0 : Int)) /\ getT t 27 = .lit (.int .i64 ((i : Nat) : Int)) /\ (i <= 0) /\ (sqI (((p + 64 : Nat) : Int) + 8) (0 - i) v = aBd a p) /\ (ib v <= 2 * (p + 64) + 70) /\ (ie v + 17 * (p + 64) + 600 <= 86100 * 2 ^ i) /\ ms = 0 - i
theorem aV0 (a : D) (p : Nat) (hm : a.m = 0) (hn : a.neg = false) (ht : topD a <= 14 \/ a.m = 0) (hp : p <= 4160) (h : bl a.m <= 100000000 /\ ae a <= 1000000000) : AC Tryz.prog TabW 123 [dyV a, .lit (.int .i64 ((p : Nat) : Int))] (ivV (aBd a p)) := by
 have hs23 := aJx ht
 obtain ⟨h0, h8⟩ := aFY hn
 have hav0 : aBd a p = sqI ((p + 2 * aAH a + 64 : Nat) + 8 : Int) (aAH a) (aBv (aAs a (-(aAH a : Int))) (p + 2 * aAH a + 64) 0) := rfl
 have hzr := aCB a
 rw [show (a.m == 0) = true from by simpa using hm] at hzr
 rw [show aAH a = 0 from by unfold aAH; rw [if_pos hm]] at *
 have h0 : 0 <= (aAs a 0).v := h0
 have h8 : (aAs a 0).v * 256 <= 1 := h8
 have hsh := aIL a (0) (by omega)
 have hsm := aJl (aAs a (0)) (p + 64) 0 (by omega) (by decide) h0 h8 (by omega)
 have htop := aHn a (by omega)
 have hw : ((p : Nat) : Int) + 64 = ((p + 64 : Nat) : Int) := by omega
 have hav : sqI (((p + 64 : Nat) : Int) + 8) (0 - 0) (aBv (aAs a (0)) (p + 64) 0) = aBd a p := hav0.symm
 refine aAd Tryz.func123 rfl (by kernel_rfl) aAc Tryz.mixed rfl rfl (by kernel_rfl) ?_
 simp only [aAl, Tryz.ntmps123, dyV, ivV, fxV]
 repeat' first
  | (refine aDg (aWr a p 0 _) _ ⟨_, [], 0, _, rfl, (by first | rfl | assumption | (simp (disch := omega) only [xq, simprocAttr, dyV, ivV, fxV, maxE, hw, Int.add_zero, Int.mul_zero, Int.zero_sub, Int.neg_zero] <;> rfl)), (by first | rfl | assumption | (simp (disch := omega) only [xq, simprocAttr, dyV, ivV, fxV, maxE, hw, Int.add_zero, Int.mul_zero, Int.zero_sub, Int.neg_zero] <;> rfl)), (by first | rfl | assumption | (simp (disch := omega) only [xq, simprocAttr, dyV, ivV, fxV, maxE, hw, Int.add_zero, Int.mul_zero, Int.zero_sub, Int.neg_zero] <;> rfl)), (by first | rfl | assumption | (simp (disch := omega) only [xq, simprocAttr, dyV, ivV, fxV, maxE, hw, Int.add_zero, Int.mul_zero, Int.zero_sub, Int.neg_zero] <;> rfl)), (by first | rfl | assumption | (simp (disch := omega) only [xq, simprocAttr, dyV, ivV, fxV, maxE, hw, Int.add_zero, Int.mul_zero, Int.zero_sub, Int.neg_zero] <;> rfl)), (Nat.zero_le _), hav, (by omega), (by omega), rfl⟩ ?_; rintro ms _ ⟨t, rest, i, v, rfl, Above0R_t4, Above0R_t7, Above0R_t6, Above0R_t26, Above0R_t27, hi, hv, hs1, hs2, rfl⟩)
  | refine aAa fun K g => ?_
  | refine goK (by assumption) ?_
  | refine aAv ?_
  | ((first | refine aAk ?_ | refine aDh ?_ | refine aAe ?_) <;> try simp only [aAm, aAg, reduceIte, Nat.reduceEqDiff])
  | exact ⟨_, (by omega), ⟨_, _, (i + 1), (aAF v v (((p + 64 : Nat) : Int) + 8)), rfl, (by first | rfl | assumption | (simp (disch := omega) only [xq, simprocAttr, dyV, ivV, fxV, maxE, hw, Int.add_zero, Int.mul_zero, Int.zero_sub, Int.neg_zero, Above0R_t4, Above0R_t7, Above0R_t6, Above0R_t26, Above0R_t27] <;> rfl)), (by first | rfl | assumption | (simp (disch := omega) only [xq, simprocAttr, dyV, ivV, fxV, maxE, hw, Int.add_zero, Int.mul_zero, Int.zero_sub, Int.neg_zero, Above0R_t4, Above0R_t7, Above0R_t6, Above0R_t26, Above0R_t27] <;> rfl)), (by first | rfl | assumption | (simp (disch := omega) only [xq, simprocAttr, dyV, ivV, fxV, maxE, hw, Int.add_zero, Int.mul_zero, Int.zero_sub, Int.neg_zero, Above0R_t4, Above0R_t7, Above0R_t6, Above0R_t26, Above0R_t27] <;> rfl)), (by first | rfl | assumption | (simp (disch := omega) only [xq, simprocAttr, dyV, ivV, fxV, maxE, hw, Int.add_zero, Int.mul_zero, Int.zero_sub, Int.neg_zero, Above0R_t4, Above0R_t7, Above0R_t6, Above0R_t26, Above0R_t27] <;> rfl)), (by first | rfl | assumption | (simp (disch := omega) only [xq, simprocAttr, dyV, ivV, fxV, maxE, hw, Int.add_zero, Int.mul_zero, Int.zero_sub, Int.neg_zero, Above0R_t4, Above0R_t7, Above0R_t6, Above0R_t26, Above0R_t27] <;> rfl)), (by omega), (by rw [<- hv, show 0 - i = (0 - (i + 1)) + 1 from by omega]; rfl), (by omega), (by rw [Nat.pow_succ]; omega), rfl⟩⟩
  | (refine aAU (id := 8) rfl fun os => ?_
     have hp23 : 2 ^ i <= 8388608 := aNc (by omega)
     have htm := aFx v v (((p + 64 : Nat) : Int) + 8) (by omega)
     simp (disch := omega) only [xq, simprocAttr, dyV, ivV, fxV, maxE, hw, Int.add_zero, Int.mul_zero, Int.zero_sub, Int.neg_zero, Above0R_t4, Above0R_t7, Above0R_t6, Above0R_t26, Above0R_t27])
  | ((first
  | refine aAU rfl fun os => ?_
  | refine cxo (hzr) ?_
  | refine cxo (htop.1) ?_
  | refine cxo (hsh.1) ?_
  | refine cxo (hsm.1) ?_
  | refine cxo (htm.1) ?_
  | simp only [endX, resX, resV, Tryz.results123]) <;> try (first | simp (disch := omega) only [xq, simprocAttr, dyV, ivV, fxV, maxE, hw, Int.add_zero, Int.mul_zero, Int.zero_sub, Int.neg_zero, Above0R_t4, Above0R_t7, Above0R_t6, Above0R_t26, Above0R_t27] | simp (disch := omega) only [xq, simprocAttr, dyV, ivV, fxV, maxE, hw, Int.add_zero, Int.mul_zero, Int.zero_sub, Int.neg_zero]))
  | (refine aAf (by first | rfl | assumption) (fun c => ?_) (fun c => ?_) <;> first | exact absurd c (by decide) | ((try rw [c]); try simp only [xn] at c))
  | (rw [show 0 - i = 0 from by omega] at hv
     simp only [sqI] at hv
     rw [<- hv]
     done)
def aWq (a : D) (p s : Nat) (c0 : List AV) (ms : Nat) (σ : St) : Prop := ∃ (t : List (Nat × AV)) (rest : AMem) (i : Nat) (v : Iv), σ = ⟨t, 36, (27, c0) :: (29, [.lit (.bool false), .num 0, .lit (.int .i64 0), .lit (.bool false), .num 0, .lit (.int .i64 0)]) :: (29, [.lit (.bool v.lo.neg), .num v.lo.m, .lit (.int .i64 v.lo.e), .lit (.bool v.hi.neg), .num v.hi.m, .lit (.int .i64 v.hi.e)]) :: rest⟩ /\ getT t 4 = .ptr 1 0 /\ getT t 7 = .ptr 2 0 /\ getT t 6 = .lit (.int .i64 ((p + 2 * s + 64 : Nat) : Int)) /\ getT t 26 = .lit (.int .i64 ((s : Nat) : Int)) /\ getT t 27 = .lit (.int .i64 ((i : Nat) : Int)) /\ (i <= s) /\ (sqI (((p + 2 * s + 64 : Nat) : Int) + 8) (s - i) v = aBd a p) /\ (ib v <= 2 * (p + 2 * s + 64) + 70) /\ (ie v + 17 * (p + 2 * s + 64) + 600 <= 86100 * 2 ^ i) /\ ms = s - i
theorem aVZ (a : D) (p : Nat) (hm : a.m ≠ 0) (hn : a.neg = false) (ht : topD a <= 14 \/ a.m = 0) (hp : p <= 4160) (h : bl a.m <= 100000000 /\ ae a <= 1000000000) : AC Tryz.prog TabW 123 [dyV a, .lit (.int .i64 ((p : Nat) : Int))] (ivV (aBd a p)) := by
 have hs23 := aJx ht
 obtain ⟨h0, h8⟩ := aFY hn
 have hav0 : aBd a p = sqI ((p + 2 * aAH a + 64 : Nat) + 8 : Int) (aAH a) (aBv (aAs a (-(aAH a : Int))) (p + 2 * aAH a + 64) 0) := rfl
 have hzr := aCB a
 rw [show (a.m == 0) = false from by simpa using hm] at hzr
 have hsx : max (topD a + 9) 0 = ((aAH a : Nat) : Int) := by unfold aAH; rw [if_neg hm]; omega
 generalize aAH a = s at *
 have hsh := aIL a (-((s : Nat) : Int)) (by omega)
 have hsm := aJl (aAs a (-((s : Nat) : Int))) (p + 2 * s + 64) 0 (by omega) (by decide) h0 h8 (by omega)
 have htop := aHn a (by omega)
 have hw : ((p : Nat) : Int) + 2 * ((s : Nat) : Int) + 64 = ((p + 2 * s + 64 : Nat) : Int) := by omega
 have hav : sqI (((p + 2 * s + 64 : Nat) : Int) + 8) (s - 0) (aBv (aAs a (-((s : Nat) : Int))) (p + 2 * s + 64) 0) = aBd a p := hav0.symm
 refine aAd Tryz.func123 rfl (by kernel_rfl) aAc Tryz.mixed rfl rfl (by kernel_rfl) ?_
 simp only [aAl, Tryz.ntmps123, dyV, ivV, fxV]
 repeat' first
  | (refine aDg (aWq a p s _) _ ⟨_, [], 0, _, rfl, (by first | rfl | assumption | (simp (disch := omega) only [xq, simprocAttr, dyV, ivV, fxV, maxE, hw, Int.add_zero, Int.mul_zero, Int.zero_sub, Int.neg_zero, hsx] <;> rfl)), (by first | rfl | assumption | (simp (disch := omega) only [xq, simprocAttr, dyV, ivV, fxV, maxE, hw, Int.add_zero, Int.mul_zero, Int.zero_sub, Int.neg_zero, hsx] <;> rfl)), (by first | rfl | assumption | (simp (disch := omega) only [xq, simprocAttr, dyV, ivV, fxV, maxE, hw, Int.add_zero, Int.mul_zero, Int.zero_sub, Int.neg_zero, hsx] <;> rfl)), (by first | rfl | assumption | (simp (disch := omega) only [xq, simprocAttr, dyV, ivV, fxV, maxE, hw, Int.add_zero, Int.mul_zero, Int.zero_sub, Int.neg_zero, hsx] <;> rfl)), (by first | rfl | assumption | (simp (disch := omega) only [xq, simprocAttr, dyV, ivV, fxV, maxE, hw, Int.add_zero, Int.mul_zero, Int.zero_sub, Int.neg_zero, hsx] <;> rfl)), (Nat.zero_le _), hav, (by omega), (by omega), rfl⟩ ?_; rintro ms _ ⟨t, rest, i, v, rfl, AboveSR_t4, AboveSR_t7, AboveSR_t6, AboveSR_t26, AboveSR_t27, hi, hv, hs1, hs2, rfl⟩)
  | refine aAa fun K g => ?_
  | refine goK (by assumption) ?_
  | refine aAv ?_
  | ((first | refine aAk ?_ | refine aDh ?_ | refine aAe ?_) <;> try simp only [aAm, aAg, reduceIte, Nat.reduceEqDiff])
  | exact ⟨_, (by omega), ⟨_, _, (i + 1), (aAF v v (((p + 2 * s + 64 : Nat) : Int) + 8)), rfl, (by first | rfl | assumption | (simp (disch := omega) only [xq, simprocAttr, dyV, ivV, fxV, maxE, hw, Int.add_zero, Int.mul_zero, Int.zero_sub, Int.neg_zero, hsx, AboveSR_t4, AboveSR_t7, AboveSR_t6, AboveSR_t26, AboveSR_t27] <;> rfl)), (by first | rfl | assumption | (simp (disch := omega) only [xq, simprocAttr, dyV, ivV, fxV, maxE, hw, Int.add_zero, Int.mul_zero, Int.zero_sub, Int.neg_zero, hsx, AboveSR_t4, AboveSR_t7, AboveSR_t6, AboveSR_t26, AboveSR_t27] <;> rfl)), (by first | rfl | assumption | (simp (disch := omega) only [xq, simprocAttr, dyV, ivV, fxV, maxE, hw, Int.add_zero, Int.mul_zero, Int.zero_sub, Int.neg_zero, hsx, AboveSR_t4, AboveSR_t7, AboveSR_t6, AboveSR_t26, AboveSR_t27] <;> rfl)), (by first | rfl | assumption | (simp (disch := omega) only [xq, simprocAttr, dyV, ivV, fxV, maxE, hw, Int.add_zero, Int.mul_zero, Int.zero_sub, Int.neg_zero, hsx, AboveSR_t4, AboveSR_t7, AboveSR_t6, AboveSR_t26, AboveSR_t27] <;> rfl)), (by first | rfl | assumption | (simp (disch := omega) only [xq, simprocAttr, dyV, ivV, fxV, maxE, hw, Int.add_zero, Int.mul_zero, Int.zero_sub, Int.neg_zero, hsx, AboveSR_t4, AboveSR_t7, AboveSR_t6, AboveSR_t26, AboveSR_t27] <;> rfl)), (by omega), (by rw [<- hv, show s - i = (s - (i + 1)) + 1 from by omega]; rfl), (by omega), (by rw [Nat.pow_succ]; omega), rfl⟩⟩
  | (refine aAU (id := 8) rfl fun os => ?_
     have hp23 : 2 ^ i <= 8388608 := aNc (by omega)
     have htm := aFx v v (((p + 2 * s + 64 : Nat) : Int) + 8) (by omega)
     simp (disch := omega) only [xq, simprocAttr, dyV, ivV, fxV, maxE, hw, Int.add_zero, Int.mul_zero, Int.zero_sub, Int.neg_zero, hsx, AboveSR_t4, AboveSR_t7, AboveSR_t6, AboveSR_t26, AboveSR_t27])
  | ((first
  | refine aAU rfl fun os => ?_
  | refine cxo (hzr) ?_
  | refine cxo (htop.1) ?_
  | refine cxo (hsh.1) ?_
  | refine cxo (hsm.1) ?_
  | refine cxo (htm.1) ?_
  | simp only [endX, resX, resV, Tryz.results123]) <;> try (first | simp (disch := omega) only [xq, simprocAttr, dyV, ivV, fxV, maxE, hw, Int.add_zero, Int.mul_zero, Int.zero_sub, Int.neg_zero, hsx, AboveSR_t4, AboveSR_t7, AboveSR_t6, AboveSR_t26, AboveSR_t27] | simp (disch := omega) only [xq, simprocAttr, dyV, ivV, fxV, maxE, hw, Int.add_zero, Int.mul_zero, Int.zero_sub, Int.neg_zero, hsx]))
  | (refine aAf (by first | rfl | assumption) (fun c => ?_) (fun c => ?_) <;> first | exact absurd c (by decide) | ((try rw [c]); try simp only [xn] at c))
  | (rw [show s - i = 0 from by omega] at hv
     simp only [sqI] at hv
     rw [<- hv]
     done)
theorem aMy (a : D) (p : Nat) (hn : a.neg = false) (ht : topD a <= 14 \/ a.m = 0) (hp : p <= 4160) (h : bl a.m <= 100000000 /\ ae a <= 1000000000) : AC Tryz.prog TabW 123 [dyV a, .lit (.int .i64 ((p : Nat) : Int))] (ivV (aBd a p)) /\ (ib (aBd a p) <= 8700 /\ ie (aBd a p) <= 723000000000) := by
 refine ⟨?_, aSo hn ht hp⟩
 by_cases hm : a.m = 0
 · exact aV0 a p hm hn ht hp h
 · exact aVZ a p hm hn ht hp h
end
section
set_option maxRecDepth 10000
set_option maxHeartbeats 4000000
open Go.RowKit
theorem aPg {d : D} (h : 0 < d.v) : d.m ≠ 0 := fun e => by rw [aBL.2 e] at h; exact absurd h (Rat.lt_irrefl)
theorem aUR {t : D} (ht : topD t <= 14 \/ t.m = 0) : topD (absD t) <= 14 \/ (absD t).m = 0 := by
 by_cases h0 : t.m = 0
 · exact .inr (aOS h0)
 · rcases ht with ht | ht
   · exact .inl (by rw [(aJv h0).1]; exact ht)
   · exact absurd ht h0
theorem aMI {a : D} {p : Nat} (hn : a.neg = false) (ht : topD a <= 14 \/ a.m = 0) (hp : p <= 10000) : (aBd a p).lo.m ≠ 0 /\ (aBd a p).hi.m ≠ 0 := by
 have h := aGO (p := p) hn hp (ht.imp (fun h => by omega) id)
 have h2 := aVX h
 exact ⟨aPg h.1, aPg (by have := h.1; grind)⟩
theorem aRK  : AC Tryz.prog TabW 125 [] (ivV (aAn (intD 1))) /\ (ib (aAn (intD 1)) <= 64 /\ ie (aAn (intD 1)) <= 128) := by
 have h1 := aBX 1 (by decide)
 have h2 := aBS (intD 1) (by omega)
 refine ⟨?_, by omega⟩
 refine aAd Tryz.func125 rfl (by kernel_rfl) aAc Tryz.mixed rfl rfl (by kernel_rfl) ?_
 simp only [aAl, Tryz.ntmps125, dyV, ivV, fxV]
 refine aAa fun K1 g1 => ?_
 refine aAb fun os => ?_
 try simp (disch := omega) only [xq, simprocAttr, dyV, ivV, fxV]
 refine g1 _ ?_
 refine aAa fun K2 g2 => ?_
 refine aAb fun os => ?_
 try simp (disch := omega) only [xq, simprocAttr, dyV, ivV, fxV]
 refine cxo (h1.1) ?_
 try simp (disch := omega) only [xq, simprocAttr, dyV, ivV, fxV]
 refine cxo (h2.1) ?_
 try simp (disch := omega) only [xq, simprocAttr, dyV, ivV, fxV]
 refine g2 _ ?_
 refine aAe ?_
 simp only [endX, resX, resV, Tryz.results125]
 try simp (disch := omega) only [xq, simprocAttr, dyV, ivV, fxV]
 first | done | rfl
theorem aMw (t : D) (p : Nat) (hp : p <= 4150) (ht : topD t <= 14 \/ t.m = 0) (h : bl t.m <= 1000000 /\ ae t <= 1000000) : AC Tryz.prog TabW 95 [dyV t, .lit (.int .i64 ((p : Nat) : Int))] (ivV (aBG t p)) /\ (ib (aBG t p) <= 8700 /\ ie (aBG t p) <= 724000000000) := by
 have ha := aJw t
 have hn := aHi t
 have ho := aUR ht
 have h1 := aKM t (by omega)
 have hz1 := aMI (p := p) hn ho (by omega)
 have hab := aMy (absD t) p hn ho (by omega) (by omega)
 have hone := aRK
 have hdv := aKL (aAn (intD 1)) (aBd (absD t) p) ((p : Int) + 64) hz1.1 hz1.2 (by omega)
 have hr : aBG t p = if t.neg then divI (aAn (intD 1)) (aBd (absD t) p) ((p : Int) + 64) else aBd (absD t) p := rfl
 have hz : ib (aBG t p) <= 8700 /\ ie (aBG t p) <= 724000000000 := by
   rw [hr]
   split <;> omega
 refine ⟨?_, hz⟩
 clear hz
 rw [hr]
 refine aAd Tryz.func95 rfl (by kernel_rfl) aAc Tryz.mixed rfl rfl (by kernel_rfl) ?_
 simp only [aAl, Tryz.ntmps95, dyV, ivV, fxV]
 repeat' first
  | refine aAa fun K g => ?_
  | refine goK (by assumption) ?_
  | ((first | refine aAk ?_ | refine aAe ?_) <;> try simp only [aAm, aAg, reduceIte, Nat.reduceEqDiff])
  | ((first
  | refine aAU rfl fun os => ?_
  | refine aCR rfl (by kernel_rfl) fun os => ?_
  | refine cxo (h1.1) ?_
  | refine cxo (hab.1) ?_
  | refine cxd (hone.1) ?_
  | refine cxd (hdv.1) ?_
  | simp only [endX, resX, resV, Tryz.results95]) <;> try (simp (disch := omega) only [xq, simprocAttr, dyV, ivV, fxV]))
  | (refine aAf (by first | rfl | assumption) (fun c => ?_) (fun c => ?_) <;> first | exact absurd c (by decide) | ((try rw [c]); try simp only [xn] at c))
  | (first | done | rfl
     done)
  | (rw [if_pos (by assumption)]
     done)
  | (rw [if_neg (by simp [*])]
     done)
theorem aTY (t : D) (p : Nat) (hp : p <= 4100) (ht : topD t <= 14 \/ t.m = 0) (h : bl t.m <= 1000000 /\ ae t <= 1000000) : AC Tryz.prog TabW 96 [dyV t, .lit (.int .i64 ((p : Nat) : Int))] (ivV (aCT t p)) /\ (ib (aCT t p) <= 8700 /\ ie (aCT t p) <= 4000000000000) := by
 have ha := aJw t
 have hn := aHi t
 have ho := aUR ht
 have h1 := aKM t (by omega)
 have hone := aRK
 have hz0 := aCB t
 have htop := aHn t (by omega)
 have hr : aCT t p = if t.m = 0 then aAp else
   if -8 <= topD t then aFn (aBG t (p + 24)) (aAn (intD 1)) ((p : Int) + 40) else
   if t.neg then aCd (divI (aAF (aAn (absD t)) (aBv (absD t) (p + 64) 1) ((p : Int) + 64)) (aBd (absD t) p) ((p : Int) + 64))
   else aAF (aAn (absD t)) (aBv (absD t) (p + 64) 1) ((p : Int) + 64) := rfl
 have e24 : ((p : Nat) : Int) + 24 = ((p + 24 : Nat) : Int) := by omega
 have hpw := aMw t (p + 24) (by omega) ht (by omega)
 have hls := aS2 (aBG t (p + 24)) (aAn (intD 1)) ((p : Int) + 40) (by omega)
 have hsmall : t.m ≠ 0 -> ¬ -8 <= topD t -> 0 <= (absD t).v /\ (absD t).v * 256 <= 1 := fun h0 h8 => by
   have hpa := aHQ hn
   rw [hpa]
   refine ⟨aHf _, ?_⟩
   have h1 := aFk (absD t)
   have h2 := aA7 (show topD (absD t) + 1 <= -8 by rw [(aJv h0).1]; omega)
   have e8 : p2 (-8) * 256 = 1 := by
     have := aDA 8
     have e : p2 8 = 256 := by have := aBE 8; exact this
     rwa [e] at this
   grind
 have hpt := aBS (absD t) (by omega)
 have hsm : t.m ≠ 0 -> ¬ -8 <= topD t -> _ := fun h0 h8 => aJl (absD t) (p + 64) 1 (by omega) (by decide) (hsmall h0 h8).1 (hsmall h0 h8).2 (by omega)
 have e64 : ((p : Nat) : Int) + 64 = ((p + 64 : Nat) : Int) := by omega
 have htms : t.m ≠ 0 -> ¬ -8 <= topD t -> _ := fun h0 h8 => aFx (aAn (absD t)) (aBv (absD t) (p + 64) 1) ((p + 64 : Nat) : Int) (by have := (hsm h0 h8).2; omega)
 have hz1 := aMI (p := p) hn ho (by omega)
 have hab := aMy (absD t) p hn ho (by omega) (by omega)
 have hdv : t.m ≠ 0 -> ¬ -8 <= topD t -> _ := fun h0 h8 => aKL (aAF (aAn (absD t)) (aBv (absD t) (p + 64) 1) ((p + 64 : Nat) : Int)) (aBd (absD t) p) ((p + 64 : Nat) : Int) hz1.1 hz1.2 (by have := (hsm h0 h8).2; have := (htms h0 h8).2; omega)
 have htn : t.m ≠ 0 -> ¬ -8 <= topD t -> _ := fun h0 h8 => aSY (divI (aAF (aAn (absD t)) (aBv (absD t) (p + 64) 1) ((p + 64 : Nat) : Int)) (aBd (absD t) p) ((p + 64 : Nat) : Int)) (by have := (hsm h0 h8).2; have := (htms h0 h8).2; have := (hdv h0 h8).2; omega)
 have hz : ib (aCT t p) <= 8700 /\ ie (aCT t p) <= 4000000000000 := by
   rw [hr]
   split
   · decide
   split
   · omega
   rename_i g1 g2
   have q1 := (hsm g1 g2).2
   have q2 := (htms g1 g2).2
   have q3 := (hdv g1 g2).2
   have q4 := (htn g1 g2).2
   rw [<- e64] at q2 q3 q4
   split <;> omega
 refine ⟨?_, hz⟩
 clear hz
 rw [hr]
 refine aAd Tryz.func96 rfl (by kernel_rfl) aAc Tryz.mixed rfl rfl (by kernel_rfl) ?_
 simp only [aAl, Tryz.ntmps96, dyV, ivV, fxV]
 refine aAa fun K1 g1 => ?_
 refine aAb fun os => ?_
 try simp (disch := omega) only [xq, simprocAttr, dyV, ivV, fxV, e24, e64]
 refine g1 _ ?_
 refine aAa fun K2 g2 => ?_
 refine aAv ?_
 refine aAa fun K3 g3 => ?_
 refine aAb fun os => ?_
 try simp (disch := omega) only [xq, simprocAttr, dyV, ivV, fxV, e24, e64]
 refine cxo (hz0) ?_
 try simp (disch := omega) only [xq, simprocAttr, dyV, ivV, fxV, e24, e64]
 refine g3 _ ?_
 refine aAf (by first | rfl | assumption) (fun c1 => ?_) (fun c1 => ?_)
 ·try simp only [xn] at c1
  refine aAa fun K4 g4 => ?_
  refine aAb fun os => ?_
  try simp (disch := omega) only [xq, simprocAttr, dyV, ivV, fxV, e24, e64]
  refine g4 _ ?_
  refine aAe ?_
  simp only [aAm, aAg, reduceIte, Nat.reduceEqDiff]
  simp only [endX, resX, resV, Tryz.results96]
  try simp (disch := omega) only [xq, simprocAttr, dyV, ivV, fxV, e24, e64]
  rw [if_pos c1]
  first | done | rfl
 ·try simp only [xn] at c1
  refine aAa fun K5 g5 => ?_
  refine aAb fun os => ?_
  try simp (disch := omega) only [xq, simprocAttr, dyV, ivV, fxV, e24, e64]
  refine cxo (htop.1) ?_
  try simp (disch := omega) only [xq, simprocAttr, dyV, ivV, fxV, e24, e64]
  refine g5 _ ?_
  refine aAf (by first | rfl | assumption) (fun c2 => ?_) (fun c2 => ?_)
  ·try simp only [xn] at c2
   refine aAa fun K6 g6 => ?_
   refine aAb fun os => ?_
   try simp (disch := omega) only [xq, simprocAttr, dyV, ivV, fxV, e24, e64]
   refine cxo (hpw.1) ?_
   try simp (disch := omega) only [xq, simprocAttr, dyV, ivV, fxV, e24, e64]
   refine cxo (hone.1) ?_
   try simp (disch := omega) only [xq, simprocAttr, dyV, ivV, fxV, e24, e64]
   refine cxo (hls.1) ?_
   try simp (disch := omega) only [xq, simprocAttr, dyV, ivV, fxV, e24, e64]
   refine g6 _ ?_
   refine aAe ?_
   simp only [aAm, aAg, reduceIte, Nat.reduceEqDiff]
   simp only [endX, resX, resV, Tryz.results96]
   try simp (disch := omega) only [xq, simprocAttr, dyV, ivV, fxV, e24, e64]
   rw [if_neg c1, if_pos c2]
  ·try simp only [xn] at c2
   refine aAk ?_
   simp only [aAm, aAg, reduceIte, Nat.reduceEqDiff]
   refine g2 _ ?_
   refine aAa fun K7 g7 => ?_
   refine aAb fun os => ?_
   try simp (disch := omega) only [xq, simprocAttr, dyV, ivV, fxV, e24, e64]
   refine g7 _ ?_
   refine aAa fun K8 g8 => ?_
   refine aAB (by kernel_rfl) fun os => ?_
   try simp (disch := omega) only [xq, simprocAttr, dyV, ivV, fxV, e24, e64]
   refine cxd (h1.1) ?_
   try simp (disch := omega) only [xq, simprocAttr, dyV, ivV, fxV, e24, e64]
   refine cxd (hpt.1) ?_
   try simp (disch := omega) only [xq, simprocAttr, dyV, ivV, fxV, e24, e64]
   refine cxd (h1.1) ?_
   try simp (disch := omega) only [xq, simprocAttr, dyV, ivV, fxV, e24, e64]
   refine cxd ((hsm (by first | assumption | simpa using c1) (by first | assumption | omega)).1) ?_
   try simp (disch := omega) only [xq, simprocAttr, dyV, ivV, fxV, e24, e64]
   refine cxd ((htms (by first | assumption | simpa using c1) (by first | assumption | omega)).1) ?_
   try simp (disch := omega) only [xq, simprocAttr, dyV, ivV, fxV, e24, e64]
   refine g8 _ ?_
   refine aAa fun K9 g9 => ?_
   refine aAa fun K10 g10 => ?_
   refine aAb fun os => ?_
   try simp (disch := omega) only [xq, simprocAttr, dyV, ivV, fxV, e24, e64]
   refine g10 _ ?_
   refine aAf (by first | rfl | assumption) (fun c3 => ?_) (fun c3 => ?_)
   ·try simp only [xn] at c3
    refine aAa fun K11 g11 => ?_
    refine aAB (by kernel_rfl) fun os => ?_
    try simp (disch := omega) only [xq, simprocAttr, dyV, ivV, fxV, e24, e64]
    refine cxd (h1.1) ?_
    try simp (disch := omega) only [xq, simprocAttr, dyV, ivV, fxV, e24, e64]
    refine cxd (hab.1) ?_
    try simp (disch := omega) only [xq, simprocAttr, dyV, ivV, fxV, e24, e64]
    refine cxd ((hdv (by first | assumption | simpa using c1) (by first | assumption | omega)).1) ?_
    try simp (disch := omega) only [xq, simprocAttr, dyV, ivV, fxV, e24, e64]
    refine cxd ((htn (by first | assumption | simpa using c1) (by first | assumption | omega)).1) ?_
    try simp (disch := omega) only [xq, simprocAttr, dyV, ivV, fxV, e24, e64]
    refine g11 _ ?_
    refine aAe ?_
    simp only [aAm, aAg, reduceIte, Nat.reduceEqDiff]
    simp only [endX, resX, resV, Tryz.results96]
    try simp (disch := omega) only [xq, simprocAttr, dyV, ivV, fxV, e24, e64]
    rw [if_neg c1, if_neg (by omega), if_pos c3]
    first | done | rfl
   ·try simp only [xn] at c3
    refine aAk ?_
    simp only [aAm, aAg, reduceIte, Nat.reduceEqDiff]
    refine g9 _ ?_
    refine aAa fun K12 g12 => ?_
    refine aAb fun os => ?_
    try simp (disch := omega) only [xq, simprocAttr, dyV, ivV, fxV, e24, e64]
    refine g12 _ ?_
    refine aAe ?_
    simp only [endX, resX, resV, Tryz.results96]
    try simp (disch := omega) only [xq, simprocAttr, dyV, ivV, fxV, e24, e64]
    rw [if_neg c1, if_neg (by omega), if_neg (by rw [c3]; decide)]
    first | done | rfl
end
section
set_option maxRecDepth 10000
set_option maxHeartbeats 4000000
open Go.RowKit
theorem aCJ {d : D} (h : aAT d = true) : bl d.m <= 65536 /\ ae d <= 32768 := by
 unfold aAT at h
 have h := of_decide_eq_true h
 have hw := aIq (aBg d.m)
 rw [aAi] at hw
 unfold ae
 omega
theorem aWt {t : D} (h : ¬ 0 < cmpD (absD t) (intD 16384)) (h0 : t.m ≠ 0) : topD t <= 14 := by
 rw [aHH, aPK, aEw, <- aBh] at h
 have h1 := aFq h0
 have h2 := (aCi 15 (k := 32768) rfl).1
 have h3 : ((32768 : Nat) : Rat) = 32768 := rfl
 have h4 : ((16384 : Int) : Rat) = 16384 := rfl
 apply Int.not_lt.1; intro h5
 have := aA7 (show ((15 : Nat) : Int) <= topD t by omega)
 rw [h2, h3] at this
 rw [h4] at h
 grind
theorem aP7 {t : D} (h : ¬ 0 < cmpD (absD t) (intD 16384)) : topD t <= 14 \/ t.m = 0 := by
 by_cases h0 : t.m = 0
 · exact .inr h0
 · exact .inl (aWt h h0)
theorem aIr {less : Bool} {t : D} {p : Nat} (hp : 8 <= p /\ p <= 4096) : ib (aBy less t p).1 <= 65536 /\ ie (aBy less t p).1 <= 32768 := by
 unfold aBy
 split
 · decide
 split
 · decide
 · generalize (aAD _ _) = v at *
   split
   · rename_i h
     unfold aBb at h
     simp only [Bool.and_eq_true] at h
     have h1 := aCJ h.1.1
     have h2 := aCJ h.1.2
     show ib v <= _ /\ ie v <= _
     unfold ib ie
     omega
   · decide
theorem aRL (t : D) (p : Nat) (hp : 8 <= p /\ p <= 4096) : AC Tryz.prog TabW 51 [dyV t, .lit (.int .i64 ((p : Nat) : Int))] (.tup [ivV (aBy false t p).1, .lit (.int .i64 (aBy false t p).2)]) := by
 have hr : aBy false t p = if !aAT t then (aAp, 2) else
   if 0 < cmpD (absD (oneD t)) (intD 16384) then (aAp, 3) else
   if aBb (aAD (aBG (oneD t) p) ((p : Int) + 8)) then (aAD (aBG (oneD t) p) ((p : Int) + 8), 0) else (aAp, 3) := rfl
 have hf := aE9 t
 have hi := aBX 16384 (by decide)
 have h8 : ¬ ((p : Nat) : Int) < 8 := by omega
 have h9 : ¬ (4096 : Int) < ((p : Nat) : Int) := by omega
 have s0 : aAT t = true -> bl (oneD t).m <= 65536 /\ ae (oneD t) <= 98304 := fun hft => by
   have := aCJ hft
   have := aBO t
   omega
 have hone : aAT t = true -> _ := fun hft => aE8 t (by have := aCJ hft; omega)
 have habs : aAT t = true -> _ := fun hft => aKM (oneD t) (by have := s0 hft; omega)
 have hcmp : aAT t = true -> _ := fun hft => aFz (absD (oneD t)) (intD 16384) (by have := s0 hft; have := aJw (oneD t); have := aAW 16384; have : bl (16384 : Int).natAbs = 15 := (by decide); omega)
 have hway : aAT t = true -> ¬ 0 < cmpD (absD (oneD t)) (intD 16384) -> _ := fun hft hc => aMw (oneD t) p (by omega) (aP7 hc) (by have := s0 hft; omega)
 have htr : aAT t = true -> ¬ 0 < cmpD (absD (oneD t)) (intD 16384) -> _ := fun hft hc => aDm (aBG (oneD t) p) ((p : Int) + 8) (by have := (hway hft hc).2; omega)
 have hrt : aAT t = true -> ¬ 0 < cmpD (absD (oneD t)) (intD 16384) -> _ := fun hft hc => aFy (aAD (aBG (oneD t) p) ((p : Int) + 8)) (by have := (hway hft hc).2; have := (htr hft hc).2; omega)
 rw [hr]
 clear hr
 refine aAd Tryz.func51 rfl (by kernel_rfl) aAc Tryz.mixed rfl rfl (by kernel_rfl) ?_
 simp only [aAl, Tryz.ntmps51, dyV, ivV, fxV]
 repeat' first
  | refine aAa fun K g => ?_
  | refine goK (by assumption) ?_
  | ((first | refine aAk ?_ | refine aAe ?_) <;> try simp only [aAm, aAg, reduceIte, Nat.reduceEqDiff])
  | ((first
  | refine aAU rfl fun os => ?_
  | refine aB7 ?_
  | (refine cxin Tryz.func94 rfl (by kernel_rfl) aAc Tryz.mixed (by kernel_rfl) ?_; simp only [aAl, Tryz.ntmps94, dyV, ivV, fxV])
  | refine cxo (hf) ?_
  | refine cxo ((hone (by first | assumption | simpa using c1)).1) ?_
  | refine cxo ((habs (by first | assumption | simpa using c1)).1) ?_
  | refine cxo (hi.1) ?_
  | refine cxo (hcmp (by first | assumption | simpa using c1)) ?_
  | refine cxo ((hway (by first | assumption | simpa using c1) (by first | assumption | omega)).1) ?_
  | refine cxo ((htr (by first | assumption | simpa using c1) (by first | assumption | omega)).1) ?_
  | refine cxo (hrt (by first | assumption | simpa using c1) (by first | assumption | omega)) ?_
  | (refine aCU (by simp only [resX, resV, Tryz.results94]; simp (disch := omega) only [xq, simprocAttr, dyV, ivV, fxV, h8, h9]; rfl) ?_; simp only [opsY])
  | (refine aIo (by simp only [resX, resV, Tryz.results94]; simp (disch := omega) only [xq, simprocAttr, dyV, ivV, fxV, h8, h9]; rfl) ?_; simp only [opsY])
  | simp only [endX, resX, resV, Tryz.results51]) <;> try (simp (disch := omega) only [xq, simprocAttr, dyV, ivV, fxV, h8, h9]))
  | (refine gx (fun c => ?_) (fun c => ?_) <;> first | exact absurd c (by decide) | ((try rw [c]); (try simp only [xn] at c); try (simp (disch := omega) only [xq, simprocAttr, dyV, ivV, fxV, h8, h9])))
  | (refine aAf (by first | rfl | assumption) (fun c => ?_) (fun c => ?_) <;> first | exact absurd c (by decide) | ((try rw [c]); try simp only [xn] at c))
  | (simp only [*, Bool.not_true, Bool.not_false, Bool.false_eq_true, if_true, if_false, reduceIte, ivV, aAp, aAY] <;> rfl
     done)
theorem aMx (t : D) (p : Nat) (hp : 8 <= p /\ p <= 4096) : AC Tryz.prog TabW 52 [dyV t, .lit (.int .i64 ((p : Nat) : Int))] (.tup [ivV (aBy true t p).1, .lit (.int .i64 (aBy true t p).2)]) := by
 have hr : aBy true t p = if !aAT t then (aAp, 2) else
   if 0 < cmpD (absD (oneD t)) (intD 16384) then (aAp, 3) else
   if aBb (aAD (aCT (oneD t) p) ((p : Int) + 8)) then (aAD (aCT (oneD t) p) ((p : Int) + 8), 0) else (aAp, 3) := rfl
 have hf := aE9 t
 have hi := aBX 16384 (by decide)
 have h8 : ¬ ((p : Nat) : Int) < 8 := by omega
 have h9 : ¬ (4096 : Int) < ((p : Nat) : Int) := by omega
 have s0 : aAT t = true -> bl (oneD t).m <= 65536 /\ ae (oneD t) <= 98304 := fun hft => by
   have := aCJ hft
   have := aBO t
   omega
 have hone : aAT t = true -> _ := fun hft => aE8 t (by have := aCJ hft; omega)
 have habs : aAT t = true -> _ := fun hft => aKM (oneD t) (by have := s0 hft; omega)
 have hcmp : aAT t = true -> _ := fun hft => aFz (absD (oneD t)) (intD 16384) (by have := s0 hft; have := aJw (oneD t); have := aAW 16384; have : bl (16384 : Int).natAbs = 15 := (by decide); omega)
 have hway : aAT t = true -> ¬ 0 < cmpD (absD (oneD t)) (intD 16384) -> _ := fun hft hc => aTY (oneD t) p (by omega) (aP7 hc) (by have := s0 hft; omega)
 have htr : aAT t = true -> ¬ 0 < cmpD (absD (oneD t)) (intD 16384) -> _ := fun hft hc => aDm (aCT (oneD t) p) ((p : Int) + 8) (by have := (hway hft hc).2; omega)
 have hrt : aAT t = true -> ¬ 0 < cmpD (absD (oneD t)) (intD 16384) -> _ := fun hft hc => aFy (aAD (aCT (oneD t) p) ((p : Int) + 8)) (by have := (hway hft hc).2; have := (htr hft hc).2; omega)
 rw [hr]
 clear hr
 refine aAd Tryz.func52 rfl (by kernel_rfl) aAc Tryz.mixed rfl rfl (by kernel_rfl) ?_
 simp only [aAl, Tryz.ntmps52, dyV, ivV, fxV]
 repeat' first
  | refine aAa fun K g => ?_
  | refine goK (by assumption) ?_
  | ((first | refine aAk ?_ | refine aAe ?_) <;> try simp only [aAm, aAg, reduceIte, Nat.reduceEqDiff])
  | ((first
  | refine aAU rfl fun os => ?_
  | refine aB7 ?_
  | (refine cxin Tryz.func94 rfl (by kernel_rfl) aAc Tryz.mixed (by kernel_rfl) ?_; simp only [aAl, Tryz.ntmps94, dyV, ivV, fxV])
  | refine cxo (hf) ?_
  | refine cxo ((hone (by first | assumption | simpa using c1)).1) ?_
  | refine cxo ((habs (by first | assumption | simpa using c1)).1) ?_
  | refine cxo (hi.1) ?_
  | refine cxo (hcmp (by first | assumption | simpa using c1)) ?_
  | refine cxo ((hway (by first | assumption | simpa using c1) (by first | assumption | omega)).1) ?_
  | refine cxo ((htr (by first | assumption | simpa using c1) (by first | assumption | omega)).1) ?_
  | refine cxo (hrt (by first | assumption | simpa using c1) (by first | assumption | omega)) ?_
  | (refine aCU (by simp only [resX, resV, Tryz.results94]; simp (disch := omega) only [xq, simprocAttr, dyV, ivV, fxV, h8, h9]; rfl) ?_; simp only [opsY])
  | (refine aIo (by simp only [resX, resV, Tryz.results94]; simp (disch := omega) only [xq, simprocAttr, dyV, ivV, fxV, h8, h9]; rfl) ?_; simp only [opsY])
  | simp only [endX, resX, resV, Tryz.results52]) <;> try (simp (disch := omega) only [xq, simprocAttr, dyV, ivV, fxV, h8, h9]))
  | (refine gx (fun c => ?_) (fun c => ?_) <;> first | exact absurd c (by decide) | ((try rw [c]); (try simp only [xn] at c); try (simp (disch := omega) only [xq, simprocAttr, dyV, ivV, fxV, h8, h9])))
  | (refine aAf (by first | rfl | assumption) (fun c => ?_) (fun c => ?_) <;> first | exact absurd c (by decide) | ((try rw [c]); try simp only [xn] at c))
  | (simp only [*, Bool.not_true, Bool.not_false, Bool.false_eq_true, if_true, if_false, reduceIte, ivV, aAp, aAY] <;> rfl
     done)
end
section
set_option maxRecDepth 10000
set_option maxHeartbeats 4000000
open Go.RowKit
theorem AC.conv {P : Program} {I : World -> Prop} {f : FuncId} {args : List AV} {r r' : AV} (h : AC P I f args r) (hc : ∀ S β w v, Rep S β w r v -> Rep S β w r' v) : AC P I f args r' :=
 ⟨h.1, fun S β w vs h1 h2 h3 => (h.2 S β w vs h1 h2 h3).mono fun e w' ⟨v, h4, h5, h6⟩ => ⟨v, h4, hc _ _ _ _ h5, h6⟩⟩
theorem aOe {S : Nat -> Prop} {β : List Nat} {w : World} {v : Value} {m : Nat} (hm : m < 18446744073709551616) (h : Rep S β w (.arr 1 [.lit (.int .u64 ((m : Nat) : Int))]) v) : WordsS S w v [m] := by
 simp only [Rep, RepL] at h
 obtain ⟨a, c, vs, rfl, ⟨h1, h2⟩, hc, u, r, rfl, rfl, rfl⟩ := h
 obtain ⟨b, off, rfl, h3, h4⟩ := hc
 refine ⟨⟨_, c, rfl, h1, h2, ⟨?_, fun e => by cases e⟩, fun i hi => ?_⟩, fun b' o s n c' e _ => ?_⟩
 · intro i hi
   obtain rfl := List.mem_singleton.mp hi
   exact hm
 · have hi : i < 1 := hi
   obtain rfl : i = 0 := by omega
   exact ⟨b, off, rfl, Nat.zero_le _, h4 0 _ rfl⟩
 · injection e with e1
   injection e1 with e1
   injection e1 with e1
   rw [<- e1]
   exact h3 (by simp)
theorem aQx (neg : Bool) (m : Nat) (e : Int) (hm : m < 18446744073709551616) (he : Se e) : AC Tryz.prog TabW 86 [.lit (.bool neg), .arr 1 [.lit (.int .u64 ((m : Nat) : Int))], .lit (.int .i64 e)] (dyV (aAL neg m e)) := by
 refine ⟨by kernel_rfl, fun S β w vs hI hS h => ?_⟩
 simp only [RepL] at h
 obtain ⟨v1, _, rfl, h1, va, _, rfl, h2, v3, _, rfl, h3, rfl⟩ := h
 have h2 := aOe hm h2
 simp only [Rep] at h1 h3
 subst h1; subst h3
 have := aOW 0 neg va [m] e w h2.1 (by show 1 <= _; decide) (by have := he.1; omega) (by have := he.2; omega) hI
 have hv : valN [m] = m := by simp [valN]
 rw [hv] at this
 exact this.mono fun e w' h => aJm hS h
theorem aXt (x : Nat) : shrI .u64 ((x : Nat) : Int) 52 = ((x / 4503599627370496 : Nat) : Int) := by
 show ((x : Nat) : Int).fdiv (2 ^ 52) = _
 rw [Int.fdiv_eq_ediv_of_nonneg _ (by decide)]
 rfl
theorem aXs (x : Nat) : shrI .u64 ((x : Nat) : Int) 63 = ((x / 9223372036854775808 : Nat) : Int) := by
 show ((x : Nat) : Int).fdiv (2 ^ 63) = _
 rw [Int.fdiv_eq_ediv_of_nonneg _ (by decide)]
 rfl
theorem aXH {a : Nat} (h : a < 18446744073709551616) : aFS .u64 (· &&& ·) ((a : Nat) : Int) 2047 = ((a % 2048 : Nat) : Int) := by
 show IntKind.u64.wrap (((BitVec.ofInt 64 (a:Int) &&& BitVec.ofInt 64 2047).toNat : Nat) : Int) = _
 rw [BitVec.toNat_and]
 have e1 : (BitVec.ofInt 64 (a:Int)).toNat = a := by rw [BitVec.toNat_ofInt]; omega
 have e2 : (BitVec.ofInt 64 2047).toNat = 2 ^ 11 - 1 := by decide
 rw [e1, e2, Nat.and_two_pow_sub_one_eq_mod, aCn]
 omega
theorem aXG {a : Nat} (h : a < 18446744073709551616) : aFS .u64 (· &&& ·) ((a : Nat) : Int) 4503599627370495 = ((a % 4503599627370496 : Nat) : Int) := by
 show IntKind.u64.wrap (((BitVec.ofInt 64 (a:Int) &&& BitVec.ofInt 64 4503599627370495).toNat : Nat) : Int) = _
 rw [BitVec.toNat_and]
 have e1 : (BitVec.ofInt 64 (a:Int)).toNat = a := by rw [BitVec.toNat_ofInt]; omega
 have e2 : (BitVec.ofInt 64 4503599627370495).toNat = 2 ^ 52 - 1 := by decide
 rw [e1, e2, Nat.and_two_pow_sub_one_eq_mod, aCn]
 omega
theorem or52 {a : Nat} (h : a < 4503599627370496) : aFS .u64 (· ||| ·) ((a : Nat) : Int) 4503599627370496 = ((a + 4503599627370496 : Nat) : Int) := by
 show IntKind.u64.wrap (((BitVec.ofInt 64 (a:Int) ||| BitVec.ofInt 64 4503599627370496).toNat : Nat) : Int) = _
 rw [BitVec.toNat_or]
 have e1 : (BitVec.ofInt 64 (a:Int)).toNat = a := by rw [BitVec.toNat_ofInt]; omega
 have e2 : (BitVec.ofInt 64 4503599627370496).toNat = 2 ^ 52 * 1 := by decide
 rw [e1, e2, Nat.or_comm, <- Nat.two_pow_add_eq_or_of_lt (by omega), aCn]
 omega
def bitE (x : Nat) : Nat := x / 4503599627370496 % 2048
def bitF (x : Nat) : Nat := x % 4503599627370496
def aBl (x : Nat) : D := aAL (x / 9223372036854775808 == 1) (if bitE x = 0 then bitF x else bitF x + 4503599627370496) ((if bitE x = 0 then 1 else ((bitE x : Nat) : Int)) - 1075)
def aBP (x : Nat) : D × Int := if bitE x = 2047 then (aAY, 5) else (aBl x, 0)
theorem aCE (x : Nat) : bl (aBl x).m <= 53 /\ ae (aBl x) <= 2200 := by
 have h1 := aBp (x / 9223372036854775808 == 1) (if bitE x = 0 then bitF x else bitF x + 4503599627370496) ((if bitE x = 0 then 1 else ((bitE x : Nat) : Int)) - 1075)
 have h2 : bl (if bitE x = 0 then bitF x else bitF x + 4503599627370496) <= 53 := aC8 (by unfold bitF; split <;> omega)
 have h3 : bitE x < 2048 := Nat.mod_lt _ (by decide)
 unfold aBl
 split at h1 <;> split at h2 <;> simp_all <;> omega
theorem aC2 (x : Nat) (hx : x < 18446744073709551616) : AC Tryz.prog TabW 43 [.lit (.int .u64 ((x : Nat) : Int))] (.tup [dyV (aBP x).1, .lit (.int .i64 (aBP x).2)]) := by
 have hb := aXs x
 have h1 := aXt x
 have h2 : aFS .u64 (· &&& ·) ((x / 4503599627370496 : Nat) : Int) 2047 = ((bitE x : Nat) : Int) := aXH (by omega)
 have h3 : aFS .u64 (· &&& ·) ((x : Nat) : Int) 4503599627370495 = ((bitF x : Nat) : Int) := aXG hx
 have hf : bitF x < 4503599627370496 := Nat.mod_lt _ (by decide)
 have he : bitE x < 2048 := Nat.mod_lt _ (by decide)
 have h4 := or52 hf
 have hn : (((x / 9223372036854775808 : Nat) : Int) == 1) = (x / 9223372036854775808 == 1) := by
   rw [Bool.eq_iff_iff, beq_iff_eq, beq_iff_eq]
   omega
 have hr : aBP x = if bitE x = 2047 then (aAY, 5) else (aAL (x / 9223372036854775808 == 1) (if bitE x = 0 then bitF x else bitF x + 4503599627370496) ((if bitE x = 0 then 1 else ((bitE x : Nat) : Int)) - 1075), 0) := rfl
 rw [hr]
 clear hr
 generalize bitE x = e at *
 generalize bitF x = f at *
 generalize (x / 9223372036854775808 == 1) = ng at *
 refine aAd Tryz.func43 rfl (by kernel_rfl) aAc Tryz.mixed rfl rfl (by kernel_rfl) ?_
 simp only [aAl, Tryz.ntmps43, dyV, ivV, fxV]
 repeat' first
  | refine aAa fun K g => ?_
  | refine goK (by assumption) ?_
  | refine aAv ?_
  | (refine aAe ?_; try simp only [aAm, aAg, reduceIte, Nat.reduceEqDiff])
  | ((first
  | refine aAU rfl fun os => ?_
  | (refine cxo (aQx _ _ _ (by omega) (by unfold Se; omega)) ?_)
  | simp only [endX, resX, resV, Tryz.results43]) <;> try (simp (disch := omega) only [xq, simprocAttr, dyV, ivV, fxV, hb, h1, h2, h3, h4, hn]))
  | (refine aAf (by first | rfl | assumption) (fun c => ?_) (fun c => ?_) <;> first | exact absurd c (by decide) | ((try rw [c]); try simp only [xn] at c))
  | (first | done | rfl
     done)
  | (rw [if_pos (by omega)]
     rfl)
  | (rw [if_neg (by omega), if_pos (by omega), if_pos (by omega)]
     rfl)
  | (rw [if_neg (by omega), if_neg (by omega), if_neg (by omega)]
     done)
theorem aRR (d : D) : AC Tryz.prog TabW 106 [dyV d] (.lit (.bool (aAT d))) := by
 have hf := aE9 d
 refine aAd Tryz.func106 rfl (by kernel_rfl) aAc Tryz.mixed rfl rfl (by kernel_rfl) ?_
 simp only [aAl, Tryz.ntmps106, dyV, ivV, fxV]
 refine aAa fun K1 g1 => ?_
 refine aAb fun os => ?_
 try simp (disch := omega) only [xq, simprocAttr, dyV, ivV, fxV]
 refine g1 _ ?_
 refine aAa fun K2 g2 => ?_
 refine aAb fun os => ?_
 try simp (disch := omega) only [xq, simprocAttr, dyV, ivV, fxV]
 refine cxo (hf) ?_
 try simp (disch := omega) only [xq, simprocAttr, dyV, ivV, fxV]
 refine g2 _ ?_
 refine aAe ?_
 simp only [endX, resX, resV, Tryz.results106]
 try simp (disch := omega) only [xq, simprocAttr, dyV, ivV, fxV]
 first | done | rfl
theorem aRS (d : D) : AC Tryz.prog TabW 63 [dyV d] (.lit (.int .i64 (if aAT d then 0 else 2))) := by
 have hf := aRR d
 refine aAd Tryz.func63 rfl (by kernel_rfl) aAc Tryz.mixed rfl rfl (by kernel_rfl) ?_
 simp only [aAl, Tryz.ntmps63, dyV, ivV, fxV]
 refine aAa fun K1 g1 => ?_
 refine aAb fun os => ?_
 try simp (disch := omega) only [xq, simprocAttr, dyV, ivV, fxV]
 refine g1 _ ?_
 refine aAa fun K2 g2 => ?_
 refine aAa fun K3 g3 => ?_
 refine aAb fun os => ?_
 try simp (disch := omega) only [xq, simprocAttr, dyV, ivV, fxV]
 refine cxo (hf) ?_
 try simp (disch := omega) only [xq, simprocAttr, dyV, ivV, fxV]
 refine g3 _ ?_
 refine aAf (by first | rfl | assumption) (fun c1 => ?_) (fun c1 => ?_)
 ·try simp only [xn] at c1
  refine aAa fun K4 g4 => ?_
  refine aAb fun os => ?_
  try simp (disch := omega) only [xq, simprocAttr, dyV, ivV, fxV]
  refine g4 _ ?_
  refine aAe ?_
  simp only [aAm, aAg, reduceIte, Nat.reduceEqDiff]
  simp only [endX, resX, resV, Tryz.results63]
  try simp (disch := omega) only [xq, simprocAttr, dyV, ivV, fxV]
  simp [*]
 ·try simp only [xn] at c1
  refine aAk ?_
  simp only [aAm, aAg, reduceIte, Nat.reduceEqDiff]
  refine g2 _ ?_
  refine aAa fun K5 g5 => ?_
  refine aAb fun os => ?_
  try simp (disch := omega) only [xq, simprocAttr, dyV, ivV, fxV]
  refine g5 _ ?_
  refine aAe ?_
  simp only [endX, resX, resV, Tryz.results63]
  try simp (disch := omega) only [xq, simprocAttr, dyV, ivV, fxV]
  simp [*]
end
end Go.Proofs.YtgdkokgeldnliaaGreatDoor
