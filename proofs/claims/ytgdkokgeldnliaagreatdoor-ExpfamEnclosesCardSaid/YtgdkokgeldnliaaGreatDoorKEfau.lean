/- Contracts of functions and plain lemmas that the laws of this seat lean on. -/
import Derived.Test.YtgdkokgeldnliaaGreatDoorKEfab
import Derived.Test.YtgdkokgeldnliaaGreatDoorKEfac
import Derived.Test.YtgdkokgeldnliaaGreatDoorKEfae
import Derived.Test.YtgdkokgeldnliaaGreatDoorKEfag
import Derived.Test.YtgdkokgeldnliaaGreatDoorKEfah
import Derived.Test.YtgdkokgeldnliaaGreatDoorKEfaj
import Derived.Test.YtgdkokgeldnliaaGreatDoorRows
import Derived.WalkKit
import Derived.WalkSpells
import Derived.WalkLawsBesides
import Derived.Lib.Hide
import Derived.Deep.QuietTactic
import Derived.BigQuiet
import Derived.StillTail
import Derived.Below
import Derived.Deep.MidRow
import Derived.Laws.Tables
import Derived.Laws.CopyRow
import Derived.IntWalk
import Derived.Test.YtgdkokgeldnliaaGreatDoorShelf
import Derived.Lib.BitFns
import Derived.Lib.ItoaNum
import Derived.Lib.TrailingZeros
import Derived.Deep.DeepCutAuto
import Derived.Deep.CutBlock
import Derived.Laws.AppendOwn
import Derived.Laws.AppendOwnNone
import Derived.Laws.CopyOwn
import Derived.RegionTactic
namespace Go.Proofs.YtgdkokgeldnliaaGreatDoor
set_option linter.unusedSimpArgs false
set_option linter.unusedVariables false
set_option linter.unusedSectionVars false
set_option linter.constructorNameAsVariable false
set_option linter.unnecessarySimpa false
section
set_option maxRecDepth 10000
set_option maxHeartbeats 1000000
open Go.RowKit
theorem aBA (x : Nat) (hx : x < 18446744073709551616) : AC Tryz.prog TabW 55 [.lit (.int .u64 ((x : Nat) : Int))] (.lit (.bool (decide (x % 9223372036854775808 < 9218868437227405312)))) := by
 have h1 : ((x : Nat) : Int).tmod 9223372036854775808 = ((x % 9223372036854775808 : Nat) : Int) := rfl
 have h2 : decide (((x % 9223372036854775808 : Nat) : Int) < 9218868437227405312) = decide (x % 9223372036854775808 < 9218868437227405312) := decide_eq_decide.2 (by omega)
 refine aAd Tryz.func55 rfl (by kernel_rfl) aAc Tryz.mixed rfl rfl (by kernel_rfl) ?_
 simp only [aAl, Tryz.ntmps55, dyV, ivV, fxV]
 refine aAa fun K1 g1 => ?_
 refine aAb fun os => ?_
 try simp (disch := omega) only [xq, simprocAttr, dyV, ivV, fxV, h1, h2]
 refine g1 _ ?_
 refine aAa fun K2 g2 => ?_
 refine aAb fun os => ?_
 try simp (disch := omega) only [xq, simprocAttr, dyV, ivV, fxV, h1, h2]
 refine g2 _ ?_
 refine aAe ?_
 simp only [endX, resX, resV, Tryz.results55]
 try simp (disch := omega) only [xq, simprocAttr, dyV, ivV, fxV, h1, h2]
 first | done | rfl
theorem aPo (x : Nat) (hx : x < 18446744073709551616) : AC Tryz.prog TabW 74 [.lit (.int .u64 ((x : Nat) : Int))] (.agg [.lit (.bool (x / 9223372036854775808 == 1)), .lit (.int .i64 ((bitE x : Nat) : Int)), .lit (.int .u64 ((bitF x : Nat) : Int))]) := by
 have h1 : ((x : Nat) : Int).tdiv 4503599627370496 = ((x / 4503599627370496 : Nat) : Int) := rfl
 have h2 : ((x / 4503599627370496 : Nat) : Int).tmod 2048 = ((bitE x : Nat) : Int) := rfl
 have h3 : ((x : Nat) : Int).tmod 4503599627370496 = ((bitF x : Nat) : Int) := rfl
 have h4 : decide (9223372036854775808 <= ((x : Nat) : Int)) = (x / 9223372036854775808 == 1) := by
   rw [Bool.eq_iff_iff, decide_eq_true_eq, beq_iff_eq]
   omega
 have hb : bitE x < 2048 := Nat.mod_lt _ (by decide)
 have hq : IntKind.u64.wrap ((x / 4503599627370496 : Nat) : Int) = ((x / 4503599627370496 : Nat) : Int) := by rw [aCn]; omega
 refine aAd Tryz.func74 rfl (by kernel_rfl) aAc Tryz.mixed rfl rfl (by kernel_rfl) ?_
 simp only [aAl, Tryz.ntmps74, dyV, ivV, fxV]
 refine aAa fun K1 g1 => ?_
 refine aAb fun os => ?_
 try simp (disch := omega) only [xq, simprocAttr, dyV, ivV, fxV, h1, h2, h3, h4, hq]
 refine g1 _ ?_
 refine aAa fun K2 g2 => ?_
 refine aAb fun os => ?_
 try simp (disch := omega) only [xq, simprocAttr, dyV, ivV, fxV, h1, h2, h3, h4, hq]
 refine g2 _ ?_
 refine aAe ?_
 simp only [endX, resX, resV, Tryz.results74]
 try simp (disch := omega) only [xq, simprocAttr, dyV, ivV, fxV, h1, h2, h3, h4, hq]
 first | done | rfl
end
section
set_option maxRecDepth 10000
set_option maxHeartbeats 1000000
open Go.RowKit
theorem aDv (a b : D) (h : 2 * bl a.m + 2 * bl b.m + ae a + ae b <= 20000000) : AC Tryz.prog TabW 36 [dyV a, dyV b] (dyV (addD a b)) /\ (bl (addD a b).m <= 2 * bl a.m + 2 * bl b.m + ae a + ae b + 1 /\ ae (addD a b) <= 2 * ae a + 2 * ae b + 3 * bl a.m + 3 * bl b.m + 1) := by
 have hn := aKX (a := a) (b := b)
 exact ⟨aRZ a b (by omega) (by omega), aEM a b⟩
end
section
set_option maxRecDepth 10000
set_option maxHeartbeats 4000000
open Go.RowKit
theorem aCO {x : Nat} (hx : x < 18446744073709551616) : decide (x % 9223372036854775808 < 9218868437227405312) = !decide (bitE x = 2047) := by
 rw [<- decide_not]
 refine decide_eq_decide.2 ?_
 unfold bitE
 omega
theorem aB5 (x : Nat) (hx : x < 18446744073709551616) : AC Tryz.prog TabW 35 [.lit (.int .u64 ((x : Nat) : Int))] (.tup [dyV (aBP x).1, .lit (.int .i64 (aBP x).2)]) := by
 have hfb : bitF x < 4503599627370496 := Nat.mod_lt _ (by decide)
 have hfe : bitE x < 2048 := Nat.mod_lt _ (by decide)
 have h1 := aBA x hx
 have h2 := aPo x hx
 have hr : aBP x = if bitE x = 2047 then (aAY, 5) else (aAL (x / 9223372036854775808 == 1) (if bitE x = 0 then bitF x else bitF x + 4503599627370496) ((if bitE x = 0 then 1 else ((bitE x : Nat) : Int)) - 1075), 0) := rfl
 rw [hr]
 clear hr
 rw [aCO hx] at h1
 generalize bitE x = e at *
 generalize bitF x = f at *
 generalize (x / 9223372036854775808 == 1) = ng at *
 have hz : bl (f + 4503599627370496) <= 64 /\ bl f <= 64 := ⟨aC8 (by omega), aC8 (by omega)⟩
 have e2 : IntKind.u64.wrap (((f : Nat) : Int) + 4503599627370496) = ((f + 4503599627370496 : Nat) : Int) := by rw [aCn]; omega
 refine aAd Tryz.func35 rfl (by kernel_rfl) aAc Tryz.mixed rfl rfl (by kernel_rfl) ?_
 simp only [aAl, Tryz.ntmps35, dyV, ivV, fxV, fxV]
 refine aAa fun K1 g1 => ?_
 refine aAb fun os => ?_
 try simp (disch := omega) only [xq, simprocAttr, dyV, ivV, fxV, fxV, e2]
 refine g1 _ ?_
 refine aAa fun K2 g2 => ?_
 refine aAa fun K3 g3 => ?_
 refine aAb fun os => ?_
 try simp (disch := omega) only [xq, simprocAttr, dyV, ivV, fxV, fxV, e2]
 refine cxo (h1) ?_
 try simp (disch := omega) only [xq, simprocAttr, dyV, ivV, fxV, fxV, e2]
 refine g3 _ ?_
 refine aAf (by first | rfl | assumption) (fun c1 => ?_) (fun c1 => ?_)
 ·try simp only [xn] at c1
  refine aAa fun K4 g4 => ?_
  refine aAb fun os => ?_
  try simp (disch := omega) only [xq, simprocAttr, dyV, ivV, fxV, fxV, e2]
  refine g4 _ ?_
  refine aAe ?_
  simp only [aAm, aAg, reduceIte, Nat.reduceEqDiff]
  simp only [endX, resX, resV, Tryz.results35]
  try simp (disch := omega) only [xq, simprocAttr, dyV, ivV, fxV, fxV, e2]
  first | (rw [if_pos (by assumption)]; done) | (rw [if_pos (by assumption)]; rfl) | (rw [if_neg c1, if_neg (by omega), if_neg (by omega)]; done) | (rw [if_neg c1, if_pos (by omega), if_pos (by omega)]; rfl)
 ·try simp only [xn] at c1
  refine aAk ?_
  simp only [aAm, aAg, reduceIte, Nat.reduceEqDiff]
  refine g2 _ ?_
  refine aAa fun K5 g5 => ?_
  refine aAb fun os => ?_
  try simp (disch := omega) only [xq, simprocAttr, dyV, ivV, fxV, fxV, e2]
  refine cxo (h2) ?_
  try simp (disch := omega) only [xq, simprocAttr, dyV, ivV, fxV, fxV, e2]
  refine g5 _ ?_
  refine aAa fun K6 g6 => ?_
  refine aAb fun os => ?_
  try simp (disch := omega) only [xq, simprocAttr, dyV, ivV, fxV, fxV, e2]
  refine g6 _ ?_
  refine aAa fun K7 g7 => ?_
  refine aAb fun os => ?_
  try simp (disch := omega) only [xq, simprocAttr, dyV, ivV, fxV, fxV, e2]
  refine g7 _ ?_
  refine aAa fun K8 g8 => ?_
  refine aAa fun K9 g9 => ?_
  refine aAb fun os => ?_
  try simp (disch := omega) only [xq, simprocAttr, dyV, ivV, fxV, fxV, e2]
  refine g9 _ ?_
  refine aAf (by first | rfl | assumption) (fun c2 => ?_) (fun c2 => ?_)
  ·try simp only [xn] at c2
   refine aAa fun K10 g10 => ?_
   refine aAb fun os => ?_
   try simp (disch := omega) only [xq, simprocAttr, dyV, ivV, fxV, fxV, e2]
   refine g10 _ ?_
   refine aAb fun os => ?_
   try simp (disch := omega) only [xq, simprocAttr, dyV, ivV, fxV, fxV, e2]
   refine g8 _ ?_
   refine aAa fun K11 g11 => ?_
   refine aAB (by kernel_rfl) fun os => ?_
   try simp (disch := omega) only [xq, simprocAttr, dyV, ivV, fxV, fxV, e2]
   refine cxd (aDE _ (by omega) (by omega)) ?_
   try simp (disch := omega) only [xq, simprocAttr, dyV, ivV, fxV, fxV, e2]
   refine cxd (aBZ _ _ _ (aBf (by omega)) (aD4 (by omega))) ?_
   try simp (disch := omega) only [xq, simprocAttr, dyV, ivV, fxV, fxV, e2]
   refine g11 _ ?_
   refine aAe ?_
   simp only [endX, resX, resV, Tryz.results35]
   try simp (disch := omega) only [xq, simprocAttr, dyV, ivV, fxV, fxV, e2]
   first | (rw [if_pos (by assumption)]; done) | (rw [if_pos (by assumption)]; rfl) | (rw [if_neg c1, if_neg (by omega), if_neg (by omega)]; done) | (rw [if_neg c1, if_pos (by omega), if_pos (by omega)]; rfl)
  ·try simp only [xn] at c2
   refine aAk ?_
   simp only [aAm, aAg, reduceIte, Nat.reduceEqDiff]
   refine g8 _ ?_
   refine aAa fun K12 g12 => ?_
   refine aAB (by kernel_rfl) fun os => ?_
   try simp (disch := omega) only [xq, simprocAttr, dyV, ivV, fxV, fxV, e2]
   refine cxd (aDE _ (by omega) (by omega)) ?_
   try simp (disch := omega) only [xq, simprocAttr, dyV, ivV, fxV, fxV, e2]
   refine cxd (aBZ _ _ _ (aBf (by omega)) (aD4 (by omega))) ?_
   try simp (disch := omega) only [xq, simprocAttr, dyV, ivV, fxV, fxV, e2]
   refine g12 _ ?_
   refine aAe ?_
   simp only [endX, resX, resV, Tryz.results35]
   try simp (disch := omega) only [xq, simprocAttr, dyV, ivV, fxV, fxV, e2]
   first | (rw [if_pos (by assumption)]; done) | (rw [if_pos (by assumption)]; rfl) | (rw [if_neg c1, if_neg (by omega), if_neg (by omega)]; done) | (rw [if_neg c1, if_pos (by omega), if_pos (by omega)]; rfl)
end
end Go.Proofs.YtgdkokgeldnliaaGreatDoor
