/- Contracts of functions and plain lemmas that the laws of this seat lean on. -/
import Derived.Test.YtgdkokgeldnliaaGreatDoorKEfaa
import Derived.Test.YtgdkokgeldnliaaGreatDoorKEfab
import Derived.Test.YtgdkokgeldnliaaGreatDoorKEfac
import Derived.Test.YtgdkokgeldnliaaGreatDoorKEfae
import Derived.Test.YtgdkokgeldnliaaGreatDoorKEfaf
import Derived.Test.YtgdkokgeldnliaaGreatDoorKEfag
import Derived.Test.YtgdkokgeldnliaaGreatDoorKEfah
import Derived.Test.YtgdkokgeldnliaaGreatDoorKEfaj
import Derived.Test.YtgdkokgeldnliaaGreatDoorRows
import Derived.WalkKit
import Derived.WalkSpells
import Derived.WalkLawsBesides
import Derived.Lib.Hide
import Derived.Deep.QuietTactic
import Derived.BigQuiet
import Derived.StillTail
import Derived.Below
import Derived.Deep.MidRow
import Derived.Laws.Tables
import Derived.Laws.CopyRow
import Derived.IntWalk
import Derived.Test.YtgdkokgeldnliaaGreatDoorShelf
import Derived.Lib.BitFns
import Derived.Lib.ItoaNum
import Derived.Lib.TrailingZeros
import Derived.Deep.DeepCutAuto
import Derived.Deep.CutBlock
import Derived.Laws.AppendOwn
import Derived.Laws.AppendOwnNone
import Derived.Laws.CopyOwn
import Derived.RegionTactic
namespace Go.Proofs.YtgdkokgeldnliaaGreatDoor
set_option linter.unusedSimpArgs false
set_option linter.unusedVariables false
set_option linter.unusedSectionVars false
set_option linter.constructorNameAsVariable false
set_option linter.unnecessarySimpa false
section
open Go.RowKit
theorem aGp (m : Nat) : gw [m] 0 = m := rfl
end
section
def toW (neg : Bool) (m : Nat) (e : Int) : Nat :=
 (if e + ((bl m : Nat) : Int) - 1 < -1022 then m * 2 ^ (e + 1074).toNat else (e + ((bl m : Nat) : Int) - 1 + 1023).toNat * 4503599627370496 + (m * 2 ^ (53 - bl m) - 4503599627370496)) + (if neg then 9223372036854775808 else 0)
theorem aWu {neg : Bool} {m : Nat} {e : Int} (h0 : m ≠ 0) (hb : bl m <= 53) (he : -1074 <= e) (ht : e + ((bl m : Nat) : Int) - 1 <= 1023) :
   toW neg m e < 18446744073709551616 /\ fE (toW neg m e) ≠ 2047 /\ (fD (toW neg m e)).v = sg neg * (m : Rat) * p2 e /\ (fD (toW neg m e)).m ≠ 0 := by
 have hb1 := aD6 h0
 have hlt := aDO m
 have hge := aHJ h0
 have hsg : ∀ a : Rat, (if neg then -a else a) = sg neg * a := fun a => by unfold sg; cases neg <;> simp only [Bool.false_eq_true, if_false, if_true] <;> grind
 have key : ∀ r : Nat, r < 9223372036854775808 -> toW neg m e = r + (if neg then 9223372036854775808 else 0) -> fE r ≠ 2047 -> fA r = (m : Rat) * p2 e ->
     toW neg m e < 18446744073709551616 /\ fE (toW neg m e) ≠ 2047 /\ (fD (toW neg m e)).v = sg neg * (m : Rat) * p2 e /\ (fD (toW neg m e)).m ≠ 0 := fun r hr h1 h2 h3 => by
   rw [h1]
   have a1 : fE (r + (if neg then 9223372036854775808 else 0)) = fE r := by unfold fE; split <;> omega
   have a2 : fF (r + (if neg then 9223372036854775808 else 0)) = fF r := by unfold fF; split <;> omega
   have a3 : fN (r + (if neg then 9223372036854775808 else 0)) = neg := by
     unfold fN
     cases neg
     · simp only [Bool.false_eq_true, if_false]; rw [beq_eq_false_iff_ne]; omega
     · simp only [if_true]; rw [beq_iff_eq]; omega
   have a4 : fA (r + (if neg then 9223372036854775808 else 0)) = fA r := by unfold fA fM fX; rw [a1, a2]
   have hv : (fD (r + (if neg then 9223372036854775808 else 0))).v = sg neg * (m : Rat) * p2 e := by rw [fD_v, a3, a4, h3, hsg]; grind
   refine ⟨by split <;> omega, by rw [a1]; exact h2, hv, fun hm => ?_⟩
   have := aBL.2 hm
   rw [hv] at this
   have hmp : (0 : Rat) < (m : Rat) := by have : ((0 : Nat) : Rat) < (m : Rat) := Rat.natCast_lt_natCast.2 (by omega); exact this
   have hpp := Rat.mul_pos hmp (aAz e)
   unfold sg at this
   split at this <;> grind
 by_cases hs : e + ((bl m : Nat) : Int) - 1 < -1022
 · obtain ⟨k, hk⟩ : ∃ k : Nat, e + 1074 = (k : Int) := ⟨(e + 1074).toNat, by omega⟩
   have hp : m * 2 ^ k < 4503599627370496 := by
     have h1 : m * 2 ^ k < 2 ^ bl m * 2 ^ k := Nat.mul_lt_mul_of_pos_right hlt (Nat.two_pow_pos k)
     rw [<- Nat.pow_add] at h1
     have h2 : 2 ^ (bl m + k) <= 2 ^ 52 := Nat.pow_le_pow_right (by decide) (by omega)
     have h3 : 2 ^ 52 = 4503599627370496 := by decide
     omega
   refine key (m * 2 ^ k) (by omega) ?_ ?_ ?_
   · unfold toW; rw [if_pos hs, hk]; rfl
   · unfold fE; omega
   · have b1 : fE (m * 2 ^ k) = 0 := by unfold fE; omega
     have b2 : fF (m * 2 ^ k) = m * 2 ^ k := by unfold fF; omega
     unfold fA fM fX
     rw [if_pos b1, if_pos b1, b2, Rat.natCast_mul, <- aBE, Rat.mul_assoc, <- aA9]
     congr 2
     omega
 · obtain ⟨E, hE⟩ : ∃ E : Nat, e + ((bl m : Nat) : Int) - 1 + 1023 = (E : Int) := ⟨(e + ((bl m : Nat) : Int) - 1 + 1023).toNat, by omega⟩
   obtain ⟨j, hj⟩ : ∃ j : Nat, 53 = bl m + j := ⟨53 - bl m, by omega⟩
   have hj2 : 53 - bl m = j := by omega
   have hp1 : m * 2 ^ j < 9007199254740992 := by
     have h1 : m * 2 ^ j < 2 ^ bl m * 2 ^ j := Nat.mul_lt_mul_of_pos_right hlt (Nat.two_pow_pos j)
     rw [<- Nat.pow_add, <- hj] at h1
     have h3 : 2 ^ 53 = 9007199254740992 := by decide
     omega
   have hp2 : 4503599627370496 <= m * 2 ^ j := by
     have h1 : 2 ^ (bl m - 1) * 2 ^ j <= m * 2 ^ j := Nat.mul_le_mul_right _ hge
     rw [<- Nat.pow_add, show bl m - 1 + j = 52 by omega] at h1
     have h3 : 2 ^ 52 = 4503599627370496 := by decide
     omega
   have hE1 : 1 <= E /\ E <= 2046 := by omega
   have b1 : fE (E * 4503599627370496 + (m * 2 ^ j - 4503599627370496)) = E := by unfold fE; omega
   have b2 : fF (E * 4503599627370496 + (m * 2 ^ j - 4503599627370496)) + 4503599627370496 = m * 2 ^ j := by unfold fF; omega
   refine key (E * 4503599627370496 + (m * 2 ^ j - 4503599627370496)) (by omega) ?_ (by rw [b1]; omega) ?_
   · unfold toW; rw [if_neg hs, hE, hj2]; rfl
   · unfold fA fM fX
     rw [if_neg (by omega), if_neg (by omega), b2, b1, Rat.natCast_mul, <- aBE, Rat.mul_assoc, <- aA9]
     congr 2
     omega
end
section
set_option maxRecDepth 10000
set_option maxHeartbeats 4000000
open Go.RowKit
theorem aL9 (ng : Bool) (E F : Nat) (hE : E <= 2047) (hF : F < 4503599627370496) : AC Tryz.prog TabW 72 [.agg [.lit (.bool ng), .lit (.int .i64 ((E : Nat) : Int)), .lit (.int .u64 ((F : Nat) : Int))]] (.tup [.lit (.int .u64 ((E * 4503599627370496 + F + (if ng then 9223372036854775808 else 0) : Nat) : Int)), .lit (.int .i64 0)]) := by
 have k1 : decide (((E : Nat) : Int) < 0) = false := decide_eq_false (by omega)
 have k2 : decide ((2047 : Int) < ((E : Nat) : Int)) = false := decide_eq_false (by omega)
 have k3 : decide ((4503599627370496 : Int) <= ((F : Nat) : Int)) = false := decide_eq_false (by omega)
 have w1 : IntKind.u64.wrap ((E : Nat) : Int) = ((E : Nat) : Int) := by rw [aCn]; omega
 have w2 : IntKind.u64.wrap (((E : Nat) : Int) * 4503599627370496) = ((E * 4503599627370496 : Nat) : Int) := by rw [aCn]; omega
 have w3 : IntKind.u64.wrap (((E * 4503599627370496 : Nat) : Int) + ((F : Nat) : Int)) = ((E * 4503599627370496 + F : Nat) : Int) := by rw [aCn]; omega
 have w4 : IntKind.u64.wrap (((E * 4503599627370496 + F : Nat) : Int) + 9223372036854775808) = ((E * 4503599627370496 + F + 9223372036854775808 : Nat) : Int) := by rw [aCn]; omega
 refine aAd Tryz.func72 rfl (by kernel_rfl) aAc Tryz.mixed rfl rfl (by kernel_rfl) ?_
 simp only [aAl, Tryz.ntmps72, dyV, ivV, fxV, fxV]
 repeat' first
  | refine aAa fun K g => ?_
  | refine goK (by assumption) ?_
  | ((first | refine aAk ?_ | refine aAe ?_) <;> try simp only [aAm, aAg, reduceIte, Nat.reduceEqDiff])
  | ((first
  | refine aAU rfl fun os => ?_
  | refine aB7 ?_
  | simp only [endX, resX, resV, Tryz.results72]) <;> try (simp (disch := omega) only [xq, simprocAttr, dyV, ivV, fxV, fxV, k1, k2, k3, w1, w2, w3, w4]))
  | (refine gx (fun c => ?_) (fun c => ?_) <;> first | exact absurd c (by decide) | ((try rw [c]); (try simp only [xn] at c); try (simp (disch := omega) only [xq, simprocAttr, dyV, ivV, fxV, fxV, k1, k2, k3, w1, w2, w3, w4])))
  | (refine aAf (by first | rfl | assumption) (fun c => ?_) (fun c => ?_) <;> first | exact absurd c (by decide) | ((try rw [c]); try simp only [xn] at c))
  | (simp [*]
     done)
end
section
set_option maxRecDepth 10000
set_option maxHeartbeats 4000000
open Go.RowKit
theorem aNn {n : Nat} (h0 : n ≠ 0) (h : n < 18446744073709551616) : limbsOf n = [n] := by
 rw [limbsOf, dif_neg h0, Nat.mod_eq_of_lt h, Nat.div_eq_of_lt h, aAZ]
def toR (d : D) : Nat × Bool := if aAT d = false then (0, false) else if (oneD d).m = 0 then (0, true) else
 if 53 < bl (oneD d).m \/ (oneD d).e < -1074 \/ 1023 < (oneD d).e + ((bl (oneD d).m : Nat) : Int) - 1 then (0, false) else (toW (oneD d).neg (oneD d).m (oneD d).e, true)
theorem aP8 {d : D} (h : (toR d).2 = true) : (toR d).1 < 18446744073709551616 /\ bitE (toR d).1 ≠ 2047 /\ (fD (toR d).1).v = d.v := by
 unfold toR at *
 by_cases h1 : aAT d = false
 · rw [if_pos h1] at h; cases h
 · rw [if_neg h1] at h ⊢
   by_cases h2 : (oneD d).m = 0
   · rw [if_pos h2]
     have hv : d.v = 0 := by rw [<- aC6]; exact aBL.2 h2
     exact ⟨by decide, by decide, by rw [hv]; decide +kernel⟩
   · rw [if_neg h2] at h ⊢
     by_cases h3 : 53 < bl (oneD d).m \/ (oneD d).e < -1074 \/ 1023 < (oneD d).e + ((bl (oneD d).m : Nat) : Int) - 1
     · rw [if_pos h3] at h; cases h
     · rw [if_neg h3] at h ⊢
       have hv : d.v = sg (oneD d).neg * ((oneD d).m : Rat) * p2 (oneD d).e := by rw [<- aC6]; rfl
       obtain ⟨a, b, c, _⟩ := aWu (neg := (oneD d).neg) h2 (by omega) (show -1074 <= (oneD d).e by omega) (by omega)
       exact ⟨a, b, by rw [c, hv]⟩
theorem aRY (d : D) (h : bl d.m <= 5000000 /\ ae d <= 5000000) : AC Tryz.prog TabW 27 [dyV d] (.tup [.lit (.int .u64 (((toR d).1 : Nat) : Int)), .lit (.bool (toR d).2)]) := by
 have h1 := aGh d (by omega)
 have h2 := aCw d (by omega)
 unfold toR
 generalize aAT d = fb at *
 generalize oneD d = x at *
 have ex : ae x = x.e.natAbs := rfl
 have h3 := aG1 x.m (aBf (by omega))
 have zx := aAG (n := x.m)
 have hlt := aDO x.m
 have h53 : bl x.m <= 53 -> x.m < 9007199254740992 := fun h => by
   have := Nat.pow_le_pow_right (show 0 < 2 by decide) h
   have e : 2 ^ 53 = 9007199254740992 := by decide
   omega
 have hL : x.m ≠ 0 -> bl x.m <= 53 -> limbsOf x.m = [x.m] := fun a b => aNn a (by have := h53 b; omega)
 have hW : toW x.neg x.m x.e = (if x.e + ((bl x.m : Nat) : Int) - 1 < -1022 then x.m * 2 ^ (x.e + 1074).toNat else (x.e + ((bl x.m : Nat) : Int) - 1 + 1023).toNat * 4503599627370496 + (x.m * 2 ^ (53 - bl x.m) - 4503599627370496)) + (if x.neg then 9223372036854775808 else 0) := rfl
 rw [hW]
 clear hW
 refine aAd Tryz.func27 rfl (by kernel_rfl) aAc Tryz.mixed rfl rfl (by kernel_rfl) ?_
 simp only [aAl, Tryz.ntmps27, dyV, ivV, fxV, fxV]
 refine aAa fun K1 g1 => ?_
 refine aAb fun os => ?_
 try simp (disch := omega) only [xq, simprocAttr, dyV, ivV, fxV, fxV, aA2]
 refine g1 _ ?_
 refine aAa fun K2 g2 => ?_
 refine aAa fun K3 g3 => ?_
 refine aAb fun os => ?_
 try simp (disch := omega) only [xq, simprocAttr, dyV, ivV, fxV, fxV, aA2]
 refine cxo (h1) ?_
 try simp (disch := omega) only [xq, simprocAttr, dyV, ivV, fxV, fxV, aA2]
 refine g3 _ ?_
 refine aAf (by first | rfl | assumption) (fun c1 => ?_) (fun c1 => ?_)
 ·try simp only [xn] at c1
  refine aAa fun K4 g4 => ?_
  refine aAb fun os => ?_
  try simp (disch := omega) only [xq, simprocAttr, dyV, ivV, fxV, fxV, aA2]
  refine g4 _ ?_
  refine aAe ?_
  simp only [aAm, aAg, reduceIte, Nat.reduceEqDiff]
  simp only [endX, resX, resV, Tryz.results27]
  try simp (disch := omega) only [xq, simprocAttr, dyV, ivV, fxV, fxV, aA2]
  first | (rw [if_pos (by assumption)] <;> rfl) | (rw [if_neg (by rw [c1]; decide), if_pos (by assumption)] <;> rfl) | (rw [if_neg (by rw [c1]; decide), if_neg (by omega), if_pos (by omega)] <;> rfl) | (generalize (if x.neg = true then 9223372036854775808 else 0) = sgn; rw [if_neg (by rw [c1]; decide), if_neg hm0, if_neg (by omega), if_pos (by omega)]; try rw [hk]; try rw [Int.toNat_natCast]; rw [Nat.zero_mul, Nat.zero_add] <;> rfl) | (generalize (if x.neg = true then 9223372036854775808 else 0) = sgn; rw [if_neg (by rw [c1]; decide), if_neg hm0, if_neg (by omega), if_neg (by omega), hj2] <;> rfl)
 ·try simp only [xn] at c1
  refine aAk ?_
  simp only [aAm, aAg, reduceIte, Nat.reduceEqDiff]
  refine g2 _ ?_
  refine aAa fun K5 g5 => ?_
  refine aAb fun os => ?_
  try simp (disch := omega) only [xq, simprocAttr, dyV, ivV, fxV, fxV, aA2]
  refine cxo (h2.1) ?_
  try simp (disch := omega) only [xq, simprocAttr, dyV, ivV, fxV, fxV, aA2]
  refine g5 _ ?_
  refine aAa fun K6 g6 => ?_
  refine aAa fun K7 g7 => ?_
  refine aAb fun os => ?_
  try simp (disch := omega) only [xq, simprocAttr, dyV, ivV, fxV, fxV, aA2]
  refine g7 _ ?_
  refine aAf (by first | rfl | assumption) (fun c2 => ?_) (fun c2 => ?_)
  ·try simp only [xn] at c2
   refine aAa fun K8 g8 => ?_
   refine aAb fun os => ?_
   try simp (disch := omega) only [xq, simprocAttr, dyV, ivV, fxV, fxV, aA2]
   refine g8 _ ?_
   refine aAe ?_
   simp only [aAm, aAg, reduceIte, Nat.reduceEqDiff]
   simp only [endX, resX, resV, Tryz.results27]
   try simp (disch := omega) only [xq, simprocAttr, dyV, ivV, fxV, fxV, aA2]
   first | (rw [if_pos (by assumption)] <;> rfl) | (rw [if_neg (by rw [c1]; decide), if_pos (by assumption)] <;> rfl) | (rw [if_neg (by rw [c1]; decide), if_neg (by omega), if_pos (by omega)] <;> rfl) | (generalize (if x.neg = true then 9223372036854775808 else 0) = sgn; rw [if_neg (by rw [c1]; decide), if_neg hm0, if_neg (by omega), if_pos (by omega)]; try rw [hk]; try rw [Int.toNat_natCast]; rw [Nat.zero_mul, Nat.zero_add] <;> rfl) | (generalize (if x.neg = true then 9223372036854775808 else 0) = sgn; rw [if_neg (by rw [c1]; decide), if_neg hm0, if_neg (by omega), if_neg (by omega), hj2] <;> rfl)
  ·try simp only [xn] at c2
   refine aAk ?_
   simp only [aAm, aAg, reduceIte, Nat.reduceEqDiff]
   refine g6 _ ?_
   refine aAa fun K9 g9 => ?_
   refine aAb fun os => ?_
   try simp (disch := omega) only [xq, simprocAttr, dyV, ivV, fxV, fxV, aA2]
   refine cxo (h3) ?_
   try simp (disch := omega) only [xq, simprocAttr, dyV, ivV, fxV, fxV, aA2]
   refine g9 _ ?_
   refine aAa fun K10 g10 => ?_
   refine aAb fun os => ?_
   try simp (disch := omega) only [xq, simprocAttr, dyV, ivV, fxV, fxV, aA2]
   refine g10 _ ?_
   refine aAa fun K11 g11 => ?_
   refine aAa fun K12 g12 => ?_
   refine aAx ?_
   try simp (disch := omega) only [xq, simprocAttr, dyV, ivV, fxV, fxV, aA2]
   refine gx (fun c3 => ?_) (fun c3 => ?_)
   ·rw [c3]
    try simp only [xn] at c3
    try simp (disch := omega) only [xq, simprocAttr, dyV, ivV, fxV, fxV, aA2]
    refine gx (fun c4 => ?_) (fun c4 => ?_)
    ·rw [c4]
     try simp only [xn] at c4
     try simp (disch := omega) only [xq, simprocAttr, dyV, ivV, fxV, fxV, aA2]
     refine g12 _ ?_
     refine aAf (by first | rfl | assumption) (fun c5 => ?_) (fun c5 => ?_)
     ·try simp only [xn] at c5
      refine aAa fun K13 g13 => ?_
      refine aAb fun os => ?_
      try simp (disch := omega) only [xq, simprocAttr, dyV, ivV, fxV, fxV, aA2]
      refine g13 _ ?_
      refine aAe ?_
      simp only [aAm, aAg, reduceIte, Nat.reduceEqDiff]
      simp only [endX, resX, resV, Tryz.results27]
      try simp (disch := omega) only [xq, simprocAttr, dyV, ivV, fxV, fxV, aA2]
      first | (rw [if_pos (by assumption)] <;> rfl) | (rw [if_neg (by rw [c1]; decide), if_pos (by assumption)] <;> rfl) | (rw [if_neg (by rw [c1]; decide), if_neg (by omega), if_pos (by omega)] <;> rfl) | (generalize (if x.neg = true then 9223372036854775808 else 0) = sgn; rw [if_neg (by rw [c1]; decide), if_neg hm0, if_neg (by omega), if_pos (by omega)]; try rw [hk]; try rw [Int.toNat_natCast]; rw [Nat.zero_mul, Nat.zero_add] <;> rfl) | (generalize (if x.neg = true then 9223372036854775808 else 0) = sgn; rw [if_neg (by rw [c1]; decide), if_neg hm0, if_neg (by omega), if_neg (by omega), hj2] <;> rfl)
     ·try simp only [xn] at c5
      refine aAk ?_
      simp only [aAm, aAg, reduceIte, Nat.reduceEqDiff]
      refine g11 _ ?_
      refine aAa fun K14 g14 => ?_
      refine aAb fun os => ?_
      try simp (disch := omega) only [xq, simprocAttr, dyV, ivV, fxV, fxV, aA2]
      refine g14 _ ?_
      refine aAa fun K15 g15 => ?_
      refine aAa fun K16 g16 => ?_
      refine aAb fun os => ?_
      try simp (disch := omega) only [xq, simprocAttr, dyV, ivV, fxV, fxV, aA2]
      refine g16 _ ?_
      refine aAf (by first | rfl | assumption) (fun c6 => ?_) (fun c6 => ?_)
      ·try simp only [xn] at c6
       have hm0 : x.m ≠ 0 := by omega
       have hb53 : bl x.m <= 53 := by omega
       have hl := hL hm0 hb53
       obtain ⟨k, hk⟩ : ∃ k : Nat, x.e + 1074 = (k : Int) := ⟨(x.e + 1074).toNat, by omega⟩
       have hp : x.m * 2 ^ k < 4503599627370496 := by
         have h1 : x.m * 2 ^ k < 2 ^ bl x.m * 2 ^ k := Nat.mul_lt_mul_of_pos_right hlt (Nat.two_pow_pos k)
         rw [<- Nat.pow_add] at h1
         have h2 : 2 ^ (bl x.m + k) <= 2 ^ 52 := Nat.pow_le_pow_right (by decide) (by omega)
         have h3 : 2 ^ 52 = 4503599627370496 := by decide
         omega
       have hk0 : (0 : Int) <= ((k : Nat) : Int) := Int.natCast_nonneg k
       have hwk : IntKind.u64.wrap ((k : Nat) : Int) = ((k : Nat) : Int) := by rw [aCn]; omega
       have hsh : shlI .u64 ((x.m : Nat) : Int) ((k : Nat) : Int) = ((x.m * 2 ^ k : Nat) : Int) := by
         unfold shlI
         rw [Int.toNat_natCast, show min k IntKind.u64.bits = k from by show min k 64 = k; omega, aCn]
         have e : ((x.m : Nat) : Int) * 2 ^ k = ((x.m * 2 ^ k : Nat) : Int) := by rw [Int.natCast_mul, Int.natCast_pow]; rfl
         rw [e]; omega
       have J : AC Tryz.prog TabW 72 [.agg [.lit (.bool x.neg), .lit (.int .i64 0), .lit (.int .u64 ((x.m * 2 ^ k : Nat) : Int))]] _ := aL9 x.neg 0 (x.m * 2 ^ k) (by omega) hp
       refine aAB (by kernel_rfl) fun os => ?_
       try simp (disch := omega) only [xq, simprocAttr, dyV, ivV, fxV, fxV, aA2, hl, hk, hk0, hwk, hsh, aGp]
       refine g15 _ ?_
       refine aAa fun K17 g17 => ?_
       refine aAb fun os => ?_
       try simp (disch := omega) only [xq, simprocAttr, dyV, ivV, fxV, fxV, aA2, hl, hk, hk0, hwk, hsh, aGp]
       refine cxo (J) ?_
       try simp (disch := omega) only [xq, simprocAttr, dyV, ivV, fxV, fxV, aA2, hl, hk, hk0, hwk, hsh, aGp]
       refine g17 _ ?_
       refine aAa fun K18 g18 => ?_
       refine aAb fun os => ?_
       try simp (disch := omega) only [xq, simprocAttr, dyV, ivV, fxV, fxV, aA2, hl, hk, hk0, hwk, hsh, aGp]
       refine g18 _ ?_
       refine aAe ?_
       simp only [endX, resX, resV, Tryz.results27]
       try simp (disch := omega) only [xq, simprocAttr, dyV, ivV, fxV, fxV, aA2, hl, hk, hk0, hwk, hsh, aGp]
       first | (rw [if_pos (by assumption)] <;> rfl) | (rw [if_neg (by rw [c1]; decide), if_pos (by assumption)] <;> rfl) | (rw [if_neg (by rw [c1]; decide), if_neg (by omega), if_pos (by omega)] <;> rfl) | (generalize (if x.neg = true then 9223372036854775808 else 0) = sgn; rw [if_neg (by rw [c1]; decide), if_neg hm0, if_neg (by omega), if_pos (by omega)]; try rw [hk]; try rw [Int.toNat_natCast]; rw [Nat.zero_mul, Nat.zero_add] <;> rfl) | (generalize (if x.neg = true then 9223372036854775808 else 0) = sgn; rw [if_neg (by rw [c1]; decide), if_neg hm0, if_neg (by omega), if_neg (by omega), hj2] <;> rfl)
      ·try simp only [xn] at c6
       refine aAa fun K19 g19 => ?_
       obtain ⟨E, hE⟩ : ∃ E : Nat, x.e + ((bl x.m : Nat) : Int) - 1 + 1023 = (E : Int) := ⟨(x.e + ((bl x.m : Nat) : Int) - 1 + 1023).toNat, by omega⟩
       refine aAb fun os => ?_
       try simp (disch := omega) only [xq, simprocAttr, dyV, ivV, fxV, fxV, aA2, hE]
       refine g19 _ ?_
       have hm0 : x.m ≠ 0 := by omega
       have hb53 : bl x.m <= 53 := by omega
       have hl := hL hm0 hb53
       obtain ⟨j, hj⟩ : ∃ j : Nat, (53 : Int) - ((bl x.m : Nat) : Int) = (j : Int) := ⟨53 - bl x.m, by omega⟩
       have hj2 : 53 - bl x.m = j := by omega
       have hp1 : x.m * 2 ^ j < 9007199254740992 := by
         have h1 : x.m * 2 ^ j < 2 ^ bl x.m * 2 ^ j := Nat.mul_lt_mul_of_pos_right hlt (Nat.two_pow_pos j)
         rw [<- Nat.pow_add, show bl x.m + j = 53 by omega] at h1
         have h3 : 2 ^ 53 = 9007199254740992 := by decide
         omega
       have hp2 : 4503599627370496 <= x.m * 2 ^ j := by
         have hge := aHJ hm0
         have hbp := aD6 hm0
         have h1 : 2 ^ (bl x.m - 1) * 2 ^ j <= x.m * 2 ^ j := Nat.mul_le_mul_right _ hge
         rw [<- Nat.pow_add, show bl x.m - 1 + j = 52 by omega] at h1
         have h3 : 2 ^ 52 = 4503599627370496 := by decide
         omega
       have hk0 : (0 : Int) <= ((j : Nat) : Int) := Int.natCast_nonneg j
       have hwk : IntKind.u64.wrap ((j : Nat) : Int) = ((j : Nat) : Int) := by rw [aCn]; omega
       have hsh : shlI .u64 ((x.m : Nat) : Int) ((j : Nat) : Int) = ((x.m * 2 ^ j : Nat) : Int) := by
         unfold shlI
         rw [Int.toNat_natCast, show min j IntKind.u64.bits = j from by show min j 64 = j; omega, aCn]
         have e : ((x.m : Nat) : Int) * 2 ^ j = ((x.m * 2 ^ j : Nat) : Int) := by rw [Int.natCast_mul, Int.natCast_pow]; rfl
         rw [e]; omega
       have hsu : IntKind.u64.wrap (((x.m * 2 ^ j : Nat) : Int) - 4503599627370496) = ((x.m * 2 ^ j - 4503599627370496 : Nat) : Int) := by rw [aCn]; omega
       have J := aL9 x.neg E (x.m * 2 ^ j - 4503599627370496) (by omega) (by omega)
       refine aAb fun os => ?_
       try simp (disch := omega) only [xq, simprocAttr, dyV, ivV, fxV, fxV, aA2, hE, hl, hj, hk0, hwk, hsh, hsu, aGp]
       refine g15 _ ?_
       refine aAa fun K20 g20 => ?_
       refine aAb fun os => ?_
       try simp (disch := omega) only [xq, simprocAttr, dyV, ivV, fxV, fxV, aA2, hE, hl, hj, hk0, hwk, hsh, hsu, aGp]
       refine cxo (J) ?_
       try simp (disch := omega) only [xq, simprocAttr, dyV, ivV, fxV, fxV, aA2, hE, hl, hj, hk0, hwk, hsh, hsu, aGp]
       refine g20 _ ?_
       refine aAa fun K21 g21 => ?_
       refine aAb fun os => ?_
       try simp (disch := omega) only [xq, simprocAttr, dyV, ivV, fxV, fxV, aA2, hE, hl, hj, hk0, hwk, hsh, hsu, aGp]
       refine g21 _ ?_
       refine aAe ?_
       simp only [endX, resX, resV, Tryz.results27]
       try simp (disch := omega) only [xq, simprocAttr, dyV, ivV, fxV, fxV, aA2, hE, hl, hj, hk0, hwk, hsh, hsu, aGp]
       first | (rw [if_pos (by assumption)] <;> rfl) | (rw [if_neg (by rw [c1]; decide), if_pos (by assumption)] <;> rfl) | (rw [if_neg (by rw [c1]; decide), if_neg (by omega), if_pos (by omega)] <;> rfl) | (generalize (if x.neg = true then 9223372036854775808 else 0) = sgn; rw [if_neg (by rw [c1]; decide), if_neg hm0, if_neg (by omega), if_pos (by omega)]; try rw [hk]; try rw [Int.toNat_natCast]; rw [Nat.zero_mul, Nat.zero_add] <;> rfl) | (generalize (if x.neg = true then 9223372036854775808 else 0) = sgn; rw [if_neg (by rw [c1]; decide), if_neg hm0, if_neg (by omega), if_neg (by omega), hj2] <;> rfl)
    ·rw [c4]
     try simp only [xn] at c4
     try simp (disch := omega) only [xq, simprocAttr, dyV, ivV, fxV, fxV, aA2]
     refine g12 _ ?_
     refine aAf (by first | rfl | assumption) (fun c7 => ?_) (fun c7 => ?_)
     ·try simp only [xn] at c7
      refine aAa fun K22 g22 => ?_
      refine aAb fun os => ?_
      try simp (disch := omega) only [xq, simprocAttr, dyV, ivV, fxV, fxV, aA2]
      refine g22 _ ?_
      refine aAe ?_
      simp only [aAm, aAg, reduceIte, Nat.reduceEqDiff]
      simp only [endX, resX, resV, Tryz.results27]
      try simp (disch := omega) only [xq, simprocAttr, dyV, ivV, fxV, fxV, aA2]
      first | (rw [if_pos (by assumption)] <;> rfl) | (rw [if_neg (by rw [c1]; decide), if_pos (by assumption)] <;> rfl) | (rw [if_neg (by rw [c1]; decide), if_neg (by omega), if_pos (by omega)] <;> rfl) | (generalize (if x.neg = true then 9223372036854775808 else 0) = sgn; rw [if_neg (by rw [c1]; decide), if_neg hm0, if_neg (by omega), if_pos (by omega)]; try rw [hk]; try rw [Int.toNat_natCast]; rw [Nat.zero_mul, Nat.zero_add] <;> rfl) | (generalize (if x.neg = true then 9223372036854775808 else 0) = sgn; rw [if_neg (by rw [c1]; decide), if_neg hm0, if_neg (by omega), if_neg (by omega), hj2] <;> rfl)
     ·exact absurd c7 (by decide)
   ·rw [c3]
    try simp only [xn] at c3
    try simp (disch := omega) only [xq, simprocAttr, dyV, ivV, fxV, fxV, aA2]
    refine g12 _ ?_
    refine aAf (by first | rfl | assumption) (fun c8 => ?_) (fun c8 => ?_)
    ·try simp only [xn] at c8
     refine aAa fun K23 g23 => ?_
     refine aAb fun os => ?_
     try simp (disch := omega) only [xq, simprocAttr, dyV, ivV, fxV, fxV, aA2]
     refine g23 _ ?_
     refine aAe ?_
     simp only [aAm, aAg, reduceIte, Nat.reduceEqDiff]
     simp only [endX, resX, resV, Tryz.results27]
     try simp (disch := omega) only [xq, simprocAttr, dyV, ivV, fxV, fxV, aA2]
     first | (rw [if_pos (by assumption)] <;> rfl) | (rw [if_neg (by rw [c1]; decide), if_pos (by assumption)] <;> rfl) | (rw [if_neg (by rw [c1]; decide), if_neg (by omega), if_pos (by omega)] <;> rfl) | (generalize (if x.neg = true then 9223372036854775808 else 0) = sgn; rw [if_neg (by rw [c1]; decide), if_neg hm0, if_neg (by omega), if_pos (by omega)]; try rw [hk]; try rw [Int.toNat_natCast]; rw [Nat.zero_mul, Nat.zero_add] <;> rfl) | (generalize (if x.neg = true then 9223372036854775808 else 0) = sgn; rw [if_neg (by rw [c1]; decide), if_neg hm0, if_neg (by omega), if_neg (by omega), hj2] <;> rfl)
    ·exact absurd c8 (by decide)
end
end Go.Proofs.YtgdkokgeldnliaaGreatDoor
