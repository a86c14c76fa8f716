/- Contracts of functions and plain lemmas that the laws of this seat lean on. -/
import Derived.Test.YtgdkokgeldnliaaGreatDoorKEfaa
import Derived.Test.YtgdkokgeldnliaaGreatDoorKEfab
import Derived.Test.YtgdkokgeldnliaaGreatDoorKEfac
import Derived.Test.YtgdkokgeldnliaaGreatDoorKEfad
import Derived.Test.YtgdkokgeldnliaaGreatDoorKEfae
import Derived.Test.YtgdkokgeldnliaaGreatDoorKEfaf
import Derived.Test.YtgdkokgeldnliaaGreatDoorKEfag
import Derived.Test.YtgdkokgeldnliaaGreatDoorKEfah
import Derived.Test.YtgdkokgeldnliaaGreatDoorKEfai
import Derived.Test.YtgdkokgeldnliaaGreatDoorKEfaj
import Derived.Test.YtgdkokgeldnliaaGreatDoorKEfak
import Derived.Test.YtgdkokgeldnliaaGreatDoorKEfal
import Derived.Test.YtgdkokgeldnliaaGreatDoorKEfam
import Derived.Test.YtgdkokgeldnliaaGreatDoorKEfas
import Derived.Test.YtgdkokgeldnliaaGreatDoorKEfat
import Derived.Test.YtgdkokgeldnliaaGreatDoorRows
import Derived.WalkKit
import Derived.WalkSpells
import Derived.WalkLawsBesides
import Derived.Lib.Hide
import Derived.Deep.QuietTactic
import Derived.BigQuiet
import Derived.Test.YtgdkokgeldnliaaGreatDoorShelf
import Derived.Lib.BitFns
import Derived.Lib.ItoaNum
import Derived.Lib.TrailingZeros
import Derived.Deep.DeepCutAuto
import Derived.Deep.CutBlock
import Derived.Laws.AppendOwn
import Derived.Laws.AppendOwnNone
import Derived.Laws.CopyOwn
import Derived.StillTail
import Derived.Below
import Derived.Deep.MidRow
import Derived.Laws.Tables
import Derived.Laws.CopyRow
import Derived.IntWalk
import Derived.RegionTactic
namespace Go.Proofs.YtgdkokgeldnliaaGreatDoor
set_option linter.unusedSimpArgs false
set_option linter.unusedVariables false
set_option linter.unusedSectionVars false
set_option linter.constructorNameAsVariable false
set_option linter.unnecessarySimpa false
section
theorem aW7 (a b : Nat) : bl (a * b) <= bl a + bl b := by
 refine aC8 ?_
 rw [Nat.pow_add]
 exact Nat.mul_lt_mul'' (aDO a) (aDO b)
end
section
set_option maxRecDepth 10000
set_option maxHeartbeats 4000000
open Go.RowKit
theorem aU9 {n : Int} (h1 : -1022 <= n) (h2 : n <= 1023) : (toR (intD n)).2 = true := by
 have hs := aAW n
 have hb : bl n.natAbs <= 10 := aC8 (by omega)
 have hf : aAT (intD n) = true := aDG (by omega) (by omega)
 have hc : (intD n).canon := aFI n
 have ho : oneD (intD n) = intD n := aCL hc
 have he : 0 <= (intD n).e := by
   unfold intD aAL fExp
   dsimp only
   split <;> omega
 have hae : ae (intD n) = (intD n).e.natAbs := rfl
 unfold toR
 rw [hf, if_neg (by decide), ho]
 by_cases h0 : (intD n).m = 0
 · rw [if_pos h0]
 · rw [if_neg h0, if_neg (by omega)]
theorem aSa (a : Nat) : ∀ n, bl (a ^ n) <= bl a * n + 1
 | 0 => by rw [Nat.pow_zero, Nat.mul_zero]; decide
 | n + 1 => by
   have h1 := aSa a n
   have h2 := aW7 (a ^ n) a
   rw [Nat.pow_succ, Nat.mul_succ]
   omega
def PowR (a n : Nat) (ms : Nat) (σ : St) : Prop := ∃ (t : List (Nat × AV)) (rest : AMem) (i : Nat), σ = ⟨t, 17, rest⟩ /\ getT t 0 = .num a /\ getT t 1 = .lit (.int .i64 ((n : Nat) : Int)) /\ getT t 5 = .num (a ^ i) /\ getT t 6 = .lit (.int .i64 ((i : Nat) : Int)) /\ (i <= n) /\ ms = n - i
theorem aTl (a n : Nat) (h : bl a * n <= 1000000 /\ bl a <= 1000000 /\ n <= 1000000) : AC Tryz.prog TabW 29 [.num a, .lit (.int .i64 ((n : Nat) : Int))] (.num (a ^ n)) := by
 have e1 : (1 : Int).toNat = 1 := rfl
 refine aAd Tryz.func29 rfl (by kernel_rfl) aAc Tryz.mixed rfl rfl (by kernel_rfl) ?_
 simp only [aAl, Tryz.ntmps29, dyV, ivV, fxV, fxV]
 repeat' first
  | (refine aDg (PowR a n) _ ⟨_, [], 0, rfl, (by first | rfl | assumption | (simp (disch := omega) only [xq, simprocAttr, dyV, ivV, fxV, fxV, e1, Nat.pow_zero, e1] <;> rfl)), (by first | rfl | assumption | (simp (disch := omega) only [xq, simprocAttr, dyV, ivV, fxV, fxV, e1, Nat.pow_zero, e1] <;> rfl)), (by first | rfl | assumption | (simp (disch := omega) only [xq, simprocAttr, dyV, ivV, fxV, fxV, e1, Nat.pow_zero, e1] <;> rfl)), (by first | rfl | assumption | (simp (disch := omega) only [xq, simprocAttr, dyV, ivV, fxV, fxV, e1, Nat.pow_zero, e1] <;> rfl)), (by omega), rfl⟩ ?_; rintro ms _ ⟨t, rest, i, rfl, PowR_t0, PowR_t1, PowR_t5, PowR_t6, hi, rfl⟩)
  | refine aAa fun K g => ?_
  | refine goK (by assumption) ?_
  | refine aAv ?_
  | ((first | refine aAk ?_ | refine aDh ?_ | refine aAe ?_) <;> try simp only [aAm, aAg, reduceIte, Nat.reduceEqDiff])
  | exact ⟨_, (by omega), ⟨_, _, (i + 1), rfl, (by first | rfl | assumption | (simp (disch := omega) only [xq, simprocAttr, dyV, ivV, fxV, fxV, e1, PowR_t0, PowR_t1, PowR_t5, PowR_t6, hps] <;> rfl)), (by first | rfl | assumption | (simp (disch := omega) only [xq, simprocAttr, dyV, ivV, fxV, fxV, e1, PowR_t0, PowR_t1, PowR_t5, PowR_t6, hps] <;> rfl)), (by first | rfl | assumption | (simp (disch := omega) only [xq, simprocAttr, dyV, ivV, fxV, fxV, e1, PowR_t0, PowR_t1, PowR_t5, PowR_t6, hps] <;> rfl)), (by first | rfl | assumption | (simp (disch := omega) only [xq, simprocAttr, dyV, ivV, fxV, fxV, e1, PowR_t0, PowR_t1, PowR_t5, PowR_t6, hps] <;> rfl)), (by omega), rfl⟩⟩
  | (refine aAU (id := 5) rfl fun os => ?_
     have hb := aSa a i
     have hbi : bl a * i <= bl a * n := Nat.mul_le_mul_left _ hi
     have hps : a ^ i * a = a ^ (i + 1) := by rw [Nat.pow_succ]
     simp (disch := omega) only [xq, simprocAttr, dyV, ivV, fxV, fxV, e1, PowR_t0, PowR_t1, PowR_t5, PowR_t6])
  | ((first
  | refine aAU rfl fun os => ?_
  | refine cxo (aDE _ (by omega) (by omega)) ?_
  | refine cxo (aIj _ _ (aBf (by omega)) (aBf (by omega))) ?_
  | simp only [endX, resX, resV, Tryz.results29]) <;> try (first | simp (disch := omega) only [xq, simprocAttr, dyV, ivV, fxV, fxV, e1, PowR_t0, PowR_t1, PowR_t5, PowR_t6] | simp (disch := omega) only [xq, simprocAttr, dyV, ivV, fxV, fxV, e1]))
  | (refine aAf (by first | rfl | assumption) (fun c => ?_) (fun c => ?_) <;> first | exact absurd c (by decide) | ((try rw [c]); try simp only [xn] at c))
  | (rw [show i = n from by omega]
     done)
end
section
theorem aEU {f : Int} {x : Nat} {p : Int} {k : Nat} (hn : fB f = 2 \/ fB f = 10) (h : (aAq f x p).2 = 0) :
   ((fD x).v = (k : Rat) -> (aAq f x p).1.lo.v <= (fB f : Rat) ^ k - aDz (fL f) /\ (fB f : Rat) ^ k - aDz (fL f) <= (aAq f x p).1.hi.v) /\
   ((fD x).v = -(k : Rat) -> (aAq f x p).1.lo.v <= 1 / (fB f : Rat) ^ k - aDz (fL f) /\ 1 / (fB f : Rat) ^ k - aDz (fL f) <= (aAq f x p).1.hi.v) :=
 aIy hn (aAJ h).2.2.2.2.1
end
section
theorem aQQ (n : Nat) : p2 (-(n : Int)) = 1 / (2 : Rat) ^ n := by
 have h := aDA (n : Int)
 rw [aL3] at h
 have h0 : (0 : Rat) < (2 : Rat) ^ n := Rat.pow_pos (by decide)
 have k := Rat.mul_div_cancel (a := p2 (-(n : Int))) (b := (2 : Rat) ^ n) (by grind)
 rw [h] at k; exact k.symm
end
section
theorem aPX {z : Nat} {n p : Int} (hv : (fD z).v = (n : Rat)) :
   ((aAq 2 z p).2 = 0 -> (aAq 2 z p).1.lo.v <= p2 n /\ p2 n <= (aAq 2 z p).1.hi.v) /\ ((aAq 5 z p).2 = 0 -> (aAq 5 z p).1.lo.v <= p2 n - 1 /\ p2 n - 1 <= (aAq 5 z p).1.hi.v) := by
 have e2 : ((fB 2 : Nat) : Rat) = 2 := rfl
 have e5 : ((fB 5 : Nat) : Rat) = 2 := rfl
 have l2 : aDz (fL 2) = 0 := rfl
 have l5 : aDz (fL 5) = 1 := rfl
 by_cases hs : 0 <= n
 · obtain ⟨k, rfl⟩ := Int.eq_ofNat_of_zero_le hs
   have hv' : (fD z).v = (k : Rat) := hv
   constructor
   · intro h
     have := (aEU (k := k) (.inl rfl) h).1 hv'
     rw [e2, l2] at this
     rw [aL3]; grind
   · intro h
     have := (aEU (k := k) (.inl rfl) h).1 hv'
     rw [e5, l5] at this
     rw [aL3]; exact this
 · obtain ⟨k, hk⟩ : ∃ k : Nat, n = -(k : Int) := ⟨(-n).toNat, by omega⟩
   have hv' : (fD z).v = -(k : Rat) := by rw [hv, hk, Rat.intCast_neg]; rfl
   constructor
   · intro h
     have := (aEU (k := k) (.inl rfl) h).2 hv'
     rw [e2, l2] at this
     rw [hk, aQQ]; grind
   · intro h
     have := (aEU (k := k) (.inl rfl) h).2 hv'
     rw [e5, l5] at this
     rw [hk, aQQ]; exact this
theorem aLF {z k : Nat} {p : Int} (hv : (fD z).v = (k : Rat)) :
   ((aAq 3 z p).2 = 0 -> (aAq 3 z p).1.lo.v <= (10 : Rat) ^ k /\ (10 : Rat) ^ k <= (aAq 3 z p).1.hi.v) /\ ((aAq 6 z p).2 = 0 -> (aAq 6 z p).1.lo.v <= (10 : Rat) ^ k - 1 /\ (10 : Rat) ^ k - 1 <= (aAq 6 z p).1.hi.v) := by
 have e2 : ((fB 3 : Nat) : Rat) = 10 := rfl
 have e5 : ((fB 6 : Nat) : Rat) = 10 := rfl
 have l2 : aDz (fL 3) = 0 := rfl
 have l5 : aDz (fL 6) = 1 := rfl
 constructor
 · intro h
   have := (aEU (k := k) (.inr rfl) h).1 hv
   rw [e2, l2] at this; grind
 · intro h
   have := (aEU (k := k) (.inr rfl) h).1 hv
   rw [e5, l5] at this; exact this
theorem aPY {z : Nat} {n : Int} (hv : (fD z).v = (n : Rat)) (he : bitE z ≠ 2047) (h1 : -1022 <= n) (h2 : n <= 1023) (p : Int) :
   (∀ f, 1 <= f /\ f <= 6 -> (aAq f z p).2 = 0) \/ (∀ f, 1 <= f /\ f <= 6 -> (aAq f z p).2 = 2) := by
 by_cases hp : 8 <= p /\ p <= 2048
 · left
   intro f hf
   have b1 : ((-1022 : Int) : Rat) <= (n : Rat) := Rat.intCast_le_intCast.2 h1
   have b2 : (n : Rat) <= ((1023 : Int) : Rat) := Rat.intCast_le_intCast.2 h2
   have c1 : ((-1022 : Int) : Rat) = -1022 := rfl
   have c2 : ((1023 : Int) : Rat) = 1023 := rfl
   rw [c1] at b1
   rw [c2] at b2
   have hr : (1023 : Rat) <= (aAo (fB f) : Rat) := by rcases aEa f with e | e | e <;> rw [e] <;> decide +kernel
   refine aHs hf hp he (fun _ => ?_) ?_
   · rw [hv]; grind
   · rw [hv]; grind
 · right
   intro f hf
   unfold aAq
   rw [if_pos (by unfold noE; omega)]
def twoD (n : Int) : D := ⟨false, 1, n⟩
def tenD (k : Nat) : D := ⟨false, 10 ^ k, 0⟩
theorem aN5 (n : Int) : (twoD n).v = p2 n := by
 unfold twoD D.v
 have e : ((1 : Nat) : Rat) = 1 := rfl
 have e2 : sg false = 1 := rfl
 dsimp only
 rw [e, e2]; grind
theorem aN6 (k : Nat) : (tenD k).v = (10 : Rat) ^ k := by
 unfold tenD D.v
 have e2 : sg false = 1 := rfl
 dsimp only
 rw [e2, aCt, Rat.natCast_pow]
 have e : ((10 : Nat) : Rat) = 10 := rfl
 rw [e]; grind
theorem aU7 {n : Int} (h1 : -1022 <= n) (h2 : n <= 1023) : bl (twoD n).m = 1 /\ ae (twoD n) <= 1023 := ⟨by show bl 1 = 1; decide, by unfold ae; show n.natAbs <= _; omega⟩
theorem aVa {k : Nat} (h : k <= 27) : bl (tenD k).m <= 109 /\ ae (tenD k) = 0 := by
 refine ⟨?_, rfl⟩
 have := aSa 10 k
 have b : bl 10 = 4 := by decide
 rw [b] at this
 show bl (10 ^ k) <= _
 omega
theorem aI5 (d : D) (h : bl d.m <= 200 /\ ae d <= 1100) : bl (addD d (negD (intD 1))).m <= 2000 /\ ae (addD d (negD (intD 1))) <= 5000 /\ aAT (addD d (negD (intD 1))) = true /\ (addD d (negD (intD 1))).v = d.v - 1 := by
 have a := aEM d (negD (intD 1))
 have b := aEl (intD 1)
 have c := aAW 1
 have e : bl (1 : Int).natAbs = 1 := by decide
 refine ⟨by omega, by omega, aDG (by omega) (by omega), ?_⟩
 rw [aQi, aEw]
 have e : ((1 : Int) : Rat) = 1 := rfl
 rw [e]
end
section
set_option maxRecDepth 10000
set_option maxHeartbeats 4000000
open Go.RowKit
theorem aPM (n p : Int) (hn : ¬ (-1022 <= n /\ n <= 1023)) : AC Tryz.prog TabF 6 [.lit (.int .i64 n), .lit (.int .i64 p)] (.lit (.bool true)) := by
 by_cases h1 : n < -1022
 · have k1 : decide (n < -1022) = true := decide_eq_true h1
   refine aAd Tryz.func6 rfl (by kernel_rfl) aCo Tryz.mixed rfl rfl (by kernel_rfl) ?_
   simp only [aAl, Tryz.ntmps6, dyV, ivV, fxV, fxV]
   refine aAa fun K1 g1 => ?_
   refine aAb fun os => ?_
   try simp (disch := omega) only [xq, simprocAttr, dyV, ivV, fxV, fxV, k1]
   refine g1 _ ?_
   refine aAa fun K2 g2 => ?_
   refine aAa fun K3 g3 => ?_
   refine aAx ?_
   try simp (disch := omega) only [xq, simprocAttr, dyV, ivV, fxV, fxV, k1]
   refine cxo (aCD) ?_
   try simp (disch := omega) only [xq, simprocAttr, dyV, ivV, fxV, fxV, k1]
   refine g3 _ ?_
   refine aAf (by first | rfl | assumption) (fun c1 => ?_) (fun c1 => ?_)
   ·try simp only [xn] at c1
    refine aAa fun K4 g4 => ?_
    refine aAb fun os => ?_
    try simp (disch := omega) only [xq, simprocAttr, dyV, ivV, fxV, fxV, k1]
    refine cxo (aCD) ?_
    try simp (disch := omega) only [xq, simprocAttr, dyV, ivV, fxV, fxV, k1]
    refine g4 _ ?_
    refine aAe ?_
    simp only [aAm, aAg, reduceIte, Nat.reduceEqDiff]
    simp only [endX, resX, resV, Tryz.results6]
    try simp (disch := omega) only [xq, simprocAttr, dyV, ivV, fxV, fxV, k1]
    first | done | rfl
   ·exact absurd c1 (by decide)
 · have k1 : decide (n < -1022) = false := decide_eq_false h1
   have k2 : decide (1023 < n) = true := decide_eq_true (by omega)
   refine aAd Tryz.func6 rfl (by kernel_rfl) aCo Tryz.mixed rfl rfl (by kernel_rfl) ?_
   simp only [aAl, Tryz.ntmps6, dyV, ivV, fxV, fxV]
   refine aAa fun K1 g1 => ?_
   refine aAb fun os => ?_
   try simp (disch := omega) only [xq, simprocAttr, dyV, ivV, fxV, fxV, k1, k2]
   refine g1 _ ?_
   refine aAa fun K2 g2 => ?_
   refine aAa fun K3 g3 => ?_
   refine aAx ?_
   try simp (disch := omega) only [xq, simprocAttr, dyV, ivV, fxV, fxV, k1, k2]
   refine cxo (aCD) ?_
   try simp (disch := omega) only [xq, simprocAttr, dyV, ivV, fxV, fxV, k1, k2]
   refine g3 _ ?_
   refine aAf (by first | rfl | assumption) (fun c1 => ?_) (fun c1 => ?_)
   ·try simp only [xn] at c1
    refine aAa fun K4 g4 => ?_
    refine aAb fun os => ?_
    try simp (disch := omega) only [xq, simprocAttr, dyV, ivV, fxV, fxV, k1, k2]
    refine cxo (aCD) ?_
    try simp (disch := omega) only [xq, simprocAttr, dyV, ivV, fxV, fxV, k1, k2]
    refine g4 _ ?_
    refine aAe ?_
    simp only [aAm, aAg, reduceIte, Nat.reduceEqDiff]
    simp only [endX, resX, resV, Tryz.results6]
    try simp (disch := omega) only [xq, simprocAttr, dyV, ivV, fxV, fxV, k1, k2]
    first | done | rfl
   ·exact absurd c1 (by decide)
theorem aNS (n p : Int) (hn : -1022 <= n /\ n <= 1023) : AC Tryz.prog TabF 6 [.lit (.int .i64 n), .lit (.int .i64 p)] (.lit (.bool true)) := by
 have k1 : decide (n < -1022) = false := decide_eq_false (by omega)
 have k2 : decide (1023 < n) = false := decide_eq_false (by omega)
 have i0 := (aB4 n (by omega)).1
 have si := aAW n
 have sb : bl n.natAbs <= 10 := aC8 (by omega)
 have hto := aRY (intD n) (by omega)
 have htr := aU9 hn.1 hn.2
 obtain ⟨hzl, hze, hzv⟩ := aP8 htr
 rw [aEw] at hzv
 have her := aPY hzv hze hn.1 hn.2 p
 have h2 := aPX (p := p) hzv
 have zt := aU7 hn.1 hn.2
 have zl := aI5 (twoD n) (by omega)
 have hA : (aAq 2 (toR (intD n)).1 p).2 = 0 -> hasI (aAq 2 (toR (intD n)).1 p).1 (twoD n) = true := fun h => by
   obtain ⟨_, _, _, hr, _⟩ := aAJ h
   have g := h2.1 h
   exact aJ7 hr (aDG (by omega) (by omega)) (by rw [aN5]; exact g.1) (by rw [aN5]; exact g.2)
 have hB : (aAq 5 (toR (intD n)).1 p).2 = 0 -> hasI (aAq 5 (toR (intD n)).1 p).1 (addD (twoD n) (negD (intD 1))) = true := fun h => by
   obtain ⟨_, _, _, hr, _⟩ := aAJ h
   have g := h2.2 h
   exact aJ7 hr zl.2.2.1 (by rw [zl.2.2.2, aN5]; exact g.1) (by rw [zl.2.2.2, aN5]; exact g.2)
 have hten : 0 <= n -> (fD (toR (intD n)).1).v = ((n.toNat : Nat) : Rat) := fun h => by
   obtain ⟨k, rfl⟩ := Int.eq_ofNat_of_zero_le h
   rw [hzv]; rfl
 have zt10 : n <= 27 -> bl (tenD n.toNat).m <= 109 /\ ae (tenD n.toNat) = 0 := fun h => aVa (by omega)
 have zl10 := fun h => aI5 (tenD n.toNat) (by have := zt10 h; omega)
 have hC : 0 <= n -> n <= 27 -> (aAq 3 (toR (intD n)).1 p).2 = 0 -> hasI (aAq 3 (toR (intD n)).1 p).1 (tenD n.toNat) = true := fun g1 g2 h => by
   obtain ⟨_, _, _, hr, _⟩ := aAJ h
   have g := (aLF (p := p) (hten g1)).1 h
   have zz := zt10 g2
   exact aJ7 hr (aDG (by omega) (by omega)) (by rw [aN6]; exact g.1) (by rw [aN6]; exact g.2)
 have hE : 0 <= n -> n <= 27 -> (aAq 6 (toR (intD n)).1 p).2 = 0 -> hasI (aAq 6 (toR (intD n)).1 p).1 (addD (tenD n.toNat) (negD (intD 1))) = true := fun g1 g2 h => by
   obtain ⟨_, _, _, hr, _⟩ := aAJ h
   have g := (aLF (p := p) (hten g1)).2 h
   have zz := zl10 g2
   exact aJ7 hr zz.2.2.1 (by rw [zz.2.2.2, aN6]; exact g.1) (by rw [zz.2.2.2, aN6]; exact g.2)
 clear h2 hten hzv
 have her2 : ((aAq 2 (toR (intD n)).1 p).2 = 0 /\ (aAq 5 (toR (intD n)).1 p).2 = 0 /\ (aAq 3 (toR (intD n)).1 p).2 = 0 /\ (aAq 6 (toR (intD n)).1 p).2 = 0) \/ ((aAq 2 (toR (intD n)).1 p).2 = 2 /\ (aAq 5 (toR (intD n)).1 p).2 = 2) := by
   rcases her with h | h
   · exact .inl ⟨h 2 (by omega), h 5 (by omega), h 3 (by omega), h 6 (by omega)⟩
   · exact .inr ⟨h 2 (by omega), h 5 (by omega)⟩
 clear her hze
 generalize (toR (intD n)).2 = zb at *
 generalize (toR (intD n)).1 = z at *
 have e1 := aBj 2 z hzl p
 have s1 := aBu 2 z p
 have d1 := aBY (aAq 2 z p).1 (aAq 2 z p).2 (by omega) (fun h => (aAJ h).2.2.2.1)
 have e2 := aBj 5 z hzl p
 have s2 := aBu 5 z p
 have d2 := aBY (aAq 5 z p).1 (aAq 5 z p).2 (by omega) (fun h => (aAJ h).2.2.2.1)
 have e3 := aBj 3 z hzl p
 have s3 := aBu 3 z p
 have d3 := aBY (aAq 3 z p).1 (aAq 3 z p).2 (by omega) (fun h => (aAJ h).2.2.2.1)
 have e4 := aBj 6 z hzl p
 have s4 := aBu 6 z p
 have d4 := aBY (aAq 6 z p).1 (aAq 6 z p).2 (by omega) (fun h => (aAJ h).2.2.2.1)
 generalize aAq 2 z p = A at *
 generalize aAq 5 z p = Bq at *
 generalize aAq 3 z p = Cq at *
 generalize aAq 6 z p = Eq at *
 have ct1 : A.2 = 0 -> AC Tryz.prog TabW 28 [ivV A.1, .agg [.lit (.bool false), .arr 1 [.lit (.int .u64 1)], .lit (.int .i64 n)]] (.lit (.bool true)) := fun h => by
   have := aGe A.1 (twoD n) (by omega)
   rw [hA h] at this
   exact this.arg fun S β w vs h => by
     simp only [RepL] at h ⊢
     obtain ⟨v, r, rfl, g1, v2, r2, rfl, g2, rfl⟩ := h
     exact ⟨v, _, rfl, g1, v2, _, rfl, aE7 g2, rfl⟩
 have i1 := aB4 1 (by omega)
 have z1 := aAW 1
 have b1 : bl (1 : Int).natAbs = 1 := by decide
 have ct2 : AC Tryz.prog TabW 24 [.agg [.lit (.bool false), .arr 1 [.lit (.int .u64 1)], .lit (.int .i64 n)], dyV (intD 1)] (dyV (addD (twoD n) (negD (intD 1)))) := by
   refine (aFO (twoD n) (intD 1) (by omega)).1.arg fun S β w vs h => ?_
   simp only [RepL] at h ⊢
   obtain ⟨v, r, rfl, g1, v2, r2, rfl, g2, rfl⟩ := h
   exact ⟨v, _, rfl, aE7 g1, v2, _, rfl, g2, rfl⟩
 have ct3 : Bq.2 = 0 -> _ := fun h => by
   have := aGe Bq.1 (addD (twoD n) (negD (intD 1))) (by omega)
   rw [hB h] at this
   exact this
 have pw : 0 <= n -> n <= 27 -> AC Tryz.prog TabW 29 [.num 10, .lit (.int .i64 n)] (.num (10 ^ n.toNat)) := fun g1 g2 => by
   have b10 : bl 10 = 4 := by decide
   have := aTl 10 n.toNat (by rw [b10]; omega)
   rwa [Int.toNat_of_nonneg g1] at this
 have ct4 : 0 <= n -> n <= 27 -> Cq.2 = 0 -> _ := fun g1 g2 h => by
   have := aGe Cq.1 (tenD n.toNat) (by have := zt10 g2; omega)
   rw [hC g1 g2 h] at this
   exact this
 have ct5 := fun g2 => (aFO (tenD n.toNat) (intD 1) (by have := zt10 g2; omega)).1
 have ct6 : 0 <= n -> n <= 27 -> Eq.2 = 0 -> _ := fun g1 g2 h => by
   have := aGe Eq.1 (addD (tenD n.toNat) (negD (intD 1))) (by have := zl10 g2; omega)
   rw [hE g1 g2 h] at this
   exact this
 have e10 : (10 : Int).toNat = 10 := rfl
 generalize addD (twoD n) (negD (intD 1)) = Lt at *
 generalize addD (tenD n.toNat) (negD (intD 1)) = Ll at *
 replace i1 := i1.1
 generalize intD 1 = D1 at *
 clear s1 s2 s3 s4 zt zl zl10 hA hB hC hE si sb z1 b1
 refine aAd Tryz.func6 rfl (by kernel_rfl) aCo Tryz.mixed rfl rfl (by kernel_rfl) ?_
 simp only [aAl, Tryz.ntmps6, dyV, ivV, fxV, fxV]
 repeat' first
  | refine aAa fun K g => ?_
  | refine goK (by assumption) ?_
  | ((first | refine aAk ?_ | refine aAe ?_) <;> try simp only [aAm, aAg, reduceIte, Nat.reduceEqDiff])
  | ((first
  | refine aAU rfl fun os => ?_
  | refine aB7 ?_
  | refine aLC (by kernel_rfl) ?_
  | refine gd1 rfl rfl ?_
  | refine gd0 rfl rfl (by exact Nat.le_of_ble_eq_true rfl) ?_
  | refine cxo (aCD) ?_
  | refine cxo (AC.weak (i0) fun _ q => q.1) ?_
  | refine cxo (AC.weak (hto) fun _ q => q.1) ?_
  | refine cxo (e1) ?_
  | refine cxo (AC.weak (d1) fun _ q => q.1) ?_
  | refine cxo (e2) ?_
  | refine cxo (AC.weak (d2) fun _ q => q.1) ?_
  | refine cxd (AC.weak (ct1 (by omega)) fun _ q => q.1) ?_
  | refine cxd (AC.weak (i1) fun _ q => q.1) ?_
  | refine cxd (AC.weak (ct2) fun _ q => q.1) ?_
  | refine cxd (AC.weak (ct3 (by omega)) fun _ q => q.1) ?_
  | refine cxo (AC.weak (aDE 10 (by omega) (by omega)) fun _ q => q.1) ?_
  | refine cxo (AC.weak (pw (by omega) (by omega)) fun _ q => q.1) ?_
  | refine cxo (e3) ?_
  | refine cxo (AC.weak (d3) fun _ q => q.1) ?_
  | refine cxo (e4) ?_
  | refine cxo (AC.weak (d4) fun _ q => q.1) ?_
  | refine cxd (AC.weak (ct4 (by omega) (by omega) (by omega)) fun _ q => q.1) ?_
  | refine cxd (AC.weak (ct5 (by omega)) fun _ q => q.1) ?_
  | refine cxd (AC.weak (ct6 (by omega) (by omega) (by omega)) fun _ q => q.1) ?_
  | simp only [endX, resX, resV, Tryz.results6]) <;> try (simp (disch := omega) only [xq, simprocAttr, dyV, ivV, fxV, fxV, k1, k2, e10]))
  | ((first | refine gx (fun c => ?_) (fun c => ?_) | refine gdt rfl rfl rfl (fun c => ?_) (fun c => ?_)) <;> first | exact absurd c (by decide) | ((try rw [c]); (try simp only [xn] at c); try (simp (disch := omega) only [xq, simprocAttr, dyV, ivV, fxV, fxV, k1, k2, e10])))
  | (refine aAf (by first | rfl | assumption) (fun c => ?_) (fun c => ?_) <;> first | exact absurd c (by decide) | ((try rw [c]); try simp only [xn] at c))
  | (first | done | rfl | (simp [*]; done) | (rw [show A.2 = Bq.2 from by omega]; simp; done) | (exfalso; omega) | (exfalso; simp_all; done)
     done)
theorem aUf (n p : Int) : AC Tryz.prog TabF 6 [.lit (.int .i64 n), .lit (.int .i64 p)] (.lit (.bool true)) := by
 by_cases hn : -1022 <= n /\ n <= 1023
 · exact aNS n p hn
 · exact aPM n p hn
end
end Go.Proofs.YtgdkokgeldnliaaGreatDoor
